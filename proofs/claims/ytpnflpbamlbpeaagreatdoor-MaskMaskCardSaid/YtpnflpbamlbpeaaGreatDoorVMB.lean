import Derived.Test.YtpnflpbamlbpeaaGreatDoorVM
import Derived.Test.YtpnflpbamlbpeaaGreatDoorR3
set_option linter.unusedSimpArgs false
set_option linter.unusedVariables false
set_option linter.unusedSectionVars false
set_option maxRecDepth 100000
namespace Go.Fbs
open Go.Proofs Go.RowKit Go.Shelf Go.Sort
structure Bel (B : Nat) (w w' : World) : Prop where
 os : w'.os = w.os
 output : w'.output = w.output
 size : w.heap.size ≤ w'.heap.size
 block : ∀ k,k < B → w'.heap[k]? = w.heap[k]?
theorem Bel.refl (B : Nat) (w : World) : Bel B w w:=⟨rfl,rfl,Nat.le_refl _,fun _ _=>rfl⟩
theorem Bel.trans {B : Nat} {a b c : World} (h : Bel B a b) (k : Bel B b c) : Bel B a c :=
 ⟨k.os.trans h.os,k.output.trans h.output,Nat.le_trans h.size k.size,fun i hi=>(k.block i hi).trans (h.block i hi)⟩
theorem Bel.of {B : Nat} {a b : World} (h : Below B a b) : Bel B a b:=⟨h.os,h.output,h.size,h.block⟩
structure Sam (W W' : World) : Prop where
 os : W'.os = W.os
 output : W'.output = W.output
 size : W.heap.size ≤ W'.heap.size
 same : ∀ b,b < W.heap.size → W'.heap[b]? = W.heap[b]?
theorem Sam.bel {W W' : World} (h : Sam W W') {B : Nat} (hB : B ≤ W.heap.size) : Bel B W W':=⟨h.os,h.output,h.size,fun k hk=>h.same k (by omega)⟩
theorem sam_of {κ κ' : Ctx} {w w' : World} (h : Ext κ w empty κ' w' empty) (ho : ∀ b,¬ owned κ b) : Sam w w' :=
 ⟨h.os,h.out.output,h.out.size,fun b hb=>h.le.same b hb (ho b)⟩
theorem own_form {w : World} {base : Nat} {e : TypeId} {size n : Nat} {v : Value} {xs : List Value} (h : w.ownsRow base e size v n xs) : ∃ ad cp,v = .slice ad n cp:=by
 obtain ⟨_,h2⟩:=h
 rcases h2 with ⟨rfl,rfl⟩ | ⟨g',cap',cur,rfl,_⟩
 ·exact ⟨none,0,rfl⟩
 ·exact ⟨_,_,rfl⟩
theorem own_some {w : World} {base : Nat} {e : TypeId} {size n : Nat} {v : Value} {xs : List Value} (h : w.ownsRow base e size v n xs) (h0 : n ≠ 0) : ∃ g cp,v = .slice (some ⟨g,0,none⟩) n cp ∧ base ≤ g ∧ g < w.heap.size ∧ n ≤ cp:=by
 obtain ⟨_,h2⟩:=h
 rcases h2 with ⟨rfl,h⟩ | ⟨g',cap',cur,rfl,h1,h2,h3,_⟩
 ·exact absurd h h0
 ·exact ⟨_,_,rfl,h1,(Array.getElem?_eq_some_iff.1 h2).1,h3⟩
theorem bel_alloc {B : Nat} {w X : World} (h : Bel B w X) (hb : B ≤ X.heap.size) (o : Obj) : Bel B w (X.alloc o) :=
 h.trans ⟨rfl,rfl,by simp,fun k hk=>heap_alloc_old X _ (by omega)⟩
theorem bel_grown {B : Nat} {w X w' : World} {row : Option Nat} (h : Bel B w X) (g : X.grownBy w' row) (hb : B ≤ X.heap.size) (hr : ∀ k,row = some k → B ≤ k) : Bel B w w':=by
 refine h.trans ⟨g.os,g.output,g.size,fun k hk=>g.block k (by omega) fun e=>?_⟩
 have:=hr k e.symm
 omega
theorem setCell_other (W : World) (b o : Nat) (v : Value) {i : Nat} (h : i ≠ b) : (W.setCell ⟨b,o,none⟩ v).heap[i]? = W.heap[i]?:=by
 show (W.heap.modify b _)[i]? = _
 rw [Array.getElem?_modify,if_neg (by omega)]
theorem Sam.cell {W W' : World} (h : Sam W W') {a : Addr} {v : Value} (hc : W.cell? a = some v) : W'.cell? a = some v:=by
 have ha : a.block < W.heap.size:=by
  unfold World.cell? at hc
  rcases Nat.lt_or_ge a.block W.heap.size with h | h
  ·exact h
  ·rw [Array.getElem?_eq_none h] at hc; cases hc
 rw [World.cell?_of_block (h.same _ ha)]; exact hc
theorem Sam.trans {a b c : World} (h : Sam a b) (k : Sam b c) : Sam a c :=
 ⟨k.os.trans h.os,k.output.trans h.output,Nat.le_trans h.size k.size,fun i hi=>(k.same i (Nat.lt_of_lt_of_le hi h.size)).trans (h.same i hi)⟩
theorem Sam.refl (a : World) : Sam a a:=⟨rfl,rfl,Nat.le_refl _,fun _ _=>rfl⟩
theorem sam_alloc (w : World) (o : Obj) : Sam w (w.alloc o):=⟨rfl,rfl,by simp,fun b hb=>heap_alloc_old _ _ hb⟩
end Go.Fbs

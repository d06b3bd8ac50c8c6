import Derived.Test.YthakklikgmcgdaaGreatDoorWB
set_option linter.unusedSimpArgs false
set_option linter.unusedVariables false
set_option linter.unusedSectionVars false
set_option maxRecDepth 100000
namespace Go.Fbs
open Go.Proofs Go.RowKit
structure Bel (B : Nat) (w w' : World) : Prop where
 os : w'.os = w.os
 output : w'.output = w.output
 size : w.heap.size ≤ w'.heap.size
 block : ∀ k,k < B → w'.heap[k]? = w.heap[k]?
theorem Bel.refl (B : Nat) (w : World) : Bel B w w:=⟨rfl,rfl,Nat.le_refl _,fun _ _=>rfl⟩
theorem Bel.trans {B : Nat} {a b c : World} (h : Bel B a b) (k : Bel B b c) : Bel B a c :=
 ⟨k.os.trans h.os,k.output.trans h.output,Nat.le_trans h.size k.size,fun i hi=>(k.block i hi).trans (h.block i hi)⟩
theorem Bel.mono {B C : Nat} {a b : World} (h : Bel C a b) (hb : B ≤ C) : Bel B a b:=⟨h.os,h.output,h.size,fun k hk=>h.block k (by omega)⟩
theorem Bel.of {B : Nat} {a b : World} (h : Below B a b) : Bel B a b:=⟨h.os,h.output,h.size,h.block⟩
theorem callOk_bel {P : Program} {f : FuncId} {args : List V} {m : Hp} {v : V} (h : ∀ (κ : Ctx) (w : World) (xs : List Value),Reps κ w.heap args xs → ∃ x,Calls P f ⟨xs⟩ w (fun e w'=>e = .returned x ∧ Bel w.heap.size w w') ∧ ∀ h',Rep κ h' v x) : CallOk P f args m v m:=by
 intro κ w xs k r
 obtain ⟨x,c,rx⟩:=h κ w xs r
 refine c.mono fun e w' ⟨he,hw⟩=>?_
 exact ⟨x,κ,he,⟨le_below hw.size hw.block,mem_below k hw.size hw.block,Nat.le_refl _,fun _ _ h=>h,hw.os,hw.output,hw.size⟩,rx _⟩
theorem callOk_belT {P : Program} {f : FuncId} {args : List V} {m : Hp} {v : V} (h : ∀ (κ : Ctx) (w : World) (xs : List Value),Tab0 w.heap → Reps κ w.heap args xs → ∃ x,Calls P f ⟨xs⟩ w (fun e w'=>e = .returned x ∧ Bel w.heap.size w w') ∧ ∀ h',Rep κ h' v x) : CallOk P f args m v m:=by
 intro κ w xs k r
 obtain ⟨x,c,rx⟩:=h κ w xs k.1.tbs.tab0 r
 refine c.mono fun e w' ⟨he,hw⟩=>?_
 exact ⟨x,κ,he,⟨le_below hw.size hw.block,mem_below k hw.size hw.block,Nat.le_refl _,fun _ _ h=>h,hw.os,hw.output,hw.size⟩,rx _⟩
end Go.Fbs

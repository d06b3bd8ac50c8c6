import Derived.Test.YtpdnpfdbjoaemaaGreatDoorQH
import Derived.Maps.AppendAt
import Derived.RangeFuncBox
set_option linter.unusedSimpArgs false
set_option linter.unusedVariables false
set_option linter.unusedSectionVars false
set_option maxRecDepth 100000
namespace Go.Fbs
open Go.Proofs Go.RowKit Go.Shelf
structure Bel (B : Nat) (w w' : World) : Prop where
 os : w'.os = w.os
 output : w'.output = w.output
 size : w.heap.size ≤ w'.heap.size
 block : ∀ k,k < B → w'.heap[k]? = w.heap[k]?
theorem Bel.refl (B : Nat) (w : World) : Bel B w w:=⟨rfl,rfl,Nat.le_refl _,fun _ _=>rfl⟩
theorem Bel.trans {B : Nat} {a b c : World} (h : Bel B a b) (k : Bel B b c) : Bel B a c :=
 ⟨k.os.trans h.os,k.output.trans h.output,Nat.le_trans h.size k.size,fun i hi=>(k.block i hi).trans (h.block i hi)⟩
structure Stp (B : Nat) (W W' : World) : Prop where
 bel : Bel B W W'
 cells : ∀ b c E fr,W.heap[b]? = some (.cells c E fr) → b ≠ B + 5 → W'.heap[b]? = W.heap[b]?
def GL (B : Nat) (v : Value) : Nat → Bool:=fun b=>decide (b < B + 8) || decide (v.ownBlock = some b)
theorem GL_low {B b : Nat} {v : Value} (h : b < B + 8) : GL B v b = true:=by unfold GL; simp [h]
theorem GL_own {B b : Nat} {v : Value} (h : v.ownBlock = some b) : GL B v b = true:=by unfold GL; simp [h]
theorem GL_not {B b : Nat} {v : Value} (h : B + 8 ≤ b) (h' : v.ownBlock ≠ some b) : GL B v b = false:=by
 unfold GL
 rw [decide_eq_false (by omega),decide_eq_false h']; rfl
def linC (l : Lin) : List V:=[vI l.1,wrdsV l.2]
def outC (out : List Lin) : List V:=out.flatMap linC
theorem outC_app (a : List Lin) (l : Lin) : outC (a ++ [l]) = outC a ++ linC l:=by simp [outC]
theorem wrdsV_plain (l : List Wrd) : (wrdsV l).plain = true:=by
 simp only [wrdsV,V.plain]
 exact plains_iff.2 fun c hc=>by
  obtain ⟨w,_,rfl⟩:=List.mem_map.1 hc
  rfl
theorem outC_plain (out : List Lin) : ∀ v ∈ outC out,v.plain = true:=by
 intro v hv
 obtain ⟨l,_,hv⟩:=List.mem_flatMap.1 hv
 simp only [linC,List.mem_cons,List.not_mem_nil,or_false] at hv
 rcases hv with rfl | rfl
 ·rfl
 ·exact wrdsV_plain _
theorem reps_keep {κ : Ctx} {n : Nat} {h h' : Heap} {G G' : Nat → Bool} {vs : List V} {xs : List Value} (hs : ∀ b i y,hcell h b i = some y → (n ≤ b → G b = false) → hcell h' b i = some y) (hG : ∀ b,b < h.size → n ≤ b → G b = false → G' b = false) (r : Reps (nctx κ n h G) h vs xs) (hp : ∀ v ∈ vs,v.plain = true) : Reps (nctx κ n h' G') h' vs xs :=
 ⟨r.1,fun i c x h1 h2=>nctx_keep hs hG (r.2 i c x h1 h2) (hp c (List.mem_of_getElem? h1))⟩
theorem own_same {w w' : World} {base : Nat} {e : TypeId} {size n : Nat} {v : Value} {xs : List Value} (h : w.ownsRow base e size v n xs) (hs : ∀ g c E fr,v.ownBlock = some g → base ≤ g → w.heap[g]? = some (.cells c E fr) → w'.heap[g]? = w.heap[g]?) : w'.ownsRow base e size v n xs:=by
 obtain ⟨h1,h2⟩:=h
 refine ⟨h1,?_⟩
 rcases h2 with h2 | ⟨g,cap,cur,hv,hg,hh,hr⟩
 ·exact .inl h2
 ·exact .inr ⟨g,cap,cur,hv,hg,by rw [hs g _ _ _ (by rw [hv]; rfl) hg hh]; exact hh,hr⟩
structure LS (κ : Ctx) (w0 : World) (v : Value) (out : List Lin) (k : Nat) (W : World) : Prop where
 bel : Bel w0.heap.size w0 W
 r0 : W.heap[w0.heap.size]? = some (.cells #[.slice none 0 0] 61 (0,0))
 r1 : W.heap[w0.heap.size + 1]? = some (.cells #[.int .i64 0] 3 (0,0))
 r2 : W.heap[w0.heap.size + 2]? = some (.cells #[.int .i64 0] 32 (0,0))
 rO : W.heap[w0.heap.size + 3]? = some (.cells #[v] 61 (0,0))
 rA : W.heap[w0.heap.size + 4]? = some (.cells #[.int .i64 k] 3 (0,0))
 row : ∃ xs,W.ownsRow (w0.heap.size + 8) 25 2 v out.length xs ∧ Reps (nctx κ w0.heap.size W.heap (GL w0.heap.size v)) W.heap (outC out) xs
theorem LS.keep {κ : Ctx} {w0 : World} {v : Value} {out : List Lin} {k : Nat} {W W' : World} (h : LS κ w0 v out k W) (s : Stp w0.heap.size W W') : LS κ w0 v out k W':=by
 obtain ⟨xs,h1,h2⟩:=h.row
 have e : ∀ {i c E fr},W.heap[i]? = some (.cells c E fr) → i ≠ w0.heap.size + 5 → W'.heap[i]? = some (.cells c E fr):=fun hh hi=>(s.cells _ _ _ _ hh hi).trans hh
 refine ⟨h.bel.trans s.bel,e h.r0 (by omega),e h.r1 (by omega),e h.r2 (by omega),e h.rO (by omega),e h.rA (by omega),xs,own_same h1 fun g c E fr _ hg hh=>s.cells g c E fr hh (by omega),?_⟩
 refine reps_keep (fun b i y hh hG=>?_) (fun b _ _ hG=>hG) h2 (outC_plain out)
 have hb : b ≠ w0.heap.size + 5:=fun e=>by
  have:=hG (by omega)
  rw [GL_low (by omega)] at this; cases this
 obtain ⟨c,E,fr,q1,_⟩:=hcell_size hh
 unfold hcell at hh ⊢
 rw [s.cells b c E fr q1 hb]; exact hh
theorem Stp.trans {B : Nat} {a b c : World} (h : Stp B a b) (k : Stp B b c) : Stp B a c :=
 ⟨h.bel.trans k.bel,fun i x E fr hh hi=>by
  have:=(h.cells i x E fr hh hi).trans hh
  exact (k.cells i x E fr this hi).trans (h.cells i x E fr hh hi)⟩
theorem Stp.putObj {B : Nat} {W : World} {l : Nat} {o o' : Obj} (hB : B ≤ l) (hl : W.heap[l]? = some o') (ho : o'.isCells = false) : Stp B W (W.putObj l o):=by
 have hne : ∀ i c E fr,W.heap[i]? = some (.cells c E fr) → i ≠ l:=fun i c E fr hh e=>by
  subst e; rw [hl] at hh; cases hh; cases ho
 refine ⟨⟨rfl,rfl,?_,fun k hk=>World.putObj_heap_other (by omega)⟩,fun i c E fr hh _=>World.putObj_heap_other (hne i c E fr hh)⟩
 show W.heap.size ≤ (W.putObj l o).heap.size
 simp [World.putObj]
theorem Stp.box {B : Nat} {W : World} (v : Value) : Stp B W (W.setCell ⟨B + 5,0,none⟩ v) :=
 ⟨⟨rfl,rfl,Nat.le_of_eq (by simp [World.setCell]),fun k hk=>setCell_other W _ v (by omega)⟩,fun i c E fr _ hi=>setCell_other W _ v hi⟩
theorem Stp.alloc {B : Nat} {W : World} (hB : B ≤ W.heap.size) (o : Obj) : Stp B W (W.alloc o) :=
 ⟨⟨rfl,rfl,by simp,fun k hk=>heap_alloc_old W _ _ (by omega)⟩,fun i c E fr hh _=>heap_alloc_old W _ _ (Array.getElem?_eq_some_iff.1 hh).1⟩
theorem Stp.all {B : Nat} {W W' : World} (hB : B ≤ W.heap.size) (os : W'.os = W.os) (output : W'.output = W.output) (size : W.heap.size ≤ W'.heap.size) (same : ∀ b,b < W.heap.size → W'.heap[b]? = W.heap[b]?) : Stp B W W' :=
 ⟨⟨os,output,size,fun k hk=>same k (by omega)⟩,fun i c E fr hh _=>same i (Array.getElem?_eq_some_iff.1 hh).1⟩
theorem keeps_all {W W' : World} (size : W.heap.size ≤ W'.heap.size) (same : ∀ b,b < W.heap.size → W'.heap[b]? = W.heap[b]?) : KeepsOthers W W' :=
 ⟨size,fun k o hk _=>(same k (Array.getElem?_eq_some_iff.1 hk).1).trans hk⟩
end Go.Fbs

import Derived.Test.YtpdnpfdbjoaemaaGreatDoorQE
import Derived.Test.YtpdnpfdbjoaemaaGreatDoorQG
set_option linter.unusedSimpArgs false
set_option linter.unusedVariables false
set_option linter.unusedSectionVars false
set_option maxRecDepth 100000
namespace Go.Fbs
open Go.Proofs Go.RowKit Go.Shelf
attribute [local go_sem] Oper.semAt_some
def rdPost (b : Nat) (I : World → Prop) (Ix : World → Prop) (W : World) : Exit → Act → World → Prop
 | .normal,_,W'=>KeepsOthers W W' ∧ (∀ i,b ≤ i → i ≤ b + 2 → W'.heap[i]? = W.heap[i]?) ∧ I W'
 | .ret,_,W'=>KeepsOthers W W' ∧ Ix W'
 | _,_,_=>False
theorem Boxes.of {h h' : Heap} {b : Nat} {r : List UInt8} (B : Boxes h b r) (e : ∀ i,b ≤ i → i ≤ b + 2 → h'[i]? = h[i]?) : Boxes h' b r :=
 ⟨by rw [e _ (by omega) (by omega)]; exact B.s,by rw [e _ (by omega) (by omega)]; exact B.p,by rw [e _ (by omega) (by omega)]; exact B.v⟩
theorem setCell_other (W : World) (b : Nat) (v : Value) {i : Nat} (h : i ≠ b) : (W.setCell ⟨b,0,none⟩ v).heap[i]? = W.heap[i]?:=by
 unfold World.setCell
 simp only
 rw [Array.getElem?_modify,if_neg (fun e=>h e.symm)]
theorem split_range {g : Operand} {p : Tmp} {assign body : Code} {Q : Exit → Act → World → Prop} {a : Act} {w : World} {b : Nat} {s : List UInt8}
  (hg : a.eval g = .func (.func 69) #[] #[.pointer (some ⟨b + 1,0,none⟩),.pointer (some ⟨b,0,none⟩),.pointer (some ⟨b + 2,0,none⟩)])
  (hB : Boxes w.heap b s) (hlen : s.length ≤ 200000) (I : List (List UInt8) → World → Prop) (Ix : World → Prop)
  (hI1 : ∀ pre W l o o',I pre W → w.heap.size ≤ l → W.heap[l]? = some o' → o'.isCells = false → I pre (W.putObj l o))
  (hI2 : ∀ pre W v,I pre W → I pre (W.setCell ⟨b,0,none⟩ v))
  (hIx : ∀ W l o o',Ix W → w.heap.size ≤ l → W.heap[l]? = some o' → o'.isCells = false → Ix (W.putObj l o))
  (h0 : ∀ o1 o2,o1.isCells = false → o2.isCells = false → I [] ((w.alloc o1).alloc o2)) (a₁ : List UInt8 → Act)
  (hassign : ∀ (l : Nat) (x : List UInt8) (W : World) (K : Act → World → Prop),K (a₁ x) W →
   assign.wpIn (Fence.wide.inRound l) 3 Tryz.prog (Exit.then K (fun _ _ _=>False)) { tmps:=a.tmps.setIfInBounds p (.string ⟨⟨x⟩⟩),defers:=[] } W)
  (hbody : ∀ (l : Nat) (pre : List (List UInt8)) (x : List UInt8) (W : World),pre ++ [x] <+: pieces s → w.heap.size ≤ l → (∃ r,W.heap[l]? = some (.loop r)) → I pre W → (∃ r,Boxes W.heap b r) →
   body.wpIn (Fence.wide.inRound l) 3 Tryz.prog (rdPost b (I (pre ++ [x])) Ix W) (a₁ x) W)
  (hdone : ∀ (D : Nat) (W : World),w.heap.size ≤ D → I (pieces s) W → W.heap[D]? = some (.deferred (some [])) → Q .normal { a with defers:={ target:=.collected D,args:=#[] } :: a.defers } W)
  (hstop : ∀ (D : Nat) (W : World),w.heap.size ≤ D → Ix W → W.heap[D]? = some (.deferred (some [])) → Code.ret.wpIn Fence.wide 5 Tryz.prog Q { a with defers:={ target:=.collected D,args:=#[] } :: a.defers } W) :
  (Code.rangeFunc g #[p] assign body).wpIn Fence.wide 5 Tryz.prog Q a w:=by
 have hbl : b + 2 < w.heap.size:=by
  rcases Nat.lt_or_ge (b + 2) w.heap.size with h | h
  ·exact h
  ·have:=hB.v; rw [Array.getElem?_eq_none h] at this; cases this
 refine wpIn_rangeFunc ?_
 intro fn hfn
 obtain ⟨rec,hrec⟩ : ∃ rec : LoopState → Option Code → Loop,rec = fun st pe=>{ state:=st,pending:=pe,fn,tmps:=a.tmps,params:=#[p],assign,body,defers:=w.heap.size }:=⟨_,rfl⟩
 obtain ⟨W1,hW1⟩ : ∃ W1,(w.alloc (.deferred (some []))).alloc (.loop (rec .ready none)) = W1:=⟨_,rfl⟩
 have hs1 : W1.heap.size = w.heap.size + 2:=by rw [← hW1]; simp
 have hL1 : W1.heap[w.heap.size + 1]? = some (.loop (rec .ready none)):=by
  rw [← hW1]
  have:=heap_alloc_new (w.alloc (.deferred (some []))) (.loop (rec .ready none))
  rw [World.size_alloc] at this
  exact this
 have hK1 : W1.heap[w.heap.size]? = some (.deferred (some [])):=by
  rw [← hW1]
  exact (heap_alloc_old (w.alloc (.deferred (some []))) _ _ (by simp)).trans (heap_alloc_new w _)
 have hB1 : Boxes W1.heap b s:=hB.of fun i _ _=>by
  rw [← hW1]
  exact (heap_alloc_old (w.alloc (.deferred (some []))) _ _ (by simp; omega)).trans (heap_alloc_old w _ _ (by omega))
 have hI0 : I [] W1:=by rw [← hW1]; exact h0 _ _ rfl rfl
 refine ⟨w.heap.size + 1,[{ target:=.collected w.heap.size,args:=#[] }],W1,{ target:=.fn (.func 69) #[.pointer (some ⟨b + 1,0,none⟩),.pointer (some ⟨b,0,none⟩),.pointer (some ⟨b + 2,0,none⟩)],args:=#[.func (.yield (w.heap.size + 1)) #[] #[]] },W1,69,
  #[.func (.yield (w.heap.size + 1)) #[] #[],.pointer (some ⟨b + 1,0,none⟩),.pointer (some ⟨b,0,none⟩),.pointer (some ⟨b + 2,0,none⟩)],W1,?_,?_,fun _ _=>trivial,?_,fun _=>by omega,?_⟩
 ·rw [← hW1,hrec]; exact run_enterLoop_outer _ _ _ _ _
 ·simp only [resolve,hg]
  simp [go_sem]
 ·have eg : ∀ args w,(callFunc 69 args).run Tryz.prog w = .ok (.enter 69 args) w:=enters_of Tryz.func69 (by kernel_rfl) rfl
  simp [invoke,go_sem,eg]
 ·refine (split_run (w.heap.size + 1) b (fun pre W=>I pre W ∧ W.heap[w.heap.size + 1]? = some (.loop (rec .ready none)) ∧ W.heap[w.heap.size]? = some (.deferred (some [])))
   (fun W=>Ix W ∧ W.heap[w.heap.size + 1]? = some (.loop (rec .done (some .ret))) ∧ W.heap[w.heap.size]? = some (.deferred (some []))) ?_ s ?_ W1 ⟨hI0,hL1,hK1⟩ hB1 hlen).mono ?_
  ·rintro pre W v ⟨hi,hl,hk⟩
   have hoth : ∀ i,i ≠ b → (W.setCell ⟨b,0,none⟩ v).heap[i]? = W.heap[i]?:=fun i hi=>setCell_other W b v hi
   exact ⟨hI2 pre W v hi,by rw [hoth _ (by omega)]; exact hl,by rw [hoth _ (by omega)]; exact hk⟩
  ·rintro pre x W r hpx ⟨hi,hl,hk⟩ hb
   have hlt : w.heap.size + 1 < W.heap.size:=(Array.getElem?_eq_some_iff.1 hl).1
   have hy:=run_yield (P:=Tryz.prog) (args:=#[.string ⟨⟨x⟩⟩]) hl (by rw [hrec]; rfl)
   rw [hrec] at hy
   refine ⟨fn,_,assign,body,hy,roundIn_of_wpIn hfn ?_⟩
   have ht : ∀ (t : Array Value) (v : Value),(#[p].zip #[v]).foldl (fun tmps (q : Tmp × Value)=>tmps.setIfInBounds q.1 q.2) t = t.setIfInBounds p v:=by
    intro t v
    simp
   simp only []
   rw [show (Array.foldl (fun tmps x=>match x with | (t,a)=>tmps.setIfInBounds t a) a.tmps (#[p].zip #[.string ⟨⟨x⟩⟩]) : Array Value) = a.tmps.setIfInBounds p (.string ⟨⟨x⟩⟩) from ht _ _]
   refine hassign _ x W _ ?_
   refine ⟨_,run_beginRound hl (by rw [hrec]),?_⟩
   clear hy
   generalize hW2 : W.putObj (w.heap.size + 1) (.loop { rec .ready none with state:=.busy }) = W2
   have hl2 : W2.heap[w.heap.size + 1]? = some (.loop { rec .ready none with state:=.busy }):=by rw [← hW2]; exact World.putObj_heap_same hlt
   have ho2 : ∀ i,i ≠ w.heap.size + 1 → W2.heap[i]? = W.heap[i]?:=fun i hi=>by rw [← hW2]; exact World.putObj_heap_other hi
   have hk2:=(ho2 w.heap.size (by omega)).trans hk
   have hi2 : I pre W2:=by rw [← hW2]; exact hI1 _ _ _ _ _ hi (by omega) hl rfl
   have hb2 : Boxes W2.heap b r:=hb.of fun i _ _=>ho2 i (by omega)
   refine wpIn_mono (hbody _ pre x W2 hpx (by omega) ⟨_,hl2⟩ hi2 ⟨r,hb2⟩) ?_
   rintro e a3 W3 hp
   cases e with
   | normal =>
    obtain ⟨hk3,he3,hi3⟩:=hp
    have hl3:=hk3.same _ _ hl2 rfl
    have hlt3 : w.heap.size + 1 < W3.heap.size:=(Array.getElem?_eq_some_iff.1 hl3).1
    have hr:=run_endRound (P:=Tryz.prog) none hl3
    refine ⟨_,_,hr,.inl ⟨rfl,⟨hI1 _ _ _ _ _ hi3 (by omega) hl3 rfl,?_,?_⟩,?_⟩⟩
    ·rw [World.putObj_heap_same hlt3,hrec]; rfl
    ·rw [World.putObj_heap_other (by omega)]; exact hk3.same _ _ hk2 rfl
    ·exact (hb2.of he3).of fun i _ _=>World.putObj_heap_other (by omega)
   | ret =>
    obtain ⟨hk3,hi3⟩:=hp
    have hl3:=hk3.same _ _ hl2 rfl
    have hlt3 : w.heap.size + 1 < W3.heap.size:=(Array.getElem?_eq_some_iff.1 hl3).1
    have hr:=run_endRound (P:=Tryz.prog) (some .ret) hl3
    refine ⟨_,_,hr,.inr ⟨rfl,hIx _ _ _ _ hi3 (by omega) hl3 rfl,?_,?_⟩⟩
    ·rw [World.putObj_heap_same hlt3,hrec]; rfl
    ·rw [World.putObj_heap_other (by omega)]; exact hk3.same _ _ hk2 rfl
   | exit id=>exact hp.elim
   | goto t=>exact hp.elim
   | panic ch=>exact hp.elim
   | outgrown=>exact hp.elim
  ·rintro e W2 ⟨⟨v,rfl⟩,(⟨r,⟨hi,hl,hk⟩,_⟩ | ⟨hi,hl,hk⟩)⟩
   ·have he:=run_endLoop (P:=Tryz.prog) hl (by rw [hrec]; simp)
    exact ⟨none,_,by rw [hrec] at he; exact he,hdone _ _ (Nat.le_refl _) (hI1 _ _ _ _ _ hi (by omega) hl rfl) ((World.putObj_heap_other (by omega)).trans hk)⟩
   ·have he:=run_endLoop (P:=Tryz.prog) hl (by rw [hrec]; simp)
    exact ⟨some .ret,_,by rw [hrec] at he; exact he,hstop _ _ (Nat.le_refl _) (hIx _ _ _ _ hi (by omega) hl rfl) ((World.putObj_heap_other (by omega)).trans hk)⟩
end Go.Fbs

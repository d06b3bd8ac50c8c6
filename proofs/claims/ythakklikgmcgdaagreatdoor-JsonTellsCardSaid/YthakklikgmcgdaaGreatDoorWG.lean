import Derived.Test.YthakklikgmcgdaaGreatDoorWF
set_option linter.unusedSimpArgs false
set_option linter.unusedVariables false
set_option linter.unusedSectionVars false
set_option maxRecDepth 100000
namespace Go.Fbs
open Go.Proofs Go.RowKit
def aFc (f:Nat) (p p':aE) (v:V):Prop:=∀ w B,dQ w B p→Calls Tryz.prog f #[.pointer (some ⟨B,0,none⟩)] w fun e w'=>∃ x,e = .returned x∧Rep (pK w.heap.size w'.heap) w'.heap v x∧dQ w' B p'∧fN w w' B
theorem cells_one {es:List V} {κ:Ctx} {h:Heap} {xs:List Value} (he:∀ e ∈ es,∃ k t ks ls,e=jn k t ks ls) (r:Reps κ h (flat es) xs):∀ x ∈ xs,x.oneCell'=true:=by
 intro x hx
 obtain ⟨i,hi,rfl⟩:=List.mem_iff_getElem.1 hx
 have hi':i < (flat es).length:=by rw [← r.1]; exact hi
 have hr:=r.2 i _ _ (List.getElem?_eq_getElem hi') (List.getElem?_eq_getElem hi)
 obtain ⟨e,he',hm⟩:=List.mem_flatMap.1 (List.getElem_mem hi')
 obtain ⟨k,t,ks,ls,rfl⟩:=he e he'
 generalize (flat es)[i]=c at hr hm
 generalize xs[i]=y at hr
 simp only [jn,V.cells,List.mem_cons,List.not_mem_nil,or_false] at hm
 rcases hm with rfl | rfl | rfl | rfl <;> cases hr <;> rfl
theorem aN8 {n:Nat} {b0:Nat} {W X:World} {lv:Value} {acc:List V} {xs:List Value} (hb0:n≤b0) (hown:W.ownsRow b0 27 4 lv acc.length xs) (hr:Reps (rX tK n W.heap fun b=>decide (b < b0) || lv.ownBlock == some b) W.heap (flat acc) xs) (hpl:bT (flat acc)=true) (he:∀ e ∈ acc,∃ k t ks ls,e=jn k t ks ls)
  (hs : ∀ b,b0 ≤ b → b < W.heap.size → X.heap[b]? = W.heap[b]?) : Rep (pK n X.heap) X.heap (.sl .ro acc) lv:=by
 have hr':Reps (pK n X.heap) X.heap (flat acc) xs:=by
  refine qM (κ:=rX tK n W.heap fun b=>decide (b < b0) || lv.ownBlock == some b) (fun b i y h1 h2=>?_) hr fun v hv=>bS.1 hpl v hv
  have hbn:n≤b:=by
   rcases Nat.lt_or_ge b n with h | h
   ·rw [uK h] at h1; exact absurd h1 (Nat.not_lt_zero _)
   ·exact h
  have hG:(decide (b < b0) || lv.ownBlock == some b)=false:=by
   cases hq:(decide (b < b0) || lv.ownBlock == some b) with
   | false=>rfl
   | true=>rw [aAw hbn hq] at h1; exact absurd h1 (Nat.not_lt_zero _)
  simp only [Bool.or_eq_false_iff,decide_eq_false_iff_not] at hG
  have e1:=hs b (by omega) (gW h2)
  have h3:aW X.heap b i=some y:=by unfold aW at h2 ⊢; rw [e1]; exact h2
  exact ⟨mL hbn rfl h3,h3⟩
 have ho:=cells_one he hr
 rcases hown with ⟨hl,⟨rfl,h0⟩ | ⟨g,cap,cur,rfl,hg,hh,hn,_,hsz,htake⟩⟩
 ·obtain rfl:acc=[]:=List.length_eq_zero_iff.1 h0
  exact .slnil .ro (fun i h=>by cases h)
 ·have hX : X.heap[g]? = some (.cells cur 27 (0,0)):=(hs g hg (Array.getElem?_eq_some_iff.1 hh).1).trans hh
  have hxl : ∀ i x,xs[i]? = some x → cur[i]? = some x:=fun i x hx=>by
   rw [← htake,List.getElem?_take] at hx
   split at hx
   ·rw [← Array.getElem?_toList]; exact hx
   ·cases hx
  refine .sl .ro acc g 0 cap 4 xs (fun i x hx=>?_) (fun e h=>?_) hr'.1 hr'.2 hn trivial
  ·have hc:=hxl i x hx
   rw [Nat.zero_add]
   have h3:aW X.heap g i=some x:=by unfold aW; rw [hX]; exact hc
   exact ⟨mL (by omega) rfl h3,h3,ho x (List.mem_of_getElem? hx)⟩
  ·obtain ⟨k,t,ks,ls,rfl⟩:=he e h
   rfl
theorem aSx {W:World} {b0 n:Nat} {lv:Value} {xs:List Value} (h:W.ownsRow b0 27 4 lv n xs):∃ oa oc,lv = .slice oa n oc:=by
 obtain ⟨_,h2⟩:=h
 rcases h2 with ⟨rfl,h0⟩ | ⟨g',cap',cur,rfl,_⟩
 ·exact ⟨none,0,by rw [h0]⟩
 ·exact ⟨_,_,rfl⟩
theorem aN9 {W : World} {T : Nat} {y0 y1 y2 y3 : Value} (x0 x1 x2 x3 : Value) (h : W.heap[T]? = some (.cells #[y0,y1,y2,y3] 27 (0,0))) :
  ((((W.setCell ⟨T,0,none⟩ x0).setCell ⟨T,1,none⟩ x1).setCell ⟨T,2,none⟩ x2).setCell ⟨T,3,none⟩ x3).heap[T]? = some (.cells #[x0,x1,x2,x3] 27 (0,0)) ∧
  (∀ b,b ≠ T → ((((W.setCell ⟨T,0,none⟩ x0).setCell ⟨T,1,none⟩ x1).setCell ⟨T,2,none⟩ x2).setCell ⟨T,3,none⟩ x3).heap[b]? = W.heap[b]?) ∧
  ((((W.setCell ⟨T,0,none⟩ x0).setCell ⟨T,1,none⟩ x1).setCell ⟨T,2,none⟩ x2).setCell ⟨T,3,none⟩ x3).heap.size=W.heap.size ∧
  ((((W.setCell ⟨T,0,none⟩ x0).setCell ⟨T,1,none⟩ x1).setCell ⟨T,2,none⟩ x2).setCell ⟨T,3,none⟩ x3).os=W.os ∧
  ((((W.setCell ⟨T,0,none⟩ x0).setCell ⟨T,1,none⟩ x1).setCell ⟨T,2,none⟩ x2).setCell ⟨T,3,none⟩ x3).output=W.output :=
 ⟨nJ _ _ (nJ _ _ (nJ _ _ (nJ _ _ h))),fun _ hb=>(kM _ _ hb).trans ((kM _ _ hb).trans ((kM _ _ hb).trans (kM _ _ hb))),(nK _ _).trans ((nK _ _).trans ((nK _ _).trans (nK _ _))),(nL _ _).trans ((nL _ _).trans ((nL _ _).trans (nL _ _))),(lF _ _).trans ((lF _ _).trans ((lF _ _).trans (lF _ _)))⟩
theorem aSy : (Tryz.prog.info? 27).map (·.size) = some 4:=by
 have:=Tryz.aLb
 cases h : Tryz.prog.info? 27 with
 | none=>rw [h] at this; cases this
 | some i=>rw [h] at this; simp at this; simp [this.2.1]
theorem aV3 {w W1 Z:World} {B T b0 n:Nat} {p':aE} {k:Int} {acc:List V} {xs:List Value} {oa:Option Addr} {oc:Nat} (hB:B < w.heap.size) (hT:w.heap.size≤T∧T < b0) (hb0:w.heap.size≤b0) (hfr:fN w W1 B) (htb:qN w B) (h1:dQ W1 B p')
  (hown:W1.ownsRow b0 27 4 (.slice oa n oc) acc.length xs) (hrep:Reps (rX tK w.heap.size W1.heap fun b=>decide (b < b0) || (Value.slice oa n oc).ownBlock == some b) W1.heap (flat acc) xs) (hpl:bT (flat acc)=true) (he:∀ e ∈ acc,∃ k t ks ls,e=jn k t ks ls)
  (hz1 : ∀ b,b ≠ T → Z.heap[b]? = W1.heap[b]?) (hz2 : Z.heap.size = W1.heap.size) (hz3 : Z.os = W1.os) (hz4 : Z.output = W1.output) :
  Rep (pK w.heap.size Z.heap) Z.heap (jn k [] [] acc) (.agg #[.int .i64 k,.string ⟨⟨[]⟩⟩,.slice none 0 0,.slice oa n oc])∧dQ Z B p'∧fN w Z B:=by
 have hr:=aN8 hb0 hown hrep hpl he (X:=Z) fun b hb _=>hz1 b (by omega)
 refine ⟨?_,?_,?_,?_,?_,?_⟩
 ·have hq:Reps (pK w.heap.size Z.heap) Z.heap [.int .i64 k,.str [],.sl .ro [],.sl .ro acc] [.int .i64 k,.string ⟨⟨[]⟩⟩,.slice none 0 0,.slice oa n oc]:=Reps.cons (.int _ _) (Reps.cons (.str _) (Reps.cons (.slnil .ro (fun i h=>by cases h)) (Reps.cons hr Reps.nil)))
  exact .agg _ _ hq.1 (by intro x hx; simp at hx; rcases hx with rfl | rfl | rfl | rfl <;> rfl) hq.2
 ·obtain ⟨⟨E,h⟩,_⟩:=h1
  exact ⟨⟨E,(hz1 B (by omega)).trans h⟩,htb.only ⟨hz3.trans hfr.os,hz4.trans hfr.output,by rw [hz2]; exact hfr.size,fun b hb hn=>(hz1 b (by omega)).trans (hfr.same b hb hn)⟩⟩
 ·rw [hz3,hfr.os]
 ·rw [hz4,hfr.output]
 ·rw [hz2]; exact hfr.size
 ·intro b hb hn
  rw [hz1 b (by omega),hfr.same b hb hn]
theorem aQn {w:World} {B:Nat} (k:Int) (htb:qN w B) (hB:B < w.heap.size) {o1 o2 o3:Obj} {E1 E3:TypeId} (h1:o1 = .cells #[.pointer (some ⟨B,0,none⟩)] E1 (0,0)) (h3:o3 = .cells #[.int .i64 k,.string ⟨⟨[]⟩⟩,.slice none 0 0,.slice none 0 0] E3 (0,0)) :
  aAy w (((w.alloc o1).alloc o2).alloc o3) B (w.heap.size+1+1) w.heap.size k (((w.alloc o1).alloc o2).alloc o3) []:=by
 have z1:(w.alloc o1).heap.size=w.heap.size+1:=by simp
 have z2:((w.alloc o1).alloc o2).heap.size=w.heap.size+1+1:=by simp
 have z3:(((w.alloc o1).alloc o2).alloc o3).heap.size=w.heap.size+1+1+1:=by simp
 refine ⟨⟨rfl,rfl,by omega,fun b hb _=>?_⟩,⟨.slice none 0 0,.slice none 0 0,[],E3,rfl,?_,⟨rfl,.inl ⟨rfl,rfl⟩⟩,Reps.nil⟩,⟨E1,?_⟩,by omega,fun _ _ _ _=>rfl,htb⟩
 ·rw [heap_alloc_old _ _ (by omega),heap_alloc_old _ _ (by omega),heap_alloc_old _ _ hb]
 ·rw [← z2,heap_alloc_new,h3]
 ·rw [heap_alloc_old _ _ (by omega),heap_alloc_old _ _ (by omega),heap_alloc_new,h1]
set_option maxHeartbeats 3200000 in
theorem aQo {aT:aE→Option (V×aE)} (hv:p9 aT) {n:Nat} {p:aE} {r:List V×aE} (hr:jW (yS aT) 93 n [] p=some r) (hd:aZ p) (ha:p.a < p.s.length) (hp:0≤p.d∧p.d≤20):aFc 32 p r.2 (jn 6 [] [] r.1):=by
 intro w B hw
 have htb:=hw.2
 have hB:B < w.heap.size:=by obtain ⟨⟨E,h⟩,_⟩:=hw; exact (Array.getElem?_eq_some_iff.1 h).1
 have hst:∀ o1 o2 o3,dQ (((w.alloc o1).alloc o2).alloc o3) B p:=fun o1 o2 o3=>by
  obtain ⟨⟨E,h⟩,_⟩:=hw
  exact ⟨⟨E,(heap_alloc_old _ _ (by simp; omega)).trans ((heap_alloc_old _ _ (by simp; omega)).trans ((heap_alloc_old _ _ hB).trans h))⟩,htb.same (by simp; omega) fun b hb _=>(heap_alloc_old _ _ (by simp; omega)).trans ((heap_alloc_old _ _ (by simp; omega)).trans (heap_alloc_old _ _ hb))⟩
 have hT : ∀ o1 o2 o3,(((w.alloc o1).alloc o2).alloc o3).heap[w.heap.size + 1]? = some o2:=fun o1 o2 o3=>by
  have z1:(w.alloc o1).heap.size=w.heap.size+1:=by simp
  rw [heap_alloc_old _ _ (by simp),← z1,heap_alloc_new]
 go_enter Tryz.func32,Tryz.ntmps32
 go_wp2_with (go_at_call 53; refine (aC1 (aQm hv (w0:=w) (B:=B) (Bo:=w.heap.size + 1 + 1) (Bp:=w.heap.size) hB ⟨by omega,by omega⟩ ⟨by omega,by omega⟩ (by omega)) b3z (by decide) hr hd ha hp _ (hst _ _ _) ⟨aQn 6 htb hB rfl rfl,rfl,fun e h=>by cases h⟩).mono ?_; rintro _ W1 ⟨rfl,h1,⟨hi,hpl,hel⟩,hd1,he1,hs1⟩; obtain ⟨hfr,⟨kv,lv,xs,E3,rfl,hbo,hown,hrep⟩,_,hlen,hkp⟩:=hi; obtain ⟨oa,oc,rfl⟩:=aSx hown; have hT1:=(hkp (w.heap.size + 1) (by omega) (by omega) (by omega)).trans (hT _ _ _); have c0 : W1.cell? ⟨w.heap.size + 1 + 1,0,none⟩ = some (.int .i64 6):=(by rw [Lib.cell_of_heap hbo]; rfl); have c1 : W1.cell? ⟨w.heap.size + 1 + 1,1,none⟩ = some (.string ⟨⟨[]⟩⟩):=(by rw [Lib.cell_of_heap hbo]; rfl); have c2 : W1.cell? ⟨w.heap.size + 1 + 1,2,none⟩ = some (.slice none 0 0):=(by rw [Lib.cell_of_heap hbo]; rfl); have c3 : W1.cell? ⟨w.heap.size + 1 + 1,3,none⟩ = some (.slice oa r.1.length oc):=(by rw [Lib.cell_of_heap hbo]; rfl); have f0:=fun o=>Lib.frozen_of_heap hbo o; have t0 : W1.cell? ⟨w.heap.size + 1,0,none⟩ = some (.int .i64 0):=(by rw [Lib.cell_of_heap hT1]; rfl); have t1 : W1.cell? ⟨w.heap.size + 1,1,none⟩ = some (.string ⟨⟨[]⟩⟩):=(by rw [Lib.cell_of_heap hT1]; rfl); have t2 : W1.cell? ⟨w.heap.size + 1,2,none⟩ = some (.slice none 0 0):=(by rw [Lib.cell_of_heap hT1]; rfl); have t3 : W1.cell? ⟨w.heap.size + 1,3,none⟩ = some (.slice none 0 0):=(by rw [Lib.cell_of_heap hT1]; rfl); have f1:=fun o=>Lib.frozen_of_heap hT1 o)
 obtain ⟨q1,q2,q3,q4,q5⟩:=aN9 (.int .i64 6) (.string ⟨⟨[]⟩⟩) (.slice none 0 0) (.slice oa r.1.length oc) hT1
 have hq:=aV3 (k:=6) hB (T:=w.heap.size+1) ⟨by omega,by omega⟩ (by omega) hfr htb h1 hown hrep hpl hel q2 q3 q4 q5
 refine bodyPost_ret (results_cell_row (by rfl) _ _ (w.heap.size+1) 27 _ (0,0) _ (by rfl) q1 Tryz.underlying27 (by rfl) aSy) (by rfl) ⟨_,rfl,hq⟩
end Go.Fbs

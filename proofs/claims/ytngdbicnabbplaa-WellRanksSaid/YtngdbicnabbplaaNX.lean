/- The document's Ways, walked. -/
import Derived.Test.YtngdbicnabbplaaPH
set_option linter.unusedSimpArgs false
set_option linter.unusedVariables false
set_option linter.unusedSectionVars false
set_option maxRecDepth 100000
namespace Go.Fbs
open Go.Proofs Go.RowKit Go.Maps
variable {w w':World}
def bEs (xs : List dQ) (bg : Nat → Nat) : Prop:=∀ i x,xs[i]? = some x → x.1 = 4 → 1 ≤ i ∧ bg i ≤ i ∧ ∀ (w : World) (xa : Option Addr) (xc B : Nat),B ≤ w.heap.size → tM B w xa 3 (xs.map aO3) →
 Calls Try.prog 24 #[.slice xa xs.length xc,.int .i64 ((i:Int) - 1)] w fun en w'=>en = .returned (.int .i64 (bg i:Int))∧w'=w
set_option maxHeartbeats 6400000 in
theorem b1o {l:List TM} {a:Option Addr} {cp B:Nat} {t rel:B8} {r:RM} {bg:Nat→Nat} (hl:aBr B w a l) (hB:B≤w.heap.size) (hf:a1s l) (h:cG l t rel=some r) (hbg:bEs r.steps bg)
  (har:∀ x ∈ r.steps,x.1=2→∃ q,cG l t x.2.1=some q) :
  Calls Try.prog 12 #[.slice a l.length cp,.string ⟨⟨t⟩⟩,.string ⟨⟨rel⟩⟩] w fun e w'=>dU w w'∧∃ v,e = .returned v∧a3a w.heap.size w' v (wU l t r bg):=by
 obtain ⟨i0,hi,hz0,hz1,hz2⟩:=info_parts Try.bJm
 obtain ⟨i1,hj,hy0,hy1,hy2⟩:=info_parts Try.bL3
 have hcall:=aUk (cp:=cp) hl hB hf h
 obtain ⟨ty,htm,hte,hrm⟩:=pL (rX h).1
 clear hte
 obtain ⟨_,⟨hsl1,hsl2⟩,_,_⟩:=(hf.short ty htm).2 r hrm
 have hrk:=(hl.all ty htm).all r hrm
 unfold wU
 obtain ⟨rn,aY,steps,sa,sc,xa,xc⟩:=r
 dsimp only at hcall hsl1 hsl2 hbg har ⊢
 obtain ⟨hrs,hrx⟩:=hrk
 dsimp only at hrs hrx
 go_enter Try.func12,Try.ntmps12
 go_wp2_with (go_at_call 9; refine hcall.mono ?_; rintro e w5 ⟨rfl,hs5⟩)
 obtain ⟨y,hy⟩:∃ y,y=w5.heap.size:=⟨_,rfl⟩
 obtain ⟨Y,hY⟩:∃ Y,Y=w5.alloc (.cells #[.string ⟨⟨rn⟩⟩,.slice sa aY.length sc,.slice xa steps.length xc] 32):=⟨_,rfl⟩
 have hYB : Y.heap[y]? = some (.cells #[.string ⟨⟨rn⟩⟩,.slice sa aY.length sc,.slice xa steps.length xc] 32 (0,0)):=by rw [hY,hy]; exact heap_alloc_new _ _
 have hsY:dU w Y:=by rw [hY]; exact hs5.trans (aR _ _)
 rw [← hY,← hy]
 clear hY hy hcall hs5
 have hyY:y < Y.heap.size:=(zsz.1 hYB).1
 have y1 : Y.cell? ⟨y,1,none⟩ = some (.slice sa aY.length sc):=Lib.cell_of_heap hYB ..
 have y2 : Y.cell? ⟨y,2,none⟩ = some (.slice xa steps.length xc):=Lib.cell_of_heap hYB ..
 have hYs:=hsY.size
 go_loopw [9,10] (fun v i wr=>∃ j:Nat,j≤aY.length∧i = .int .i64 j∧dU Y wr∧(∃ ad c,v = .slice ad (lL (aY.take j)).length c)∧a3a Y.heap.size wr v (lL (aY.take j))) (fun _ i _=>aY.length - (jJ i).toNat)
 case atStart=>exact ⟨0,Nat.zero_le _,rfl,dU.refl _,⟨none,0,rfl⟩,World.ownsRow_nil _ _ _ _⟩
 case round =>
  obtain ⟨j,hjl,rfl,hsr,⟨ad,c,rfl⟩,hown⟩:=hrel
  have hj0:(0:Int)≤(j:Int):=zrz _
  have yr1:=hsr.cell y1
  have hyr:y < wr.heap.size:=by have:=hsr.size; omega
  by_cases hjn:j < aY.length
  ·have hj1:(j:Int) < (aY.length:Int):=by omega
   obtain ⟨s,hs⟩:=jZ hjn
   obtain ⟨b,off,rfl,hb,d0,d1,d2⟩:=(hrs.iZ ((hsY.trans hsr).iZ hB)).a1r (lF hs)
   have hbr:b < wr.heap.size:=by have:=(hsY.trans hsr).size; omega
   have hwsz:=hsr.size
   have hnx:lL (aY.take (j+1))=lL (aY.take j)++lL [s]:=by rw [l4 hs]; unfold lL; rw [List.filter_append,List.map_append]
   have hfl:(lL (aY.take j)).length≤1000:=by
    unfold lL
    rw [zsy]
    have:=List.length_filter_le (fun s:Sub=>!s.2.2.isEmpty) (aY.take j)
    rw [List.length_take] at this
    omega
   obtain ⟨st,si,sr⟩:=s
   dsimp only at d0 d1 d2
   by_cases he:sr=[]
   ·subst he
    have hno:lL (aY.take (j+1))=lL (aY.take j):=by rw [hnx]; simp [lL]
    go_wp2
    exact ⟨⟨j+1,by omega,by simp,hsr,⟨ad,c,by rw [hno]⟩,by rw [hno]; exact hown⟩,by simp [jJ]; omega⟩
   ·have hne:sr.isEmpty=false:=by simpa using he
    have hyes:lL [(st,si,sr)]=[(st,sr,false)]:=by simp [lL,hne]
    rw [hyes] at hnx
    generalize lL (aY.take j)=S at hown hfl hnx
    unfold a3a at hown
    go_wp2
    go_region_law (first
     | (refine step_append_lies _ (by rfl) _ _ _ (by rfl) Y.heap.size 48 i0 _ 3 40 Try.underlying45 hi hz0 hz1 hz2 rfl (by decide) (.slice ad S.length c) S.length (zQ S) (by rfl) (hown.drew.alloc _) ⟨wr.heap.size,0,none⟩ 1 1 [.string ⟨⟨st⟩⟩,.string ⟨⟨sr⟩⟩,.bool false] (by rfl) (by rfl) (aMv wr.drew _ _ _) (aQ7 _ _ _) (by decide) (by unfold maxLen; omega) (by omega) (by simp; exact Nat.le_succ_of_le hwsz) (wr.heap.size+1) (by simp) ?_; intro g cp' w2 hown' hgrow hat hlt))
    all_goals
     have hgr:(wr.drew.alloc (.cells #[.string ⟨⟨st⟩⟩,.string ⟨⟨sr⟩⟩,.bool false] 48)).grownBy w2 (Value.slice ad S.length c).ownBlock:=hgrow
     have hs7:dU Y w2:=pE (hsr.trans ((fN wr).trans (aR _ _))) hgr fun q hq=>(hown.lt q hq).1
     clear hgrow hat
     go_wp2
     refine ⟨⟨j+1,by omega,by simp,hs7,⟨some ⟨g,0,none⟩,cp',by rw [hnx,zwy]; rfl⟩,?_⟩,by simp [jJ]; omega⟩
     rw [hnx]
     unfold a3a
     rw [zwy,aDc]
     exact hown'
  ·have hj1:¬ (j:Int) < (aY.length:Int):=by omega
   obtain rfl:j=aY.length:=by omega
   rw [List.take_length] at hown ⊢
   have yr2:=hsr.cell y2
   have hsub:(lL aY).length≤1000:=by
    unfold lL
    rw [zsy]
    have:=List.length_filter_le (fun s:Sub=>!s.2.2.isEmpty) aY
    omega
   have hwY:=hsr.size
   go_wp2_with (first
    | (at_make; refine wpList_make_full _ rfl _ _ 76 rfl Y.heap.size 4 i1 _ 1 Try.underlying76 hj hy0 hy1 .i64 .i64 _ _ steps.length rfl rfl rfl rfl (by rw [hy2]; omega) (by unfold maxLen; omega) hwY ?_; intro w0 hownL hgrowL)
    | go_in)
   have hs0:dU Y w0:=pE hsr hgrowL fun q hq=>by cases hq
   have hown0:a3a Y.heap.size w0 (.slice ad (lL aY).length c) (lL aY):=World.ownsRow.kept hown hgrowL (Classical.em _)
   have hbits:(madeCells (Value.bool false).cells (steps.length*1)).toList=qR steps.length (cW steps bg 0):=by
    rw [Nat.mul_one]
    refine (toList_madeCells_one _ _).trans ?_
    unfold qR cW
    simp only [List.range_zero,List.any_nil]
    rw [List.map_const',List.length_range]
   rw [hbits] at hownL
   obtain ⟨bl,hbl⟩:∃ bl,bl=wr.heap.size:=⟨_,rfl⟩
   rw [← hbl] at hownL ⊢
   clear hbl hbits hgrowL hown yr1 yr2 hsr hwY hyr hj0 hj1 hjn hjl
   go_loopw [12] (fun i wr=>∃ q:Nat,q≤steps.length∧i = .int .i64 q∧dU Y wr∧a3a Y.heap.size wr (.slice ad (lL aY).length c) (lL aY)∧wr.ownsRow Y.heap.size 4 1 (.slice (some ⟨bl,0,none⟩) steps.length steps.length) steps.length (qR steps.length (cW steps bg q))) (fun i _=>steps.length - (jJ i).toNat)
   case atStart=>exact ⟨0,Nat.zero_le _,rfl,hs0,hown0,hownL⟩
   case round =>
    clear hs0 hown0 hownL
    obtain ⟨i,hil,rfl,hsr,hown,hownL⟩:=hrel
    have hi0:(0:Int)≤(i:Int):=zrz _
    have yr1:=hsr.cell y1
    have yr2:=hsr.cell y2
    have hyr:y < wr.heap.size:=by have:=hsr.size; omega
    by_cases hin:i < steps.length
    ·have hi1:(i:Int) < (steps.length:Int):=by omega
     obtain ⟨x,hx⟩:=jZ hin
     have hls:=fun j=>b6c steps bg i j hx
     have hbgx:=hbg i x hx
     have hrow2:=hrx.iZ ((hsY.trans hsr).iZ hB)
     obtain ⟨b,off,rfl,hb,d0,d1,d2⟩:=hrow2.a1r (lF hx)
     have hbr:b < wr.heap.size:=by have:=(hsY.trans hsr).size; omega
     obtain ⟨kd,A,Bx⟩:=x
     dsimp only at d0 d1 d2 hls hbgx
     by_cases h4:kd=4
     ·subst h4
      obtain ⟨hi1',hbi,hcal⟩:=hbgx rfl
      have hcal:=hcal wr (some ⟨b,off,none⟩) xc B (by have:=(hsY.trans hsr).size; omega) hrow2
      have hi2:(0:Int)≤(i:Int) - 1:=by omega
      have hi3:(1:Int)≤(i:Int):=by omega
      simp only [decide_true,Bool.true_and] at hls
      generalize bg i=g at hbi hcal hls
      go_wp2_with (go_at_call 24; refine hcal.mono ?_; rintro e w6 ⟨rfl,hw6⟩; subst hw6)
      obtain ⟨wo,hwo⟩:∃ wo,wo=w6:=⟨_,rfl⟩
      subst hwo
      go_loopw [13] (fun v wr=>∃ q:Nat,g≤q∧q≤i∧v = .int .i64 q∧dU Y wr∧a3a Y.heap.size wr (.slice ad (lL aY).length c) (lL aY)∧wr.ownsRow Y.heap.size 4 1 (.slice (some ⟨bl,0,none⟩) steps.length steps.length) steps.length (qR steps.length fun j=>cW steps bg i j || (decide (g≤j) && decide (j < q)))) (fun v _=>steps.length - (jJ v).toNat)
      case atStart=>exact ⟨g,zxy _,hbi,rfl,hsr,hown,by rw [show qR steps.length (fun j=>cW steps bg i j || (decide (g≤j) && decide (j < g)))=qR steps.length (cW steps bg i) from aLf fun j _=>by (have:¬ (g≤j∧j < g):=by omega); simp; omega]; exact hownL⟩
      case round =>
       clear hsr hown hownL yr1 yr2 hyr d0 d1 d2 hcal
       obtain ⟨q,hq1,hq2,rfl,hsr,hown,hownL⟩:=hrel
       have hq0:(0:Int)≤(q:Int):=zrz _
       by_cases hqi:q < i
       ·have hqi1:(q:Int) < (i:Int):=by omega
        have hqn:(q:Int) < (steps.length:Int):=by omega
        have hcq : wr.cell? ⟨bl,q,none⟩ = some (.bool (cW steps bg i q || (decide (g ≤ q) && decide (q < q)))):=by
         rw [World.ownsRow.cellAt hownL q (by omega)]
         exact aBx (by omega)
        have hfq:=World.ownsRow.frozenAt hownL q
        obtain ⟨hst1,hst2⟩:=World.ownsRow.stored hownL q (.bool true)
        have hkeep:=aDd hown hownL (by decide) hst2
        rw [b9t (g:=fun j=>cW steps bg i j || (decide (g≤j) && decide (j < q+1))) (by omega) (by simp; omega) (fun j hj hne=>by
         have:(j < q+1)=(j < q):=propext ⟨fun h=>by omega,fun h=>by omega⟩
         simp only [this])] at hst1
        go_wp2
        exact ⟨⟨q+1,by omega,by omega,by simp,pE hsr hst2 (fun t e=>by cases e; exact (hownL.lt bl rfl).1),hkeep,hst1⟩,by simp [jJ]; omega⟩
       ·have hqi1:¬ (q:Int) < (i:Int):=by omega
        obtain rfl:q=i:=by omega
        go_wp2
        refine ⟨⟨q+1,by omega,by simp,hsr,hown,?_⟩,by simp [jJ]; omega⟩
        rw [show qR steps.length (cW steps bg (q+1))=qR steps.length (fun j=>cW steps bg q j || (decide (g≤j) && decide (j < q))) from aLf fun j _=>hls j]
        exact hownL
     ·have h4b:(kd == 4)=false:=by simpa using h4
      go_wp2
      refine ⟨⟨i+1,by omega,by simp,hsr,hown,?_⟩,by simp [jJ]; omega⟩
      rw [show qR steps.length (cW steps bg (i+1))=qR steps.length (cW steps bg i) from aLf fun j _=>by rw [hls j]; simp [h4]]
      exact hownL
    ·have hi1:¬ (i:Int) < (steps.length:Int):=by omega
     obtain rfl:i=steps.length:=by omega
     go_wp2
     clear hbg
     obtain ⟨wo,hwo⟩:∃ wo,wo=wr:=⟨_,rfl⟩
     subst hwo
     go_loopw [9,14] (fun v i wr=>∃ q:Nat,q≤steps.length∧i = .int .i64 q∧dU Y wr∧(∃ ad c,v = .slice ad ((lL aY)++pM l t (steps.take q) (cW steps bg steps.length)).length c)∧a3a Y.heap.size wr v ((lL aY)++pM l t (steps.take q) (cW steps bg steps.length))∧((lL aY)++pM l t (steps.take q) (cW steps bg steps.length)).length≤1000+1001*q∧wr.ownsRow Y.heap.size 4 1 (.slice (some ⟨bl,0,none⟩) steps.length steps.length) steps.length (qR steps.length (cW steps bg steps.length))) (fun _ i _=>steps.length - (jJ i).toNat)
     case atStart=>exact ⟨0,Nat.zero_le _,rfl,hsr,⟨ad,c,by simp [pM]⟩,by simpa [pM] using hown,by simp [pM]; omega,hownL⟩
     case round =>
      clear hsr hown hownL yr1 yr2 hyr hsub
      obtain ⟨i,hil,rfl,hsr,⟨ad,c,rfl⟩,hown,hSl,hownL⟩:=hrel
      have hi0:(0:Int)≤(i:Int):=zrz _
      have yr1:=hsr.cell y1
      have yr2:=hsr.cell y2
      have hwsz:=hsr.size
      have hyr:y < wr.heap.size:=by omega
      by_cases hin:i < steps.length
      ·have hi1:(i:Int) < (steps.length:Int):=by omega
       obtain ⟨x,hx⟩:=jZ hin
       have hnx:(lL aY)++pM l t (steps.take (i+1)) (cW steps bg steps.length)=((lL aY)++pM l t (steps.take i) (cW steps bg steps.length))++rN l t x (cW steps bg steps.length i):=by rw [b1n hx,zty]
       generalize (lL aY)++pM l t (steps.take i) (cW steps bg steps.length)=S at hown hSl hnx
       have harx:=har x (zyx hx)
       obtain ⟨b,off,rfl,hb,d0,d1,d2⟩:=(hrx.iZ ((hsY.trans hsr).iZ hB)).a1r (lF hx)
       have hbr:b < wr.heap.size:=by have:=(hsY.trans hsr).size; omega
       obtain ⟨kd,A,Bx⟩:=x
       dsimp only at d0 d1 d2 harx
       obtain ⟨z,hz⟩:∃ z,z=wr.heap.size:=⟨_,rfl⟩
       obtain ⟨Z,hZ⟩:∃ Z,Z=wr.alloc (.cells #[.int .i64 kd,.string ⟨⟨A⟩⟩,.string ⟨⟨Bx⟩⟩] 78):=⟨_,rfl⟩
       have hZB : Z.heap[z]? = some (.cells #[.int .i64 kd,.string ⟨⟨A⟩⟩,.string ⟨⟨Bx⟩⟩] 78 (0,0)):=by rw [hZ,hz]; exact heap_alloc_new _ _
       have hzZ:z < Z.heap.size:=(zsz.1 hZB).1
       have hsZ:dU wr Z:=by rw [hZ]; exact aR _ _
       have z0 : Z.cell? ⟨z,0,none⟩ = some (.int .i64 kd):=Lib.cell_of_heap hZB ..
       have z1 : Z.cell? ⟨z,1,none⟩ = some (.string ⟨⟨A⟩⟩):=Lib.cell_of_heap hZB ..
       have hoZ:a3a Y.heap.size Z (.slice ad S.length c) S:=iD hown hsZ
       have hLZ:=iD hownL hsZ
       have lz : Z.cell? ⟨bl,i,none⟩ = some (.bool (cW steps bg steps.length i)):=by
        rw [World.ownsRow.cellAt hLZ i (by omega)]
        exact aBx hin
       have hblZ:bl < Z.heap.size:=(hLZ.lt bl rfl).2
       have hwZ:Y.heap.size≤Z.heap.size:=by have:=hsZ.size; omega
       unfold a3a at hoZ
       by_cases hk1:kd=1
       ·subst hk1
        have hds:rN l t (1,A,Bx) (cW steps bg steps.length i)=[(t,A,cW steps bg steps.length i)]:=if_pos rfl
        rw [hds] at hnx
        go_wp2
        rw [← hZ,← hz]
        clear hZ hz d0 d1 d2 hown
        go_region_law (first
         | (refine step_append_lies _ (by rfl) _ _ _ (by rfl) Y.heap.size 48 i0 _ 3 40 Try.underlying45 hi hz0 hz1 hz2 rfl (by decide) (.slice ad S.length c) S.length (zQ S) (by rfl) (hoZ.drew.alloc _) ⟨Z.heap.size,0,none⟩ 1 1 [.string ⟨⟨t⟩⟩,.string ⟨⟨A⟩⟩,.bool (cW steps bg steps.length i)] (by rfl) (by rfl) (aMv Z.drew _ _ _) (aQ7 _ _ _) (by decide) (by unfold maxLen; omega) (by omega) (by simp; exact Nat.le_succ_of_le hwZ) (Z.heap.size+1) (by simp) ?_; intro g cp' w2 hown' hgrow hat hlt))
        all_goals
         have hoA:=hoZ.drew.alloc (.cells #[.string ⟨⟨t⟩⟩,.string ⟨⟨A⟩⟩,.bool (cW steps bg steps.length i)] 48)
         have hgr:(Z.drew.alloc (.cells #[.string ⟨⟨t⟩⟩,.string ⟨⟨A⟩⟩,.bool (cW steps bg steps.length i)] 48)).grownBy w2 (Value.slice ad S.length c).ownBlock:=hgrow
         have hs7:dU Y w2:=pE ((hsr.trans hsZ).trans ((fN Z).trans (aR _ _))) hgr fun q hq=>(hoA.lt q hq).1
         have hL7:=aDd (iD hLZ ((fN Z).trans (aR Z.drew (.cells #[.string ⟨⟨t⟩⟩,.string ⟨⟨A⟩⟩,.bool (cW steps bg steps.length i)] 48)))) hoA (by decide) hgr
         clear hgrow hat
         go_wp2
         refine ⟨⟨i+1,by omega,by simp,hs7,⟨some ⟨g,0,none⟩,cp',by rw [hnx,zwy]; rfl⟩,?_,by rw [hnx,zwy]; simp only [zwx,List.length_nil]; omega,hL7⟩,by simp [jJ]; omega⟩
         rw [hnx]
         unfold a3a
         rw [zwy,aDc]
         exact hown'
       ·have hkb:(kd == 1)=false:=by simpa using hk1
        by_cases hk2:kd=2
        ·subst hk2
         obtain ⟨q,hq⟩:=harx rfl
         obtain ⟨tq,htqm,hte,hqm⟩:=pL (rX hq).1
         clear hte
         obtain ⟨_,⟨hql,_⟩,_,_⟩:=(hf.short tq htqm).2 q hqm
         have hqrow:=((hl.all tq htqm).all q hqm).s
         have hsof:nI l t A=q.aY:=by unfold nI; rw [hq]
         have hds:rN l t (2,A,Bx) (cW steps bg steps.length i)=(t,A,cW steps bg steps.length i)::q.aY.map fun s=>(s.1,Bx,cW steps bg steps.length i):=by
          unfold rN
          rw [if_neg hk1,if_pos rfl]
          rw [hsof]
         rw [hds] at hnx
         have hwz':=hsZ.size
         have hcall:=aUk (cp:=cp) (hl.iZ (((hsY.trans hsr).trans hsZ).iZ hB)) (by omega) hf hq
         clear hq hsof hds harx
         obtain ⟨qn,qs,qx,qa,qc,qxa,qxc⟩:=q
         dsimp only at hql hqrow hcall hnx
         go_wp2_with (go_at_call 9; rw [← hZ]; refine hcall.mono ?_; rintro e w6 ⟨rfl,hs6⟩)
         obtain ⟨v,hv⟩:∃ v,v=w6.heap.size:=⟨_,rfl⟩
         obtain ⟨V,hV⟩:∃ V,V=w6.alloc (.cells #[.string ⟨⟨qn⟩⟩,.slice qa qs.length qc,.slice qxa qx.length qxc] 32):=⟨_,rfl⟩
         have hVB : V.heap[v]? = some (.cells #[.string ⟨⟨qn⟩⟩,.slice qa qs.length qc,.slice qxa qx.length qxc] 32 (0,0)):=by rw [hV,hv]; exact heap_alloc_new _ _
         have hsV:dU Z V:=by rw [hV]; exact hs6.trans (aR _ _)
         rw [← hV,← hv,← hz]
         clear hV hv hZ hz d0 d1 d2 hown hcall hs6
         have hvV:v < V.heap.size:=(zsz.1 hVB).1
         have hzV:z < V.heap.size:=by have:=hsV.size; omega
         have hblV:bl < V.heap.size:=by have:=hsV.size; omega
         have hwV:Y.heap.size≤V.heap.size:=by have:=hsV.size; omega
         have hzBV:=(hsV.same z hzZ).trans hZB
         have z1':=hsV.cell z1
         have lz':=hsV.cell lz
         have hoV:V.ownsRow Y.heap.size 48 3 (.slice ad S.length c) S.length (zQ S):=iD hoZ hsV
         have hLV:=iD hLZ hsV
         go_region_law (first
          | (refine step_append_lies _ (by rfl) _ _ _ (by rfl) Y.heap.size 48 i0 _ 3 40 Try.underlying45 hi hz0 hz1 hz2 rfl (by decide) (.slice ad S.length c) S.length (zQ S) (by rfl) (hoV.drew.alloc _) ⟨V.heap.size,0,none⟩ 1 1 [.string ⟨⟨t⟩⟩,.string ⟨⟨A⟩⟩,.bool (cW steps bg steps.length i)] (by rfl) (by rfl) (aMv V.drew _ _ _) (aQ7 _ _ _) (by decide) (by unfold maxLen; omega) (by omega) (by simp; exact Nat.le_succ_of_le hwV) (V.heap.size+1) (by simp) ?_; intro g cp' w2 hown' hgrow hat hlt))
         all_goals
          have hoA:=hoV.drew.alloc (.cells #[.string ⟨⟨t⟩⟩,.string ⟨⟨A⟩⟩,.bool (cW steps bg steps.length i)] 48)
          have hsA:dU V (V.drew.alloc (.cells #[.string ⟨⟨t⟩⟩,.string ⟨⟨A⟩⟩,.bool (cW steps bg steps.length i)] 48)):=(fN V).trans (aR _ _)
          have hgr:(V.drew.alloc (.cells #[.string ⟨⟨t⟩⟩,.string ⟨⟨A⟩⟩,.bool (cW steps bg steps.length i)] 48)).grownBy w2 (Value.slice ad S.length c).ownBlock:=hgrow
          have hs7:dU Y w2:=pE (((hsr.trans hsZ).trans hsV).trans hsA) hgr fun q hq=>(hoA.lt q hq).1
          have hL7:=aDd (iD hLV hsA) hoA (by decide) hgr
          have hz7:=a5x ((hsA.same z hzV).trans hzBV) hoA (by decide) hgr
          have hv7:=a5x ((hsA.same v hvV).trans hVB) hoA (by decide) hgr
          have hd7:a3a Y.heap.size w2 (.slice (some ⟨g,0,none⟩) (S++[(t,A,cW steps bg steps.length i)]).length cp') (S++[(t,A,cW steps bg steps.length i)]):=by
           unfold a3a
           rw [zwy,aDc]
           exact hown'
          have hnx7:S++(t,A,cW steps bg steps.length i)::qs.map (fun s=>((s.1,Bx,cW steps bg steps.length i):Dy))=(S++[(t,A,cW steps bg steps.length i)])++qs.map (fun s=>((s.1,Bx,cW steps bg steps.length i):Dy)):=by simp
          rw [hnx7] at hnx
          have hl7:(S++[(t,A,cW steps bg steps.length i)]).length=S.length+1:=by simp
          clear hgrow hat hoA hsA hgr hown' hnx7
          rw [show Value.slice (some ⟨g,0,none⟩) (S.length+1) cp'=Value.slice (some ⟨g,0,none⟩) (S++[(t,A,cW steps bg steps.length i)]).length cp' by rw [hl7]]
          generalize S++[(t,A,cW steps bg steps.length i)]=S1 at hd7 hnx hl7
          clear hsr hsZ hsV z0 z1 z1' lz lz' hoZ hoV hLZ hLV hZB hzBV hVB hzZ hzV hvV hblZ hblV hwZ hwV hwz' yr1 yr2 hbr hyr hlt hwsz
          have hz8:z < w2.heap.size:=(zsz.1 hz7).1
          have hv8:v < w2.heap.size:=(zsz.1 hv7).1
          have v1 : w2.cell? ⟨v,1,none⟩ = some (.slice qa qs.length qc):=Lib.cell_of_heap hv7 ..
          go_wp2
          obtain ⟨wq,hwq⟩:∃ wq,wq=w2:=⟨_,rfl⟩
          rw [← hwq]
          rw [← hwq] at hs7 hL7 hz7 hv7 hd7
          clear hwq v1 hz8 hv8
          go_loopw [9,18] (fun u m wr=>∃ q : Nat,q ≤ qs.length ∧ m = .int .i64 q ∧ dU Y wr ∧ (∃ ad c,u = .slice ad (S1 ++ (qs.take q).map fun s=>((s.1,Bx,cW steps bg steps.length i) : Dy)).length c) ∧ a3a Y.heap.size wr u (S1 ++ (qs.take q).map fun s=>((s.1,Bx,cW steps bg steps.length i) : Dy)) ∧ wr.ownsRow Y.heap.size 4 1 (.slice (some ⟨bl,0,none⟩) steps.length steps.length) steps.length (qR steps.length (cW steps bg steps.length)) ∧ wr.heap[z]? = some (.cells #[.int .i64 2,.string ⟨⟨A⟩⟩,.string ⟨⟨Bx⟩⟩] 78 (0,0)) ∧ wr.heap[v]? = some (.cells #[.string ⟨⟨qn⟩⟩,.slice qa qs.length qc,.slice qxa qx.length qxc] 32 (0,0))) (fun _ m _=>qs.length - (jJ m).toNat)
          case atStart=>exact ⟨0,Nat.zero_le _,rfl,hs7,⟨some ⟨g,0,none⟩,cp',by simp [hl7]⟩,by simpa [hl7] using hd7,hL7,hz7,hv7⟩
          case round =>
           clear hs7 hL7 hz7 hv7 hd7
           obtain ⟨q,hqq,rfl,hsr,⟨ad,c,rfl⟩,hown,hownL,hzB,hvB⟩:=hrel
           have hq0:(0:Int)≤(q:Int):=zrz _
           have v1 : wr.cell? ⟨v,1,none⟩ = some (.slice qa qs.length qc):=Lib.cell_of_heap hvB ..
           have z2 : wr.cell? ⟨z,2,none⟩ = some (.string ⟨⟨Bx⟩⟩):=Lib.cell_of_heap hzB ..
           have hzr:z < wr.heap.size:=(zsz.1 hzB).1
           have hvr:v < wr.heap.size:=(zsz.1 hvB).1
           have hwr:=hsr.size
           by_cases hqn:q < qs.length
           ·have hq1:(q:Int) < (qs.length:Int):=by omega
            obtain ⟨s,hs⟩:=jZ hqn
            obtain ⟨b2,off2,rfl,hb2,g0,g1,g2⟩:=(hqrow.iZ ((hsY.trans hsr).iZ hB)).a1r (lF hs)
            have hb2r:b2 < wr.heap.size:=by have:=(hsY.trans hsr).size; omega
            have hnq:S1++(qs.take (q+1)).map (fun s=>((s.1,Bx,cW steps bg steps.length i):Dy))=(S1++(qs.take q).map (fun s=>((s.1,Bx,cW steps bg steps.length i):Dy)))++[(s.1,Bx,cW steps bg steps.length i)]:=by rw [l4 hs,List.map_append,zty]; rfl
            have hlq:(S1++(qs.take q).map (fun s=>((s.1,Bx,cW steps bg steps.length i):Dy))).length≤2100000:=by
             rw [zwy,zsy,List.length_take]
             omega
            generalize S1++(qs.take q).map (fun s=>((s.1,Bx,cW steps bg steps.length i):Dy))=S2 at hown hnq hlq
            obtain ⟨st,si,sr⟩:=s
            dsimp only at g0 g1 g2 hnq
            have lz : wr.cell? ⟨bl,i,none⟩ = some (.bool (cW steps bg steps.length i)):=by
             rw [World.ownsRow.cellAt hownL i (by omega)]
             exact aBx hin
            have hblr:bl < wr.heap.size:=(hownL.lt bl rfl).2
            unfold a3a at hown
            go_wp2
            go_region_law (first
             | (refine step_append_lies _ (by rfl) _ _ _ (by rfl) Y.heap.size 48 i0 _ 3 40 Try.underlying45 hi hz0 hz1 hz2 rfl (by decide) (.slice ad S2.length c) S2.length (zQ S2) (by rfl) (hown.drew.alloc _) ⟨wr.heap.size,0,none⟩ 1 1 [.string ⟨⟨st⟩⟩,.string ⟨⟨Bx⟩⟩,.bool (cW steps bg steps.length i)] (by rfl) (by rfl) (aMv wr.drew _ _ _) (aQ7 _ _ _) (by decide) (by unfold maxLen; omega) (by omega) (by simp; exact Nat.le_succ_of_le hwr) (wr.heap.size+1) (by simp) ?_; intro g cp' w2 hown' hgrow hat hlt))
            all_goals
             have hoA:=hown.drew.alloc (.cells #[.string ⟨⟨st⟩⟩,.string ⟨⟨Bx⟩⟩,.bool (cW steps bg steps.length i)] 48)
             have hsA:dU wr (wr.drew.alloc (.cells #[.string ⟨⟨st⟩⟩,.string ⟨⟨Bx⟩⟩,.bool (cW steps bg steps.length i)] 48)):=(fN wr).trans (aR _ _)
             have hgr:(wr.drew.alloc (.cells #[.string ⟨⟨st⟩⟩,.string ⟨⟨Bx⟩⟩,.bool (cW steps bg steps.length i)] 48)).grownBy w2 (Value.slice ad S2.length c).ownBlock:=hgrow
             have hs7:dU Y w2:=pE (hsr.trans hsA) hgr fun q hq=>(hoA.lt q hq).1
             have hL7:=aDd (iD hownL hsA) hoA (by decide) hgr
             have hz7:=a5x ((hsA.same z hzr).trans hzB) hoA (by decide) hgr
             have hv7:=a5x ((hsA.same v hvr).trans hvB) hoA (by decide) hgr
             clear hgrow hat
             go_wp2
             refine ⟨⟨q+1,by omega,by simp,hs7,⟨some ⟨g,0,none⟩,cp',by rw [hnq,zwy]; rfl⟩,?_,hL7,hz7,hv7⟩,by simp [jJ]; omega⟩
             rw [hnq]
             unfold a3a
             rw [zwy,aDc]
             exact hown'
           ·have hq1:¬ (q:Int) < (qs.length:Int):=by omega
            obtain rfl:q=qs.length:=by omega
            rw [List.take_length] at hown
            rw [← hnx] at hown
            go_wp2
            refine ⟨⟨i+1,by omega,by simp,hsr,⟨ad,c,by rw [List.take_length,← hnx]⟩,by rw [List.take_length,← hnx]; exact hown,?_,hownL⟩,by simp [jJ]; omega⟩
            rw [hnx,zwy,zsy]
            omega
        ·have hkc:(kd == 2)=false:=by simpa using hk2
         have hds:rN l t (kd,A,Bx) (cW steps bg steps.length i)=[]:=by unfold rN; rw [if_neg hk1,if_neg hk2]
         rw [hds,List.append_nil] at hnx
         go_wp2
         rw [← hZ]
         exact ⟨⟨i+1,by omega,by simp,hsr.trans hsZ,⟨ad,c,by rw [hnx]⟩,by rw [hnx]; exact iD hown hsZ,by rw [hnx]; omega,hLZ⟩,by simp [jJ]; omega⟩
      ·have hi1:¬ (i:Int) < (steps.length:Int):=by omega
       obtain rfl:i=steps.length:=by omega
       rw [List.take_length] at hown ⊢
       go_wp2
       go_ret
       refine ⟨hsY.trans hsr,.slice ad (lL aY++pM l t steps (cW steps bg steps.length)).length c,?_,a62 hown hYs⟩
       simp
end Go.Fbs

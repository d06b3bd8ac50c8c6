/- Schemas read: a type: told. -/
import Derived.Test.YtnmcilaebamncaaKI
set_option linter.unusedVariables false
set_option linter.unusedSimpArgs false
set_option linter.unusedSectionVars false
set_option maxRecDepth 100000
namespace Go.Fbs
open Go.Proofs
attribute [local irreducible] dH opt wD bY a2v a0f eV qR
theorem aYe {s:bG} (h:(aW s).1=false):(aW s).2.2=none:=by
 unfold aW at h ⊢
 split at h
 ·simp at h
 ·rename_i hn; rw [if_neg hn]
theorem aNv:aE [.str [],.sl .ro []]=some (mO ([],[])):=nr rfl
noncomputable def aMt:Spec:=jJ (fun q:bG×Int=>[b7 q.1,vI q.2]) (fun q=>q.1.d=0) (fun q=>.aG [mO (oX q.2 q.1).2.2,.bool (oX q.2 q.1).1,b7 (oX q.2 q.1).2.1])
theorem bEg {s:bG} (h:s.d=0) (n:Int):aMt [b7 s,vI n]=some (.aG [mO (oX n s).2.2,.bool (oX n s).1,b7 (oX n s).2.1]):=hO (a:=(s,n)) b3v h
noncomputable abbrev TO1:List (FuncId×Spec):=[(j2,j3),(wT,pF),(bQ,cE),(tW,lT),(bU,dV),(sD,a4p)]
theorem b88 (s:bG) (n:Int) (hd:s.d=0):dH cG (bO TO1) 43 qO [.cell 4 35,.tmp 5] fZ (cB Try.f33) [b7 s,vI n] (fun r=>r=V.aG [mO (oX n s).2.2,.bool (oX n s).1,b7 (oX n s).2.1]):=by
 have c1:∀ args,bO TO1 j2 args=j3 args:=fun _=>rfl
 have c2:∀ args,bO TO1 wT args=pF args:=fun _=>rfl
 have c3:∀ args,bO TO1 bQ args=cE args:=fun _=>rfl
 have c4:∀ args,bO TO1 tW args=lT args:=fun _=>rfl
 have c5:∀ args,bO TO1 bU args=dV args:=fun _=>rfl
 have c6:∀ args,bO TO1 sD args=a4p args:=fun _=>rfl
 refine Eq.mpr (aCo (bO _) _ (bM s.l) (vI s.n) (vI s.at_) (vI s.e) (vI s.d) (eJ s.x) (vI n)) ?_
 unfold oX
 simp only [aC5,aC,c1,aU0,aO,List.getElem?_cons_zero,List.getElem?_cons_succ,jK,jZ,aR,aH]
 have g1:=a5v n 200 s
 generalize dL n 200 s=a at *
 obtain ⟨b1,t1⟩:=a
 simp only at g1 ⊢
 cases b1 with
 | false=>simp only [Bool.not_false,if_true,Bool.false_eq_true,if_false,aNv,aC]
 | true =>
 simp only [Bool.not_true,Bool.false_eq_true,if_false,if_true,aC,c2,bCo,aO,List.getElem?_cons_zero,List.getElem?_cons_succ,jK,jZ,aR,aH]
 have hne:=@aSx t1
 generalize a4l t1=w at *
 cases w with
 | false=>simp only [Bool.not_false,if_true,Bool.false_eq_true,if_false,aNv,aC,c3,a4m,aO,List.getElem?_cons_zero,List.getElem?_cons_succ,jK,jZ]
 | true =>
 have hne:=hne rfl
 simp only [Bool.not_true,Bool.false_eq_true,if_false,if_true,sl0 hne,a5s,aNv,aC,c4,b48,aO,List.getElem?_cons_zero,List.getElem?_cons_succ,jK,jZ,aU4,aR,aH]
 have g2:=yO (bW t1)
 have g2':(bW t1).d=t1.d:=rfl
 have g2n:=@aYe (bW t1)
 generalize aW (bW t1)=q at *
 obtain ⟨b2,t2,o2⟩:=q
 simp only at g2 g2n ⊢
 cases b2 with
 | false =>
  have e2:o2=none:=g2n rfl
  subst e2
  simp only [Bool.not_false,if_true,Bool.false_eq_true,if_false,jZ,aC,Option.getD_none]
 | true =>
 simp only [Bool.not_true,Bool.false_eq_true,if_false,if_true,aC,c5,a8b,aO,List.getElem?_cons_zero,List.getElem?_cons_succ,jK,jZ,aR,aH]
 have g3:=qQ [123] t2
 generalize cJ [123] t2=m at *
 obtain ⟨b3,t3⟩:=m
 simp only at g3 ⊢
 have hd3:t3.d=0:=by rw [g3.1,g2.1,g2',g1.1,hd]
 cases b3 with
 | false=>simp only [Bool.not_false,if_true,Bool.false_eq_true,if_false,aC]
 | true =>
 simp only [Bool.not_true,Bool.false_eq_true,if_false,if_true]
 rw [(eM t3).1,(eM t3).2.1,(eM t3).2.2.1,(eM t3).2.2.2.1,(eM t3).2.2.2.2.1,(eM t3).2.2.2.2.2]
 refine pM (fun vs=>∃ (t:bG) (l:List Rel),vs=[eJ t.x,z8 l,bM t.l,vI t.n,vI t.at_,vI t.e,vI t.d,.str (o2.getD [])]∧t.d=0∧mZ (t.l.length+1) t l=mZ (t3.l.length+1) t3 [])
  (fun vs=>match gv vs 2 with | .sl _ es=>es.length | _=>0) ⟨t3,[],rfl,hd3,rfl⟩ ?_
 rintro r _ ⟨t,l,rfl,htd,ht⟩ hr
 refine ⟨rfl,?_⟩
 rw [← ht]
 have hstep:mZ (t.l.length+1) t l=mZ (t.l.length+1) t l:=rfl
 conv at hstep=>rhs; unfold mZ
 simp only [cX,dF,aC5,aC,c5,a8b,aO,List.getElem?_cons_zero,List.getElem?_cons_succ,jK,jZ,aR,aH]
 have g4:=qQ [125] t
 generalize cJ [125] t=m at *
 obtain ⟨b4,t4⟩:=m
 simp only at g4 hstep ⊢
 cases b4 with
 | true =>
  simp only [if_true] at hstep
  rw [hstep]
  simp only [Bool.not_true,Bool.false_eq_true,if_false,a4o,aC,jZ]
 | false =>
  simp only [Bool.false_eq_true,if_false] at hstep
  have g5:=aAi t4 l
  have hd4:t4.d=0:=by rw [g4.1,htd]
  simp only [Bool.not_false,if_true,a4o,aC,c6,aYd hd4,aO,List.getElem?_cons_zero,List.getElem?_cons_succ,jK,aU4,jZ,aR,aH]
  generalize eV t4 l=q at *
  obtain ⟨b5,t5,l5⟩:=q
  simp only at g5 hstep ⊢
  cases b5 with
  | false =>
   simp only [Bool.false_eq_true,if_false] at hstep
   rw [hstep]
   simp only [Bool.not_false,if_true,jZ,aC]
  | true =>
   have g6:=g5.2.2 rfl
   simp only [if_true] at hstep
   simp only [Bool.not_true,Bool.false_eq_true,if_false]
   rw [(eM t5).1,(eM t5).2.1,(eM t5).2.2.1,(eM t5).2.2.2.1,(eM t5).2.2.2.2.1,(eM t5).2.2.2.2.2]
   refine hr _ ⟨t5,l5,rfl,by rw [g5.1,hd4],?_⟩ (by simp only [cX,dF,bM,List.length_map]; omega)
   rw [← ht,hstep]
   exact aC8 t5.l.length _ _ _ _ (Nat.le_refl _) (Nat.lt_succ_self _) (by omega)
theorem b89:eY Try.prog a4e fZ aMt:=by
 refine a96 (T:=TO1) (aK.eK uF (aK.eK aAh (aK.eK iM (aK.eK a8d (aK.eK lO (aK.eK aRo aK.nil)))))) fun words v hv=>?_
 obtain ⟨⟨s,n⟩,rfl,hd,rfl⟩:=fA hv
 exact ⟨_,rfl,rfl,by simp [aN,cU,V.aV],by simp [aN,cU,a6z,V.aV],rfl,rfl,b88 s n hd⟩
end Go.Fbs

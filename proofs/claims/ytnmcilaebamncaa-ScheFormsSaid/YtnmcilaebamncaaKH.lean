/- Schemas read: subjects, relations: told. -/
import Derived.Test.YtnmcilaebamncaaKG
set_option linter.unusedVariables false
set_option linter.unusedSimpArgs false
set_option linter.unusedSectionVars false
set_option maxRecDepth 100000
namespace Go.Fbs
open Go.Proofs
theorem aSy (l:List Sub):(l.map qE).all (fun e=>e.cells.length == 3)=true:=by simp [qE,V.cells]
theorem aSz (l:List Rel):(l.map mC).all (fun e=>e.cells.length == 3)=true:=by simp [mC,V.cells]
theorem aS0 (l:List sR):(l.map mO).all (fun e=>e.cells.length == 2)=true:=by simp [mO,V.cells]
theorem b80 (l:List Sub):gD (xR l)=some (vI l.length):=by simp [gD,xR]
theorem b81 (l:List Rel):gD (z8 l)=some (vI l.length):=by simp [gD,z8]
theorem aNu (l:List sR):gD (a2w l)=some (vI l.length):=by simp [gD,a2w]
theorem aX6 {l:List Sub} (h:l.length < 1000) (x:Sub):jW 3 48 (xR l) (.sl .ro [qE x])=some (xR (l++[x])):=by
 show jW 3 48 (.sl .ro (l.map qE)) (.sl .ro ([x].map qE))=some (.sl .ro ((l++[x]).map qE))
 rw [aHz (by simp only [List.length_map,List.length_singleton]; omega) (aSy _) (aSy [x]),List.map_append]
theorem aX7 {l:List Rel} (h:l.length < 1000) (x:Rel):jW 3 64 (z8 l) (.sl .ro [mC x])=some (z8 (l++[x])):=by
 show jW 3 64 (.sl .ro (l.map mC)) (.sl .ro ([x].map mC))=some (.sl .ro ((l++[x]).map mC))
 rw [aHz (by simp only [List.length_map,List.length_singleton]; omega) (aSz _) (aSz [x]),List.map_append]
theorem b82 {l:List sR} (h:l.length < 1000) (x:sR):jW 2 40 (a2w l) (.sl .ro [mO x])=some (a2w (l++[x])):=by
 show jW 2 40 (.sl .ro (l.map mO)) (.sl .ro ([x].map mO))=some (.sl .ro ((l++[x]).map mO))
 rw [aHz (by simp only [List.length_map,List.length_singleton]; omega) (aS0 _) (aS0 [x]),List.map_append]
theorem aX8 (x:Sub):lG 3 [qE x]=some (.sl .ro [qE x]):=nr rfl
theorem aX9 (x:Rel):lG 3 [mC x]=some (.sl .ro [mC x]):=nr rfl
theorem b83 (x:sR):lG 2 [mO x]=some (.sl .ro [mO x]):=nr rfl
theorem b84:aE [.str [],.str [],.str []]=some (qE ([],[],[])):=nr rfl
theorem bCq (p:Sub):aE [a7 (qE p) 0,a7 (qE p) 1,a7 (qE p) 2]=some (qE p):=nr rfl
theorem b3y (p:Sub):bP 3 (qE p)=some (qE p):=nr rfl
theorem aMs (n:List UInt8) (l:List Sub) (x:List yM):aE [.str n,xR l,eJ x]=some (mC (n,l,x)):=nr rfl
theorem b45 (s:bG) (p:Sub):lU [b7 s,qE p]=some (.aG [.bool (aW s).1,b7 (aW s).2.1,qE ((aW s).2.2.getD p.1,p.2.1,p.2.2)]):=by
 have:=b8u s (b0:=.str p.1) (b1:=.str p.2.1) (b2:=.str p.2.2) rfl rfl rfl rfl rfl rfl
 rw [a11] at this; exact this
theorem b46 (s:bG) (p:Sub):iQ [b7 s,qE p]=some (.aG [.bool (aW s).1,b7 (aW s).2.1,qE (p.1,p.2.1,(aW s).2.2.getD p.2.2)]):=by
 have:=aX0 s (b0:=.str p.1) (b1:=.str p.2.1) (b2:=.str p.2.2) rfl rfl rfl rfl rfl rfl
 rw [a11] at this; exact this
noncomputable def a4n:Spec:=jJ (fun q:bG×Rel=>[b7 q.1,mC q.2]) (fun _=>True) (fun q=>.aG [.bool (qR q.1 q.2.2.1).1,b7 (qR q.1 q.2.2.1).2.1,mC (q.2.1,(qR q.1 q.2.2.1).2.2,q.2.2.2)])
theorem aYa (s:bG) (r:Rel):a4n [b7 s,mC r]=some (.aG [.bool (qR s r.2.1).1,b7 (qR s r.2.1).2.1,mC (r.1,(qR s r.2.1).2.2,r.2.2)]):=hO (a:=(s,r)) (fun a b h=>by
 simp only [List.cons.injEq,and_true] at h
 exact Prod.ext (qX h.1) (aNt h.2)) trivial
noncomputable abbrev TB1:List (FuncId×Spec):=[(j2,j3),(tX,lU),(l9,iQ),(bU,dV)]
theorem aRm:eY Try.prog yL eT a4n:=by
 refine a4j (T:=TB1) (aK.eK uF (aK.eK a8e (aK.eK yN (aK.eK lO aK.nil)))) fun words v hv=>?_
 have c1:∀ args,bO TB1 j2 args=j3 args:=fun _=>rfl
 have c2:∀ args,bO TB1 tX args=lU args:=fun _=>rfl
 have c3:∀ args,bO TB1 l9 args=iQ args:=fun _=>rfl
 have c5:∀ args,bO TB1 bU args=dV args:=fun _=>rfl
 obtain ⟨⟨s,nm,subs,ex⟩,rfl,_,rfl⟩:=fA hv
 refine ⟨_,rfl,rfl,by simp [aN,cU,aC6],by simp [aN,cU,aC6,V.aV],rfl,rfl,?_⟩
 refine Eq.mpr (a5r (bO _) _ (bM s.l) (vI s.n) (vI s.at_) (vI s.e) (vI s.d) (eJ s.x) (.str nm) (xR subs) (eJ ex)) ?_
 dsimp only
 refine pM (fun vs=>∃ (t:bG) (l:List Sub) (more:Bool),vs=[eJ t.x,xR l,.bool more,bM t.l,vI t.n,vI t.at_,vI t.e,vI t.d]∧(if more then kT (t.l.length+1) t l else (true,t,l))=qR s subs)
  (fun vs=>match gv vs 3 with | .sl _ es=>es.length | _=>0) ⟨s,subs,true,rfl,rfl⟩ ?_
 rintro r _ ⟨t,l,more,rfl,ht⟩ hr
 refine ⟨rfl,?_⟩
 rw [← ht]
 simp only [cX,dF,aH]
 cases more with
 | false=>simp only [Bool.false_eq_true,if_false,aC5,aC,aMs]
 | true =>
  simp only [if_true,b80,aC5,aC,c1,aU0,aO,List.getElem?_cons_zero,List.getElem?_cons_succ,jK,jZ,aR,aH]
  simp only [if_true] at ht
  have hstep:kT (t.l.length+1) t l=kT (t.l.length+1) t l:=rfl
  conv at hstep=>rhs; unfold kT
  have g1:=a5v l.length 50 t
  generalize ha:dL l.length 50 t=a at *
  obtain ⟨b1,t1⟩:=a
  simp only at g1 hstep ⊢
  cases b1 with
  | false =>
   simp only [Bool.false_eq_true,if_false] at hstep
   rw [hstep]
   simp only [Bool.not_false,if_true,aMs,aC]
  | true =>
   have hlt:l.length < 1000:=by have:=(g1.2.2 rfl).1; omega
   simp only [if_true] at hstep
   simp only [Bool.not_true,Bool.false_eq_true,if_false,b84,aC,c2,b45,aO,List.getElem?_cons_zero,List.getElem?_cons_succ,jK,jZ,b3y,aR,aH]
   have g2:=aJ8 (s:=t1)
   generalize hn:aW t1=n at *
   obtain ⟨b2,t2,o2⟩:=n
   simp only at g2 hstep ⊢
   cases b2 with
   | false =>
    simp only [Bool.false_eq_true,if_false] at hstep
    rw [hstep]
    simp only [Bool.not_false,if_true,aMs,aC]
   | true =>
    have g2:=g2 rfl
    simp only [if_true] at hstep
    simp only [Bool.not_true,Bool.false_eq_true,if_false,aC,c5,a8b,aO,List.getElem?_cons_zero,List.getElem?_cons_succ,jK,jZ,ckB,aH]
    have g3:=qQ [35] t2
    generalize hm:cJ [35] t2=m at *
    obtain ⟨b3,t3⟩:=m
    simp only at g3 hstep ⊢
    have next:∀ (x:Sub) (t4:bG),t4.l.length < t.l.length→kT (t.l.length+1) t l=(let b:=cJ [124] t4; if b.1 then kT t.l.length b.2 (l++[x]) else (true,b.2,l++[x])) →
      r [a7 (b7 (cJ [124] t4).2) 5,xR (l++[x]),.bool (cJ [124] t4).1,a7 (b7 (cJ [124] t4).2) 0,a7 (b7 (cJ [124] t4).2) 1,a7 (b7 (cJ [124] t4).2) 2,a7 (b7 (cJ [124] t4).2) 3,a7 (b7 (cJ [124] t4).2) 4]:=by
     intro x t4 h4 hs
     have g5:=qQ [124] t4
     generalize cJ [124] t4=q at *
     obtain ⟨b5,t5⟩:=q
     simp only at g5 hs ⊢
     refine hr _ ⟨t5,l++[x],b5,rfl,?_⟩ (by
      rw [(eM t5).1]
      simp only [cX,dF,bM,List.length_map]; omega)
     rw [← ht,hs]
     cases b5 with
     | false=>rfl
     | true =>
      simp only [if_true]
      exact a5w t5.l.length _ _ _ _ (Nat.le_refl _) (Nat.lt_succ_self _) (by omega)
    have hl1:t1.l.length=t.l.length:=by rw [g1.2.1]
    cases b3 with
    | false =>
     simp only [Bool.false_eq_true,if_false] at hstep
     simp only [Bool.false_eq_true,if_false,aX8,aX6 hlt,aC,jZ,c5,a8b,aO,List.getElem?_cons_zero,List.getElem?_cons_succ,jK]
     exact next _ t3 (by omega) hstep
    | true =>
     simp only [if_true] at hstep
     simp only [if_true,bCq,aC,c3,b46,aO,List.getElem?_cons_zero,List.getElem?_cons_succ,jK,b3y,jZ,aR,aH]
     have g4:=yO t3
     generalize hq:aW t3=q at *
     obtain ⟨b4,t4,o4⟩:=q
     simp only at g4 hstep ⊢
     cases b4 with
     | false =>
      simp only [Bool.false_eq_true,if_false] at hstep
      rw [hstep]
      simp only [Bool.not_false,if_true,aMs,aC]
     | true =>
      simp only [if_true] at hstep
      simp only [Bool.not_true,Bool.false_eq_true,if_false,aX8,aX6 hlt,aC,c5,a8b,aO,List.getElem?_cons_zero,List.getElem?_cons_succ,jK]
      exact next _ t4 (by omega) hstep
end Go.Fbs

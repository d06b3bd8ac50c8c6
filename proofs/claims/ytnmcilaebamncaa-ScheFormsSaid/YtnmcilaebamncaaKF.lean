/- Schemas read: terms, sums: told. -/
import Derived.Test.YtnmcilaebamncaaKE
set_option linter.unusedVariables false
set_option linter.unusedSimpArgs false
set_option linter.unusedSectionVars false
set_option maxRecDepth 100000
namespace Go.Fbs
open Go.Proofs
theorem aC5 (s:bG):aE [bM s.l,vI s.n,vI s.at_,vI s.e,vI s.d,eJ s.x]=some (b7 s):=nr rfl
theorem eM (s:bG):a7 (b7 s) 0=bM s.l∧a7 (b7 s) 1=vI s.n∧a7 (b7 s) 2=vI s.at_∧a7 (b7 s) 3=vI s.e∧a7 (b7 s) 4=vI s.d∧a7 (b7 s) 5=eJ s.x:=⟨rfl,rfl,rfl,rfl,rfl,rfl⟩
noncomputable abbrev TT1 (f:Nat):List (FuncId×Spec):=[(pD,zO f),(aM,bH),(bU,dV),(iG,jC)]
theorem aE0 (f:Nat) (hfac:eY Try.prog mM cY (zO f)):eY Try.prog rC eW (a5u f):=by
 refine a88 (T:=TT1 f) (aK.eK hfac (aK.eK fO (aK.eK lO (aK.eK wC aK.nil)))) fun words v hv=>?_
 have c1:∀ args,bO (TT1 f) pD args=zO f args:=fun _=>rfl
 have c2:∀ args,bO (TT1 f) aM args=bH args:=fun _=>rfl
 have c5:∀ args,bO (TT1 f) bU args=dV args:=fun _=>rfl
 have c8:∀ args,bO (TT1 f) iG args=jC args:=fun _=>rfl
 obtain ⟨s,rfl,⟨hd,hf⟩,rfl⟩:=fA hv
 refine ⟨_,rfl,rfl,by simp [aN,cU,V.aV],by simp [aN,cU,V.aV],rfl,rfl,?_⟩
 refine Eq.mpr (aAf (bO _) _ (bM s.l) (vI s.n) (vI s.at_) (vI s.e) (vI s.d) (eJ s.x)) ?_
 have gd:=aC3 f
 simp only [zM,aC,c1,aSw (show okF f s from ⟨hd,hf⟩),aO,List.getElem?_cons_zero,List.getElem?_cons_succ,jK,jZ,aR,aH]
 unfold fS
 have hd1:=gd.d s
 generalize hr:bY f s=r at *
 obtain ⟨b,s1⟩:=r
 simp only at hd1 ⊢
 cases b with
 | false=>simp only [Bool.not_false,if_true,Bool.false_eq_true,if_false]
 | true =>
  simp only [Bool.not_true,Bool.false_eq_true,if_false,if_true,c2,xQ,aC,aO,List.getElem?_cons_zero,List.getElem?_cons_succ,jK,pT1]
  refine pM (fun vs=>∃ (a:Nat) (t:bG),vs=[eJ t.x,vI a,bM t.l,vI t.n,vI t.at_,vI t.e,vI t.d]∧t.d=s.d∧t.l.length≤s1.l.length∧kX (bY f) (t.l.length+1) a t=kX (bY f) (s1.l.length+1) (cI s1).2.1 s1)
   (fun vs=>match gv vs 2 with | .sl _ es=>es.length | _=>0) ⟨_,s1,rfl,hd1,Nat.le_refl _,rfl⟩ ?_
  rintro r _ ⟨a,t,rfl,htd,htl,ht⟩ hr
  refine ⟨rfl,?_⟩
  rw [← ht]
  simp only [cX,dF,aC5,aC,c5,a8b,aO,List.getElem?_cons_zero,List.getElem?_cons_succ,jK,aH]
  unfold kX
  have hm1:=qQ [38] t
  have hm2:=aX1 (g:=[38]) (s:=t)
  generalize hm:cJ [38] t=m at *
  obtain ⟨b2,t2⟩:=m
  simp only at hm1 hm2 ⊢
  cases b2 with
  | false=>simp only [Bool.false_eq_true,if_false,jZ,aC]
  | true =>
   have hm2:=hm2 rfl
   have hok:okF f t2:=⟨by omega,by omega⟩
   have e1:=gd.d t2
   have e2:=gd.l t2
   simp only [if_true,jZ,aC,c1,aSw hok,aO,List.getElem?_cons_zero,List.getElem?_cons_succ,jK,aR,aU2,aH]
   generalize hq:bY f t2=q at *
   obtain ⟨b3,t3⟩:=q
   simp only at e1 e2 ⊢
   cases b3 with
   | false=>simp only [Bool.not_false,if_true,Bool.false_eq_true,if_false]
   | true =>
    have e3:=a6x (5,[],[]) a t3
    simp only [Bool.not_true,Bool.false_eq_true,if_false,if_true,c8,aU1,aC,aO,List.getElem?_cons_zero,List.getElem?_cons_succ,jK,jZ,aR,aH]
    generalize hp:tC (5,[],[]) a t3=u at *
    obtain ⟨b4,t4⟩:=u
    simp only at e3 ⊢
    cases b4 with
    | false=>simp only [Bool.not_false,if_true,Bool.false_eq_true,if_false]
    | true =>
     simp only [Bool.not_true,Bool.false_eq_true,if_false,if_true,c2,xQ,aC,aO,List.getElem?_cons_zero,List.getElem?_cons_succ,jK,pT1]
     rw [(eM t4).1,(eM t4).2.1,(eM t4).2.2.1,(eM t4).2.2.2.1,(eM t4).2.2.2.2.1,(eM t4).2.2.2.2.2]
     have hl4:t4.l.length < t.l.length:=by rw [e3.2]; omega
     have e5:=aB3 gd t4.l.length t.l.length (t4.l.length+1) (cI t4).2.1 t4 (Nat.le_refl _) hl4 (Nat.lt_succ_self _)
     have ht':kX (bY f) (t4.l.length+1) (cI t4).2.1 t4=kX (bY f) (s1.l.length+1) (cI s1).2.1 s1:=by
      rw [← ht]
      conv=>rhs; unfold kX
      simp only [hm,if_true,hq,hp]
      rw [e5]
     exact hr _ ⟨_,t4,rfl,by rw [e3.1,e1]; omega,by omega,ht'⟩ (by simp only [cX,dF,bM,List.length_map]; exact hl4)
noncomputable abbrev TS1 (f:Nat):List (FuncId×Spec):=[(oJ,a5u f),(gM,iP),(aM,bH),(bU,dV),(iG,jC)]
theorem b44 {s:bG} (h:nD [43] s=true):nD [45] s=false:=by
 simp only [nD,Bool.and_eq_true,beq_iff_eq] at h
 simp [nD,h.2]
theorem aX4 (f:Nat) (hter:eY Try.prog rC eW (a5u f)):eY Try.prog pA eR (a2v f):=by
 refine aAe (T:=TS1 f) (aK.eK hter (aK.eK rE (aK.eK fO (aK.eK lO (aK.eK wC aK.nil))))) fun words v hv=>?_
 have c1:∀ args,bO (TS1 f) oJ args=a5u f args:=fun _=>rfl
 have c2:∀ args,bO (TS1 f) aM args=bH args:=fun _=>rfl
 have c3:∀ args,bO (TS1 f) gM args=iP args:=fun _=>rfl
 have c5:∀ args,bO (TS1 f) bU args=dV args:=fun _=>rfl
 have c8:∀ args,bO (TS1 f) iG args=jC args:=fun _=>rfl
 obtain ⟨s,rfl,⟨hd,hf⟩,rfl⟩:=fA hv
 refine ⟨_,rfl,rfl,by simp [aN,cU,V.aV],by simp [aN,cU,V.aV],rfl,rfl,?_⟩
 refine Eq.mpr (aCr (bO _) _ (bM s.l) (vI s.n) (vI s.at_) (vI s.e) (vI s.d) (eJ s.x)) ?_
 have gd:=a6y (aC3 f)
 simp only [zM,aC,c1,b3w (show okF f s from ⟨hd,hf⟩),aO,List.getElem?_cons_zero,List.getElem?_cons_succ,jK,jZ,aR,aH]
 unfold qP
 have hd1:=gd.d s
 generalize hr:fS (bY f) s=r at *
 obtain ⟨b,s1⟩:=r
 simp only at hd1 ⊢
 cases b with
 | false=>simp only [Bool.not_false,if_true,Bool.false_eq_true,if_false]
 | true =>
  simp only [Bool.not_true,Bool.false_eq_true,if_false,if_true]
  refine pM (fun vs=>∃ (t:bG),vs=[eJ t.x,bM t.l,vI t.n,vI t.at_,vI t.e,vI t.d]∧t.d=s.d∧t.l.length≤s1.l.length∧jV (fS (bY f)) (t.l.length+1) t=jV (fS (bY f)) (s1.l.length+1) s1)
   (fun vs=>match gv vs 1 with | .sl _ es=>es.length | _=>0) ⟨s1,rfl,hd1,Nat.le_refl _,rfl⟩ ?_
  rintro r _ ⟨t,rfl,htd,htl,ht⟩ hr
  refine ⟨rfl,?_⟩
  rw [← ht]
  simp only [cX,dF,aC5,aC,c3,Fis,aO,List.getElem?_cons_zero,List.getElem?_cons_succ,jK,jZ,ckB,aH]
  have step:∀ (kd:Int),nD [43] t=true∨nD [45] t=true→kd=(if nD [43] t=true then 3 else 4) →
    (opt (a5u f [b7 (bW t)]) fun y40=>opt (aA y40 0) fun y41=>opt (aA y40 1) fun y42=>opt (bP 6 y42) fun y43=>opt (k9 .not y41) fun y44=>opt (aE [vI kd,.str [],.str []]) fun y45 =>
     cZ y44 (opt (aE [(a7 y43 0),(a7 y43 1),(a7 y43 2),(a7 y43 3),(a7 y43 4),(a7 y43 5)]) fun y46=>(.aG [(.bool false),y46]=V.aG [.bool (jV (fS (bY f)) (t.l.length+1) t).1,b7 (jV (fS (bY f)) (t.l.length+1) t).2]))
     (opt (aE [(a7 y43 0),(a7 y43 1),(a7 y43 2),(a7 y43 3),(a7 y43 4),(a7 y43 5)]) fun y46=>opt (bO (TS1 f) iG [y46,y45,vI (cI t).2.1]) fun y47=>opt (aA y47 0) fun y48=>opt (aA y47 1) fun y49=>opt (bP 6 y49) fun y50=>opt (k9 .not y48) fun y51 =>
      cZ y51 (opt (aE [(a7 y50 0),(a7 y50 1),(a7 y50 2),(a7 y50 3),(a7 y50 4),(a7 y50 5)]) fun y52=>(.aG [(.bool false),y52]=V.aG [.bool (jV (fS (bY f)) (t.l.length+1) t).1,b7 (jV (fS (bY f)) (t.l.length+1) t).2]))
      (r [(a7 y50 5),(a7 y50 0),(a7 y50 1),(a7 y50 2),(a7 y50 3),(a7 y50 4)]))):=by
   intro kd hsg hkd
   have hne:t.l≠[]:=by rcases hsg with h | h <;> exact aMr h
   have h3:=aC0 hne
   have hok:okF f (bW t):=⟨by show t.d≤20; omega,by show 21≤t.d+f; omega⟩
   have e1:=gd.d (bW t)
   have e2:=gd.l (bW t)
   have hsum:jV (fS (bY f)) (t.l.length+1) t=(let r:=fS (bY f) (bW t); if r.1 then let q:=tC (kd,[],[]) (cI t).2.1 r.2; if q.1 then jV (fS (bY f)) t.l.length q.2 else (false,q.2) else (false,r.2)):=by
    conv=>lhs; unfold jV
    rw [if_pos (by simpa using hsg),← hkd]
   rw [hsum]
   simp only [aC,b3w hok,aO,List.getElem?_cons_zero,List.getElem?_cons_succ,jK,aR,aU2,aH,jZ]
   generalize hq:fS (bY f) (bW t)=q at *
   obtain ⟨b3,t3⟩:=q
   simp only at e1 e2 ⊢
   cases b3 with
   | false=>simp only [Bool.not_false,if_true,Bool.false_eq_true,if_false]
   | true =>
    have e3:=a6x (kd,[],[]) (cI t).2.1 t3
    simp only [Bool.not_true,Bool.false_eq_true,if_false,if_true,c8,aU1,aC,aO,List.getElem?_cons_zero,List.getElem?_cons_succ,jK,jZ,aR,aH]
    generalize hp:tC (kd,[],[]) (cI t).2.1 t3=u at *
    obtain ⟨b4,t4⟩:=u
    simp only at e3 ⊢
    cases b4 with
    | false=>simp only [Bool.not_false,if_true,Bool.false_eq_true,if_false]
    | true =>
     simp only [Bool.not_true,Bool.false_eq_true,if_false]
     rw [(eM t4).1,(eM t4).2.1,(eM t4).2.2.1,(eM t4).2.2.2.1,(eM t4).2.2.2.2.1,(eM t4).2.2.2.2.2]
     have hl4:t4.l.length < t.l.length:=by rw [e3.2]; omega
     have e5:=aC4 gd t4.l.length t.l.length (t4.l.length+1) t4 (Nat.le_refl _) hl4 (Nat.lt_succ_self _)
     refine hr _ ⟨t4,rfl,?_,by omega,?_⟩ (by simp only [cX,dF,bM,List.length_map]; exact hl4)
     ·rw [e3.1,e1]; exact htd
     ·rw [← ht,hsum]
      simp only [hq,hp,if_true]
      exact e5.symm
  have pm:∀ g,nD g t=true→cJ g t=(true,bW t):=fun g h=>by simp [cJ,h]
  have pf:∀ g,nD g t=false→cJ g t=(false,t):=fun g h=>by simp [cJ,h]
  cases h1:nD [43] t with
  | true =>
   have h2:=b44 h1
   simp only [if_true,c2,xQ,aC,aO,List.getElem?_cons_zero,List.getElem?_cons_succ,jK,jZ,pT1,c5,a8b,pm _ h1,aR,Bool.not_true,wW,aH,Bool.false_eq_true,if_false,List.length_cons,List.length_nil,cX,dF,true_and]
   have:=step 3 (.inl h1) (by rw [if_pos h1])
   exact this
  | false =>
   cases h2:nD [45] t with
   | true =>
    simp only [Bool.false_eq_true,if_false,if_true,c3,Fis,h2,c2,xQ,aC,aO,List.getElem?_cons_zero,List.getElem?_cons_succ,jK,jZ,pT1,c5,a8b,pf _ h1,pm _ h2,aR,Bool.not_false,wW,aH,List.length_cons,List.length_nil,cX,dF,true_and]
    have:=step 4 (.inr h2) (by rw [if_neg (by rw [h1]; simp)])
    exact this
   | false =>
    have hend:jV (fS (bY f)) (t.l.length+1) t=(true,t):=by
     unfold jV
     rw [if_neg (by rw [h1,h2]; simp)]
    rw [hend]
    simp only [Bool.false_eq_true,if_false,c3,Fis,h2,aC,aO,List.getElem?_cons_zero,List.getElem?_cons_succ,jK,jZ,aH]
theorem aX5:∀ f,eY Try.prog mM cY (zO f)∧eY Try.prog rC eW (a5u f)∧eY Try.prog pA eR (a2v f)
 | 0=>by
  have h:eY Try.prog mM cY (zO 0):=by
   refine yC (T:=[]) aK.nil fun words v hv=>?_
   obtain ⟨s,rfl,⟨h1,h2⟩,rfl⟩:=fA hv
   omega
  exact ⟨h,aE0 0 h,aX4 0 (aE0 0 h)⟩
 | f+1=>by
  have h:=aX2 f (aX5 f).2.2
  exact ⟨h,aE0 (f+1) h,aX4 (f+1) (aE0 (f+1) h)⟩
end Go.Fbs

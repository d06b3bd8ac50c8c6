/- Schemas read: factors, terms, sums: told. -/
import Derived.Test.YtnmcilaebamncaaKD
set_option linter.unusedVariables false
set_option linter.unusedSimpArgs false
set_option linter.unusedSectionVars false
set_option maxRecDepth 100000
namespace Go.Fbs
open Go.Proofs
def okF (f:Nat) (s:bG):Prop:=s.d≤20∧21≤s.d+f
noncomputable def zO (f:Nat):Spec:=jJ (fun s:bG=>[b7 s]) (okF f) (fun s=>.aG [.bool (bY f s).1,b7 (bY f s).2])
noncomputable def a5u (f:Nat):Spec:=jJ (fun s:bG=>[b7 s]) (okF f) (fun s=>.aG [.bool (fS (bY f) s).1,b7 (fS (bY f) s).2])
noncomputable def a2v (f:Nat):Spec:=jJ (fun s:bG=>[b7 s]) (okF f) (fun s=>.aG [.bool (qP (fS (bY f)) s).1,b7 (qP (fS (bY f)) s).2])
theorem aSw {f:Nat} {s:bG} (h:okF f s):zO f [b7 s]=some (.aG [.bool (bY f s).1,b7 (bY f s).2]):=hO aNq h
theorem b3w {f:Nat} {s:bG} (h:okF f s):a5u f [b7 s]=some (.aG [.bool (fS (bY f) s).1,b7 (fS (bY f) s).2]):=hO aNq h
theorem b8w {f:Nat} {s:bG} (h:okF f s):a2v f [b7 s]=some (.aG [.bool (qP (fS (bY f)) s).1,b7 (qP (fS (bY f)) s).2]):=hO aNq h
theorem b0s (p:yM):aE [a7 (lQ p) 0,a7 (lQ p) 1,a7 (lQ p) 2]=some (lQ p):=nr rfl
theorem b8x (p:yM):bP 3 (lQ p)=some (lQ p):=nr rfl
theorem bCp (p:yM) (k:Int):aE [vI k,a7 (lQ p) 1,a7 (lQ p) 2]=some (lQ (k,p.2.1,p.2.2)):=nr rfl
theorem aU2 (k:Int):aE [vI k,.str [],.str []]=some (lQ (k,[],[])):=nr rfl
theorem a11 (o:Option (List UInt8)) (x:List UInt8):nJ o (.str x) = .str (o.getD x):=by cases o <;> rfl
theorem b42 (s:bG) (p:yM):lV [b7 s,lQ p]=some (.aG [.bool (aW s).1,b7 (aW s).2.1,lQ (p.1,(aW s).2.2.getD p.2.1,p.2.2)]):=by
 have:=b8v s (b0:=vI p.1) (b1:=.str p.2.1) (b2:=.str p.2.2) rfl rfl rfl rfl rfl rfl
 rw [a11] at this; exact this
theorem b43 (s:bG) (p:yM):iQ [b7 s,lQ p]=some (.aG [.bool (aW s).1,b7 (aW s).2.1,lQ (p.1,p.2.1,(aW s).2.2.getD p.2.2)]):=by
 have:=aX0 s (b0:=vI p.1) (b1:=.str p.2.1) (b2:=.str p.2.2) rfl rfl rfl rfl rfl rfl
 rw [a11] at this; exact this
theorem agD (s:bG) (d:Nat):aE [a7 (b7 s) 0,a7 (b7 s) 1,a7 (b7 s) 2,a7 (b7 s) 3,vI d,a7 (b7 s) 5]=some (b7 { s with d:=d }):=nr rfl
theorem eqD (s:bG):aS .eql (a7 (b7 s) 4) (vI 20)=some (.bool (decide (s.d=20))):=by
 have:a7 (b7 s) 4=vI s.d:=rfl
 rw [this,fL]
 congr 2
 rw [decide_eq_decide]; omega
theorem bEf {s:bG} (h:s.d≤30):aS .add (a7 (b7 s) 4) (vI 1)=some (vI (s.d+1:Nat)):=by
 have:a7 (b7 s) 4=vI s.d:=rfl
 rw [this,fY,vQ (by omega) (by omega)]; rfl
theorem b8z {s:bG} (h:1≤s.d) (h2:s.d≤30):aS .sub (a7 (b7 s) 4) (vI 1)=some (vI (s.d - 1:Nat)):=by
 have:a7 (b7 s) 4=vI s.d:=rfl
 rw [this,gJ,vQ (by omega) (by omega)]
 congr 2; omega
noncomputable abbrev TF (f:Nat):List (FuncId×Spec):=[(gM,iP),(aM,bH),(bQ,cE),(hJ,j4),(bU,dV),
 (tY,lV),(l9,iQ),(iG,jC),(mY,a2v f)]
theorem aX2 (f:Nat) (hsum:eY Try.prog pA eR (a2v f)):eY Try.prog mM cY (zO (f+1)):=by
 refine yC (T:=TF f) (aK.eK rE (aK.eK fO (aK.eK iM (aK.eK uG (aK.eK lO (aK.eK a8f (aK.eK yN (aK.eK wC (aK.eK hsum aK.nil))))))))) fun words v hv=>?_
 have c1:∀ args,bO (TF f) gM args=iP args:=fun _=>rfl
 have c2:∀ args,bO (TF f) aM args=bH args:=fun _=>rfl
 have c3:∀ args,bO (TF f) bQ args=cE args:=fun _=>rfl
 have c4:∀ args,bO (TF f) hJ args=j4 args:=fun _=>rfl
 have c5:∀ args,bO (TF f) bU args=dV args:=fun _=>rfl
 have c6:∀ args,bO (TF f) tY args=lV args:=fun _=>rfl
 have c7:∀ args,bO (TF f) l9 args=iQ args:=fun _=>rfl
 have c8:∀ args,bO (TF f) iG args=jC args:=fun _=>rfl
 have c9:∀ args,bO (TF f) mY args=a2v f args:=fun _=>rfl
 obtain ⟨s,rfl,⟨hd,hf⟩,rfl⟩:=fA hv
 refine ⟨_,rfl,rfl,by simp [aN,cU,V.aV],by simp [aN,cU,V.aV],rfl,rfl,?_⟩
 refine Eq.mpr (a8a (bO _) _ (bM s.l) (vI s.n) (vI s.at_) (vI s.e) (vI s.d) (eJ s.x)) ?_
 rw [show bY (f+1) s=nK (qP (fS (bY f))) s from rfl]
 simp only [if_true,if_false,Bool.false_eq_true,Bool.true_eq_false,reduceCtorEq,aC,eG,jN,jO,jP,jQ,gU,dW,jR,gN,jB,fU,V.bool.injEq,Bool.true_and,Bool.and_true,Bool.false_and,Bool.and_false,Bool.true_or,Bool.or_true,Bool.false_or,Bool.or_false,Bool.not_true,Bool.not_false,aH,bF,aX,aR,bI,aY,gO,gP,fX,gH,fL,gI,fY,gJ,gQ,gR,gS,gT,cM,eH,eI,aO,bJ,bK,cK,cN,cX,dF,zM,c1,Fis,List.getElem?_cons_zero,List.getElem?_cons_succ,jK,jZ]
 unfold nK
 cases hi:nD [40] s with
 | true =>
  simp only [Bool.not_true,Bool.false_eq_true,if_false,if_true,eqD,aC,aH]
  by_cases h20:s.d=20
  ·simp only [h20,decide_true,if_true,c3,a4m,aC,aO,List.getElem?_cons_zero,List.getElem?_cons_succ,jK,jZ]
  ·simp only [h20,decide_false,Bool.false_eq_true,if_false,bEf (show s.d≤30 by omega),aC,agD]
   have hs:lK [40] { s with d:=s.d+1 } = (true,bW { s with d:=s.d+1 }):=by
    unfold lK
    rw [if_pos (show nD [40] { s with d:=s.d+1 } = true from hi)]
   have hok:okF f (bW { s with d:=s.d+1 }):=⟨by show s.d+1≤20; omega,by show 21≤s.d+1+f; omega⟩
   simp only [c4,aEz,hs,aC,aO,List.getElem?_cons_zero,List.getElem?_cons_succ,jK,jZ,ckB,bF,c9,b8w hok]
   have hgd:(qP (fS (bY f)) (bW { s with d:=s.d+1 })).2.d=s.d+1:=(aGr (a6y (aC3 f))).d _
   generalize qP (fS (bY f)) (bW { s with d:=s.d+1 })=r at *
   obtain ⟨b,s2⟩:=r
   simp only at hgd ⊢
   cases b with
   | true =>
    have h5:=(aC1 [41] s2).1
    simp only [bF,if_true,aC,aEz,aO,List.getElem?_cons_zero,List.getElem?_cons_succ,jK,b8z (s:=(lK [41] s2).2) (by omega) (by omega),agD]
   | false =>
    simp only [aX,Bool.false_eq_true,if_false,aC,b8z (s:=s2) (by omega) (by omega),agD]
 | false =>
  simp only [Bool.not_false,Bool.false_eq_true,if_false,if_true,aC,aU2,c2,xQ,aO,List.getElem?_cons_zero,List.getElem?_cons_succ,jK,jZ,pT1,b0s,c6,b42,b8x,aR]
  generalize hr:aW s=r
  obtain ⟨b,s1,o⟩:=r
  simp only [aH]
  cases b with
  | false=>simp only [Bool.not_false,if_true,Bool.false_eq_true,if_false]
  | true =>
   simp only [Bool.not_true,Bool.false_eq_true,if_false,if_true,c5,a8b,aC,aO,List.getElem?_cons_zero,List.getElem?_cons_succ,jK,jZ,wW,aH]
   generalize hm:cJ [45,62] s1=m
   obtain ⟨b2,s2⟩:=m
   simp only
   cases b2 with
   | false =>
    simp only [Bool.false_eq_true,if_false,List.length_cons,List.length_nil,cX,dF,b0s,jZ,aC,c8,aU1,aO,List.getElem?_cons_zero,List.getElem?_cons_succ,jK,true_and]
   | true =>
    simp only [if_true,bCp,aC,c7,b43,aO,List.getElem?_cons_zero,List.getElem?_cons_succ,jK,b8x,aR,aH]
    generalize hq:aW s2=q
    obtain ⟨b3,s3,o3⟩:=q
    simp only
    cases b3 with
    | false=>simp only [Bool.not_false,if_true,jZ,aC,Bool.false_eq_true,if_false]
    | true =>
     simp only [Bool.not_true,Bool.false_eq_true,if_false,if_true,List.length_cons,List.length_nil,cX,dF,b0s,jZ,aC,c8,aU1,aO,List.getElem?_cons_zero,List.getElem?_cons_succ,jK,true_and]
end Go.Fbs

/- Schemas read: a relation: told. -/
import Derived.Test.YtnmcilaebamncaaKH
set_option linter.unusedVariables false
set_option linter.unusedSimpArgs false
set_option linter.unusedSectionVars false
set_option maxRecDepth 100000
namespace Go.Fbs
open Go.Proofs
theorem b0u {a b:sR} (h:mO a=mO b):a=b:=by
 obtain ⟨k,n⟩:=a
 obtain ⟨k',n'⟩:=b
 simp only [mO,z8,V.agg.injEq,List.cons.injEq,V.str.injEq,V.sl.injEq,and_true,true_and] at h
 obtain ⟨h1,h2⟩:=h
 rw [h1,zL (fun _ _=>aNt) h2]
theorem a4o (n:List UInt8) (l:List Rel):aE [.str n,z8 l]=some (mO (n,l)):=nr rfl
theorem aU4 (p:sR):bP 2 (mO p)=some (mO p):=nr rfl
theorem b3z (p:Rel):bP 3 (mC p)=some (mC p):=nr rfl
theorem b85:aE [.str [],.sl .ro [],.sl .ro []]=some (mC ([],[],[])):=nr rfl
theorem aYc (p:Rel):aE [a7 (mC p) 0,a7 (mC p) 1,a7 (mC p) 2]=some (mC p):=nr rfl
theorem b86 (p:Rel) (x:List yM):aE [a7 (mC p) 0,a7 (mC p) 1,eJ x]=some (mC (p.1,p.2.1,x)):=nr rfl
theorem bCr (s:bG):aE [a7 (b7 s) 0,a7 (b7 s) 1,a7 (b7 s) 2,a7 (b7 s) 3,a7 (b7 s) 4,.sl .ro []]=some (b7 { s with x:=[] }):=nr rfl
theorem b47 (s:bG) (p:Rel):lS [b7 s,mC p]=some (.aG [.bool (aW s).1,b7 (aW s).2.1,mC ((aW s).2.2.getD p.1,p.2.1,p.2.2)]):=by
 have:=b8s s (b0:=.str p.1) (b1:=xR p.2.1) (b2:=eJ p.2.2) rfl rfl rfl (aH2 _) rfl (aH3 _) ⟨_,rfl⟩
 rw [a11] at this; exact this
theorem b48 (s:bG) (p:sR):lT [b7 s,mO p]=some (.aG [.bool (aW s).1,b7 (aW s).2.1,mO ((aW s).2.2.getD p.1,p.2)]):=by
 have:=b8t s (b0:=.str p.1) (b1:=z8 p.2) rfl rfl rfl (aH4 _) ⟨_,rfl⟩
 rw [a11] at this; exact this
noncomputable def a0f:Spec:=a2v 21
theorem b0v:eY Try.prog pA eR a0f:=(aX5 21).2.2
theorem b87 {s:bG} (h:s.d=0):a0f [b7 s]=some (.aG [.bool (wD s).1,b7 (wD s).2]):=by
 unfold a0f wD
 exact b8w (f:=21) (s:=s) ⟨by omega,by omega⟩
attribute [local irreducible] dH opt wD bY a2v a0f eV qR
noncomputable def a4p:Spec:=jJ (fun q:bG×sR=>[b7 q.1,mO q.2]) (fun q=>q.1.d=0) (fun q=>.aG [.bool (eV q.1 q.2.2).1,b7 (eV q.1 q.2.2).2.1,mO (q.2.1,(eV q.1 q.2.2).2.2)])
theorem aYd {s:bG} (h:s.d=0) (r:sR):a4p [b7 s,mO r]=some (.aG [.bool (eV s r.2).1,b7 (eV s r.2).2.1,mO (r.1,(eV s r.2).2.2)]):=hO (a:=(s,r)) (fun a b h=>by
 simp only [List.cons.injEq,and_true] at h
 exact Prod.ext (qX h.1) (b0u h.2)) h
noncomputable abbrev TR1:List (FuncId×Spec):=[(j2,j3),(tV,lS),(bU,dV),(mY,a0f),(hJ,j4),(rZ,a4n)]
theorem aRn (s:bG) (nm:List UInt8) (rels:List Rel) (hd:s.d=0):dH cG (bO TR1) 53 mN [.tmp 4] dN (cB Try.f64) [b7 s,mO (nm,rels)] (fun r=>r=V.aG [.bool (eV s rels).1,b7 (eV s rels).2.1,mO (nm,(eV s rels).2.2)]):=by
 have c1:∀ args,bO TR1 j2 args=j3 args:=fun _=>rfl
 have c2:∀ args,bO TR1 tV args=lS args:=fun _=>rfl
 have c3:∀ args,bO TR1 bU args=dV args:=fun _=>rfl
 have c4:∀ args,bO TR1 mY args=a0f args:=fun _=>rfl
 have c5:∀ args,bO TR1 hJ args=j4 args:=fun _=>rfl
 have c6:∀ args,bO TR1 rZ args=a4n args:=fun _=>rfl
 refine Eq.mpr (a5p (bO _) _ (bM s.l) (vI s.n) (vI s.at_) (vI s.e) (vI s.d) (eJ s.x) (.str nm) (z8 rels)) ?_
 unfold eV
 simp only [b81,aC5,aC,c1,aU0,aO,List.getElem?_cons_zero,List.getElem?_cons_succ,jK,jZ,aR,aH]
 have g1:=a5v rels.length 200 s
 generalize dL rels.length 200 s=a at *
 obtain ⟨b1,t1⟩:=a
 simp only at g1 ⊢
 cases b1 with
 | false=>simp only [Bool.not_false,if_true,Bool.false_eq_true,if_false,a4o,aC]
 | true =>
 have hlt:rels.length < 1000:=by have:=(g1.2.2 rfl).1; omega
 simp only [Bool.not_true,Bool.false_eq_true,if_false,if_true,b85,aC,c2,b47,aO,List.getElem?_cons_zero,List.getElem?_cons_succ,jK,jZ,b3z,aR,aH]
 have g2:=yO t1
 generalize aW t1=n at *
 obtain ⟨b2,t2,o2⟩:=n
 simp only at g2 ⊢
 cases b2 with
 | false=>simp only [Bool.not_false,if_true,Bool.false_eq_true,if_false,a4o,aC]
 | true =>
 simp only [Bool.not_true,Bool.false_eq_true,if_false,if_true,aC,c3,a8b,aO,List.getElem?_cons_zero,List.getElem?_cons_succ,jK,jZ,ckB,aH]
 have g3:=qQ [61] t2
 generalize cJ [61] t2=m at *
 obtain ⟨b3,t3⟩:=m
 simp only at g3 ⊢
 have hd3:t3.d=0:=by rw [g3.1,g2.1,g1.1,hd]
 cases b3 with
 | true =>
  have hd4:({ t3 with x:=[] } : bG).d=0:=hd3
  simp only [if_true,bCr,aC,c4,b87 hd4,aO,List.getElem?_cons_zero,List.getElem?_cons_succ,jK,jZ,aR,aH]
  generalize wD { t3 with x:=[] } = q at *
  obtain ⟨b4,t4⟩:=q
  simp only
  cases b4 with
  | false=>simp only [Bool.not_false,if_true,Bool.false_eq_true,if_false,a4o,aC,wW]
  | true =>
   rw [(eM t4).2.2.2.2.2]
   simp only [Bool.not_true,Bool.false_eq_true,if_false,if_true,wW,List.length_cons,List.length_nil,cX,dF,true_and,b86,aC,aX9,aX7 hlt,c5]
   rw [← (eM t4).2.2.2.2.2]
   simp only [jZ,aEz,aC,aO,List.getElem?_cons_zero,List.getElem?_cons_succ,jK,a4o]
 | false =>
  simp only [Bool.false_eq_true,if_false,aC,c5,aEz,aO,List.getElem?_cons_zero,List.getElem?_cons_succ,jK,jZ,aR,aH]
  generalize lK [58] t3=c at *
  obtain ⟨b4,t4⟩:=c
  simp only
  cases b4 with
  | false=>simp only [Bool.not_false,if_true,Bool.false_eq_true,if_false,a4o,aC,wW]
  | true =>
   simp only [Bool.not_true,Bool.false_eq_true,if_false,if_true,aYc,aC,c6,aYa,aO,List.getElem?_cons_zero,List.getElem?_cons_succ,jK,jZ,b3z,aR,aH]
   generalize qR t4 []=q at *
   obtain ⟨b5,t5,sb⟩:=q
   simp only
   cases b5 with
   | false=>simp only [Bool.not_false,if_true,Bool.false_eq_true,if_false,a4o,aC,wW]
   | true =>
    simp only [Bool.not_true,Bool.false_eq_true,if_false,if_true,wW,List.length_cons,List.length_nil,cX,dF,true_and,aYc,aC,aX9,aX7 hlt,c5,jZ,aEz,aO,List.getElem?_cons_zero,List.getElem?_cons_succ,jK,a4o]
theorem aRo:eY Try.prog yK dN a4p:=by
 refine a4i (T:=TR1) (aK.eK uF (aK.eK a8c (aK.eK lO (aK.eK b0v (aK.eK uG (aK.eK aRm aK.nil)))))) fun words v hv=>?_
 obtain ⟨⟨s,nm,rels⟩,rfl,hd,rfl⟩:=fA hv
 exact ⟨_,rfl,rfl,by simp [aN,cU,a6z],by simp [aN,cU,a6z,V.aV],rfl,rfl,aRn s nm rels hd⟩
end Go.Fbs

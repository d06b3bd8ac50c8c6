/- Schemas read: signs, names. -/
import Derived.Test.YtnmcilaebamncaaKA
set_option linter.unusedVariables false
set_option linter.unusedSimpArgs false
set_option linter.unusedSectionVars false
set_option maxRecDepth 100000
namespace Go.Fbs
open Go.Proofs
noncomputable def iP:Spec:=jJ (fun q:bG×List UInt8=>[b7 q.1,.str q.2]) (fun _=>True) (fun q=>.aG [.bool (nD q.2 q.1),b7 q.1])
theorem aUz:∀ a b:bG×List UInt8,[b7 a.1,V.str a.2]=[b7 b.1,V.str b.2]→a=b:=fun a b h=>by
 simp only [List.cons.injEq,V.str.injEq,and_true] at h
 exact Prod.ext (qX h.1) h.2
theorem Fis (s:bG) (g:List UInt8):iP [b7 s,.str g]=some (.aG [.bool (nD g s),b7 s]):=hO (a:=(s,g)) aUz trivial
noncomputable abbrev T1:List (FuncId×Spec):=[(aM,bH)]
theorem rE:eY Try.prog a5o iO iP:=by
 refine aCq (T:=[(aM,bH)]) (aK.eK fO aK.nil) fun words v hv=>?_
 have c1:∀ args,bO [(aM,bH)] aM args=bH args:=fun _=>rfl
 obtain ⟨⟨s,g⟩,rfl,_,rfl⟩:=fA hv
 refine ⟨_,rfl,rfl,by simp [aN,cU,V.aV],by simp [aN,cU,V.aV],rfl,rfl,?_⟩
 refine Eq.mpr (aCx (bO _) _ (bM s.l) (vI s.n) (vI s.at_) (vI s.e) (vI s.d) (eJ s.x) (.str g)) ?_
 simp only [if_true,if_false,Bool.false_eq_true,Bool.true_eq_false,reduceCtorEq,aC,eG,jN,jO,jP,jQ,gU,dW,jR,gN,jB,fU,V.bool.injEq,Bool.true_and,Bool.and_true,Bool.false_and,Bool.and_false,Bool.true_or,Bool.or_true,Bool.false_or,Bool.or_false,Bool.not_true,Bool.not_false,aH,bF,aX,aR,bI,aY,gO,gP,fX,gH,fL,gI,fY,gJ,gQ,gR,gS,gT,cM,eH,eI,aO,bJ,bK,cK,cN,cX,dF,zM,c1,xQ,List.getElem?_cons_zero,List.getElem?_cons_succ,jK,chT,cT0,cT2,jZ,nD]
noncomputable def pF:Spec:=jJ (fun s:bG=>[b7 s]) (fun _=>True) (fun s=>.aG [.bool (a4l s),b7 s])
theorem bCo (s:bG):pF [b7 s]=some (.aG [.bool (a4l s),b7 s]):=hO aNq trivial
theorem aAh:eY Try.prog a3g gX pF:=by
 refine a82 (T:=[(aM,bH)]) (aK.eK fO aK.nil) fun words v hv=>?_
 have c1:∀ args,bO [(aM,bH)] aM args=bH args:=fun _=>rfl
 obtain ⟨s,rfl,_,rfl⟩:=fA hv
 refine ⟨_,rfl,rfl,by simp [aN,cU,V.aV],by simp [aN,cU,V.aV],rfl,rfl,?_⟩
 refine Eq.mpr (a98 (bO _) _ (bM s.l) (vI s.n) (vI s.at_) (vI s.e) (vI s.d) (eJ s.x)) ?_
 simp only [if_true,if_false,Bool.false_eq_true,Bool.true_eq_false,reduceCtorEq,aC,eG,jN,jO,jP,jQ,gU,dW,jR,gN,jB,fU,V.bool.injEq,Bool.true_and,Bool.and_true,Bool.false_and,Bool.and_false,Bool.true_or,Bool.or_true,Bool.false_or,Bool.or_false,Bool.not_true,Bool.not_false,aH,bF,aX,aR,bI,aY,gO,gP,fX,gH,fL,gI,fY,gJ,gQ,gR,gS,gT,cM,eH,eI,aO,bJ,bK,cK,cN,cX,dF,zM,c1,xQ,List.getElem?_cons_zero,List.getElem?_cons_succ,jK,chT,cT0,cT2,jZ,a4l]
noncomputable def j3:Spec:=jJ (fun q:bG×Int×Int=>[b7 q.1,vI q.2.1,vI q.2.2]) (fun _=>True) (fun q=>.aG [.bool (dL q.2.1 q.2.2 q.1).1,b7 (dL q.2.1 q.2.2 q.1).2])
theorem aU0 (s:bG) (a b:Int):j3 [b7 s,vI a,vI b]=some (.aG [.bool (dL a b s).1,b7 (dL a b s).2]):=hO (a:=(s,a,b)) (fun a b h=>by
 simp only [List.cons.injEq,V.int.injEq,and_true,true_and] at h
 exact Prod.ext (qX h.1) (Prod.ext h.2.1 h.2.2)) trivial
theorem uF:eY Try.prog a3f gY j3:=by
 refine a81 (T:=[(bQ,cE)]) (aK.eK iM aK.nil) fun words v hv=>?_
 have c1:∀ args,bO [(bQ,cE)] bQ args=cE args:=fun _=>rfl
 obtain ⟨⟨s,a,b⟩,rfl,_,rfl⟩:=fA hv
 refine ⟨_,rfl,rfl,by simp [aN,cU,V.aV],by simp [aN,cU,V.aV],rfl,rfl,?_⟩
 refine Eq.mpr (a97 (bO _) _ (bM s.l) (vI s.n) (vI s.at_) (vI s.e) (vI s.d) (eJ s.x) (vI a) (vI b)) ?_
 simp only [if_true,if_false,Bool.false_eq_true,Bool.true_eq_false,reduceCtorEq,aC,eG,jN,jO,jP,jQ,gU,dW,jR,gN,jB,fU,V.bool.injEq,Bool.true_and,Bool.and_true,Bool.false_and,Bool.and_false,Bool.true_or,Bool.or_true,Bool.false_or,Bool.or_false,Bool.not_true,Bool.not_false,aH,bF,aX,aR,bI,aY,gO,gP,fX,gH,fL,gI,fY,gJ,gQ,gR,gS,gT,cM,eH,eI,aO,bJ,bK,cK,cN,cX,dF,zM,c1,a4m,List.getElem?_cons_zero,List.getElem?_cons_succ,jK,jZ,dL]
 by_cases h:a < b <;> simp [h]
noncomputable def j4:Spec:=jJ (fun q:bG×List UInt8=>[b7 q.1,.str q.2]) (fun _=>True) (fun q=>.aG [.bool (lK q.2 q.1).1,b7 (lK q.2 q.1).2])
theorem aEz (s:bG) (g:List UInt8):j4 [b7 s,.str g]=some (.aG [.bool (lK g s).1,b7 (lK g s).2]):=hO (a:=(s,g)) aUz trivial
noncomputable abbrev T2:List (FuncId×Spec):=[(gM,iP),(bQ,cE)]
theorem uG:eY Try.prog a3j gZ j4:=by
 refine a86 (T:=T2) (aK.eK rE (aK.eK iM aK.nil)) fun words v hv=>?_
 have c1:∀ args,bO T2 gM args=iP args:=fun _=>rfl
 have c2:∀ args,bO T2 bQ args=cE args:=fun _=>rfl
 obtain ⟨⟨s,g⟩,rfl,_,rfl⟩:=fA hv
 refine ⟨_,rfl,rfl,by simp [aN,cU,V.aV],by simp [aN,cU,V.aV],rfl,rfl,?_⟩
 refine Eq.mpr (aAd (bO _) _ (bM s.l) (vI s.n) (vI s.at_) (vI s.e) (vI s.d) (eJ s.x) (.str g)) ?_
 simp only [if_true,if_false,Bool.false_eq_true,Bool.true_eq_false,reduceCtorEq,aC,eG,jN,jO,jP,jQ,gU,dW,jR,gN,jB,fU,V.bool.injEq,Bool.true_and,Bool.and_true,Bool.false_and,Bool.and_false,Bool.true_or,Bool.or_true,Bool.false_or,Bool.or_false,Bool.not_true,Bool.not_false,aH,bF,aX,aR,bI,aY,gO,gP,fX,gH,fL,gI,fY,gJ,gQ,gR,gS,gT,cM,eH,eI,aO,bJ,bK,cK,cN,cX,dF,zM,c1,c2,Fis,a4m,List.getElem?_cons_zero,List.getElem?_cons_succ,jK,jZ,lK]
 cases h:nD g s with
 | false=>simp only [Bool.not_false,if_true,Bool.false_eq_true,if_false]
 | true=>simp only [Bool.not_true,if_true,Bool.false_eq_true,if_false,sl0 (aMr h),aC,a5s]
noncomputable def dV:Spec:=jJ (fun q:bG×List UInt8=>[b7 q.1,.str q.2]) (fun _=>True) (fun q=>.aG [.bool (cJ q.2 q.1).1,b7 (cJ q.2 q.1).2])
theorem a8b (s:bG) (g:List UInt8):dV [b7 s,.str g]=some (.aG [.bool (cJ g s).1,b7 (cJ g s).2]):=hO (a:=(s,g)) aUz trivial
noncomputable abbrev T3:List (FuncId×Spec):=[(gM,iP),(hJ,j4)]
theorem lO:eY Try.prog a4f iB dV:=by
 refine aAa (T:=T3) (aK.eK rE (aK.eK uG aK.nil)) fun words v hv=>?_
 have c1:∀ args,bO T3 gM args=iP args:=fun _=>rfl
 have c2:∀ args,bO T3 hJ args=j4 args:=fun _=>rfl
 obtain ⟨⟨s,g⟩,rfl,_,rfl⟩:=fA hv
 refine ⟨_,rfl,rfl,by simp [aN,cU,V.aV],by simp [aN,cU,V.aV],rfl,rfl,?_⟩
 refine Eq.mpr (aCp (bO _) _ (bM s.l) (vI s.n) (vI s.at_) (vI s.e) (vI s.d) (eJ s.x) (.str g)) ?_
 simp only [if_true,if_false,Bool.false_eq_true,Bool.true_eq_false,reduceCtorEq,aC,eG,jN,jO,jP,jQ,gU,dW,jR,gN,jB,fU,V.bool.injEq,Bool.true_and,Bool.and_true,Bool.false_and,Bool.and_false,Bool.true_or,Bool.or_true,Bool.false_or,Bool.or_false,Bool.not_true,Bool.not_false,aH,bF,aX,aR,bI,aY,gO,gP,fX,gH,fL,gI,fY,gJ,gQ,gR,gS,gT,cM,eH,eI,aO,bJ,bK,cK,cN,cX,dF,zM,c1,c2,Fis,aEz,List.getElem?_cons_zero,List.getElem?_cons_succ,jK,jZ,cJ,lK]
 cases h:nD g s with
 | false=>simp only [Bool.not_false,if_true,Bool.false_eq_true,if_false]
 | true=>simp only [Bool.not_true,if_true,Bool.false_eq_true,if_false]
noncomputable def oL:Spec:=jJ (fun t:jT=>[qC t]) a4k (fun t=>.bool (oK t))
theorem aCy {t:jT} (h:a4k t):oL [qC t]=some (.bool (oK t)):=hO (fun a b h=>aNo (by simpa using h)) h
theorem uY:iJ Try.prog jH oL:=by
 refine aMe (T:=[]) aK.nil fun args v hv=>?_
 obtain ⟨t,rfl,ht,rfl⟩:=fA hv
 refine ⟨rfl,rfl,rfl,?_⟩
 rw [aNn]
 simp only [if_true,if_false,Bool.false_eq_true,Bool.true_eq_false,reduceCtorEq,aC,eG,jN,jO,jP,jQ,gU,dW,jR,gN,jB,fU,V.bool.injEq,Bool.true_and,Bool.and_true,Bool.false_and,Bool.and_false,Bool.true_or,Bool.or_true,Bool.false_or,Bool.or_false,Bool.not_true,Bool.not_false,aH,bF,aX,aR,bI,aY,gO,gP,fX,gH,fL,gI,fY,gJ,gQ,gR,gS,gT,cM,eH,eI,aO,bJ,bK,cK,cN,cX,dF,chT,cT0,cT2,oK]
 obtain ⟨k,n,x⟩:=t
 dsimp only
 by_cases hk:k=1
 ·subst hk
  cases x with
  | nil=>exact absurd rfl (ht rfl)
  | cons c r =>
   have hi:tB (.str (c::r)) (.int .i64 0)=some (.int .u8 c.toNat):=aSq (l:=c::r) (k:=0) rfl .i64
   have hl:decide (((c::r).length:Int)≤30)=decide ((c::r).length≤30):=by rw [decide_eq_decide]; omega
   have hc:decide ((c.toNat:Int)=95)=(c == 95):=by
    by_cases h:c=95
    ·subst h; rfl
    ·have:¬ (c.toNat:Int)=95:=fun e=>h (UInt8.toNat_inj.1 (by show c.toNat=95; omega))
     simp [h,this]
   simp only [hi,hl,hc,if_true,if_false,Bool.false_eq_true,Bool.true_eq_false,reduceCtorEq,aC,eG,jN,jO,jP,jQ,gU,dW,jR,gN,jB,fU,V.bool.injEq,Bool.true_and,Bool.and_true,Bool.false_and,Bool.and_false,Bool.true_or,Bool.or_true,Bool.false_or,Bool.or_false,Bool.not_true,Bool.not_false,aH,bF,aX,aR,bI,aY,gO,gP,fX,gH,fL,gI,fY,gJ,gQ,gR,gS,gT,cM,eH,eI,aO,bJ,bK,cK,cN,cX,dF,decide_true,List.head?_cons]
   by_cases h1:(c::r).length≤30
   ·simp only [h1,decide_true,if_true,if_false,Bool.false_eq_true,Bool.true_eq_false,reduceCtorEq,aC,eG,jN,jO,jP,jQ,gU,dW,jR,gN,jB,fU,V.bool.injEq,Bool.true_and,Bool.and_true,Bool.false_and,Bool.and_false,Bool.true_or,Bool.or_true,Bool.false_or,Bool.or_false,Bool.not_true,Bool.not_false,aH,bF,aX,aR,bI,aY,gO,gP,fX,gH,fL,gI,fY,gJ,gQ,gR,gS,gT,cM,eH,eI,aO,bJ,bK,cK,cN,cX,dF]
    by_cases h2:c=95
    ·simp [h2,bne]
    ·have hc':decide ((c.toNat:Int)=95)=false:=by rw [hc]; simp [h2]
     simp [h2,bne,hc']
   ·simp only [h1,decide_false,if_true,if_false,Bool.false_eq_true,Bool.true_eq_false,reduceCtorEq,aC,eG,jN,jO,jP,jQ,gU,dW,jR,gN,jB,fU,V.bool.injEq,Bool.true_and,Bool.and_true,Bool.false_and,Bool.and_false,Bool.true_or,Bool.or_true,Bool.false_or,Bool.or_false,Bool.not_true,Bool.not_false,aH,bF,aX,aR,bI,aY,gO,gP,fX,gH,fL,gI,fY,gJ,gQ,gR,gS,gT,cM,eH,eI,aO,bJ,bK,cK,cN,cX,dF]
 ·simp only [hk,decide_false,if_true,if_false,Bool.false_eq_true,Bool.true_eq_false,reduceCtorEq,aC,eG,jN,jO,jP,jQ,gU,dW,jR,gN,jB,fU,V.bool.injEq,Bool.true_and,Bool.and_true,Bool.false_and,Bool.and_false,Bool.true_or,Bool.or_true,Bool.false_or,Bool.or_false,Bool.not_true,Bool.not_false,aH,bF,aX,aR,bI,aY,gO,gP,fX,gH,fL,gI,fY,gJ,gQ,gR,gS,gT,cM,eH,eI,aO,bJ,bK,cK,cN,cX,dF]
end Go.Fbs

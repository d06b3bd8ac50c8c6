/- Schemas read: names into boxes; steps. -/
import Derived.Test.YtnmcilaebamncaaKB
set_option linter.unusedVariables false
set_option linter.unusedSimpArgs false
set_option linter.unusedSectionVars false
set_option maxRecDepth 100000
namespace Go.Fbs
open Go.Proofs
def nJ (o:Option (List UInt8)) (v:V):V:=match o with | some s=>.str s | none=>v
noncomputable abbrev TN:List (FuncId×Spec):=[(aM,bH),(bQ,cE),(jH,oL)]
theorem scl (g:Tag) (es:List V):sc (.sl g es)=true:=rfl
theorem scs (s:List UInt8):sc (.str s)=true:=rfl
theorem sci (k:IntKind) (n:Int):sc (.int k n)=true:=rfl
theorem scN {v:V} (h:sc v=true) (o:Option (List UInt8)):sc (nJ o v)=true:=by cases o; exact h; rfl
theorem a89 (s:bG):a4k (cI s):=by
 by_cases h:s.l=[]
 ·unfold cI a4k; rw [h]; intro h; simp at h
 ·exact s.w _ (b0r h)
theorem a10 {s:bG} (h:oK (cI s)=true):aW s=(true,bW s,some (cI s).2.2):=by simp [aW,h]
theorem a5t {s:bG} (h:oK (cI s)=false):aW s=(false,wI 9 s,none):=by simp [aW,h]
noncomputable def lS:Spec:=jJ (fun q:bG×V×V×V=>[b7 q.1,.agg [q.2.1,q.2.2.1,q.2.2.2]]) (fun q=>sc q.2.1=true∧(q.2.1).aV=true∧sc q.2.2.1=true∧(q.2.2.1).aV=true∧sc q.2.2.2=true∧(q.2.2.2).aV=true∧∃ es,q.2.2.1 = .sl .ro es) (fun q=>.aG [.bool (aW q.1).1,b7 (aW q.1).2.1,.agg [nJ (aW q.1).2.2 q.2.1,q.2.2.1,q.2.2.2]])
theorem b8s (s:bG) {b0 b1 b2:V} (h0:sc b0=true) (g0:b0.aV=true) (h1:sc b1=true) (g1:b1.aV=true) (h2:sc b2=true) (g2:b2.aV=true) (hl:∃ es,b1 = .sl .ro es):lS [b7 s,.agg [b0,b1,b2]]=some (.aG [.bool (aW s).1,b7 (aW s).2.1,.agg [nJ (aW s).2.2 b0,b1,b2]]):=hO (a:=(s,b0,b1,b2)) (fun a b h=>by
 simp only [List.cons.injEq,V.agg.injEq,and_true] at h
 exact Prod.ext (qX h.1) (Prod.ext h.2.1 (Prod.ext h.2.2.1 h.2.2.2)))
 ⟨h0,g0,h1,g1,h2,g2,hl⟩
theorem a8c:eY Try.prog iN dO lS:=by
 refine a6p (T:=TN) (aK.eK fO (aK.eK iM (aK.cons uY aK.nil))) fun words v hv=>?_
 have c1:∀ args,bO TN aM args=bH args:=fun _=>rfl
 have c2:∀ args,bO TN bQ args=cE args:=fun _=>rfl
 have c3:∀ args,bO TN jH args=oL args:=fun _=>rfl
 obtain ⟨⟨s,b0,b1,b2⟩,rfl,ok,rfl⟩:=fA hv
 dsimp only at ok ⊢
 obtain ⟨h0,g0,h1,g1,h2,g2,es,rfl⟩:=ok
 have pn:∀ o v,v.aV=true→(nJ o v).aV=true:=fun o v h=>by cases o <;> first | exact h | rfl
 have ga:=fun s:List V=>uH (l:=s)
 refine ⟨_,rfl,by simp [dJ,dO,b7,scl,sci,scs,bM,eJ,jU,h0,h2],by simp [aN,cU,V.aV,g0,g1,g2] <;> simpa [V.aV] using g1,?_,rfl,?_,?_⟩
 ·simp [aN,cU,V.aV,g0,g1,g2,pn _ _ g0] <;> simpa [V.aV] using g1
 ·simp [dO,cH,fN,jU,b7,bM,eJ,scl,sci,scs,h0,h2,scN h0]
 refine Eq.mpr (a73 (bO _) _ (bM s.l) (vI s.n) (vI s.at_) (vI s.e) (vI s.d) (eJ s.x) b0 (.sl .ro es) b2) ?_
 have a1:aE [b0,.sl .ro es,b2]=some (.agg [b0,.sl .ro es,b2]):=uH (by simp [List.all_cons,h0,h2,scl,sci,scs])
 have a2:aE [.str (cI s).2.2,.sl .ro es,b2]=some (.agg [.str (cI s).2.2,.sl .ro es,b2]):=uH (by simp [List.all_cons,h2,scl,sci,scs])
 simp only [if_true,if_false,Bool.false_eq_true,Bool.true_eq_false,reduceCtorEq,aC,eG,jN,jO,jP,jQ,gU,dW,jR,gN,jB,fU,V.bool.injEq,Bool.true_and,Bool.and_true,Bool.false_and,Bool.and_false,Bool.true_or,Bool.or_true,Bool.false_or,Bool.or_false,Bool.not_true,Bool.not_false,aH,bF,aX,aR,bI,aY,gO,gP,fX,gH,fL,gI,fY,gJ,gQ,gR,gS,gT,cM,eH,eI,aO,bJ,bK,cK,cN,cX,dF,zM,c1,c2,c3,xQ,a4m,aCy (a89 s),List.getElem?_cons_zero,List.getElem?_cons_succ,jK,jZ,pT2,a1]
 cases h:oK (cI s) with
 | false=>simp only [Bool.not_false,if_true,a5t h,nJ]
 | true=>simp only [Bool.not_true,Bool.false_eq_true,if_false,sl0 (a1z h),aC,a5s,a2,a10 h,nJ]
noncomputable def lT:Spec:=jJ (fun q:bG×V×V=>[b7 q.1,.agg [q.2.1,q.2.2]]) (fun q=>sc q.2.1=true∧(q.2.1).aV=true∧sc q.2.2=true∧(q.2.2).aV=true∧∃ es,q.2.2 = .sl .ro es) (fun q=>.aG [.bool (aW q.1).1,b7 (aW q.1).2.1,.agg [nJ (aW q.1).2.2 q.2.1,q.2.2]])
theorem b8t (s:bG) {b0 b1:V} (h0:sc b0=true) (g0:b0.aV=true) (h1:sc b1=true) (g1:b1.aV=true) (hl:∃ es,b1 = .sl .ro es):lT [b7 s,.agg [b0,b1]]=some (.aG [.bool (aW s).1,b7 (aW s).2.1,.agg [nJ (aW s).2.2 b0,b1]]):=hO (a:=(s,b0,b1)) (fun a b h=>by
 simp only [List.cons.injEq,V.agg.injEq,and_true] at h
 exact Prod.ext (qX h.1) (Prod.ext h.2.1 h.2.2))
 ⟨h0,g0,h1,g1,hl⟩
theorem a8d:eY Try.prog iN dP lT:=by
 refine a6q (T:=TN) (aK.eK fO (aK.eK iM (aK.cons uY aK.nil))) fun words v hv=>?_
 have c1:∀ args,bO TN aM args=bH args:=fun _=>rfl
 have c2:∀ args,bO TN bQ args=cE args:=fun _=>rfl
 have c3:∀ args,bO TN jH args=oL args:=fun _=>rfl
 obtain ⟨⟨s,b0,b1⟩,rfl,ok,rfl⟩:=fA hv
 dsimp only at ok ⊢
 obtain ⟨h0,g0,h1,g1,es,rfl⟩:=ok
 have pn:∀ o v,v.aV=true→(nJ o v).aV=true:=fun o v h=>by cases o <;> first | exact h | rfl
 have ga:=fun s:List V=>uH (l:=s)
 refine ⟨_,rfl,by simp [dJ,dP,b7,scl,sci,scs,bM,eJ,jU,h0],by simp [aN,cU,V.aV,g0,g1] <;> simpa [V.aV] using g1,?_,rfl,?_,?_⟩
 ·simp [aN,cU,V.aV,g0,g1,pn _ _ g0] <;> simpa [V.aV] using g1
 ·simp [dP,cH,fN,jU,b7,bM,eJ,scl,sci,scs,h0,scN h0]
 refine Eq.mpr (a74 (bO _) _ (bM s.l) (vI s.n) (vI s.at_) (vI s.e) (vI s.d) (eJ s.x) b0 (.sl .ro es)) ?_
 have a1:aE [b0,.sl .ro es]=some (.agg [b0,.sl .ro es]):=uH (by simp [List.all_cons,h0,scl,sci,scs])
 have a2:aE [.str (cI s).2.2,.sl .ro es]=some (.agg [.str (cI s).2.2,.sl .ro es]):=uH (by simp [List.all_cons,scl,sci,scs])
 simp only [if_true,if_false,Bool.false_eq_true,Bool.true_eq_false,reduceCtorEq,aC,eG,jN,jO,jP,jQ,gU,dW,jR,gN,jB,fU,V.bool.injEq,Bool.true_and,Bool.and_true,Bool.false_and,Bool.and_false,Bool.true_or,Bool.or_true,Bool.false_or,Bool.or_false,Bool.not_true,Bool.not_false,aH,bF,aX,aR,bI,aY,gO,gP,fX,gH,fL,gI,fY,gJ,gQ,gR,gS,gT,cM,eH,eI,aO,bJ,bK,cK,cN,cX,dF,zM,c1,c2,c3,xQ,a4m,aCy (a89 s),List.getElem?_cons_zero,List.getElem?_cons_succ,jK,jZ,pT2,a1]
 cases h:oK (cI s) with
 | false=>simp only [Bool.not_false,if_true,a5t h,nJ]
 | true=>simp only [Bool.not_true,Bool.false_eq_true,if_false,sl0 (a1z h),aC,a5s,a2,a10 h,nJ]
noncomputable def lU:Spec:=jJ (fun q:bG×V×V×V=>[b7 q.1,.agg [q.2.1,q.2.2.1,q.2.2.2]]) (fun q=>sc q.2.1=true∧(q.2.1).aV=true∧sc q.2.2.1=true∧(q.2.2.1).aV=true∧sc q.2.2.2=true∧(q.2.2.2).aV=true) (fun q=>.aG [.bool (aW q.1).1,b7 (aW q.1).2.1,.agg [nJ (aW q.1).2.2 q.2.1,q.2.2.1,q.2.2.2]])
theorem b8u (s:bG) {b0 b1 b2:V} (h0:sc b0=true) (g0:b0.aV=true) (h1:sc b1=true) (g1:b1.aV=true) (h2:sc b2=true) (g2:b2.aV=true):lU [b7 s,.agg [b0,b1,b2]]=some (.aG [.bool (aW s).1,b7 (aW s).2.1,.agg [nJ (aW s).2.2 b0,b1,b2]]):=hO (a:=(s,b0,b1,b2)) (fun a b h=>by
 simp only [List.cons.injEq,V.agg.injEq,and_true] at h
 exact Prod.ext (qX h.1) (Prod.ext h.2.1 (Prod.ext h.2.2.1 h.2.2.2)))
 ⟨h0,g0,h1,g1,h2,g2⟩
theorem a8e:eY Try.prog iN dQ lU:=by
 refine a6r (T:=TN) (aK.eK fO (aK.eK iM (aK.cons uY aK.nil))) fun words v hv=>?_
 have c1:∀ args,bO TN aM args=bH args:=fun _=>rfl
 have c2:∀ args,bO TN bQ args=cE args:=fun _=>rfl
 have c3:∀ args,bO TN jH args=oL args:=fun _=>rfl
 obtain ⟨⟨s,b0,b1,b2⟩,rfl,ok,rfl⟩:=fA hv
 dsimp only at ok ⊢
 obtain ⟨h0,g0,h1,g1,h2,g2⟩:=ok
 have pn:∀ o v,v.aV=true→(nJ o v).aV=true:=fun o v h=>by cases o <;> first | exact h | rfl
 have ga:=fun s:List V=>uH (l:=s)
 refine ⟨_,rfl,by simp [dJ,dQ,b7,scl,sci,scs,bM,eJ,jU,h0,h1,h2],by simp [aN,cU,V.aV,g0,g1,g2] <;> simpa [V.aV] using g0,?_,rfl,?_,?_⟩
 ·simp [aN,cU,V.aV,g0,g1,g2,pn _ _ g0] <;> simpa [V.aV] using g0
 ·simp [dQ,cH,fN,jU,b7,bM,eJ,scl,sci,scs,h0,h1,h2,scN h0]
 refine Eq.mpr (a77 (bO _) _ (bM s.l) (vI s.n) (vI s.at_) (vI s.e) (vI s.d) (eJ s.x) b0 b1 b2) ?_
 have a1:aE [b0,b1,b2]=some (.agg [b0,b1,b2]):=uH (by simp [h0,h1,h2,scl,sci,scs])
 have a2:aE [.str (cI s).2.2,b1,b2]=some (.agg [.str (cI s).2.2,b1,b2]):=uH (by simp [List.all_cons,h1,h2,scl,sci,scs])
 simp only [if_true,if_false,Bool.false_eq_true,Bool.true_eq_false,reduceCtorEq,aC,eG,jN,jO,jP,jQ,gU,dW,jR,gN,jB,fU,V.bool.injEq,Bool.true_and,Bool.and_true,Bool.false_and,Bool.and_false,Bool.true_or,Bool.or_true,Bool.false_or,Bool.or_false,Bool.not_true,Bool.not_false,aH,bF,aX,aR,bI,aY,gO,gP,fX,gH,fL,gI,fY,gJ,gQ,gR,gS,gT,cM,eH,eI,aO,bJ,bK,cK,cN,cX,dF,zM,c1,c2,c3,xQ,a4m,aCy (a89 s),List.getElem?_cons_zero,List.getElem?_cons_succ,jK,jZ,pT2,a1]
 cases h:oK (cI s) with
 | false=>simp only [Bool.not_false,if_true,a5t h,nJ]
 | true=>simp only [Bool.not_true,Bool.false_eq_true,if_false,sl0 (a1z h),aC,a5s,a2,a10 h,nJ]
noncomputable def lV:Spec:=jJ (fun q:bG×V×V×V=>[b7 q.1,.agg [q.2.1,q.2.2.1,q.2.2.2]]) (fun q=>sc q.2.1=true∧(q.2.1).aV=true∧sc q.2.2.1=true∧(q.2.2.1).aV=true∧sc q.2.2.2=true∧(q.2.2.2).aV=true) (fun q=>.aG [.bool (aW q.1).1,b7 (aW q.1).2.1,.agg [q.2.1,nJ (aW q.1).2.2 q.2.2.1,q.2.2.2]])
theorem b8v (s:bG) {b0 b1 b2:V} (h0:sc b0=true) (g0:b0.aV=true) (h1:sc b1=true) (g1:b1.aV=true) (h2:sc b2=true) (g2:b2.aV=true):lV [b7 s,.agg [b0,b1,b2]]=some (.aG [.bool (aW s).1,b7 (aW s).2.1,.agg [b0,nJ (aW s).2.2 b1,b2]]):=hO (a:=(s,b0,b1,b2)) (fun a b h=>by
 simp only [List.cons.injEq,V.agg.injEq,and_true] at h
 exact Prod.ext (qX h.1) (Prod.ext h.2.1 (Prod.ext h.2.2.1 h.2.2.2)))
 ⟨h0,g0,h1,g1,h2,g2⟩
theorem a8f:eY Try.prog iN dR lV:=by
 refine a6s (T:=TN) (aK.eK fO (aK.eK iM (aK.cons uY aK.nil))) fun words v hv=>?_
 have c1:∀ args,bO TN aM args=bH args:=fun _=>rfl
 have c2:∀ args,bO TN bQ args=cE args:=fun _=>rfl
 have c3:∀ args,bO TN jH args=oL args:=fun _=>rfl
 obtain ⟨⟨s,b0,b1,b2⟩,rfl,ok,rfl⟩:=fA hv
 dsimp only at ok ⊢
 obtain ⟨h0,g0,h1,g1,h2,g2⟩:=ok
 have pn:∀ o v,v.aV=true→(nJ o v).aV=true:=fun o v h=>by cases o <;> first | exact h | rfl
 have ga:=fun s:List V=>uH (l:=s)
 refine ⟨_,rfl,by simp [dJ,dR,b7,scl,sci,scs,bM,eJ,jU,h0,h1,h2],by simp [aN,cU,V.aV,g0,g1,g2] <;> simpa [V.aV] using g0,?_,rfl,?_,?_⟩
 ·simp [aN,cU,V.aV,g0,g1,g2,pn _ _ g1] <;> simpa [V.aV] using g0
 ·simp [dR,cH,fN,jU,b7,bM,eJ,scl,sci,scs,h0,h1,h2,scN h1]
 refine Eq.mpr (a78 (bO _) _ (bM s.l) (vI s.n) (vI s.at_) (vI s.e) (vI s.d) (eJ s.x) b0 b1 b2) ?_
 have a1:aE [b0,b1,b2]=some (.agg [b0,b1,b2]):=uH (by simp [h0,h1,h2,scl,sci,scs])
 have a2:aE [b0,.str (cI s).2.2,b2]=some (.agg [b0,.str (cI s).2.2,b2]):=uH (by simp [List.all_cons,h0,h2,scl,sci,scs])
 simp only [if_true,if_false,Bool.false_eq_true,Bool.true_eq_false,reduceCtorEq,aC,eG,jN,jO,jP,jQ,gU,dW,jR,gN,jB,fU,V.bool.injEq,Bool.true_and,Bool.and_true,Bool.false_and,Bool.and_false,Bool.true_or,Bool.or_true,Bool.false_or,Bool.or_false,Bool.not_true,Bool.not_false,aH,bF,aX,aR,bI,aY,gO,gP,fX,gH,fL,gI,fY,gJ,gQ,gR,gS,gT,cM,eH,eI,aO,bJ,bK,cK,cN,cX,dF,zM,c1,c2,c3,xQ,a4m,aCy (a89 s),List.getElem?_cons_zero,List.getElem?_cons_succ,jK,jZ,pT2,a1]
 cases h:oK (cI s) with
 | false=>simp only [Bool.not_false,if_true,a5t h,nJ]
 | true=>simp only [Bool.not_true,Bool.false_eq_true,if_false,sl0 (a1z h),aC,a5s,a2,a10 h,nJ]
noncomputable def iQ:Spec:=jJ (fun q:bG×V×V×V=>[b7 q.1,.agg [q.2.1,q.2.2.1,q.2.2.2]]) (fun q=>sc q.2.1=true∧(q.2.1).aV=true∧sc q.2.2.1=true∧(q.2.2.1).aV=true∧sc q.2.2.2=true∧(q.2.2.2).aV=true) (fun q=>.aG [.bool (aW q.1).1,b7 (aW q.1).2.1,.agg [q.2.1,q.2.2.1,nJ (aW q.1).2.2 q.2.2.2]])
theorem aX0 (s:bG) {b0 b1 b2:V} (h0:sc b0=true) (g0:b0.aV=true) (h1:sc b1=true) (g1:b1.aV=true) (h2:sc b2=true) (g2:b2.aV=true):iQ [b7 s,.agg [b0,b1,b2]]=some (.aG [.bool (aW s).1,b7 (aW s).2.1,.agg [b0,b1,nJ (aW s).2.2 b2]]):=hO (a:=(s,b0,b1,b2)) (fun a b h=>by
 simp only [List.cons.injEq,V.agg.injEq,and_true] at h
 exact Prod.ext (qX h.1) (Prod.ext h.2.1 (Prod.ext h.2.2.1 h.2.2.2)))
 ⟨h0,g0,h1,g1,h2,g2⟩
theorem yN:eY Try.prog iN dS iQ:=by
 refine a6t (T:=TN) (aK.eK fO (aK.eK iM (aK.cons uY aK.nil))) fun words v hv=>?_
 have c1:∀ args,bO TN aM args=bH args:=fun _=>rfl
 have c2:∀ args,bO TN bQ args=cE args:=fun _=>rfl
 have c3:∀ args,bO TN jH args=oL args:=fun _=>rfl
 obtain ⟨⟨s,b0,b1,b2⟩,rfl,ok,rfl⟩:=fA hv
 dsimp only at ok ⊢
 obtain ⟨h0,g0,h1,g1,h2,g2⟩:=ok
 have pn:∀ o v,v.aV=true→(nJ o v).aV=true:=fun o v h=>by cases o <;> first | exact h | rfl
 have ga:=fun s:List V=>uH (l:=s)
 refine ⟨_,rfl,by simp [dJ,dS,b7,scl,sci,scs,bM,eJ,jU,h0,h1,h2],by simp [aN,cU,V.aV,g0,g1,g2] <;> simpa [V.aV] using g0,?_,rfl,?_,?_⟩
 ·simp [aN,cU,V.aV,g0,g1,g2,pn _ _ g2] <;> simpa [V.aV] using g0
 ·simp [dS,cH,fN,jU,b7,bM,eJ,scl,sci,scs,h0,h1,h2,scN h2]
 refine Eq.mpr (a79 (bO _) _ (bM s.l) (vI s.n) (vI s.at_) (vI s.e) (vI s.d) (eJ s.x) b0 b1 b2) ?_
 have a1:aE [b0,b1,b2]=some (.agg [b0,b1,b2]):=uH (by simp [h0,h1,h2,scl,sci,scs])
 have a2:aE [b0,b1,.str (cI s).2.2]=some (.agg [b0,b1,.str (cI s).2.2]):=uH (by simp [List.all_cons,h0,h1,scl,sci,scs])
 simp only [if_true,if_false,Bool.false_eq_true,Bool.true_eq_false,reduceCtorEq,aC,eG,jN,jO,jP,jQ,gU,dW,jR,gN,jB,fU,V.bool.injEq,Bool.true_and,Bool.and_true,Bool.false_and,Bool.and_false,Bool.true_or,Bool.or_true,Bool.false_or,Bool.or_false,Bool.not_true,Bool.not_false,aH,bF,aX,aR,bI,aY,gO,gP,fX,gH,fL,gI,fY,gJ,gQ,gR,gS,gT,cM,eH,eI,aO,bJ,bK,cK,cN,cX,dF,zM,c1,c2,c3,xQ,a4m,aCy (a89 s),List.getElem?_cons_zero,List.getElem?_cons_succ,jK,jZ,pT2,a1]
 cases h:oK (cI s) with
 | false=>simp only [Bool.not_false,if_true,a5t h,nJ]
 | true=>simp only [Bool.not_true,Bool.false_eq_true,if_false,sl0 (a1z h),aC,a5s,a2,a10 h,nJ]
theorem aSv (l:List yM):(l.map lQ).all (fun e=>e.cells.length == 3)=true:=by simp [lQ,V.cells]
noncomputable def jC:Spec:=jJ (fun q:bG×yM×Nat=>[b7 q.1,lQ q.2.1,vI q.2.2]) (fun _=>True) (fun q=>.aG [.bool (tC q.2.1 q.2.2 q.1).1,b7 (tC q.2.1 q.2.2 q.1).2])
theorem aU1 (s:bG) (p:yM) (a:Nat):jC [b7 s,lQ p,vI a]=some (.aG [.bool (tC p a s).1,b7 (tC p a s).2]):=hO (a:=(s,p,a)) (fun a b h=>by
 simp only [List.cons.injEq,V.int.injEq,and_true,true_and] at h
 exact Prod.ext (qX h.1) (Prod.ext (aGq h.2.1) (Int.ofNat_inj.1 h.2.2))) trivial
theorem wC:eY Try.prog a4g iC jC:=by
 refine aAg (T:=[]) aK.nil fun words v hv=>?_
 obtain ⟨⟨s,p,a⟩,rfl,_,rfl⟩:=fA hv
 refine ⟨_,rfl,rfl,by simp [aN,cU,V.aV,lQ],by simp [aN,cU,V.aV],rfl,rfl,?_⟩
 refine Eq.mpr (aCs (bO _) _ (bM s.l) (vI s.n) (vI s.at_) (vI s.e) (vI s.d) (eJ s.x) (lQ p) (vI a)) ?_
 have h1:bP 3 (lQ p)=some (lQ p):=rfl
 have h2:gD (eJ s.x)=some (.int .i64 s.x.length):=by simp [gD,eJ]
 have h3:lG 3 [lQ p]=some (.sl .ro [lQ p]):=rfl
 simp only [h1,h2,h3,if_true,if_false,Bool.false_eq_true,Bool.true_eq_false,reduceCtorEq,aC,eG,jN,jO,jP,jQ,gU,dW,jR,gN,jB,fU,V.bool.injEq,Bool.true_and,Bool.and_true,Bool.false_and,Bool.and_false,Bool.true_or,Bool.or_true,Bool.false_or,Bool.or_false,Bool.not_true,Bool.not_false,aH,bF,aX,aR,bI,aY,gO,gP,fX,gH,fL,gI,fY,gJ,gQ,gR,gS,gT,cM,eH,eI,aO,bJ,bK,cK,cN,cX,dF,b8r,tC]
 by_cases h:200≤s.x.length
 ·have hd:decide ((200:Int)≤(s.x.length:Int))=true:=decide_eq_true (by omega)
  have ha:aE [bM s.l,vI s.n,vI a,.int .i64 8,vI s.d,eJ s.x]=some (b7 { s with e:=8,at_:=a }):=rfl
  simp only [hd,if_true,ha,aC,if_pos h]
 ·have hd:decide ((200:Int)≤(s.x.length:Int))=false:=decide_eq_false (by omega)
  have ha:aE [bM s.l,vI s.n,vI s.at_,vI s.e,vI s.d,eJ (s.x++[p])]=some (b7 { s with x:=s.x++[p] }):=rfl
  have hp:jW 3 40 (eJ s.x) (.sl .ro [lQ p])=some (eJ (s.x++[p])):=by
   show jW 3 40 (.sl .ro (s.x.map lQ)) (.sl .ro ([p].map lQ))=some (.sl .ro ((s.x++[p]).map lQ))
   rw [aHz (by simp only [List.length_map,List.length_singleton]; omega) (aSv _) (aSv [p]),List.map_append]
  simp only [hd,Bool.false_eq_true,if_false,hp,aC,ha,if_neg h]
end Go.Fbs

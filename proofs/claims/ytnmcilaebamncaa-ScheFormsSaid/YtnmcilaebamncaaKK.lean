/- Schemas read: Parse: told. -/
import Derived.Test.YtnmcilaebamncaaKJ
set_option linter.unusedVariables false
set_option linter.unusedSimpArgs false
set_option linter.unusedSectionVars false
set_option maxRecDepth 100000
namespace Go.Fbs
open Go.Proofs
attribute [local irreducible] dH iL opt wD bY a2v a0f eV qR oX
theorem aJ9:∀ (f k:Nat) (l:List UInt8),∀ t ∈ (nH f k l).1,a4k t
 | 0,_,_,t,h=>by simp [nH] at h
 | f+1,_,[],t,h=>by simp [nH] at h
 | f+1,k,c::l,t,h=>by
  unfold nH at h
  split at h
  ·simp at h
  ·rcases List.mem_cons.1 h with rfl | h
   ·intro _ e
    have:=(a3d (l:=c::l) (by simp)).1
    simp only at e
    rw [e] at this
    simp at this
   ·exact aJ9 f _ _ t h
theorem aU5 (l:List UInt8):∀ t ∈ (iI l).1,a4k t:=by
 unfold iI
 split
 ·simp
 ·simp only
  split
  ·simp
  ·exact aJ9 _ _ _
def uZ (l:List UInt8):bG:=⟨(iI l).1,aU5 l,l.length,0,0,0,[]⟩
def aU6 (r:Bool×bG×List sR):List sR×Nat×Int:=if r.1 then (r.2.2,0,0) else ([],r.2.1.at_,r.2.1.e)
def vG (l:List UInt8):List sR×Nat×Int :=
 if (iI l).2.2≠0 then ([],(iI l).2.1,(iI l).2.2)
 else aU6 (kG ((iI l).1.length+1) (uZ l) [])
def tD:Spec
 | [.str l]=>if l.length≤big then some (.aG [a2w (vG l).1,vI (vG l).2.1,vI (vG l).2.2]) else none
 | _=>none
theorem bEh (l:List jT):rB (bM l)=some (bM l):=nr rfl
theorem b49 (l:List UInt8):aE [bM (iI l).1,.int .i64 l.length,.int .i64 0,.int .i64 0,.int .i64 0,.sl .ro []]=some (b7 (uZ l)):=nr rfl
theorem b0w (a b c:V):aNm 2 (.aG [a,b,c])=some (.aG [a,b]):=nr rfl
theorem b5a {l:List UInt8} (h:l.length≤big):qW [.str l]=some (.aG [bM (iI l).1,vI (iI l).2.1,vI (iI l).2.2]):=by
 simp only [qW,if_pos h]
noncomputable abbrev TP1:List (FuncId×Spec):=[(uW,qW),(yE,aMt)]
theorem b0x (l:List UInt8) (hl:l.length≤big):iL cG (bO TP1) 55 a0z [.tmp 2,.tmp 3,.tmp 4] (cB Try.f13) [.str l] (fun r=>r = .aG [a2w (vG l).1,vI (vG l).2.1,vI (vG l).2.2]):=by
 have c1:∀ args,bO TP1 uW args=qW args:=fun _=>rfl
 have c2:∀ args,bO TP1 yE args=aMt args:=fun _=>rfl
 refine Eq.mpr (aNl (bO _) _ (.str l)) ?_
 unfold vG
 simp only [c1,b5a hl,aC,aO,List.getElem?_cons_zero,List.getElem?_cons_succ,gI,aH]
 by_cases he:(iI l).2.2=0
 ·have e1:decide ((iI l).2.2≠0)=false:=by simp [he]
  simp only [he,ne_eq,not_true_eq_false,decide_false,Bool.false_eq_true,if_false,cK,aC,bEh,b49]
  rw [(eM (uZ l)).1,(eM (uZ l)).2.1,(eM (uZ l)).2.2.1,(eM (uZ l)).2.2.2.1,(eM (uZ l)).2.2.2.2.1]
  refine pM (fun vs=>∃ (t:bG) (ts:List sR),vs=[a2w ts,bM t.l,vI t.n,vI t.at_,vI t.e,vI t.d,eJ t.x]∧t.d=0∧kG (t.l.length+1) t ts=kG ((iI l).1.length+1) (uZ l) [])
   (fun vs=>match gv vs 1 with | .sl _ es=>es.length | _=>0) ⟨uZ l,[],rfl,rfl,rfl⟩ ?_
  rintro r _ ⟨t,ts,rfl,htd,ht⟩ hr
  refine ⟨rfl,?_⟩
  rw [← ht]
  have hstep:kG (t.l.length+1) t ts=kG (t.l.length+1) t ts:=rfl
  conv at hstep=>rhs; unfold kG
  have eL:gD (bM t.l)=some (vI t.l.length):=by simp [gD,bM]
  simp only [cX,dF,eL,aC,gH,aH]
  by_cases hn:t.l=[]
  ·have e2:decide ((t.l.length:Int) > 0)=false:=by simp [hn]
   rw [if_pos hn] at hstep
   rw [hstep]
   simp only [e2,Bool.false_eq_true,if_false,aU6,if_true]
   rfl
  ·have h0:0 < t.l.length:=List.length_pos_iff.2 hn
   have e2:decide ((t.l.length:Int) > 0)=true:=by simp; omega
   rw [if_neg hn] at hstep
   have g1:=b3x ts.length t
   simp only [e2,if_true,aNu,aC5,aC,c2,bEg htd,b0w,aO,List.getElem?_cons_zero,List.getElem?_cons_succ,jK,aU4,aR,aH]
   generalize oX ts.length t=q at *
   obtain ⟨b,t1,x⟩:=q
   simp only at g1 hstep ⊢
   cases b with
   | false =>
    simp only [Bool.false_eq_true,if_false] at hstep
    rw [hstep]
    simp only [Bool.not_false,if_true,aU6,Bool.false_eq_true,if_false]
    rfl
   | true =>
    have g2:=g1.2.2 rfl
    simp only [if_true] at hstep
    simp only [Bool.not_true,Bool.false_eq_true,if_false,b83,b82 (show ts.length < 1000 by omega),aC]
    rw [(eM t1).1,(eM t1).2.1,(eM t1).2.2.1,(eM t1).2.2.2.1,(eM t1).2.2.2.2.1,(eM t1).2.2.2.2.2]
    refine hr _ ⟨t1,ts++[x],rfl,by rw [g1.1,htd],?_⟩ (by simp only [cX,dF,bM,List.length_map]; omega)
    rw [← ht,hstep]
    exact a13 t1.l.length _ _ _ _ (Nat.le_refl _) (Nat.lt_succ_self _) (by omega)
 ·have e1:decide ((iI l).2.2≠0)=true:=by simp [he]
  simp only [he,ne_eq,not_false_eq_true,decide_true,if_true]
  rfl
theorem aMf:iJ Try.prog wS tD:=by
 refine aMd (T:=TP1) (aK.cons aJ5 (aK.eK b89 aK.nil)) fun args v hv=>?_
 unfold tD at hv
 split at hv <;> (try simp only [Option.ite_none_right_eq_some,Option.some.injEq,reduceCtorEq] at hv)
 rename_i l
 obtain ⟨hl,rfl⟩:=hv
 exact ⟨rfl,rfl,by simp only [V.aV,aN,aU3,Bool.and_true],b0x l hl⟩
end Go.Fbs

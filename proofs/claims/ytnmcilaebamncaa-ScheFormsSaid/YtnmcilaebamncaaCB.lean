import Derived.Test.YtnmcilaebamncaaCA
set_option linter.unusedVariables false
set_option linter.unusedSimpArgs false
set_option linter.unusedSectionVars false
namespace Go.Fbs
open Go.Proofs
def wR (c:UInt8):Bool:=c == 32 || c == 9 || c == 13 || c == 10
def eS:Bool→List UInt8→Nat
 | _,[]=>0
 | true,c::r=>if c=10 then 1+eS false r else 1+eS true r
 | false,c :: r=>if c = 47 ∧ r.head? = some 47 then 1 + eS true r else if wR c then 1 + eS false r else 0
def pN:Spec
 | [.str l]=>if l.length≤big then some (vI (eS false l)) else none
 | _=>none
theorem a1y:∀ (b:Bool) (l:List UInt8),eS b l≤l.length
 | b,[]=>by cases b <;> simp [eS]
 | true,c::r=>by
  have h1:=a1y false r
  have h2:=a1y true r
  simp only [eS,List.length_cons]; split <;> omega
 | false,c::r=>by
  have h1:=a1y false r
  have h2:=a1y true r
  simp only [eS,List.length_cons]; split <;> (try split) <;> omega
theorem b0m (b:UInt8) (l:List UInt8) (c:UInt8):ixB (b::l) c=if b == c then 0 else if ixB l c == -1 then -1 else ixB l c+1:=rfl
theorem aCu : ∀ (l : List UInt8) (c : UInt8),(ixB l c = -1 ∧ c ∉ l) ∨ ∃ k : Nat,ixB l c = k ∧ l[k]? = some c ∧ c ∉ l.take k
 | [],c=>.inl ⟨rfl,by simp⟩
 | b::l,c=>by
  rw [b0m]
  by_cases h:b=c
  ·subst h; exact .inr ⟨0,by simp,by simp,by simp⟩
  ·have hb:(b == c)=false:=by simpa using h
   rw [hb]
   rcases aCu l c with ⟨h1,h2⟩ | ⟨k,h1,h2,h3⟩
   ·rw [h1]; exact .inl ⟨rfl,by simp [h2,Ne.symm h]⟩
   ·rw [h1]
    refine .inr ⟨k+1,?_,by simpa using h2,by simp [h3,Ne.symm h]⟩
    have:((k:Int) == -1)=false:=by simp <;> omega
    simp [this]
theorem a8y:∀ (l:List UInt8),(10:UInt8) ∉ l→eS true l=l.length
 | [],_=>rfl
 | c::r,h=>by
  simp only [List.mem_cons,not_or] at h
  simp only [eS,List.length_cons]
  rw [if_neg (fun e=>h.1 e.symm),a8y r h.2,Nat.add_comm]
theorem aB1 : ∀ (l : List UInt8) (k : Nat),l[k]? = some 10 → (10 : UInt8) ∉ l.take k → eS true l = k + eS false (l.drop k)
 | [],k,h,_=>by simp at h
 | c::r,0,h,_=>by
  simp at h; subst h
  simp [eS,wR]
 | c::r,k+1,h,hn=>by
  simp only [List.take_succ_cons,List.mem_cons,not_or] at hn
  simp only [eS,List.drop_succ_cons]
  rw [if_neg (fun e=>hn.1 e.symm),aB1 r k (by simpa using h) hn.2,Nat.add_comm k 1,Nat.add_assoc]
theorem aXs (r:List UInt8):eS false (47::47::r)=eS true (47::47::r):=by
 simp [eS]
theorem b7p {l:List UInt8} : List.isPrefixOf [47,47] l=true↔∃ r,l=47::47::r:=by
 rw [List.isPrefixOf_iff_prefix]
 exact ⟨fun ⟨r,h⟩=>⟨r,by simpa using h.symm⟩,fun ⟨r,h⟩=>⟨r,by simpa using h.symm⟩⟩
theorem aSr (l:List UInt8) (c:UInt8):decide (0≤ixB l c)=decide (c ∈ l):=by
 rcases aCu l c with ⟨h1,h2⟩ | ⟨k,h1,h2,_⟩
 ·rw [h1]; simp [h2]
 ·rw [h1]; simp [List.mem_of_getElem? h2]
theorem aXt (c:UInt8):decide (0≤ixB [32,9,13,10] c)=wR c:=by
 rw [aSr]
 simp only [wR,List.mem_cons,List.not_mem_nil,or_false,Bool.decide_or,Bool.or_assoc]
 rfl
theorem aNc:iJ Try.prog pO pN:=by
 refine aNd (T:=[(dT,dU),(iU,iV),(eP,eQ)]) (aK.cons a0w (aK.cons a5n (aK.cons a1v aK.nil))) fun args v hv=>?_
 have c_strings_HasPrefix:∀ args,bO [(dT,dU),(iU,iV),(eP,eQ)] dT args=dU args:=fun _=>rfl
 have c_strings_Index:∀ args,bO [(dT,dU),(iU,iV),(eP,eQ)] iU args=iV args:=fun _=>rfl
 have c_strings_Contains:∀ args,bO [(dT,dU),(iU,iV),(eP,eQ)] eP args=eQ args:=fun _=>rfl
 unfold pN at hv
 split at hv <;> (try simp only [Option.ite_none_right_eq_some,Option.some.injEq,reduceCtorEq] at hv)
 rename_i l
 obtain ⟨hl,rfl⟩:=hv
 have hl0:=hl
 unfold big at hl
 refine ⟨rfl,rfl,rfl,?_⟩
 rw [aRg]
 refine pM (fun vs=>∃ k:Nat,vs=[vI k]∧k≤l.length∧eS false l=k+eS false (l.drop k)) (fun vs=>l.length - a0v (gv vs 0)) ⟨0,rfl,Nat.zero_le _,by simp⟩ ?_
 rintro r _ ⟨k,rfl,hk,hs⟩ hr
 refine ⟨rfl,?_⟩
 simp only [if_true,if_false,Bool.false_eq_true,Bool.true_eq_false,reduceCtorEq,aC,eG,jN,jO,jP,jQ,gU,dW,jR,gN,jB,fU,V.bool.injEq,Bool.true_and,Bool.and_true,Bool.false_and,Bool.and_false,Bool.true_or,Bool.or_true,Bool.false_or,Bool.or_false,Bool.not_true,Bool.not_false,aH,bF,aX,aR,bI,aY,gO,gP,fX,gH,fL,gI,fY,gJ,gQ,gR,gS,gT,cM,eH,eI,aO,bJ,bK,cK,cN,cX,dF,a7w hk,c_strings_HasPrefix,dU]
 cases hc:List.isPrefixOf [47,47] (l.drop k)
 ·simp only [if_true,if_false,Bool.false_eq_true,Bool.true_eq_false,reduceCtorEq,aC,eG,jN,jO,jP,jQ,gU,dW,jR,gN,jB,fU,V.bool.injEq,Bool.true_and,Bool.and_true,Bool.false_and,Bool.and_false,Bool.true_or,Bool.or_true,Bool.false_or,Bool.or_false,Bool.not_true,Bool.not_false,aH,bF,aX,aR,bI,aY,gO,gP,fX,gH,fL,gI,fY,gJ,gQ,gR,gS,gT,cM,eH,eI,aO,bJ,bK,cK,cN,cX,dF]
  cases hd:l.drop k with
  | nil =>
   rw [hd] at hs
   simp [if_true,if_false,Bool.false_eq_true,Bool.true_eq_false,reduceCtorEq,aC,eG,jN,jO,jP,jQ,gU,dW,jR,gN,jB,fU,V.bool.injEq,Bool.true_and,Bool.and_true,Bool.false_and,Bool.and_false,Bool.true_or,Bool.or_true,Bool.false_or,Bool.or_false,Bool.not_true,Bool.not_false,aH,bF,aX,aR,bI,aY,gO,gP,fX,gH,fL,gI,fY,gJ,gQ,gR,gS,gT,cM,eH,eI,aO,bJ,bK,cK,cN,cX,dF,hs,eS]
  | cons c t =>
   have e2:lF (.str (c::t)) none (some (.int .i64 1))=some (.str [c]):=by
    have:=a6v (l:=c::t) (k:=1) (by simp) .i64
    simpa using this
   have hn : ¬ (c = 47 ∧ t.head? = some 47):=by
    rintro ⟨rfl,h⟩
    cases t with
    | nil=>simp at h
    | cons d t=>simp at h; subst h; rw [hd] at hc; simp at hc
   have hkl:k < l.length:=by
    have:=congrArg List.length hd; simp only [List.length_drop,List.length_cons] at this; omega
   have e1:((c::t:List UInt8) == [])=false:=rfl
   rw [hd] at hs
   simp only [if_true,if_false,Bool.false_eq_true,Bool.true_eq_false,reduceCtorEq,aC,eG,jN,jO,jP,jQ,gU,dW,jR,gN,jB,fU,V.bool.injEq,Bool.true_and,Bool.and_true,Bool.false_and,Bool.and_false,Bool.true_or,Bool.or_true,Bool.false_or,Bool.or_false,Bool.not_true,Bool.not_false,aH,bF,aX,aR,bI,aY,gO,gP,fX,gH,fL,gI,fY,gJ,gQ,gR,gS,gT,cM,eH,eI,aO,bJ,bK,cK,cN,cX,dF,e1,Bool.not_false,e2,c_strings_Contains,eQ,aXt]
   cases hb:wR c
   ·simp only [eS,if_neg hn,hb,Bool.false_eq_true,if_false] at hs
    simp [if_true,if_false,Bool.false_eq_true,Bool.true_eq_false,reduceCtorEq,aC,eG,jN,jO,jP,jQ,gU,dW,jR,gN,jB,fU,V.bool.injEq,Bool.true_and,Bool.and_true,Bool.false_and,Bool.and_false,Bool.true_or,Bool.or_true,Bool.false_or,Bool.or_false,Bool.not_true,Bool.not_false,aH,bF,aX,aR,bI,aY,gO,gP,fX,gH,fL,gI,fY,gJ,gQ,gR,gS,gT,cM,eH,eI,aO,bJ,bK,cK,cN,cX,dF,hs]
   ·simp only [eS,if_neg hn,hb,if_true] at hs
    simp only [if_true,if_false,Bool.false_eq_true,Bool.true_eq_false,reduceCtorEq,aC,eG,jN,jO,jP,jQ,gU,dW,jR,gN,jB,fU,V.bool.injEq,Bool.true_and,Bool.and_true,Bool.false_and,Bool.and_false,Bool.true_or,Bool.or_true,Bool.false_or,Bool.or_false,Bool.not_true,Bool.not_false,aH,bF,aX,aR,bI,aY,gO,gP,fX,gH,fL,gI,fY,gJ,gQ,gR,gS,gT,cM,eH,eI,aO,bJ,bK,cK,cN,cX,dF]
    rw [vQ (by omega) (by omega)]
    refine hr _ ⟨k+1,by simp,hkl,?_⟩ (by simp [gv,a0v]; omega)
    have:l.drop (k+1)=t:=by rw [← List.drop_drop,hd]; rfl
    rw [this,hs]; omega
 ·obtain ⟨t,hd⟩:=b7p.1 hc
  have hkl:k+2≤l.length:=by
   have:=congrArg List.length hd; simp only [List.length_drop,List.length_cons] at this; omega
  simp only [if_true,if_false,Bool.false_eq_true,Bool.true_eq_false,reduceCtorEq,aC,eG,jN,jO,jP,jQ,gU,dW,jR,gN,jB,fU,V.bool.injEq,Bool.true_and,Bool.and_true,Bool.false_and,Bool.and_false,Bool.true_or,Bool.or_true,Bool.false_or,Bool.or_false,Bool.not_true,Bool.not_false,aH,bF,aX,aR,bI,aY,gO,gP,fX,gH,fL,gI,fY,gJ,gQ,gR,gS,gT,cM,eH,eI,aO,bJ,bK,cK,cN,cX,dF,c_strings_Index,iV]
  rw [hd,aXs,← hd] at hs
  rcases aCu (l.drop k) 10 with ⟨e1,e2⟩ | ⟨j,e1,e2,e3⟩
  ·rw [a8y _ e2] at hs
   simp only [List.length_drop] at hs
   simp [if_true,if_false,Bool.false_eq_true,Bool.true_eq_false,reduceCtorEq,aC,eG,jN,jO,jP,jQ,gU,dW,jR,gN,jB,fU,V.bool.injEq,Bool.true_and,Bool.and_true,Bool.false_and,Bool.and_false,Bool.true_or,Bool.or_true,Bool.false_or,Bool.or_false,Bool.not_true,Bool.not_false,aH,bF,aX,aR,bI,aY,gO,gP,fX,gH,fL,gI,fY,gJ,gQ,gR,gS,gT,cM,eH,eI,aO,bJ,bK,cK,cN,cX,dF,e1,hs] <;> omega
  ·rw [aB1 _ j e2 e3] at hs
   have hj:k+j < l.length:=by
    have:=(List.getElem?_eq_some_iff.1 e2).1; simp only [List.length_drop] at this; omega
   have hj0:j≠0:=by rintro rfl; rw [hd] at e2; simp at e2
   have e4:¬ ((j:Int) < 0):=by omega
   simp only [if_true,if_false,Bool.false_eq_true,Bool.true_eq_false,reduceCtorEq,aC,eG,jN,jO,jP,jQ,gU,dW,jR,gN,jB,fU,V.bool.injEq,Bool.true_and,Bool.and_true,Bool.false_and,Bool.and_false,Bool.true_or,Bool.or_true,Bool.false_or,Bool.or_false,Bool.not_true,Bool.not_false,aH,bF,aX,aR,bI,aY,gO,gP,fX,gH,fL,gI,fY,gJ,gQ,gR,gS,gT,cM,eH,eI,aO,bJ,bK,cK,cN,cX,dF,e1,e4,decide_false]
   rw [vQ (by omega) (by omega)]
   refine hr _ ⟨k+j,by simp,by omega,?_⟩ (by simp [gv,a0v]; omega)
   rw [hs,List.drop_drop]; omega
def aXu:List UInt8:=[123,125,58,59,124,35,61,43,45,38,40,41]
def fM (l:List UInt8):Int×List UInt8×Bool :=
 if 0 < wQ l then (1,l.take (wQ l),true)
 else if [45,62].isPrefixOf l then (2,[45,62],true)
 else (2,l.take 1,decide (l.getD 0 0 ∈ aXu))
def a90 (k:Int) (at_:Int) (x:List UInt8):V:=.agg [vI k,vI at_,.str x]
def rW:Spec
 | [.str l]=>if l≠[]∧l.length≤big then some (.aG [a90 (fM l).1 0 (fM l).2.1,.bool (fM l).2.2]) else none
 | _=>none
theorem aNe:iJ Try.prog rX rW:=by
 refine aNf (T:=[(rA,r9),(dT,dU),(eP,eQ)]) (aK.cons aRe (aK.cons a0w (aK.cons a1v aK.nil))) fun args v hv=>?_
 have c_toke_row:∀ args,bO [(rA,r9),(dT,dU),(eP,eQ)] rA args=r9 args:=fun _=>rfl
 have c_strings_HasPrefix:∀ args,bO [(rA,r9),(dT,dU),(eP,eQ)] dT args=dU args:=fun _=>rfl
 have c_strings_Contains:∀ args,bO [(rA,r9),(dT,dU),(eP,eQ)] eP args=eQ args:=fun _=>rfl
 unfold rW at hv
 split at hv <;> (try simp only [Option.ite_none_right_eq_some,Option.some.injEq,reduceCtorEq] at hv)
 rename_i l
 obtain ⟨⟨hne,hl⟩,rfl⟩:=hv
 have hrow:wQ l≤l.length:=(List.takeWhile_sublist _).length_le
 refine ⟨rfl,rfl,rfl,?_⟩
 rw [aRh]
 simp only [if_true,if_false,Bool.false_eq_true,Bool.true_eq_false,reduceCtorEq,aC,eG,jN,jO,jP,jQ,gU,dW,jR,gN,jB,fU,V.bool.injEq,Bool.true_and,Bool.and_true,Bool.false_and,Bool.and_false,Bool.true_or,Bool.or_true,Bool.false_or,Bool.or_false,Bool.not_true,Bool.not_false,aH,bF,aX,aR,bI,aY,gO,gP,fX,gH,fL,gI,fY,gJ,gQ,gR,gS,gT,cM,eH,eI,aO,bJ,bK,cK,cN,cX,dF,c_toke_row,r9,hl]
 by_cases h:0 < wQ l
 ·have h':(0:Int) < (wQ l:Int):=by omega
  simp [if_true,if_false,Bool.false_eq_true,Bool.true_eq_false,reduceCtorEq,aC,eG,jN,jO,jP,jQ,gU,dW,jR,gN,jB,fU,V.bool.injEq,Bool.true_and,Bool.and_true,Bool.false_and,Bool.and_false,Bool.true_or,Bool.or_true,Bool.false_or,Bool.or_false,Bool.not_true,Bool.not_false,aH,bF,aX,aR,bI,aY,gO,gP,fX,gH,fL,gI,fY,gJ,gQ,gR,gS,gT,cM,eH,eI,aO,bJ,bK,cK,cN,cX,dF,h',a6v hrow,aE,sc,fM,h,a90]
 ·have h':¬ (0:Int) < (wQ l:Int):=by omega
  have e1:lF (.str l) none (some (.int .i64 1))=some (.str (l.take 1)):=by
   have h1:1≤l.length:=by cases l with
    | nil=>exact absurd rfl hne
    | cons=>simp
   have:=a6v h1 .i64
   simpa using this
  simp only [if_true,if_false,Bool.false_eq_true,Bool.true_eq_false,reduceCtorEq,aC,eG,jN,jO,jP,jQ,gU,dW,jR,gN,jB,fU,V.bool.injEq,Bool.true_and,Bool.and_true,Bool.false_and,Bool.and_false,Bool.true_or,Bool.or_true,Bool.false_or,Bool.or_false,Bool.not_true,Bool.not_false,aH,bF,aX,aR,bI,aY,gO,gP,fX,gH,fL,gI,fY,gJ,gQ,gR,gS,gT,cM,eH,eI,aO,bJ,bK,cK,cN,cX,dF,h',decide_false,c_strings_HasPrefix,dU]
  cases hc:List.isPrefixOf [45,62] l
  ·obtain ⟨c,t,rfl⟩:∃ c t,l=c::t:=by cases l with
    | nil=>exact absurd rfl hne
    | cons c t=>exact ⟨c,t,rfl⟩
   simp [if_true,if_false,Bool.false_eq_true,Bool.true_eq_false,reduceCtorEq,aC,eG,jN,jO,jP,jQ,gU,dW,jR,gN,jB,fU,V.bool.injEq,Bool.true_and,Bool.and_true,Bool.false_and,Bool.and_false,Bool.true_or,Bool.or_true,Bool.false_or,Bool.or_false,Bool.not_true,Bool.not_false,aH,bF,aX,aR,bI,aY,gO,gP,fX,gH,fL,gI,fY,gJ,gQ,gR,gS,gT,cM,eH,eI,aO,bJ,bK,cK,cN,cX,dF,e1,aE,sc,c_strings_Contains,eQ,fM,h,hc,a90,aSr,aXu]
  ·simp [if_true,if_false,Bool.false_eq_true,Bool.true_eq_false,reduceCtorEq,aC,eG,jN,jO,jP,jQ,gU,dW,jR,gN,jB,fU,V.bool.injEq,Bool.true_and,Bool.and_true,Bool.false_and,Bool.and_false,Bool.true_or,Bool.or_true,Bool.false_or,Bool.or_false,Bool.not_true,Bool.not_false,aH,bF,aX,aR,bI,aY,gO,gP,fX,gH,fL,gI,fY,gJ,gQ,gR,gS,gT,cM,eH,eI,aO,bJ,bK,cK,cN,cX,dF,aE,sc,fM,h,hc,a90]
end Go.Fbs

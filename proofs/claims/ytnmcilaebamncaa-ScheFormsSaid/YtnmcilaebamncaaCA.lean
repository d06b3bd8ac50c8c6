import Derived.Test.YtnmcilaebamncaaHT
import Derived.Test.YtnmcilaebamncaaCS
set_option linter.unusedVariables false
set_option linter.unusedSimpArgs false
set_option linter.unusedSectionVars false
namespace Go.Fbs
open Go.Proofs
def qT (c:Int):Bool:=(decide (97≤c) && decide (c≤122)) || (decide (48≤c) && decide (c≤57)) || decide (c=95)
def qU:Spec
 | [.int .u8 c]=>some (.bool (qT c))
 | _=>none
theorem aJ3:iJ Try.prog qV qU:=by
 refine aJ4 (T:=[]) (aK.nil) fun args v hv=>?_
 unfold qU at hv
 split at hv <;> (try simp only [Option.ite_none_right_eq_some,Option.some.injEq,reduceCtorEq] at hv)
 rename_i c
 subst hv
 refine ⟨rfl,rfl,rfl,?_⟩
 rw [aMb]
 by_cases h1:97≤c <;> by_cases h2:c≤122 <;> by_cases h3:48≤c <;> by_cases h4:c≤57 <;> by_cases h5:c=95 <;> simp [if_true,if_false,Bool.false_eq_true,Bool.true_eq_false,reduceCtorEq,aC,eG,jN,jO,jP,jQ,gU,dW,jR,gN,jB,fU,V.bool.injEq,Bool.true_and,Bool.and_true,Bool.false_and,Bool.and_false,Bool.true_or,Bool.or_true,Bool.false_or,Bool.or_false,Bool.not_true,Bool.not_false,aH,bF,aX,aR,bI,aY,gO,gP,fX,gH,fL,gI,fY,gJ,gQ,gR,gS,gT,cM,eH,eI,aO,bJ,bK,cK,cN,cX,dF,qT,h1,h2,h3,h4,h5]
def wQ (l:List UInt8):Nat:=(l.takeWhile fun c=>qT c.toNat).length
theorem aB0 {α : Type} (f : α → Bool) : ∀ (l : List α) (k : Nat),k ≤ (l.takeWhile f).length → (∀ c,l[k]? = some c → f c = true) → k < l.length → k + 1 ≤ (l.takeWhile f).length
 | [],k,_,_,h=>by simp at h
 | a::l,0,h,hf,_=>by have:=hf a rfl; simp [List.takeWhile_cons,this]
 | a::l,k+1,h,hf,hl=>by
  simp only [List.takeWhile_cons] at h ⊢
  split
  ·rename_i ha
   rw [if_pos ha] at h
   simp only [List.length_cons] at h ⊢
   exact Nat.succ_le_succ (aB0 f l k (by omega) (fun c hc=>hf c (by simpa using hc)) (by simpa using hl))
  ·rename_i ha; rw [if_neg ha] at h; simp at h
theorem a8x {α : Type} (f : α → Bool) : ∀ (l : List α) (k : Nat) (c : α),k ≤ (l.takeWhile f).length → l[k]? = some c → f c = false → (l.takeWhile f).length = k
 | [],k,c,_,h,_=>by simp at h
 | a::l,0,c,_,h,hf=>by simp at h; subst h; simp [List.takeWhile_cons,hf]
 | a::l,k+1,c,h,hc,hf=>by
  simp only [List.takeWhile_cons] at h ⊢
  split
  ·rename_i ha
   rw [if_pos ha] at h
   simp only [List.length_cons] at h ⊢
   rw [a8x f l k c (by omega) (by simpa using hc) hf]
  ·rename_i ha; rw [if_neg ha] at h; simp at h
def r9:Spec
 | [.str l]=>if l.length≤big then some (vI (wQ l)) else none
 | _=>none
theorem aRe:iJ Try.prog rA r9:=by
 refine aRf (T:=[(qV,qU)]) (aK.cons aJ3 aK.nil) fun args v hv=>?_
 have c_toke_letter:∀ args,bO [(qV,qU)] qV args=qU args:=fun _=>rfl
 unfold r9 at hv
 split at hv <;> (try simp only [Option.ite_none_right_eq_some,Option.some.injEq,reduceCtorEq] at hv)
 rename_i l
 obtain ⟨hl,rfl⟩:=hv
 unfold big at hl
 refine ⟨rfl,rfl,rfl,?_⟩
 rw [aUh]
 simp only [if_true,if_false,Bool.false_eq_true,Bool.true_eq_false,reduceCtorEq,aC,eG,jN,jO,jP,jQ,gU,dW,jR,gN,jB,fU,V.bool.injEq,Bool.true_and,Bool.and_true,Bool.false_and,Bool.and_false,Bool.true_or,Bool.or_true,Bool.false_or,Bool.or_false,Bool.not_true,Bool.not_false,aH,bF,aX,aR,bI,aY,gO,gP,fX,gH,fL,gI,fY,gJ,gQ,gR,gS,gT,cM,eH,eI,aO,bJ,bK,cK,cN,cX,dF]
 have hN:wQ l≤l.length:=(List.takeWhile_sublist _).length_le
 refine pM (fun vs=>∃ k:Nat,vs=[vI k]∧k≤wQ l) (fun vs=>l.length - a0v (gv vs 0)) ⟨0,rfl,Nat.zero_le _⟩ ?_
 rintro r _ ⟨k,rfl,hk⟩ hr
 refine ⟨rfl,?_⟩
 simp only [if_true,if_false,Bool.false_eq_true,Bool.true_eq_false,reduceCtorEq,aC,eG,jN,jO,jP,jQ,gU,dW,jR,gN,jB,fU,V.bool.injEq,Bool.true_and,Bool.and_true,Bool.false_and,Bool.and_false,Bool.true_or,Bool.or_true,Bool.false_or,Bool.or_false,Bool.not_true,Bool.not_false,aH,bF,aX,aR,bI,aY,gO,gP,fX,gH,fL,gI,fY,gJ,gQ,gR,gS,gT,cM,eH,eI,aO,bJ,bK,cK,cN,cX,dF]
 by_cases hlt:k < l.length
 ·obtain ⟨c,hc⟩ : ∃ c,l[k]? = some c:=⟨l[k],List.getElem?_eq_getElem hlt⟩
  have hlt':(k:Int) < (l.length:Int):=by omega
  simp only [hlt',decide_true,if_true,if_false,Bool.false_eq_true,Bool.true_eq_false,reduceCtorEq,aC,eG,jN,jO,jP,jQ,gU,dW,jR,gN,jB,fU,V.bool.injEq,Bool.true_and,Bool.and_true,Bool.false_and,Bool.and_false,Bool.true_or,Bool.or_true,Bool.false_or,Bool.or_false,Bool.not_true,Bool.not_false,aH,bF,aX,aR,bI,aY,gO,gP,fX,gH,fL,gI,fY,gJ,gQ,gR,gS,gT,cM,eH,eI,aO,bJ,bK,cK,cN,cX,dF,aSq hc,c_toke_letter,qU]
  cases hb:qT c.toNat
  ·have hst:wQ l=k:=a8x _ l k c hk hc hb
   simp [if_true,if_false,Bool.false_eq_true,Bool.true_eq_false,reduceCtorEq,aC,eG,jN,jO,jP,jQ,gU,dW,jR,gN,jB,fU,V.bool.injEq,Bool.true_and,Bool.and_true,Bool.false_and,Bool.and_false,Bool.true_or,Bool.or_true,Bool.false_or,Bool.or_false,Bool.not_true,Bool.not_false,aH,bF,aX,aR,bI,aY,gO,gP,fX,gH,fL,gI,fY,gJ,gQ,gR,gS,gT,cM,eH,eI,aO,bJ,bK,cK,cN,cX,dF,hst]
  ·have hst:k+1≤wQ l:=aB0 _ l k hk (fun c' hc'=>by rw [hc] at hc'; simp at hc'; subst hc'; exact hb) hlt
   simp only [if_true,if_false,Bool.false_eq_true,Bool.true_eq_false,reduceCtorEq,aC,eG,jN,jO,jP,jQ,gU,dW,jR,gN,jB,fU,V.bool.injEq,Bool.true_and,Bool.and_true,Bool.false_and,Bool.and_false,Bool.true_or,Bool.or_true,Bool.false_or,Bool.or_false,Bool.not_true,Bool.not_false,aH,bF,aX,aR,bI,aY,gO,gP,fX,gH,fL,gI,fY,gJ,gQ,gR,gS,gT,cM,eH,eI,aO,bJ,bK,cK,cN,cX,dF,if_true]
   rw [vQ (by omega) (by omega)]
   exact hr _ ⟨k+1,by simp,hst⟩ (by simp [gv,a0v]; omega)
 ·have hlt':¬ (k:Int) < (l.length:Int):=by omega
  have hst:wQ l=k:=by omega
  simp [if_true,if_false,Bool.false_eq_true,Bool.true_eq_false,reduceCtorEq,aC,eG,jN,jO,jP,jQ,gU,dW,jR,gN,jB,fU,V.bool.injEq,Bool.true_and,Bool.and_true,Bool.false_and,Bool.and_false,Bool.true_or,Bool.or_true,Bool.false_or,Bool.or_false,Bool.not_true,Bool.not_false,aH,bF,aX,aR,bI,aY,gO,gP,fX,gH,fL,gI,fY,gJ,gQ,gR,gS,gT,cM,eH,eI,aO,bJ,bK,cK,cN,cX,dF,hlt',hst]
end Go.Fbs

import Derived.Test.YtnmcilaebamncaaHS
import Derived.Test.YtnmcilaebamncaaS2
import Derived.Test.YtnmcilaebamncaaKShelf
set_option linter.unusedVariables false
set_option linter.unusedSimpArgs false
set_option linter.unusedSectionVars false
set_option maxRecDepth 100000
namespace Go.Fbs
open Go.Proofs
def ixB (l:List UInt8) (c:UInt8):Int:=Lib.indexByte l c
def iS:Spec
 | [.str s,.str [c]]=>some (vI (ixB s c))
 | _=>none
theorem a1u:iJ Try.prog jG iS:=by
 refine ⟨⟨_,_,Try.func99,rfl,by kernel_rfl⟩,fun args v hv=>?_⟩
 unfold iS at hv
 split at hv <;> simp only [Option.some.injEq,reduceCtorEq] at hv
 rename_i s c
 subst hv
 exact ⟨fun m=>aRk fun κ w xs r=>⟨_,by rw [aXv r]; exact Try.stringslite_Index_one ⟨⟨s⟩⟩ c w,.int _ _⟩,rfl⟩
def iV:Spec
 | [.str s,.str [c]]=>some (vI (ixB s c))
 | _=>none
theorem a5n:iJ Try.prog iU iV:=by
 refine aGp (T:=[(jG,iS)]) (aK.cons a1u aK.nil) fun args v hv=>?_
 have c_internal_stringslite_Index:∀ args,bO [(jG,iS)] jG args=iS args:=fun _=>rfl
 unfold iV at hv
 split at hv <;> (try simp only [Option.ite_none_right_eq_some,Option.some.injEq,reduceCtorEq] at hv)
 subst hv
 refine ⟨rfl,rfl,rfl,?_⟩
 rw [aH0]
 simp [if_true,if_false,Bool.false_eq_true,Bool.true_eq_false,reduceCtorEq,aC,eG,jN,jO,jP,jQ,gU,dW,jR,gN,jB,fU,V.bool.injEq,Bool.true_and,Bool.and_true,Bool.false_and,Bool.and_false,Bool.true_or,Bool.or_true,Bool.false_or,Bool.or_false,Bool.not_true,Bool.not_false,aH,bF,aX,aR,bI,aY,gO,gP,fX,gH,fL,gI,fY,gJ,gQ,gR,gS,gT,cM,eH,eI,aO,bJ,bK,cK,cN,cX,dF,c_internal_stringslite_Index,iS]
def eQ:Spec
 | [.str s,.str [c]]=>some (.bool (decide (0≤ixB s c)))
 | _=>none
theorem a1v:iJ Try.prog eP eQ:=by
 refine aCk (T:=[(iU,iV)]) (aK.cons a5n aK.nil) fun args v hv=>?_
 have c_strings_Index:∀ args,bO [(iU,iV)] iU args=iV args:=fun _=>rfl
 unfold eQ at hv
 split at hv <;> (try simp only [Option.ite_none_right_eq_some,Option.some.injEq,reduceCtorEq] at hv)
 subst hv
 refine ⟨rfl,rfl,rfl,?_⟩
 rw [aCv]
 simp [if_true,if_false,Bool.false_eq_true,Bool.true_eq_false,reduceCtorEq,aC,eG,jN,jO,jP,jQ,gU,dW,jR,gN,jB,fU,V.bool.injEq,Bool.true_and,Bool.and_true,Bool.false_and,Bool.and_false,Bool.true_or,Bool.or_true,Bool.false_or,Bool.or_false,Bool.not_true,Bool.not_false,aH,bF,aX,aR,bI,aY,gO,gP,fX,gH,fL,gI,fY,gJ,gQ,gR,gS,gT,cM,eH,eI,aO,bJ,bK,cK,cN,cX,dF,c_strings_Index,iV]
theorem a3e {q s:List UInt8} : q.isPrefixOf s=(decide (q.length≤s.length) && (s.take q.length == q)):=by
 induction q generalizing s with
 | nil=>simp
 | cons a q ih=>cases s with
  | nil=>simp
  | cons b s =>
   simp only [List.isPrefixOf,ih,List.length_cons,List.take_succ_cons,List.cons_beq_cons,Nat.add_le_add_iff_right]
   rw [show (a == b)=(b == a) from BEq.comm]
   cases b == a <;> simp
def gK:Spec
 | [.str s,.str q]=>some (.bool (q.isPrefixOf s))
 | _=>none
theorem yI:iJ Try.prog gL gK:=by
 refine yJ (T:=[]) (aK.nil) fun args v hv=>?_
 unfold gK at hv
 split at hv <;> (try simp only [Option.ite_none_right_eq_some,Option.some.injEq,reduceCtorEq] at hv)
 rename_i s q
 subst hv
 refine ⟨rfl,rfl,rfl,?_⟩
 rw [zK]
 by_cases h:q.length≤s.length
 ·have h':(q.length:Int)≤(s.length:Int):=by omega
  simp [if_true,if_false,Bool.false_eq_true,Bool.true_eq_false,reduceCtorEq,aC,eG,jN,jO,jP,jQ,gU,dW,jR,gN,jB,fU,V.bool.injEq,Bool.true_and,Bool.and_true,Bool.false_and,Bool.and_false,Bool.true_or,Bool.or_true,Bool.false_or,Bool.or_false,Bool.not_true,Bool.not_false,aH,bF,aX,aR,bI,aY,gO,gP,fX,gH,fL,gI,fY,gJ,gQ,gR,gS,gT,cM,eH,eI,aO,bJ,bK,cK,cN,cX,dF,h',a6v h,a3e,h]
 ·have h':¬ (q.length:Int)≤(s.length:Int):=by omega
  simp [if_true,if_false,Bool.false_eq_true,Bool.true_eq_false,reduceCtorEq,aC,eG,jN,jO,jP,jQ,gU,dW,jR,gN,jB,fU,V.bool.injEq,Bool.true_and,Bool.and_true,Bool.false_and,Bool.and_false,Bool.true_or,Bool.or_true,Bool.false_or,Bool.or_false,Bool.not_true,Bool.not_false,aH,bF,aX,aR,bI,aY,gO,gP,fX,gH,fL,gI,fY,gJ,gQ,gR,gS,gT,cM,eH,eI,aO,bJ,bK,cK,cN,cX,dF,h',a3e,h]
def dU:Spec
 | [.str s,.str q]=>some (.bool (q.isPrefixOf s))
 | _=>none
theorem a0w:iJ Try.prog dT dU:=by
 refine a92 (T:=[(gL,gK)]) (aK.cons yI aK.nil) fun args v hv=>?_
 have c_internal_stringslite_HasPrefix:∀ args,bO [(gL,gK)] gL args=gK args:=fun _=>rfl
 unfold dU at hv
 split at hv <;> (try simp only [Option.ite_none_right_eq_some,Option.some.injEq,reduceCtorEq] at hv)
 subst hv
 refine ⟨rfl,rfl,rfl,?_⟩
 rw [aCl]
 simp [if_true,if_false,Bool.false_eq_true,Bool.true_eq_false,reduceCtorEq,aC,eG,jN,jO,jP,jQ,gU,dW,jR,gN,jB,fU,V.bool.injEq,Bool.true_and,Bool.and_true,Bool.false_and,Bool.and_false,Bool.true_or,Bool.or_true,Bool.false_or,Bool.or_false,Bool.not_true,Bool.not_false,aH,bF,aX,aR,bI,aY,gO,gP,fX,gH,fL,gI,fY,gJ,gQ,gR,gS,gT,cM,eH,eI,aO,bJ,bK,cK,cN,cX,dF,c_internal_stringslite_HasPrefix,gK]
end Go.Fbs

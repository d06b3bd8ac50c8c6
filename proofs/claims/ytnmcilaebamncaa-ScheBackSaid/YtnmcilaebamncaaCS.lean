import Derived.Test.YtnmcilaebamncaaHS
import Derived.Test.YtnmcilaebamncaaS2
import Derived.Test.YtnmcilaebamncaaKShelf
set_option maxRecDepth 100000
namespace Go.Fbs
open Go.Proofs
def ixB (l : List UInt8) (c : UInt8) : Int:=Lib.indexByte l c
def F_internal_stringslite_Index : Spec
 | [.str s,.str [c]]=>some (vI (ixB s c))
 | _=>none
theorem ok_internal_stringslite_Index : SpecL Try.prog n_internal_stringslite_Index F_internal_stringslite_Index:=by
 refine ⟨⟨_,_,Try.func99,rfl,by kernel_rfl⟩,fun args v hv=>?_⟩
 unfold F_internal_stringslite_Index at hv
 split at hv <;> simp only [Option.some.injEq,reduceCtorEq] at hv
 rename_i s c
 subst hv
 exact ⟨fun m=>callOk_same fun κ w xs r=>⟨_,by rw [reps_str2 r]; exact Try.stringslite_Index_one ⟨⟨s⟩⟩ c w,.int _ _⟩,rfl⟩
def F_strings_Index : Spec
 | [.str s,.str [c]]=>some (vI (ixB s c))
 | _=>none
theorem ok_strings_Index : SpecL Try.prog n_strings_Index F_strings_Index:=by
 refine go_strings_Index (T:=[(n_internal_stringslite_Index,F_internal_stringslite_Index)]) (TabOk.cons ok_internal_stringslite_Index TabOk.nil) fun args v hv=>?_
 have c_internal_stringslite_Index : ∀ args,tab [(n_internal_stringslite_Index,F_internal_stringslite_Index)] n_internal_stringslite_Index args = F_internal_stringslite_Index args:=fun _=>rfl
 unfold F_strings_Index at hv
 split at hv <;> (try simp only [Option.ite_none_right_eq_some,Option.some.injEq,reduceCtorEq] at hv)
 subst hv
 refine ⟨rfl,rfl,rfl,?_⟩
 rw [e_strings_Index]
 simp [sS,if_true,if_false,reduceCtorEq,c_internal_stringslite_Index,F_internal_stringslite_Index]
def F_strings_Contains : Spec
 | [.str s,.str [c]]=>some (.bool (decide (0 ≤ ixB s c)))
 | _=>none
theorem ok_strings_Contains : SpecL Try.prog n_strings_Contains F_strings_Contains:=by
 refine go_strings_Contains (T:=[(n_strings_Index,F_strings_Index)]) (TabOk.cons ok_strings_Index TabOk.nil) fun args v hv=>?_
 have c_strings_Index : ∀ args,tab [(n_strings_Index,F_strings_Index)] n_strings_Index args = F_strings_Index args:=fun _=>rfl
 unfold F_strings_Contains at hv
 split at hv <;> (try simp only [Option.ite_none_right_eq_some,Option.some.injEq,reduceCtorEq] at hv)
 subst hv
 refine ⟨rfl,rfl,rfl,?_⟩
 rw [e_strings_Contains]
 simp [sS,if_true,if_false,reduceCtorEq,c_strings_Index,F_strings_Index]
theorem isPrefixOf_eq_take {q s : List UInt8} : q.isPrefixOf s = (decide (q.length ≤ s.length) && (s.take q.length == q)):=by
 induction q generalizing s with
 | nil=>simp
 | cons a q ih=>cases s with
  | nil=>simp
  | cons b s =>
   simp only [List.isPrefixOf,ih,List.length_cons,List.take_succ_cons,List.cons_beq_cons,Nat.add_le_add_iff_right]
   rw [show (a == b) = (b == a) from BEq.comm]
   cases b == a <;> simp
def F_internal_stringslite_HasPrefix : Spec
 | [.str s,.str q]=>some (.bool (q.isPrefixOf s))
 | _=>none
theorem ok_internal_stringslite_HasPrefix : SpecL Try.prog n_internal_stringslite_HasPrefix F_internal_stringslite_HasPrefix:=by
 refine go_internal_stringslite_HasPrefix (T:=[]) (TabOk.nil) fun args v hv=>?_
 unfold F_internal_stringslite_HasPrefix at hv
 split at hv <;> (try simp only [Option.ite_none_right_eq_some,Option.some.injEq,reduceCtorEq] at hv)
 rename_i s q
 subst hv
 refine ⟨rfl,rfl,rfl,?_⟩
 rw [e_internal_stringslite_HasPrefix]
 by_cases h : q.length ≤ s.length
 ·have h' : (q.length : Int) ≤ (s.length : Int):=by omega
  simp [sS,if_true,if_false,reduceCtorEq,h',sliceS_to h,isPrefixOf_eq_take,h]
 ·have h' : ¬ (q.length : Int) ≤ (s.length : Int):=by omega
  simp [sS,if_true,if_false,reduceCtorEq,h',isPrefixOf_eq_take,h]
def F_strings_HasPrefix : Spec
 | [.str s,.str q]=>some (.bool (q.isPrefixOf s))
 | _=>none
theorem ok_strings_HasPrefix : SpecL Try.prog n_strings_HasPrefix F_strings_HasPrefix:=by
 refine go_strings_HasPrefix (T:=[(n_internal_stringslite_HasPrefix,F_internal_stringslite_HasPrefix)]) (TabOk.cons ok_internal_stringslite_HasPrefix TabOk.nil) fun args v hv=>?_
 have c_internal_stringslite_HasPrefix : ∀ args,tab [(n_internal_stringslite_HasPrefix,F_internal_stringslite_HasPrefix)] n_internal_stringslite_HasPrefix args = F_internal_stringslite_HasPrefix args:=fun _=>rfl
 unfold F_strings_HasPrefix at hv
 split at hv <;> (try simp only [Option.ite_none_right_eq_some,Option.some.injEq,reduceCtorEq] at hv)
 subst hv
 refine ⟨rfl,rfl,rfl,?_⟩
 rw [e_strings_HasPrefix]
 simp [sS,if_true,if_false,reduceCtorEq,c_internal_stringslite_HasPrefix,F_internal_stringslite_HasPrefix]
end Go.Fbs

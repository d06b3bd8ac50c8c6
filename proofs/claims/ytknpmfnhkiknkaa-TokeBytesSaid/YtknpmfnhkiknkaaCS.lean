import Derived.Test.YtknpmfnhkiknkaaHS
import Derived.Test.YtknpmfnhkiknkaaK5
import Derived.Test.YtknpmfnhkiknkaaShelf
set_option linter.unusedVariables false
set_option linter.unusedSimpArgs false
set_option linter.unusedSectionVars false
namespace Go.Fbs
open Go.Proofs

/-- Where a byte stands first: -1: nowhere. -/
def ixB (l : List UInt8) (c : UInt8) : Int := Lib.indexByte l c

def F_internal_stringslite_Index : Spec
  | [.str s, .str [c]] => some (vI (ixB s c))
  | _ => none
theorem ok_internal_stringslite_Index : SpecL Try.prog n_internal_stringslite_Index F_internal_stringslite_Index := by
  refine ⟨⟨_, _, Try.func14, rfl, by kernel_rfl⟩, fun args v hv => ?_⟩
  unfold F_internal_stringslite_Index at hv
  split at hv <;> simp only [Option.some.injEq, reduceCtorEq] at hv
  rename_i s c
  subst hv
  exact ⟨fun m => callOk_same fun κ w xs r => ⟨_, by rw [reps_str2 r]; exact Try.stringslite_Index_one ⟨⟨s⟩⟩ c w, .int _ _⟩, rfl⟩

def F_strings_Index : Spec
  | [.str s, .str [c]] => some (vI (ixB s c))
  | _ => none
theorem ok_strings_Index : SpecL Try.prog n_strings_Index F_strings_Index := by
  refine go_strings_Index (T := [(n_internal_stringslite_Index, F_internal_stringslite_Index)]) (TabOk.cons ok_internal_stringslite_Index TabOk.nil) fun args v hv => ?_
  have c_internal_stringslite_Index : ∀ args, tab [(n_internal_stringslite_Index, F_internal_stringslite_Index)] n_internal_stringslite_Index args = F_internal_stringslite_Index args := fun _ => rfl
  unfold F_strings_Index at hv
  split at hv <;> (try simp only [Option.ite_none_right_eq_some, Option.some.injEq, reduceCtorEq] at hv)
  subst hv
  refine ⟨rfl, rfl, rfl, ?_⟩
  rw [e_strings_Index]
  simp [if_true, if_false, Bool.false_eq_true, Bool.true_eq_false, reduceCtorEq, opt_s, gBool, gTT, gFF, gTF, gFT, gU, pBool, orN, andN, orI, andI, V.bool.injEq, Bool.true_and, Bool.and_true, Bool.false_and, Bool.and_false, Bool.true_or, Bool.or_true, Bool.false_or, Bool.or_false, Bool.not_true, Bool.not_false, iteB_bool, iteB_true, iteB_false, not_bool, chkB_bool, chkB_undef, bGeq, bLeq, bLss, bGtr, bEql, bNeq, bAdd, bSub, bMul, bSeq, bSne, bSlt, eqB_eq, mmMin, mmMax, ext_tup, cellD_agg, convI_int, lenS_s, lenL_s, gv_0, gv_s, c_internal_stringslite_Index, F_internal_stringslite_Index]

def F_strings_Contains : Spec
  | [.str s, .str [c]] => some (.bool (decide (0 ≤ ixB s c)))
  | _ => none
theorem ok_strings_Contains : SpecL Try.prog n_strings_Contains F_strings_Contains := by
  refine go_strings_Contains (T := [(n_strings_Index, F_strings_Index)]) (TabOk.cons ok_strings_Index TabOk.nil) fun args v hv => ?_
  have c_strings_Index : ∀ args, tab [(n_strings_Index, F_strings_Index)] n_strings_Index args = F_strings_Index args := fun _ => rfl
  unfold F_strings_Contains at hv
  split at hv <;> (try simp only [Option.ite_none_right_eq_some, Option.some.injEq, reduceCtorEq] at hv)
  subst hv
  refine ⟨rfl, rfl, rfl, ?_⟩
  rw [e_strings_Contains]
  simp [if_true, if_false, Bool.false_eq_true, Bool.true_eq_false, reduceCtorEq, opt_s, gBool, gTT, gFF, gTF, gFT, gU, pBool, orN, andN, orI, andI, V.bool.injEq, Bool.true_and, Bool.and_true, Bool.false_and, Bool.and_false, Bool.true_or, Bool.or_true, Bool.false_or, Bool.or_false, Bool.not_true, Bool.not_false, iteB_bool, iteB_true, iteB_false, not_bool, chkB_bool, chkB_undef, bGeq, bLeq, bLss, bGtr, bEql, bNeq, bAdd, bSub, bMul, bSeq, bSne, bSlt, eqB_eq, mmMin, mmMax, ext_tup, cellD_agg, convI_int, lenS_s, lenL_s, gv_0, gv_s, c_strings_Index, F_strings_Index]

theorem isPrefixOf_eq_take {q s : List UInt8} : q.isPrefixOf s = (decide (q.length ≤ s.length) && (s.take q.length == q)) := by
  induction q generalizing s with
  | nil => simp
  | cons a q ih => cases s with
    | nil => simp
    | cons b s =>
      simp only [List.isPrefixOf, ih, List.length_cons, List.take_succ_cons, List.cons_beq_cons, Nat.add_le_add_iff_right]
      rw [show (a == b) = (b == a) from BEq.comm]
      cases b == a <;> simp

def F_internal_stringslite_HasPrefix : Spec
  | [.str s, .str q] => some (.bool (q.isPrefixOf s))
  | _ => none
theorem ok_internal_stringslite_HasPrefix : SpecL Try.prog n_internal_stringslite_HasPrefix F_internal_stringslite_HasPrefix := by
  refine go_internal_stringslite_HasPrefix (T := []) (TabOk.nil) fun args v hv => ?_
  unfold F_internal_stringslite_HasPrefix at hv
  split at hv <;> (try simp only [Option.ite_none_right_eq_some, Option.some.injEq, reduceCtorEq] at hv)
  rename_i s q
  subst hv
  refine ⟨rfl, rfl, rfl, ?_⟩
  rw [e_internal_stringslite_HasPrefix]
  by_cases h : q.length ≤ s.length
  · have h' : (q.length : Int) ≤ (s.length : Int) := by omega
    simp [if_true, if_false, Bool.false_eq_true, Bool.true_eq_false, reduceCtorEq, opt_s, gBool, gTT, gFF, gTF, gFT, gU, pBool, orN, andN, orI, andI, V.bool.injEq, Bool.true_and, Bool.and_true, Bool.false_and, Bool.and_false, Bool.true_or, Bool.or_true, Bool.false_or, Bool.or_false, Bool.not_true, Bool.not_false, iteB_bool, iteB_true, iteB_false, not_bool, chkB_bool, chkB_undef, bGeq, bLeq, bLss, bGtr, bEql, bNeq, bAdd, bSub, bMul, bSeq, bSne, bSlt, eqB_eq, mmMin, mmMax, ext_tup, cellD_agg, convI_int, lenS_s, lenL_s, gv_0, gv_s, h', sliceS_to h, isPrefixOf_eq_take, h]
  · have h' : ¬ (q.length : Int) ≤ (s.length : Int) := by omega
    simp [if_true, if_false, Bool.false_eq_true, Bool.true_eq_false, reduceCtorEq, opt_s, gBool, gTT, gFF, gTF, gFT, gU, pBool, orN, andN, orI, andI, V.bool.injEq, Bool.true_and, Bool.and_true, Bool.false_and, Bool.and_false, Bool.true_or, Bool.or_true, Bool.false_or, Bool.or_false, Bool.not_true, Bool.not_false, iteB_bool, iteB_true, iteB_false, not_bool, chkB_bool, chkB_undef, bGeq, bLeq, bLss, bGtr, bEql, bNeq, bAdd, bSub, bMul, bSeq, bSne, bSlt, eqB_eq, mmMin, mmMax, ext_tup, cellD_agg, convI_int, lenS_s, lenL_s, gv_0, gv_s, h', isPrefixOf_eq_take, h]

def F_strings_HasPrefix : Spec
  | [.str s, .str q] => some (.bool (q.isPrefixOf s))
  | _ => none
theorem ok_strings_HasPrefix : SpecL Try.prog n_strings_HasPrefix F_strings_HasPrefix := by
  refine go_strings_HasPrefix (T := [(n_internal_stringslite_HasPrefix, F_internal_stringslite_HasPrefix)]) (TabOk.cons ok_internal_stringslite_HasPrefix TabOk.nil) fun args v hv => ?_
  have c_internal_stringslite_HasPrefix : ∀ args, tab [(n_internal_stringslite_HasPrefix, F_internal_stringslite_HasPrefix)] n_internal_stringslite_HasPrefix args = F_internal_stringslite_HasPrefix args := fun _ => rfl
  unfold F_strings_HasPrefix at hv
  split at hv <;> (try simp only [Option.ite_none_right_eq_some, Option.some.injEq, reduceCtorEq] at hv)
  subst hv
  refine ⟨rfl, rfl, rfl, ?_⟩
  rw [e_strings_HasPrefix]
  simp [if_true, if_false, Bool.false_eq_true, Bool.true_eq_false, reduceCtorEq, opt_s, gBool, gTT, gFF, gTF, gFT, gU, pBool, orN, andN, orI, andI, V.bool.injEq, Bool.true_and, Bool.and_true, Bool.false_and, Bool.and_false, Bool.true_or, Bool.or_true, Bool.false_or, Bool.or_false, Bool.not_true, Bool.not_false, iteB_bool, iteB_true, iteB_false, not_bool, chkB_bool, chkB_undef, bGeq, bLeq, bLss, bGtr, bEql, bNeq, bAdd, bSub, bMul, bSeq, bSne, bSlt, eqB_eq, mmMin, mmMax, ext_tup, cellD_agg, convI_int, lenS_s, lenL_s, gv_0, gv_s, c_internal_stringslite_HasPrefix, F_internal_stringslite_HasPrefix]

/-- How two texts stand to each other. -/
def cmpL (a b : List UInt8) : Int := if a = b then 0 else if Op.bytesLess a b then -1 else 1
end Go.Fbs

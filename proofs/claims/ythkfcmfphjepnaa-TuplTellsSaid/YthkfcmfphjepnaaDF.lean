import Derived.Test.YthkfcmfphjepnaaDE
set_option linter.unusedVariables false
set_option linter.unusedSimpArgs false
set_option linter.unusedSectionVars false
namespace Go.Fbs
open Go.Proofs

/-- A text cut at a byte's first place. -/
def cutT (l : List UInt8) (c : UInt8) : List UInt8 × List UInt8 × Bool :=
  if c ∈ l then (l.take (ixB l c).toNat, l.drop ((ixB l c).toNat + 1), true) else (l, [], false)
def cutV (q : List UInt8 × List UInt8 × Bool) : V := .tup [.str q.1, .str q.2.1, .bool q.2.2]
def F_internal_stringslite_Cut : Spec
  | [.str l, .str [c]] => if l.length ≤ big then some (cutV (cutT l c)) else none
  | _ => none
theorem ok_internal_stringslite_Cut : SpecL Try.prog n_internal_stringslite_Cut F_internal_stringslite_Cut := by
  refine go_internal_stringslite_Cut (T := [(n_internal_stringslite_Index, F_internal_stringslite_Index)]) (TabOk.cons ok_internal_stringslite_Index TabOk.nil) fun args v hv => ?_
  have c_internal_stringslite_Index : ∀ args, tab [(n_internal_stringslite_Index, F_internal_stringslite_Index)] n_internal_stringslite_Index args = F_internal_stringslite_Index args := fun _ => rfl
  unfold F_internal_stringslite_Cut at hv
  split at hv <;> (try simp only [Option.ite_none_right_eq_some, Option.some.injEq, reduceCtorEq] at hv)
  rename_i l c
  obtain ⟨hl, rfl⟩ := hv
  unfold big at hl
  refine ⟨rfl, rfl, rfl, ?_⟩
  rw [e_internal_stringslite_Cut]
  simp only [if_true, if_false, Bool.false_eq_true, Bool.true_eq_false, reduceCtorEq, opt_s, gBool, gTT, gFF, gTF, gFT, gU, pBool, orN, andN, orI, andI, V.bool.injEq, Bool.true_and, Bool.and_true, Bool.false_and, Bool.and_false, Bool.true_or, Bool.or_true, Bool.false_or, Bool.or_false, Bool.not_true, Bool.not_false, iteB_bool, iteB_true, iteB_false, not_bool, chkB_bool, chkB_undef, bGeq, bLeq, bLss, bGtr, bEql, bNeq, bAdd, bSub, bMul, bSeq, bSne, bSlt, eqB_eq, mmMin, mmMax, ext_tup, cellD_agg, convI_int, lenS_s, lenL_s, gv_0, gv_s, c_internal_stringslite_Index, F_internal_stringslite_Index]
  rcases ixB_cases l c with ⟨e1, e2⟩ | ⟨k, e1, e2, e3⟩
  · have h : ¬ ((0 : Int) ≤ -1) := by omega
    simp only [e1, h, decide_false, if_true, if_false, Bool.false_eq_true, Bool.true_eq_false, reduceCtorEq, opt_s, gBool, gTT, gFF, gTF, gFT, gU, pBool, orN, andN, orI, andI, V.bool.injEq, Bool.true_and, Bool.and_true, Bool.false_and, Bool.and_false, Bool.true_or, Bool.or_true, Bool.false_or, Bool.or_false, Bool.not_true, Bool.not_false, iteB_bool, iteB_true, iteB_false, not_bool, chkB_bool, chkB_undef, bGeq, bLeq, bLss, bGtr, bEql, bNeq, bAdd, bSub, bMul, bSeq, bSne, bSlt, eqB_eq, mmMin, mmMax, ext_tup, cellD_agg, convI_int, lenS_s, lenL_s, gv_0, gv_s, cutT, e2, cutV]
  · have h : (0 : Int) ≤ (k : Int) := by omega
    have hk : k < l.length := (List.getElem?_eq_some_iff.1 e2).1
    have hc : c ∈ l := List.mem_of_getElem? e2
    have hw : IntKind.i64.wrap ((k : Int) + (1 : Nat)) = ((k + 1 : Nat) : Int) := by rw [wrap_in (by omega) (by omega)]; omega
    simp only [e1, h, decide_true, if_true, if_false, Bool.false_eq_true, Bool.true_eq_false, reduceCtorEq, opt_s, gBool, gTT, gFF, gTF, gFT, gU, pBool, orN, andN, orI, andI, V.bool.injEq, Bool.true_and, Bool.and_true, Bool.false_and, Bool.and_false, Bool.true_or, Bool.or_true, Bool.false_or, Bool.or_false, Bool.not_true, Bool.not_false, iteB_bool, iteB_true, iteB_false, not_bool, chkB_bool, chkB_undef, bGeq, bLeq, bLss, bGtr, bEql, bNeq, bAdd, bSub, bMul, bSeq, bSne, bSlt, eqB_eq, mmMin, mmMax, ext_tup, cellD_agg, convI_int, lenS_s, lenL_s, gv_0, gv_s, sliceS_to (Nat.le_of_lt hk), List.length_cons, List.length_nil, Nat.zero_add, hw, sliceS_from (show k + 1 ≤ l.length from hk), cutT, hc, cutV, Int.toNat_natCast]
def F_strings_Cut : Spec
  | [.str l, .str [c]] => if l.length ≤ big then some (cutV (cutT l c)) else none
  | _ => none
theorem ok_strings_Cut : SpecL Try.prog n_strings_Cut F_strings_Cut := by
  refine go_strings_Cut (T := [(n_internal_stringslite_Cut, F_internal_stringslite_Cut)]) (TabOk.cons ok_internal_stringslite_Cut TabOk.nil) fun args v hv => ?_
  have c_internal_stringslite_Cut : ∀ args, tab [(n_internal_stringslite_Cut, F_internal_stringslite_Cut)] n_internal_stringslite_Cut args = F_internal_stringslite_Cut args := fun _ => rfl
  unfold F_strings_Cut at hv
  split at hv <;> (try simp only [Option.ite_none_right_eq_some, Option.some.injEq, reduceCtorEq] at hv)
  rename_i l c
  obtain ⟨hl, rfl⟩ := hv
  refine ⟨rfl, rfl, rfl, ?_⟩
  rw [e_strings_Cut]
  simp only [if_true, if_false, Bool.false_eq_true, Bool.true_eq_false, reduceCtorEq, opt_s, gBool, gTT, gFF, gTF, gFT, gU, pBool, orN, andN, orI, andI, V.bool.injEq, Bool.true_and, Bool.and_true, Bool.false_and, Bool.and_false, Bool.true_or, Bool.or_true, Bool.false_or, Bool.or_false, Bool.not_true, Bool.not_false, iteB_bool, iteB_true, iteB_false, not_bool, chkB_bool, chkB_undef, bGeq, bLeq, bLss, bGtr, bEql, bNeq, bAdd, bSub, bMul, bSeq, bSne, bSlt, eqB_eq, mmMin, mmMax, ext_tup, cellD_agg, convI_int, lenS_s, lenL_s, gv_0, gv_s, c_internal_stringslite_Cut, F_internal_stringslite_Cut, hl, cutV, List.getElem?_cons_zero, List.getElem?_cons_succ]
end Go.Fbs

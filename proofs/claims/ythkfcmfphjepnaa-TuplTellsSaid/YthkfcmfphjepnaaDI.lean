import Derived.Test.YthkfcmfphjepnaaDH
import Derived.Test.YthkfcmfphjepnaaCD
set_option linter.unusedVariables false
set_option linter.unusedSimpArgs false
set_option linter.unusedSectionVars false
namespace Go.Fbs
open Go.Proofs

/-! ### Chapter 1: ids split -/
def splitT (l : List UInt8) : List UInt8 × List UInt8 × Bool :=
  if (cutT l 124).2.2 = true ∧ nameT (cutT l 124).1 = true then cutT l 124 else ([], [], false)
def F_atom_Split : Spec
  | [.str l] => if l.length ≤ big then some (cutV (splitT l)) else none
  | _ => none
theorem ok_atom_Split : SpecL Try.prog n_atom_Split F_atom_Split := by
  refine go_atom_Split (T := [(n_strings_Cut, F_strings_Cut), (n_atom_Name, F_atom_Name)]) (TabOk.cons ok_strings_Cut (TabOk.cons ok_atom_Name TabOk.nil)) fun args v hv => ?_
  have c_strings_Cut : ∀ args, tab [(n_strings_Cut, F_strings_Cut), (n_atom_Name, F_atom_Name)] n_strings_Cut args = F_strings_Cut args := fun _ => rfl
  have c_atom_Name : ∀ args, tab [(n_strings_Cut, F_strings_Cut), (n_atom_Name, F_atom_Name)] n_atom_Name args = F_atom_Name args := fun _ => rfl
  unfold F_atom_Split at hv
  split at hv <;> (try simp only [Option.ite_none_right_eq_some, Option.some.injEq, reduceCtorEq] at hv)
  rename_i l
  obtain ⟨hl, rfl⟩ := hv
  refine ⟨rfl, rfl, rfl, ?_⟩
  rw [e_atom_Split]
  have m1 := Nat.le_trans (cut_len l 124).1 hl
  simp only [if_true, if_false, Bool.false_eq_true, Bool.true_eq_false, reduceCtorEq, opt_s, gBool, gTT, gFF, gTF, gFT, gU, pBool, orN, andN, orI, andI, V.bool.injEq, Bool.true_and, Bool.and_true, Bool.false_and, Bool.and_false, Bool.true_or, Bool.or_true, Bool.false_or, Bool.or_false, Bool.not_true, Bool.not_false, iteB_bool, iteB_true, iteB_false, not_bool, chkB_bool, chkB_undef, bGeq, bLeq, bLss, bGtr, bEql, bNeq, bAdd, bSub, bMul, bSeq, bSne, bSlt, eqB_eq, mmMin, mmMax, ext_tup, cellD_agg, convI_int, lenS_s, lenL_s, gv_0, gv_s, c_strings_Cut, F_strings_Cut, hl, cutV, List.getElem?_cons_zero, List.getElem?_cons_succ, c_atom_Name, F_atom_Name, m1]
  cases h1 : (cutT l 124).2.2
  · have hr : splitT l = ([], [], false) := by simp only [splitT, h1, Bool.false_eq_true, false_and, if_false]
    rw [hr]; simp only [if_true, if_false, Bool.false_eq_true, Bool.true_eq_false, reduceCtorEq, opt_s, gBool, gTT, gFF, gTF, gFT, gU, pBool, orN, andN, orI, andI, V.bool.injEq, Bool.true_and, Bool.and_true, Bool.false_and, Bool.and_false, Bool.true_or, Bool.or_true, Bool.false_or, Bool.or_false, Bool.not_true, Bool.not_false, iteB_bool, iteB_true, iteB_false, not_bool, chkB_bool, chkB_undef, bGeq, bLeq, bLss, bGtr, bEql, bNeq, bAdd, bSub, bMul, bSeq, bSne, bSlt, eqB_eq, mmMin, mmMax, ext_tup, cellD_agg, convI_int, lenS_s, lenL_s, gv_0, gv_s]
  · cases h2 : nameT (cutT l 124).1
    · have hr : splitT l = ([], [], false) := by simp only [splitT, h2, Bool.false_eq_true, and_false, if_false]
      rw [hr]; simp only [if_true, if_false, Bool.false_eq_true, Bool.true_eq_false, reduceCtorEq, opt_s, gBool, gTT, gFF, gTF, gFT, gU, pBool, orN, andN, orI, andI, V.bool.injEq, Bool.true_and, Bool.and_true, Bool.false_and, Bool.and_false, Bool.true_or, Bool.or_true, Bool.false_or, Bool.or_false, Bool.not_true, Bool.not_false, iteB_bool, iteB_true, iteB_false, not_bool, chkB_bool, chkB_undef, bGeq, bLeq, bLss, bGtr, bEql, bNeq, bAdd, bSub, bMul, bSeq, bSne, bSlt, eqB_eq, mmMin, mmMax, ext_tup, cellD_agg, convI_int, lenS_s, lenL_s, gv_0, gv_s]
    · have hr : splitT l = cutT l 124 := by simp only [splitT, h1, h2, and_self, if_true]
      rw [hr]; simp only [if_true, if_false, Bool.false_eq_true, Bool.true_eq_false, reduceCtorEq, opt_s, gBool, gTT, gFF, gTF, gFT, gU, pBool, orN, andN, orI, andI, V.bool.injEq, Bool.true_and, Bool.and_true, Bool.false_and, Bool.and_false, Bool.true_or, Bool.or_true, Bool.false_or, Bool.or_false, Bool.not_true, Bool.not_false, iteB_bool, iteB_true, iteB_false, not_bool, chkB_bool, chkB_undef, bGeq, bLeq, bLss, bGtr, bEql, bNeq, bAdd, bSub, bMul, bSeq, bSne, bSlt, eqB_eq, mmMin, mmMax, ext_tup, cellD_agg, convI_int, lenS_s, lenL_s, gv_0, gv_s, h1]
end Go.Fbs

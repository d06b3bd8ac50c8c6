import Derived.Test.YthkfcmfphjepnaaDF
import Derived.Test.YthkfcmfphjepnaaCS
set_option linter.unusedVariables false
set_option linter.unusedSimpArgs false
set_option linter.unusedSectionVars false
namespace Go.Fbs
open Go.Proofs

def F_internal_bytealg_CompareString : Spec
  | [.str a, .str b] => some (vI (Lib.compareBytes a b))
  | _ => none
theorem ok_internal_bytealg_CompareString : SpecL Try.prog n_internal_bytealg_CompareString F_internal_bytealg_CompareString := by
  refine ⟨⟨_, _, Try.func68, rfl, by kernel_rfl⟩, fun args v hv => ?_⟩
  unfold F_internal_bytealg_CompareString at hv
  split at hv <;> simp only [Option.some.injEq, reduceCtorEq] at hv
  rename_i a b
  subst hv
  exact ⟨fun m => callOk_same fun κ w xs r => ⟨_, by rw [reps_str2 r]; exact Try.bytealg_CompareString ⟨⟨a⟩⟩ ⟨⟨b⟩⟩ w, .int _ _⟩, rfl⟩
def F_strings_Compare : Spec
  | [.str a, .str b] => some (vI (Lib.compareBytes a b))
  | _ => none
theorem ok_strings_Compare : SpecL Try.prog n_strings_Compare F_strings_Compare := by
  refine go_strings_Compare (T := [(n_internal_bytealg_CompareString, F_internal_bytealg_CompareString)]) (TabOk.cons ok_internal_bytealg_CompareString TabOk.nil) fun args v hv => ?_
  have c_internal_bytealg_CompareString : ∀ args, tab [(n_internal_bytealg_CompareString, F_internal_bytealg_CompareString)] n_internal_bytealg_CompareString args = F_internal_bytealg_CompareString args := fun _ => rfl
  unfold F_strings_Compare at hv
  split at hv <;> (try simp only [Option.ite_none_right_eq_some, Option.some.injEq, reduceCtorEq] at hv)
  subst hv
  refine ⟨rfl, rfl, rfl, ?_⟩
  rw [e_strings_Compare]
  simp only [if_true, if_false, Bool.false_eq_true, Bool.true_eq_false, reduceCtorEq, opt_s, gBool, gTT, gFF, gTF, gFT, gU, pBool, orN, andN, orI, andI, V.bool.injEq, Bool.true_and, Bool.and_true, Bool.false_and, Bool.and_false, Bool.true_or, Bool.or_true, Bool.false_or, Bool.or_false, Bool.not_true, Bool.not_false, iteB_bool, iteB_true, iteB_false, not_bool, chkB_bool, chkB_undef, bGeq, bLeq, bLss, bGtr, bEql, bNeq, bAdd, bSub, bMul, bSeq, bSne, bSlt, eqB_eq, mmMin, mmMax, ext_tup, cellD_agg, convI_int, lenS_s, lenL_s, gv_0, gv_s, c_internal_bytealg_CompareString, F_internal_bytealg_CompareString]

def cmpT (a b c d e f a' b' c' d' e' f' : List UInt8) : Int :=
  orT [Lib.compareBytes a a', Lib.compareBytes b b', Lib.compareBytes c c', Lib.compareBytes d d', Lib.compareBytes e e', Lib.compareBytes f f']
def F_tupl_Compare : Spec
  | [.agg [.str a, .str b, .str c, .str d, .str e, .str f], .agg [.str a', .str b', .str c', .str d', .str e', .str f']] => some (vI (cmpT a b c d e f a' b' c' d' e' f'))
  | _ => none
theorem ok_tupl_Compare : SpecL Try.prog n_tupl_Compare F_tupl_Compare := by
  refine go_tupl_Compare (T := [(n_strings_Compare, F_strings_Compare), (n_cmp_Or_int, F_cmp_Or_int)]) (TabOk.cons ok_strings_Compare (TabOk.cons ok_cmp_Or_int TabOk.nil)) fun args v hv => ?_
  have c_strings_Compare : ∀ args, tab [(n_strings_Compare, F_strings_Compare), (n_cmp_Or_int, F_cmp_Or_int)] n_strings_Compare args = F_strings_Compare args := fun _ => rfl
  have c_cmp_Or_int : ∀ args, tab [(n_strings_Compare, F_strings_Compare), (n_cmp_Or_int, F_cmp_Or_int)] n_cmp_Or_int args = F_cmp_Or_int args := fun _ => rfl
  unfold F_tupl_Compare at hv
  split at hv <;> (try simp only [Option.ite_none_right_eq_some, Option.some.injEq, reduceCtorEq] at hv)
  subst hv
  refine ⟨rfl, rfl, rfl, ?_⟩
  rw [e_tupl_Compare]
  simp only [chk_tup, if_true, if_false, Bool.false_eq_true, Bool.true_eq_false, reduceCtorEq, opt_s, gBool, gTT, gFF, gTF, gFT, gU, pBool, orN, andN, orI, andI, V.bool.injEq, Bool.true_and, Bool.and_true, Bool.false_and, Bool.and_false, Bool.true_or, Bool.or_true, Bool.false_or, Bool.or_false, Bool.not_true, Bool.not_false, iteB_bool, iteB_true, iteB_false, not_bool, chkB_bool, chkB_undef, bGeq, bLeq, bLss, bGtr, bEql, bNeq, bAdd, bSub, bMul, bSeq, bSne, bSlt, eqB_eq, mmMin, mmMax, ext_tup, cellD_agg, convI_int, lenS_s, lenL_s, gv_0, gv_s, List.getD_cons_zero, List.getD_cons_succ, c_strings_Compare, F_strings_Compare]
  rw [lit_s (by simp) (by simp [V.cells, V.ok1])]
  simp only [if_true, if_false, Bool.false_eq_true, Bool.true_eq_false, reduceCtorEq, opt_s, gBool, gTT, gFF, gTF, gFT, gU, pBool, orN, andN, orI, andI, V.bool.injEq, Bool.true_and, Bool.and_true, Bool.false_and, Bool.and_false, Bool.true_or, Bool.or_true, Bool.false_or, Bool.or_false, Bool.not_true, Bool.not_false, iteB_bool, iteB_true, iteB_false, not_bool, chkB_bool, chkB_undef, bGeq, bLeq, bLss, bGtr, bEql, bNeq, bAdd, bSub, bMul, bSeq, bSne, bSlt, eqB_eq, mmMin, mmMax, ext_tup, cellD_agg, convI_int, lenS_s, lenL_s, gv_0, gv_s, c_cmp_Or_int, F_cmp_Or_int]
  rename_i a b c d e f a' b' c' d' e' f'
  have h := cInt.unl_lst [Lib.compareBytes a a', Lib.compareBytes b b', Lib.compareBytes c c', Lib.compareBytes d d', Lib.compareBytes e e', Lib.compareBytes f f']
  rw [show (V.sl .ro [vI (Lib.compareBytes a a'), vI (Lib.compareBytes b b'), vI (Lib.compareBytes c c'), vI (Lib.compareBytes d d'), vI (Lib.compareBytes e e'), vI (Lib.compareBytes f f')]) = cInt.lst [Lib.compareBytes a a', Lib.compareBytes b b', Lib.compareBytes c c', Lib.compareBytes d d', Lib.compareBytes e e', Lib.compareBytes f f'] from rfl, h]
  simp only [List.length_cons, List.length_nil]
  rw [if_pos (by unfold big; omega)]
  rfl
def F_tupl_Less : Spec
  | [.agg [.str a, .str b, .str c, .str d, .str e, .str f], .agg [.str a', .str b', .str c', .str d', .str e', .str f']] => some (.bool (decide (cmpT a b c d e f a' b' c' d' e' f' < 0)))
  | _ => none
theorem ok_tupl_Less : SpecL Try.prog n_tupl_Less F_tupl_Less := by
  refine go_tupl_Less (T := [(n_tupl_Compare, F_tupl_Compare)]) (TabOk.cons ok_tupl_Compare TabOk.nil) fun args v hv => ?_
  have c_tupl_Compare : ∀ args, tab [(n_tupl_Compare, F_tupl_Compare)] n_tupl_Compare args = F_tupl_Compare args := fun _ => rfl
  unfold F_tupl_Less at hv
  split at hv <;> (try simp only [Option.ite_none_right_eq_some, Option.some.injEq, reduceCtorEq] at hv)
  subst hv
  refine ⟨rfl, rfl, rfl, ?_⟩
  rw [e_tupl_Less]
  simp only [chk_tup, if_true, if_false, Bool.false_eq_true, Bool.true_eq_false, reduceCtorEq, opt_s, gBool, gTT, gFF, gTF, gFT, gU, pBool, orN, andN, orI, andI, V.bool.injEq, Bool.true_and, Bool.and_true, Bool.false_and, Bool.and_false, Bool.true_or, Bool.or_true, Bool.false_or, Bool.or_false, Bool.not_true, Bool.not_false, iteB_bool, iteB_true, iteB_false, not_bool, chkB_bool, chkB_undef, bGeq, bLeq, bLss, bGtr, bEql, bNeq, bAdd, bSub, bMul, bSeq, bSne, bSlt, eqB_eq, mmMin, mmMax, ext_tup, cellD_agg, convI_int, lenS_s, lenL_s, gv_0, gv_s, c_tupl_Compare, F_tupl_Compare]
end Go.Fbs

import Derived.Test.YthkfcmfphjepnaaDQ
set_option linter.unusedVariables false
set_option linter.unusedSimpArgs false
set_option linter.unusedSectionVars false
namespace Go.Fbs
open Go.Proofs

theorem agg_six (x : Six) : aggK [.str x.a, .str x.b, .str x.c, .str x.d, .str x.e, .str x.f] = some x.v := nr rfl
theorem d_six (x : Six) : cellD x.v 0 = .str x.a ∧ cellD x.v 1 = .str x.b ∧ cellD x.v 2 = .str x.c ∧ cellD x.v 3 = .str x.d ∧ cellD x.v 4 = .str x.e ∧ cellD x.v 5 = .str x.f := ⟨rfl, rfl, rfl, rfl, rfl, rfl⟩
def F_entaillaw2_TuplOrder : Spec
  | [.agg [.str a, .str b, .str c, .str d, .str e, .str f], .agg [.str a', .str b', .str c', .str d', .str e', .str f'], .agg [.str a'', .str b'', .str c'', .str d'', .str e'', .str f''], .int .i64 _, .int .i64 _, .int .i64 _] => some (.bool true)
  | _ => none
theorem ok_entaillaw2_TuplOrder : SpecL Try.prog n_entaillaw2_TuplOrder F_entaillaw2_TuplOrder := by
  refine go_entaillaw2_TuplOrder (T := [(n_entaillaw2_Tame, F_entaillaw2_Tame), (n_tupl_Less, F_tupl_Less), (n_entaillaw2_awake, F_entaillaw2_awake)]) (TabOk.cons ok_entaillaw2_Tame (TabOk.cons ok_tupl_Less (TabOk.cons ok_entaillaw2_awake TabOk.nil))) fun args v hv => ?_
  have c_entaillaw2_Tame : ∀ args, tab [(n_entaillaw2_Tame, F_entaillaw2_Tame), (n_tupl_Less, F_tupl_Less), (n_entaillaw2_awake, F_entaillaw2_awake)] n_entaillaw2_Tame args = F_entaillaw2_Tame args := fun _ => rfl
  have c_tupl_Less : ∀ args, tab [(n_entaillaw2_Tame, F_entaillaw2_Tame), (n_tupl_Less, F_tupl_Less), (n_entaillaw2_awake, F_entaillaw2_awake)] n_tupl_Less args = F_tupl_Less args := fun _ => rfl
  have c_entaillaw2_awake : ∀ args, tab [(n_entaillaw2_Tame, F_entaillaw2_Tame), (n_tupl_Less, F_tupl_Less), (n_entaillaw2_awake, F_entaillaw2_awake)] n_entaillaw2_awake args = F_entaillaw2_awake args := fun _ => rfl
  unfold F_entaillaw2_TuplOrder at hv
  split at hv <;> (try simp only [Option.ite_none_right_eq_some, Option.some.injEq, reduceCtorEq] at hv)
  rename_i a b c d e f a' b' c' d' e' f' a'' b'' c'' d'' e'' f'' n m k
  subst hv
  refine ⟨rfl, rfl, rfl, ?_⟩
  rw [e_entaillaw2_TuplOrder]
  generalize hx : (⟨a, b, c, d, e, f⟩ : Six) = x
  generalize hy : (⟨a', b', c', d', e', f'⟩ : Six) = y
  generalize hz : (⟨a'', b'', c'', d'', e'', f''⟩ : Six) = z
  rw [show V.agg [.str a, .str b, .str c, .str d, .str e, .str f] = x.v by rw [← hx]; rfl, show V.agg [.str a', .str b', .str c', .str d', .str e', .str f'] = y.v by rw [← hy]; rfl, show V.agg [.str a'', .str b'', .str c'', .str d'', .str e'', .str f''] = z.v by rw [← hz]; rfl]
  clear hx hy hz a b c d e f a' b' c' d' e' f' a'' b'' c'' d'' e'' f''
  simp only [chk_six, opt_s, d_six]
  refine loopP_inv (fun vs => ∃ (i : Nat) (x y z : Six), i ≤ 2 ∧ vs = [vI i, .str x.a, .str x.b, .str x.c, .str x.d, .str x.e, .str x.f, .str y.a, .str y.b, .str y.c, .str y.d, .str y.e, .str y.f, .str z.a, .str z.b, .str z.c, .str z.d, .str z.e, .str z.f]) (fun vs => 2 - natOf (gv vs 0)) ⟨0, x, y, z, by omega, rfl⟩ ?_
  clear x y z
  rintro r _ ⟨i, x, y, z, hi, rfl⟩ hr
  refine ⟨rfl, ?_⟩
  simp only [if_true, if_false, Bool.false_eq_true, Bool.true_eq_false, reduceCtorEq, opt_s, gBool, gTT, gFF, gTF, gFT, gU, pBool, orN, andN, orI, andI, V.bool.injEq, Bool.true_and, Bool.and_true, Bool.false_and, Bool.and_false, Bool.true_or, Bool.or_true, Bool.false_or, Bool.or_false, Bool.not_true, Bool.not_false, iteB_bool, iteB_true, iteB_false, not_bool, chkB_bool, chkB_undef, bGeq, bLeq, bLss, bGtr, bEql, bNeq, bAdd, bSub, bMul, bSeq, bSne, bSlt, eqB_eq, mmMin, mmMax, ext_tup, cellD_agg, convI_int, lenS_s, lenL_s, gv_0, gv_s, agg_six, c_tupl_Less, fLess, eq_six, chk_six, d_six, c_entaillaw2_Tame, F_entaillaw2_Tame, c_entaillaw2_awake, F_entaillaw2_awake]
  by_cases hlt : i < 2
  · have hlt' : ((i : Int) < 2) := by omega
    have step : r [vI (IntKind.i64.wrap ((i : Int) + 1)), .str (tameS n).a, .str (tameS n).b, .str (tameS n).c, .str (tameS n).d, .str (tameS n).e, .str (tameS n).f, .str (tameS m).a, .str (tameS m).b, .str (tameS m).c, .str (tameS m).d, .str (tameS m).e, .str (tameS m).f, .str (tameS k).a, .str (tameS k).b, .str (tameS k).c, .str (tameS k).d, .str (tameS k).e, .str (tameS k).f] := by
      rw [wrap_in (by omega) (by omega)]
      exact hr _ ⟨i + 1, tameS n, tameS m, tameS k, by omega, by simp⟩ (by simp [gv, natOf]; omega)
    have hA : decide (x.cmp y < 0) = true → decide (y.cmp z < 0) = true → decide (x.cmp z < 0) = true := fun h1 h2 => decide_eq_true (cmp_trans (of_decide_eq_true h1) (of_decide_eq_true h2))
    have hB : decide (x.cmp y < 0) = true → decide (y.cmp x < 0) = false := fun h1 => by
      have := of_decide_eq_true h1
      exact decide_eq_false (by rw [cmp_anti x y]; omega)
    have hC : decide (x = y) = false → decide (x.cmp y < 0) = false → decide (y.cmp x < 0) = true := fun h1 h2 => by
      have h3 := of_decide_eq_false h1
      have h4 := of_decide_eq_false h2
      have h5 : x.cmp y ≠ 0 := fun h => h3 (cmp_eq h)
      exact decide_eq_true (by rw [cmp_anti x y]; omega)
    have hS : decide (x.cmp x < 0) = false := decide_eq_false (by rw [cmp_self]; omega)
    generalize decide (x.cmp y < 0) = b1 at *
    generalize decide (y.cmp z < 0) = b2 at *
    generalize decide (x.cmp z < 0) = b3 at *
    generalize decide (y.cmp x < 0) = b4 at *
    generalize decide (x = y) = b5 at *
    simp only [hlt', decide_true, if_true, if_false, Bool.false_eq_true, Bool.true_eq_false, reduceCtorEq, opt_s, gBool, gTT, gFF, gTF, gFT, gU, pBool, orN, andN, orI, andI, V.bool.injEq, Bool.true_and, Bool.and_true, Bool.false_and, Bool.and_false, Bool.true_or, Bool.or_true, Bool.false_or, Bool.or_false, Bool.not_true, Bool.not_false, iteB_bool, iteB_true, iteB_false, not_bool, chkB_bool, chkB_undef, bGeq, bLeq, bLss, bGtr, bEql, bNeq, bAdd, bSub, bMul, bSeq, bSne, bSlt, eqB_eq, mmMin, mmMax, ext_tup, cellD_agg, convI_int, lenS_s, lenL_s, gv_0, gv_s, hS]
    cases b1 <;> cases b2 <;> cases b3 <;> cases b4 <;> cases b5 <;> simp at hA hB hC <;> simp only [if_true, if_false, Bool.false_eq_true, Bool.true_eq_false, reduceCtorEq, opt_s, gBool, gTT, gFF, gTF, gFT, gU, pBool, orN, andN, orI, andI, V.bool.injEq, Bool.true_and, Bool.and_true, Bool.false_and, Bool.and_false, Bool.true_or, Bool.or_true, Bool.false_or, Bool.or_false, Bool.not_true, Bool.not_false, iteB_bool, iteB_true, iteB_false, not_bool, chkB_bool, chkB_undef, bGeq, bLeq, bLss, bGtr, bEql, bNeq, bAdd, bSub, bMul, bSeq, bSne, bSlt, eqB_eq, mmMin, mmMax, ext_tup, cellD_agg, convI_int, lenS_s, lenL_s, gv_0, gv_s, bne, bqT, bqF, bTq, bFq, step]
  · have hlt' : ¬ ((i : Int) < 2) := by omega
    simp only [hlt', decide_false, if_true, if_false, Bool.false_eq_true, Bool.true_eq_false, reduceCtorEq, opt_s, gBool, gTT, gFF, gTF, gFT, gU, pBool, orN, andN, orI, andI, V.bool.injEq, Bool.true_and, Bool.and_true, Bool.false_and, Bool.and_false, Bool.true_or, Bool.or_true, Bool.false_or, Bool.or_false, Bool.not_true, Bool.not_false, iteB_bool, iteB_true, iteB_false, not_bool, chkB_bool, chkB_undef, bGeq, bLeq, bLss, bGtr, bEql, bNeq, bAdd, bSub, bMul, bSeq, bSne, bSlt, eqB_eq, mmMin, mmMax, ext_tup, cellD_agg, convI_int, lenS_s, lenL_s, gv_0, gv_s]
end Go.Fbs

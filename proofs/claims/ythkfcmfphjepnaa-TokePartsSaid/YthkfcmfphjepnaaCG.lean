import Derived.Test.YthkfcmfphjepnaaCF
set_option linter.unusedVariables false
set_option linter.unusedSimpArgs false
set_option linter.unusedSectionVars false
namespace Go.Fbs
open Go.Proofs

def F_entaillaw6_TokeTells : Spec
  | [.str _] => some (.bool true)
  | _ => none
theorem ok_entaillaw6_TokeTells : SpecL Try.prog n_entaillaw6_TokeTells F_entaillaw6_TokeTells := by
  refine go_entaillaw6_TokeTells (T := [(n_toke_Tokens, F_toke_Tokens), (n_entailref6_Tokens, F_entailref6_Tokens), (n_entaillaw6_Same, F_entaillaw6_Same), (n_entaillaw6_Tame, F_entaillaw6_Tame), (n_entaillaw6_awake, F_entaillaw6_awake)]) (TabOk.cons ok_toke_Tokens (TabOk.cons ok_entailref6_Tokens (TabOk.cons ok_entaillaw6_Same (TabOk.cons ok_entaillaw6_Tame (TabOk.cons ok_entaillaw6_awake TabOk.nil))))) fun args v hv => ?_
  have c_toke_Tokens : ∀ args, tab [(n_toke_Tokens, F_toke_Tokens), (n_entailref6_Tokens, F_entailref6_Tokens), (n_entaillaw6_Same, F_entaillaw6_Same), (n_entaillaw6_Tame, F_entaillaw6_Tame), (n_entaillaw6_awake, F_entaillaw6_awake)] n_toke_Tokens args = F_toke_Tokens args := fun _ => rfl
  have c_entailref6_Tokens : ∀ args, tab [(n_toke_Tokens, F_toke_Tokens), (n_entailref6_Tokens, F_entailref6_Tokens), (n_entaillaw6_Same, F_entaillaw6_Same), (n_entaillaw6_Tame, F_entaillaw6_Tame), (n_entaillaw6_awake, F_entaillaw6_awake)] n_entailref6_Tokens args = F_entailref6_Tokens args := fun _ => rfl
  have c_entaillaw6_Same : ∀ args, tab [(n_toke_Tokens, F_toke_Tokens), (n_entailref6_Tokens, F_entailref6_Tokens), (n_entaillaw6_Same, F_entaillaw6_Same), (n_entaillaw6_Tame, F_entaillaw6_Tame), (n_entaillaw6_awake, F_entaillaw6_awake)] n_entaillaw6_Same args = F_entaillaw6_Same args := fun _ => rfl
  have c_entaillaw6_Tame : ∀ args, tab [(n_toke_Tokens, F_toke_Tokens), (n_entailref6_Tokens, F_entailref6_Tokens), (n_entaillaw6_Same, F_entaillaw6_Same), (n_entaillaw6_Tame, F_entaillaw6_Tame), (n_entaillaw6_awake, F_entaillaw6_awake)] n_entaillaw6_Tame args = F_entaillaw6_Tame args := fun _ => rfl
  have c_entaillaw6_awake : ∀ args, tab [(n_toke_Tokens, F_toke_Tokens), (n_entailref6_Tokens, F_entailref6_Tokens), (n_entaillaw6_Same, F_entaillaw6_Same), (n_entaillaw6_Tame, F_entaillaw6_Tame), (n_entaillaw6_awake, F_entaillaw6_awake)] n_entaillaw6_awake args = F_entaillaw6_awake args := fun _ => rfl
  unfold F_entaillaw6_TokeTells at hv
  split at hv <;> (try simp only [Option.ite_none_right_eq_some, Option.some.injEq, reduceCtorEq] at hv)
  rename_i l
  subst hv
  refine ⟨rfl, rfl, rfl, ?_⟩
  rw [e_entaillaw6_TokeTells]
  simp only [if_true, if_false, Bool.false_eq_true, Bool.true_eq_false, reduceCtorEq, opt_s, gBool, gTT, gFF, gTF, gFT, gU, pBool, orN, andN, orI, andI, V.bool.injEq, Bool.true_and, Bool.and_true, Bool.false_and, Bool.and_false, Bool.true_or, Bool.or_true, Bool.false_or, Bool.or_false, Bool.not_true, Bool.not_false, iteB_bool, iteB_true, iteB_false, not_bool, chkB_bool, chkB_undef, bGeq, bLeq, bLss, bGtr, bEql, bNeq, bAdd, bSub, bMul, bSeq, bSne, bSlt, eqB_eq, mmMin, mmMax, ext_tup, cellD_agg, convI_int, lenS_s, lenL_s, gv_0, gv_s, c_entaillaw6_awake, F_entaillaw6_awake]
  by_cases hbig : 2000 < l.length
  · have hb' : (2000 : Int) < (l.length : Int) := by omega
    simp [hb']
  · have hb' : ¬ (2000 : Int) < (l.length : Int) := by omega
    simp only [hb', decide_false, if_true, if_false, Bool.false_eq_true, Bool.true_eq_false, reduceCtorEq, opt_s, gBool, gTT, gFF, gTF, gFT, gU, pBool, orN, andN, orI, andI, V.bool.injEq, Bool.true_and, Bool.and_true, Bool.false_and, Bool.and_false, Bool.true_or, Bool.or_true, Bool.false_or, Bool.or_false, Bool.not_true, Bool.not_false, iteB_bool, iteB_true, iteB_false, not_bool, chkB_bool, chkB_undef, bGeq, bLeq, bLss, bGtr, bEql, bNeq, bAdd, bSub, bMul, bSeq, bSne, bSlt, eqB_eq, mmMin, mmMax, ext_tup, cellD_agg, convI_int, lenS_s, lenL_s, gv_0, gv_s]
    refine loopP_inv (fun vs => ∃ (s : List UInt8) (i : Nat), vs = [.str s, vI i] ∧ s.length ≤ 2000 ∧ i ≤ 2) (fun vs => 2 - natOf (gv vs 1)) ⟨l, 0, rfl, by omega, by omega⟩ ?_
    rintro r _ ⟨s, i, rfl, hs, hi⟩ hr
    refine ⟨rfl, ?_⟩
    have hsb : s.length ≤ big := by unfold big; omega
    simp only [if_true, if_false, Bool.false_eq_true, Bool.true_eq_false, reduceCtorEq, opt_s, gBool, gTT, gFF, gTF, gFT, gU, pBool, orN, andN, orI, andI, V.bool.injEq, Bool.true_and, Bool.and_true, Bool.false_and, Bool.and_false, Bool.true_or, Bool.or_true, Bool.false_or, Bool.or_false, Bool.not_true, Bool.not_false, iteB_bool, iteB_true, iteB_false, not_bool, chkB_bool, chkB_undef, bGeq, bLeq, bLss, bGtr, bEql, bNeq, bAdd, bSub, bMul, bSeq, bSne, bSlt, eqB_eq, mmMin, mmMax, ext_tup, cellD_agg, convI_int, lenS_s, lenL_s, gv_0, gv_s]
    by_cases hlt : i < 2
    · have hlt' : (i : Int) < 2 := by omega
      have htl : (tokensT s).1.length ≤ big := by
        have := tokensT_len s
        unfold big; omega
      have hsame : F_entaillaw6_Same [tokensV (tokensT s).1, tokensV (tokensT s).1] = some (.bool true) := by
        have h1 : tokC.unl (tokensV (tokensT s).1) = some (tokensT s).1 := tokC.unl_lst _
        simp only [F_entaillaw6_Same, h1, htl, if_true, decide_true]
      simp only [hlt', decide_true, if_true, if_false, Bool.false_eq_true, Bool.true_eq_false, reduceCtorEq, opt_s, gBool, gTT, gFF, gTF, gFT, gU, pBool, orN, andN, orI, andI, V.bool.injEq, Bool.true_and, Bool.and_true, Bool.false_and, Bool.and_false, Bool.true_or, Bool.or_true, Bool.false_or, Bool.or_false, Bool.not_true, Bool.not_false, iteB_bool, iteB_true, iteB_false, not_bool, chkB_bool, chkB_undef, bGeq, bLeq, bLss, bGtr, bEql, bNeq, bAdd, bSub, bMul, bSeq, bSne, bSlt, eqB_eq, mmMin, mmMax, ext_tup, cellD_agg, convI_int, lenS_s, lenL_s, gv_0, gv_s, c_toke_Tokens, F_toke_Tokens, c_entailref6_Tokens, F_entailref6_Tokens, hsb, List.getElem?_cons_zero, List.getElem?_cons_succ, c_entaillaw6_Same, hsame, c_entaillaw6_Tame, F_entaillaw6_Tame]
      rw [wrap_in (by omega) (by omega)]
      exact hr _ ⟨tameT s, i + 1, by simp, by have := tameT_len s; omega, by omega⟩ (by simp [gv, natOf]; omega)
    · have hlt' : ¬ (i : Int) < 2 := by omega
      simp [hlt', if_true, if_false, Bool.false_eq_true, Bool.true_eq_false, reduceCtorEq, opt_s, gBool, gTT, gFF, gTF, gFT, gU, pBool, orN, andN, orI, andI, V.bool.injEq, Bool.true_and, Bool.and_true, Bool.false_and, Bool.and_false, Bool.true_or, Bool.or_true, Bool.false_or, Bool.or_false, Bool.not_true, Bool.not_false, iteB_bool, iteB_true, iteB_false, not_bool, chkB_bool, chkB_undef, bGeq, bLeq, bLss, bGtr, bEql, bNeq, bAdd, bSub, bMul, bSeq, bSne, bSlt, eqB_eq, mmMin, mmMax, ext_tup, cellD_agg, convI_int, lenS_s, lenL_s, gv_0, gv_s]
end Go.Fbs

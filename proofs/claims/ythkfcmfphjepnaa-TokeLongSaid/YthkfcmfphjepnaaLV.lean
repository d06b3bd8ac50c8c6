import Derived.Test.YthkfcmfphjepnaaLU
set_option linter.unusedVariables false
set_option linter.unusedSimpArgs false
namespace Go.Fbs
open Go.Proofs

def signsL : List UInt8 := [123, 125, 58, 59, 124, 35, 61, 43, 45, 38, 40, 41]
/-- The token at a text's beginning: its kind, its text, whether there is one. -/
def nextT (l : List UInt8) : Int × List UInt8 × Bool :=
  if 0 < rowN l then (1, l.take (rowN l), true)
  else if [45, 62].isPrefixOf l then (2, [45, 62], true)
  else (2, l.take 1, decide (l.getD 0 0 ∈ signsL))

def tokV (k : Int) (at_ : Int) (x : List UInt8) : V := .agg [vI k, vI at_, .str x]

def F_toke_next : Spec
  | [.str l] => if l ≠ [] ∧ l.length ≤ big then some (.tup [tokV (nextT l).1 0 (nextT l).2.1, .bool (nextT l).2.2]) else none
  | _ => none

theorem ok_toke_next : SpecOk Try.prog n_toke_next F_toke_next := by
  refine ⟨en_toke_next, fun args v hv m => ?_⟩
  unfold F_toke_next at hv
  split at hv <;> simp only [Option.ite_none_right_eq_some, Option.some.injEq, reduceCtorEq] at hv
  rename_i l
  obtain ⟨⟨hne, hl⟩, rfl⟩ := hv
  have hC : Sound Try.prog (CT Eff (tab [(n_toke_row, F_toke_row), (n_strings_HasPrefix, F_strings_HasPrefix), (n_strings_Contains, F_strings_Contains)]) noE) := sound_cons ok_toke_row (sound_cons ok_strings_HasPrefix (sound_cons ok_strings_Contains sound_nil))
  have hp_toke_row : ∀ args, tab [(n_toke_row, F_toke_row), (n_strings_HasPrefix, F_strings_HasPrefix), (n_strings_Contains, F_strings_Contains)] n_toke_row args = F_toke_row args := fun _ => rfl
  have hp_strings_HasPrefix : ∀ args, tab [(n_toke_row, F_toke_row), (n_strings_HasPrefix, F_strings_HasPrefix), (n_strings_Contains, F_strings_Contains)] n_strings_HasPrefix args = F_strings_HasPrefix args := fun _ => rfl
  have hp_strings_Contains : ∀ args, tab [(n_toke_row, F_toke_row), (n_strings_HasPrefix, F_strings_HasPrefix), (n_strings_Contains, F_strings_Contains)] n_strings_Contains args = F_strings_Contains args := fun _ => rfl
  have hrow : rowN l ≤ l.length := (List.takeWhile_sublist _).length_le
  have h2 : ([45, 62] : List UInt8).length ≤ big := Nat.le_of_ble_eq_true rfl
  refine go_toke_next (Nat.le_of_ble_eq_true rfl) ?_ rfl rfl m
  refine aw_seq (w_toke_next_0 hC fun K hK => ?_)
  simp only [opt_some, optC_some, opt2_some, guardV_true, guardV_false, guardV_tf, guardV_ft, guardV_undef, guardC_true, guardC_false, guardC_tf, guardC_ft, guardC_undef, pickV_true, pickV_false, unV_not, Bool.not_true, Bool.not_false, pt_apply, Nat.reduceEqDiff, if_false, if_true, List.getD_cons_zero, List.getD_cons_succ, lenS_str, lenL_sl]
  refine hK.out _ _ ?_
  refine aw_seq (aw_seq ?_)
  refine w_toke_next_1 hC fun K hK => ?_
  simp only [opt_some, optC_some, opt2_some, guardV_true, guardV_false, guardV_tf, guardV_ft, guardV_undef, guardC_true, guardC_false, guardC_tf, guardC_ft, guardC_undef, pickV_true, pickV_false, unV_not, Bool.not_true, Bool.not_false, pt_apply, Nat.reduceEqDiff, if_false, if_true, List.getD_cons_zero, List.getD_cons_succ, lenS_str, lenL_sl, hp_toke_row, F_toke_row, hl]
  refine hK.out _ _ ?_
  refine aw_seq (w_toke_next_2 hC fun K hK => ?_)
  simp only [opt_some, optC_some, opt2_some, guardV_true, guardV_false, guardV_tf, guardV_ft, guardV_undef, guardC_true, guardC_false, guardC_tf, guardC_ft, guardC_undef, pickV_true, pickV_false, unV_not, Bool.not_true, Bool.not_false, pt_apply, Nat.reduceEqDiff, if_false, if_true, List.getD_cons_zero, List.getD_cons_succ, lenS_str, lenL_sl, binV_gtr]
  refine hK.out _ _ ?_
  by_cases hr : 0 < rowN l
  · have hr' : decide ((0 : Int) < (rowN l : Int)) = true := decide_eq_true (by omega)
    refine aw_condV (b := true) (by simp) (by simp [pt_apply]; omega) ?_
    simp only [if_true]
    refine aw_seq (w_toke_next_3 hC fun K hK => ?_)
    simp only [opt_some, optC_some, opt2_some, guardV_true, guardV_false, guardV_tf, guardV_ft, guardV_undef, guardC_true, guardC_false, guardC_tf, guardC_ft, guardC_undef, pickV_true, pickV_false, unV_not, Bool.not_true, Bool.not_false, pt_apply, Nat.reduceEqDiff, if_false, if_true, List.getD_cons_zero, List.getD_cons_succ, lenS_str, lenL_sl, sliceS_to hrow]
    simp [opt, opt2, buildK, partsOk, V.ok1, fillV, V.cells, storeK, empty, splice]
    refine hK.out _ _ (aw_ret ⟨.inr rfl, ?_⟩)
    simp [resV, resVs, Env.get, pt_apply, V.er, V.er1, l_load_30, loadK, loadT', nextT, hr, tokV]
  · have hr' : decide ((0 : Int) < (rowN l : Int)) = false := decide_eq_false (by omega)
    refine aw_condV (b := false) (by simp) (by simp [pt_apply]; omega) ?_
    simp only [Bool.false_eq_true, if_false]
    refine aw_skip ?_
    refine aw_seq (aw_seq ?_)
    refine w_toke_next_4 hC fun K hK => ?_
    simp only [opt_some, optC_some, opt2_some, guardV_true, guardV_false, guardV_tf, guardV_ft, guardV_undef, guardC_true, guardC_false, guardC_tf, guardC_ft, guardC_undef, pickV_true, pickV_false, unV_not, Bool.not_true, Bool.not_false, pt_apply, Nat.reduceEqDiff, if_false, if_true, List.getD_cons_zero, List.getD_cons_succ, lenS_str, lenL_sl, hp_strings_HasPrefix, F_strings_HasPrefix, hl, h2, and_self]
    refine hK.out _ _ ?_
    cases hp : List.isPrefixOf [45, 62] l
    · refine aw_condV (b := false) (by simp) (by simp [pt_apply]) ?_
      simp only [Bool.false_eq_true, if_false]
      refine aw_skip ?_
      cases l with
      | nil => exact absurd rfl hne
      | cons c r =>
        have e2 : sliceS (.str (c :: r)) none (some (.int .i64 1)) = some (.str [c]) := by
          have := sliceS_to (l := c :: r) (k := 1) (by simp) .i64
          simpa using this
        refine aw_seq (w_toke_next_6 hC fun K hK => ?_)
        simp only [opt_some, optC_some, opt2_some, guardV_true, guardV_false, guardV_tf, guardV_ft, guardV_undef, guardC_true, guardC_false, guardC_tf, guardC_ft, guardC_undef, pickV_true, pickV_false, unV_not, Bool.not_true, Bool.not_false, pt_apply, Nat.reduceEqDiff, if_false, if_true, List.getD_cons_zero, List.getD_cons_succ, lenS_str, lenL_sl, e2, hp_strings_Contains, F_strings_Contains, ixB_has]
        simp [opt, opt2, buildK, partsOk, V.ok1, fillV, V.cells, storeK, empty, splice]
        refine hK.out _ _ (aw_ret ⟨.inr rfl, ?_⟩)
        simp [resV, resVs, Env.get, pt_apply, V.er, V.er1, l_load_30, loadK, loadT', nextT, hr, hp, tokV, signsL]
    · refine aw_condV (b := true) (by simp) (by simp [pt_apply]) ?_
      simp only [if_true]
      refine aw_seq (w_toke_next_5 hC fun K hK => ?_)
      simp [opt, opt2, buildK, partsOk, V.ok1, fillV, V.cells, storeK, empty, splice]
      refine hK.out _ _ (aw_ret ⟨.inr rfl, ?_⟩)
      simp [resV, resVs, Env.get, pt_apply, V.er, V.er1, l_load_30, loadK, loadT', nextT, hr, hp, tokV]
end Go.Fbs

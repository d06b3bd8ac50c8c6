import Derived.Test.YthkfcmfphjepnaaLW
import Derived.Test.YthkfcmfphjepnaaG6
set_option linter.unusedVariables false
set_option linter.unusedSimpArgs false
namespace Go.Fbs
open Go.Proofs

def awText6 : List UInt8 := [116, 121, 112, 101, 32, 97, 32, 123, 32, 114, 58, 32, 98, 35, 99, 59, 32, 47, 47, 32, 120, 10, 32, 115, 32, 61, 32, 114, 45, 62, 116, 32, 45, 32, 40, 114, 32, 38, 32, 115, 41, 59, 32, 125]

def F_entaillaw6_awake : Spec
  | [] => some (.bool true)
  | _ => none

theorem awakes6_1 : ∃ L, F_toke_Tokens [.str awText6] = some (.tup [L, vI 0, vI 0]) ∧ lenL L = some (.int .i64 22) ∧ indexAddrL 3 L (.int .i64 0) = some (.ro [vI 1, vI 0, .str [116, 121, 112, 101]]) ∧
    indexAddrL 3 L (.int .i64 7) = some (.ro [vI 1, vI 14, .str [99]]) ∧ indexAddrL 3 L (.int .i64 12) = some (.ro [vI 2, vI 28, .str [45, 62]]) :=
  ⟨tokensV (tokensT awText6).1, by kernel_rfl, by kernel_rfl, by kernel_rfl, by kernel_rfl, by kernel_rfl⟩
theorem awakes6_2 : ∃ L, F_toke_Tokens [.str [97, 32, 47]] = some (.tup [L, vI 2, vI 7]) := ⟨.sl .full [], by kernel_rfl⟩
theorem eq_tok_type : binV Try.prog .eql 30 (.agg [vI 1, vI 0, .str [116, 121, 112, 101]]) (.agg [vI 1, vI 0, .str [116, 121, 112, 101]]) = some (.bool true) := by kernel_rfl

theorem ok_entaillaw6_awake : SpecOk Try.prog n_entaillaw6_awake F_entaillaw6_awake := by
  refine ⟨en_entaillaw6_awake, fun args v hv m => ?_⟩
  unfold F_entaillaw6_awake at hv
  split at hv <;> simp only [Option.some.injEq, reduceCtorEq] at hv
  subst hv
  have hC : Sound Try.prog (CT Eff (tab [(n_toke_Tokens, F_toke_Tokens)]) noE) := sound_cons ok_toke_Tokens sound_nil
  have hp_toke_Tokens : ∀ args, tab [(n_toke_Tokens, F_toke_Tokens)] n_toke_Tokens args = F_toke_Tokens args := fun _ => rfl
  obtain ⟨L, a1, a2, a3, a4, a5⟩ := awakes6_1
  obtain ⟨L2, b1⟩ := awakes6_2
  unfold awText6 at a1
  refine go_entaillaw6_awake (Nat.le_of_ble_eq_true rfl) ?_ rfl rfl m
  refine aw_seq (w_entaillaw6_awake_0 hC fun K hK => ?_)
  simp only [opt_some, optC_some, opt2_some, guardV_true, guardV_false, guardV_tf, guardV_ft, guardV_undef, guardC_true, guardC_false, guardC_tf, guardC_ft, guardC_undef, pickV_true, pickV_false, unV_not, Bool.not_true, Bool.not_false, pt_apply, Nat.reduceEqDiff, if_false, if_true, List.getD_cons_zero, List.getD_cons_succ, lenS_str, lenL_sl]
  refine hK.out _ _ ?_
  refine aw_seq (w_entaillaw6_awake_1 hC fun K hK => ?_)
  simp only [opt_some, optC_some, opt2_some, guardV_true, guardV_false, guardV_tf, guardV_ft, guardV_undef, guardC_true, guardC_false, guardC_tf, guardC_ft, guardC_undef, pickV_true, pickV_false, unV_not, Bool.not_true, Bool.not_false, pt_apply, Nat.reduceEqDiff, if_false, if_true, List.getD_cons_zero, List.getD_cons_succ, lenS_str, lenL_sl, hp_toke_Tokens, a1, extractV_tup, List.getElem?_cons_zero, List.getElem?_cons_succ]
  refine hK.out _ _ ?_
  refine aw_seq (w_entaillaw6_awake_2 hC fun K hK => ?_)
  simp only [opt_some, optC_some, opt2_some, guardV_true, guardV_false, guardV_tf, guardV_ft, guardV_undef, guardC_true, guardC_false, guardC_tf, guardC_ft, guardC_undef, pickV_true, pickV_false, unV_not, Bool.not_true, Bool.not_false, pt_apply, Nat.reduceEqDiff, if_false, if_true, List.getD_cons_zero, List.getD_cons_succ, lenS_str, lenL_sl, hp_toke_Tokens, b1, extractV_tup, List.getElem?_cons_zero, List.getElem?_cons_succ]
  refine hK.out _ _ ?_
  have hbk : buildK [(0, 1), (1, 1), (2, 1)] [.int .i64 0, .int .i64 0, .str []] [(0, .int .i64 1), (2, .str [116, 121, 112, 101])] = some (.agg [vI 1, vI 0, .str [116, 121, 112, 101]]) := by kernel_rfl
  have l1 : ∀ H, loadK true 3 H (.ro [vI 1, vI 0, .str [116, 121, 112, 101]]) = some (.agg [vI 1, vI 0, .str [116, 121, 112, 101]]) := fun _ => by kernel_rfl
  have l2 : ∀ H x, loadK false 1 H (.ro [x]) = some x := fun _ _ => rfl
  have l3 : ∀ H x y z, loadK false 1 H (.ro [x, y, z]) = some x := fun _ _ _ _ => rfl
  have f1 : ∀ x y z, fieldAddrK 2 (.ro [x, y, z]) = some (.ro [z]) := fun _ _ _ => rfl
  have f2 : ∀ x y z, fieldAddrK 0 (.ro [x, y, z]) = some (.ro [x, y, z]) := fun _ _ _ => rfl
  refine aw_seq (w_entaillaw6_awake_3 hC fun K hK => ?_)
  simp only [opt_some, optC_some, opt2_some, guardV_true, guardV_false, guardV_tf, guardV_ft, guardV_undef, guardC_true, guardC_false, guardC_tf, guardC_ft, guardC_undef, pickV_true, pickV_false, unV_not, Bool.not_true, Bool.not_false, pt_apply, Nat.reduceEqDiff, if_false, if_true, List.getD_cons_zero, List.getD_cons_succ, lenS_str, lenL_sl, binV_eql, binV_seql, a2, a3, a4, a5, hbk, l1, l2, l3, f1, f2, eq_tok_type, decide_true, beq_self_eq_true]
  refine hK.out _ _ (aw_ret ⟨.inr rfl, ?_⟩)
  simp [resV, resVs, Env.get, pt_apply, V.er, V.er1]
end Go.Fbs

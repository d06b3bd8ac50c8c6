import Derived.Test.YthkfcmfphjepnaaLY
set_option linter.unusedVariables false
set_option linter.unusedSimpArgs false
namespace Go.Fbs
open Go.Proofs

def F_entaillaw6_TokeLong : Spec
  | [.int .i64 _, .int .i64 _, .int .u8 c] => if 0 ≤ c ∧ c < 256 then some (.bool true) else none
  | _ => none

theorem roload (H : List LO) (x : V) : loadK false 1 H (.ro [x]) = some x := Option.some.inj (congrArg some rfl)
theorem roload3 (H : List LO) (x y z : V) : loadK false 1 H (.ro [x, y, z]) = some x := Option.some.inj (congrArg some rfl)
theorem roload2 (H : List LO) (y z : V) : loadK false 1 H (.ro [y, z]) = some y := Option.some.inj (congrArg some rfl)
theorem rofield2 (x y z : V) : fieldAddrK 2 (.ro [x, y, z]) = some (.ro [z]) := Option.some.inj (congrArg some rfl)
theorem rofield1 (x y z : V) : fieldAddrK 1 (.ro [x, y, z]) = some (.ro [y, z]) := Option.some.inj (congrArg some rfl)

/-- One letter more. -/
theorem letter_step (i : Nat) (hi : i ≤ 32) : ∃ j b : Int, (∀ P t, binV P .rem t (.int .i64 i) (.int .i64 26) = some (.int .i64 j)) ∧ convI .u8 (.int .i64 j) = some (.int .u8 j) ∧ (∀ P t, binV P .add t (.int .u8 97) (.int .u8 j) = some (.int .u8 b)) ∧ UInt8.ofNat b.toNat = chr i := by
  refine ⟨((i % 26 : Nat) : Int), ((97 + i % 26 : Nat) : Int), fun P t => ?_, ?_, fun P t => ?_, ?_⟩
  · have : (i : Int).tmod 26 = ((i % 26 : Nat) : Int) := by rw [Int.tmod_eq_emod_of_nonneg (by omega)]; omega
    simp [binV, intBin, this]
  · have h : IntKind.u8.wrap ((i % 26 : Nat) : Int) = ((i % 26 : Nat) : Int) := by
      rw [IntKind.wrap_u8]; omega
    simp only [convI, h]
  · have h : IntKind.u8.wrap (97 + ((i % 26 : Nat) : Int)) = ((97 + i % 26 : Nat) : Int) := by
      rw [IntKind.wrap_u8]; omega
    simp only [binV, intBin, if_true, h]
  · rfl

theorem bs1 (b : Int) : buildSliceK 1 1 [(0, .int .u8 b)] = some (.sl .full [.int .u8 b]) := by
  simp [buildSliceK, partsOk, V.ok1, elemsV, V.cells, V.er, V.er1]
theorem conv1 (b : Int) : convBS (.sl .full [.int .u8 b]) = some (.str [UInt8.ofNat b.toNat]) := by
  simp [convBS]
theorem bs4s (a b c d : List UInt8) : buildSliceK 1 4 [(0, .str a), (1, .str b), (2, .str c), (3, .str d)] = some (.sl .full [.str a, .str b, .str c, .str d]) := by
  simp [buildSliceK, partsOk, V.ok1, elemsV, V.cells, V.er, V.er1]
theorem bs4i (a b c d : Int) : buildSliceK 1 4 [(0, .int .i64 a), (1, .int .i64 b), (2, .int .i64 c), (3, .int .i64 d)] = some (.sl .full [.int .i64 a, .int .i64 b, .int .i64 c, .int .i64 d]) := by
  simp [buildSliceK, partsOk, V.ok1, elemsV, V.cells, V.er, V.er1]
theorem four {k : Nat} (hk : k ≤ 3) : indexAddrL 1 (.sl .full [.str [45, 62], .str [45], .str [45, 45], .str [45, 62, 45]]) (.int .i64 k) = some (.ro [.str (sg k)]) ∧
    indexAddrL 1 (.sl .full [.str [45, 62], .str [45], .str [45], .str [45, 62]]) (.int .i64 k) = some (.ro [.str (sg1 k)]) ∧
    indexAddrL 1 (.sl .full [.int .i64 4, .int .i64 4, .int .i64 5, .int .i64 5]) (.int .i64 k) = some (.ro [vI (wantK k)]) ∧ (sg k).length ≤ 3 ∧ 4 ≤ wantK k ∧ wantK k ≤ 5 := by
  match k, hk with
  | 0, _ => exact ⟨rfl, rfl, rfl, by decide, by decide, by decide⟩
  | 1, _ => exact ⟨rfl, rfl, rfl, by decide, by decide, by decide⟩
  | 2, _ => exact ⟨rfl, rfl, rfl, by decide, by decide, by decide⟩
  | 3, _ => exact ⟨rfl, rfl, rfl, by decide, by decide, by decide⟩

theorem ok_entaillaw6_TokeLong : SpecOk Try.prog n_entaillaw6_TokeLong F_entaillaw6_TokeLong := by
  refine ⟨en_entaillaw6_TokeLong, fun args v hv m => ?_⟩
  unfold F_entaillaw6_TokeLong at hv
  split at hv <;> simp only [Option.ite_none_right_eq_some, Option.some.injEq, reduceCtorEq] at hv
  rename_i a0 a1 c
  obtain ⟨⟨hc0, hc1⟩, rfl⟩ := hv
  have hC : Sound Try.prog (CT Eff (tab [(n_toke_Tokens, F_toke_Tokens), (n_entaillaw6_awake, F_entaillaw6_awake)]) noE) := sound_cons ok_toke_Tokens (sound_cons ok_entaillaw6_awake sound_nil)
  have hp_toke_Tokens : ∀ args, tab [(n_toke_Tokens, F_toke_Tokens), (n_entaillaw6_awake, F_entaillaw6_awake)] n_toke_Tokens args = F_toke_Tokens args := fun _ => rfl
  have hp_entaillaw6_awake : ∀ args, tab [(n_toke_Tokens, F_toke_Tokens), (n_entaillaw6_awake, F_entaillaw6_awake)] n_entaillaw6_awake args = F_entaillaw6_awake args := fun _ => rfl
  refine go_entaillaw6_TokeLong (Nat.le_of_ble_eq_true rfl) ?_ rfl rfl m
  refine aw_seq (w_entaillaw6_TokeLong_0 hC fun K hK => ?_)
  simp only [opt_some, optC_some, opt2_some, guardV_true, guardV_false, guardV_tf, guardV_ft, guardV_undef, guardC_true, guardC_false, guardC_tf, guardC_ft, guardC_undef, pickV_true, pickV_false, unV_not, Bool.not_true, Bool.not_false, pt_apply, Nat.reduceEqDiff, if_false, if_true, List.getD_cons_zero, List.getD_cons_succ, lenS_str, lenL_sl]
  refine hK.out _ _ ?_
  obtain ⟨j, hj, ej⟩ := and_mask Try.prog 3 a0 31 (by omega)
  obtain ⟨k, hk, ek⟩ := and_mask Try.prog 3 a1 3 (by omega)
  have ej' : binV Try.prog .and 3 (.int .i64 a0) (.int .i64 31) = some (.int .i64 j) := ej
  have ek' : binV Try.prog .and 3 (.int .i64 a1) (.int .i64 3) = some (.int .i64 k) := ek
  refine aw_seq (w_entaillaw6_TokeLong_1 hC fun K hK => ?_)
  simp only [opt_some, optC_some, opt2_some, guardV_true, guardV_false, guardV_tf, guardV_ft, guardV_undef, guardC_true, guardC_false, guardC_tf, guardC_ft, guardC_undef, pickV_true, pickV_false, unV_not, Bool.not_true, Bool.not_false, pt_apply, Nat.reduceEqDiff, if_false, if_true, List.getD_cons_zero, List.getD_cons_succ, lenS_str, lenL_sl, ej', ek', binV_add]
  rw [wrap_in (by omega) (by omega)]
  obtain ⟨n, hn⟩ : ∃ n : Nat, n = j + 1 := ⟨_, rfl⟩
  have hjn : ((j : Int) + 1) = (n : Int) := by omega
  rw [hjn]
  refine hK.out _ _ ?_
  refine aw_seq (w_entaillaw6_TokeLong_2 hC fun K hK => ?_)
  simp only [opt_some, optC_some, opt2_some, guardV_true, guardV_false, guardV_tf, guardV_ft, guardV_undef, guardC_true, guardC_false, guardC_tf, guardC_ft, guardC_undef, pickV_true, pickV_false, unV_not, Bool.not_true, Bool.not_false, pt_apply, Nat.reduceEqDiff, if_false, if_true, List.getD_cons_zero, List.getD_cons_succ, lenS_str, lenL_sl]
  refine hK.out _ _ ?_
  refine aw_seq (aw_seq ?_)
  refine w_entaillaw6_TokeLong_3 hC fun K hK => ?_
  simp only [opt_some, optC_some, opt2_some, guardV_true, guardV_false, guardV_tf, guardV_ft, guardV_undef, guardC_true, guardC_false, guardC_tf, guardC_ft, guardC_undef, pickV_true, pickV_false, unV_not, Bool.not_true, Bool.not_false, pt_apply, Nat.reduceEqDiff, if_false, if_true, List.getD_cons_zero, List.getD_cons_succ, lenS_str, lenL_sl]
  refine hK.out _ _ (aw_block (aw_loop (fun s => ∃ (t : Nat → V) (i : Nat), s = ⟨⟨138, t⟩, empty⟩ ∧ t 0 = vI n ∧ t 1 = vI k ∧ t 2 = .int .u8 c ∧ t 7 = .str (sN i) ∧ t 8 = vI i ∧ i ≤ n) (fun s => n - natOf (s.env.f 8))
    ⟨_, 0, rfl, by simp [pt_apply], by simp [pt_apply], by simp [pt_apply, entry], by simp [pt_apply, sN], by simp [pt_apply], Nat.zero_le _⟩ ?_))
  rintro s ⟨t, i, rfl, h0, h1, h2, h7, h8, hi⟩
  refine aw_seq (aw_seq ?_)
  refine w_entaillaw6_TokeLong_4 hC fun K hK => ?_
  simp only [opt_some, optC_some, opt2_some, guardV_true, guardV_false, guardV_tf, guardV_ft, guardV_undef, guardC_true, guardC_false, guardC_tf, guardC_ft, guardC_undef, pickV_true, pickV_false, unV_not, Bool.not_true, Bool.not_false, pt_apply, Nat.reduceEqDiff, if_false, if_true, List.getD_cons_zero, List.getD_cons_succ, lenS_str, lenL_sl, h0, h8, binV_lss]
  by_cases hlt : i < n
  · have hlt' : decide ((i : Int) < (n : Int)) = true := decide_eq_true (by omega)
    simp only [hlt']
    refine hK.out _ _ (aw_condV (b := true) (by simp) (by simp [pt_apply]) ?_)
    simp only [if_true]
    refine aw_skip (aw_seq (aw_block ?_))
    obtain ⟨q, b, s1, s2, s3, s4⟩ := letter_step i (by omega)
    refine w_entaillaw6_TokeLong_6 hC fun K hK => ?_
    have hsl : (sN i).length + ([UInt8.ofNat b.toNat] : List UInt8).length ≤ 9223372036854775807 := by rw [sN_len]; simp; omega
    simp only [opt_some, optC_some, opt2_some, guardV_true, guardV_false, guardV_tf, guardV_ft, guardV_undef, guardC_true, guardC_false, guardC_tf, guardC_ft, guardC_undef, pickV_true, pickV_false, unV_not, Bool.not_true, Bool.not_false, pt_apply, Nat.reduceEqDiff, if_false, if_true, List.getD_cons_zero, List.getD_cons_succ, lenS_str, lenL_sl, h7, h8, s1, s2, s3, bs1, conv1, binV_sadd _ _ _ _ hsl]
    refine hK.out _ _ ?_
    simp only [blockQ, thenQ]
    refine w_entaillaw6_TokeLong_5 hC fun K hK => ?_
    simp only [opt_some, optC_some, opt2_some, guardV_true, guardV_false, guardV_tf, guardV_ft, guardV_undef, guardC_true, guardC_false, guardC_tf, guardC_ft, guardC_undef, pickV_true, pickV_false, unV_not, Bool.not_true, Bool.not_false, pt_apply, Nat.reduceEqDiff, if_false, if_true, List.getD_cons_zero, List.getD_cons_succ, lenS_str, lenL_sl, h8, binV_add]
    rw [wrap_in (by omega) (by omega)]
    refine hK.out _ _ ⟨⟨_, i + 1, rfl, by simp [pt_apply, h0], by simp [pt_apply, h1], by simp [pt_apply, h2], by simp [pt_apply, sN_succ, s4], by simp [pt_apply], hlt⟩, ?_⟩
    simp [pt_apply, natOf, h8]; omega
  · have hlt' : decide ((i : Int) < (n : Int)) = false := decide_eq_false (by omega)
    simp only [hlt']
    refine hK.out _ _ (aw_condV (b := false) (by simp) (by simp [pt_apply]) ?_)
    simp only [Bool.false_eq_true, if_false]
    refine aw_exit ?_
    simp only [blockQ, if_true, thenQ]
    obtain rfl : i = n := by omega
    obtain ⟨f1, f2, f3, f4, f5, f6⟩ := four hk
    obtain ⟨L, x, y, z, g1, g2, g3, g4, u, w, g5⟩ := long_facts (n := i) (k := k) (by omega) (by omega) hk
    refine aw_seq (w_entaillaw6_TokeLong_7 hC fun K hK => ?_)
    simp only [opt_some, optC_some, opt2_some, guardV_true, guardV_false, guardV_tf, guardV_ft, guardV_undef, guardC_true, guardC_false, guardC_tf, guardC_ft, guardC_undef, pickV_true, pickV_false, unV_not, Bool.not_true, Bool.not_false, pt_apply, Nat.reduceEqDiff, if_false, if_true, List.getD_cons_zero, List.getD_cons_succ, lenS_str, lenL_sl, h1, bs4s, f1, roload]
    refine hK.out _ _ ?_
    have hs := sN_len i
    have e1 := binV_sadd Try.prog 9 (sN i) (sg k) (by omega)
    have e2 := binV_sadd Try.prog 9 (sN i ++ sg k) (sN i) (by simp only [List.length_append]; omega)
    have e3 := binV_sadd Try.prog 9 (sN i ++ sg k ++ sN i) [47, 47, 32] (by simp only [List.length_append, List.length_cons, List.length_nil]; omega)
    have e4 := binV_sadd Try.prog 9 (sN i ++ sg k ++ sN i ++ [47, 47, 32]) (sN i) (by simp only [List.length_append, List.length_cons, List.length_nil]; omega)
    have e5 := binV_sadd Try.prog 9 (sN i ++ sg k ++ sN i ++ [47, 47, 32] ++ sN i) [45, 62, 10] (by simp only [List.length_append, List.length_cons, List.length_nil]; omega)
    have e6 := binV_sadd Try.prog 9 (sN i ++ sg k ++ sN i ++ [47, 47, 32] ++ sN i ++ [45, 62, 10]) (sN i) (by simp only [List.length_append, List.length_cons, List.length_nil]; omega)
    unfold longText at g1
    refine aw_seq (w_entaillaw6_TokeLong_8 hC fun K hK => ?_)
    simp only [opt_some, optC_some, opt2_some, guardV_true, guardV_false, guardV_tf, guardV_ft, guardV_undef, guardC_true, guardC_false, guardC_tf, guardC_ft, guardC_undef, pickV_true, pickV_false, unV_not, Bool.not_true, Bool.not_false, pt_apply, Nat.reduceEqDiff, if_false, if_true, List.getD_cons_zero, List.getD_cons_succ, lenS_str, lenL_sl, h7, e1, e2, e3, e4, e5, e6, hp_toke_Tokens, g1, extractV_tup, List.getElem?_cons_zero, List.getElem?_cons_succ]
    refine hK.out _ _ ?_
    refine aw_seq (w_entaillaw6_TokeLong_9 hC fun K hK => ?_)
    simp only [opt_some, optC_some, opt2_some, guardV_true, guardV_false, guardV_tf, guardV_ft, guardV_undef, guardC_true, guardC_false, guardC_tf, guardC_ft, guardC_undef, pickV_true, pickV_false, unV_not, Bool.not_true, Bool.not_false, pt_apply, Nat.reduceEqDiff, if_false, if_true, List.getD_cons_zero, List.getD_cons_succ, lenS_str, lenL_sl, h1, bs4i, f3, roload]
    refine hK.out _ _ ?_
    have rest : ∀ (t : Nat → V) (c' : Int), 0 ≤ c' → c' < 256 → c' ≠ 10 → t 0 = vI i → t 1 = vI k → t 2 = .int .u8 c' → t 7 = .str (sN i) → t 9 = .str (sg k) → t 10 = L → t 12 = vI 0 → t 13 = vI (wantK k) →
        AW Try.prog (.seq (.region 12 (o_entaillaw6_TokeLong_12).toArray false) (.seq (.region 13 (o_entaillaw6_TokeLong_13).toArray true) .ret)) ⟨⟨138, t⟩, empty⟩ (fun e s => (e = .normal ∨ e = .ret) ∧ ∃ v0, resV Try.prog [.tmp 6] s = some v0 ∧ v0.er = .bool true) := by
      intro t c' q1 q2 q3 t0 t1 t2 t7 t9 t10 t12 t13
      obtain ⟨M, X, m1, m2⟩ := c_facts q1 q2 q3
      have b1 := binV_sadd Try.prog 9 [97, 32, 47, 47] [UInt8.ofNat c'.toNat] (by simp)
      have b2 := binV_sadd Try.prog 9 ([97, 32, 47, 47] ++ [UInt8.ofNat c'.toNat]) [10, 98] (by simp)
      refine aw_seq (w_entaillaw6_TokeLong_12 hC fun K hK => ?_)
      simp only [opt_some, optC_some, opt2_some, guardV_true, guardV_false, guardV_tf, guardV_ft, guardV_undef, guardC_true, guardC_false, guardC_tf, guardC_ft, guardC_undef, pickV_true, pickV_false, unV_not, Bool.not_true, Bool.not_false, pt_apply, Nat.reduceEqDiff, if_false, if_true, List.getD_cons_zero, List.getD_cons_succ, lenS_str, lenL_sl, t2, bs1, conv1, b1, b2, hp_toke_Tokens, m1, extractV_tup, List.getElem?_cons_zero, List.getElem?_cons_succ]
      refine hK.out _ _ ?_
      refine aw_seq (w_entaillaw6_TokeLong_13 hC fun K hK => ?_)
      have w1 : IntKind.i64.wrap ((wantK k : Int) - 1) = ((wantK k - 1 : Nat) : Int) := by rw [wrap_in (by omega) (by omega)]; omega
      have w2 : IntKind.i64.wrap (2 * (i : Int)) = ((2 * i : Nat) : Int) := by rw [wrap_in (by omega) (by omega)]; omega
      have w3 : IntKind.i64.wrap (((2 * i : Nat) : Int) + ((sg k).length : Int)) = ((2 * i + (sg k).length : Nat) : Int) := by rw [wrap_in (by omega) (by omega)]; omega
      have w4 : IntKind.i64.wrap (((2 * i + (sg k).length : Nat) : Int) + 3) = ((2 * i + (sg k).length + 3 : Nat) : Int) := by rw [wrap_in (by omega) (by omega)]; omega
      have w5 : IntKind.i64.wrap (((2 * i + (sg k).length + 3 : Nat) : Int) + (i : Int)) = ((2 * i + (sg k).length + 3 + i : Nat) : Int) := by rw [wrap_in (by omega) (by omega)]; omega
      have w6 : IntKind.i64.wrap (((2 * i + (sg k).length + 3 + i : Nat) : Int) + 3) = ((2 * i + (sg k).length + 3 + i + 3 : Nat) : Int) := by rw [wrap_in (by omega) (by omega)]; omega
      simp only [opt_some, optC_some, opt2_some, guardV_true, guardV_false, guardV_tf, guardV_ft, guardV_undef, guardC_true, guardC_false, guardC_tf, guardC_ft, guardC_undef, pickV_true, pickV_false, unV_not, Bool.not_true, Bool.not_false, pt_apply, Nat.reduceEqDiff, if_false, if_true, List.getD_cons_zero, List.getD_cons_succ, lenS_str, lenL_sl, t0, t1, t7, t9, t10, t12, t13, binV_eql, binV_seql, binV_sub, binV_mul, binV_add, g2, g3, g4, g5, w1, w2, w3, w4, w5, w6, bs4s, f2, roload, roload2, rofield2, rofield1, m2, decide_true, beq_self_eq_true, hp_entaillaw6_awake, F_entaillaw6_awake]
      refine hK.out _ _ (aw_ret ⟨.inr rfl, ?_⟩)
      simp [resV, resVs, Env.get, pt_apply, V.er, V.er1]
    refine aw_seq (aw_seq ?_)
    refine w_entaillaw6_TokeLong_10 hC fun K hK => ?_
    simp only [opt_some, optC_some, opt2_some, guardV_true, guardV_false, guardV_tf, guardV_ft, guardV_undef, guardC_true, guardC_false, guardC_tf, guardC_ft, guardC_undef, pickV_true, pickV_false, unV_not, Bool.not_true, Bool.not_false, pt_apply, Nat.reduceEqDiff, if_false, if_true, List.getD_cons_zero, List.getD_cons_succ, lenS_str, lenL_sl, h2, binV_eql]
    by_cases hten : c = 10
    · have hd : decide (c = 10) = true := decide_eq_true hten
      simp only [hd]
      refine hK.out _ _ (aw_condV (b := true) (by simp) (by simp [pt_apply]) ?_)
      simp only [if_true]
      refine w_entaillaw6_TokeLong_11 hC fun K hK => ?_
      simp only [opt_some, optC_some, opt2_some, guardV_true, guardV_false, guardV_tf, guardV_ft, guardV_undef, guardC_true, guardC_false, guardC_tf, guardC_ft, guardC_undef, pickV_true, pickV_false, unV_not, Bool.not_true, Bool.not_false, pt_apply, Nat.reduceEqDiff, if_false, if_true, List.getD_cons_zero, List.getD_cons_succ, lenS_str, lenL_sl]
      refine hK.out _ _ (rest _ 32 (by omega) (by omega) (by omega) ?_ ?_ ?_ ?_ ?_ ?_ ?_ ?_) <;> simp [pt_apply, h0, h1, h7]
    · have hd : decide (c = 10) = false := decide_eq_false hten
      simp only [hd]
      refine hK.out _ _ (aw_condV (b := false) (by simp) (by simp [pt_apply]) ?_)
      simp only [Bool.false_eq_true, if_false]
      refine aw_skip (rest _ c hc0 hc1 hten ?_ ?_ ?_ ?_ ?_ ?_ ?_ ?_) <;> simp [pt_apply, h0, h1, h2, h7]
end Go.Fbs

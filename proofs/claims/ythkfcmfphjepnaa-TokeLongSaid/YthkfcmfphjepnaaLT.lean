import Derived.Test.YthkfcmfphjepnaaGT
import Derived.Test.YthkfcmfphjepnaaLS
set_option linter.unusedVariables false
set_option linter.unusedSimpArgs false
namespace Go.Fbs
open Go.Proofs

/-! ### What the functions answer -/
def letterB (c : Int) : Bool := (decide (97 ≤ c) && decide (c ≤ 122)) || (decide (48 ≤ c) && decide (c ≤ 57)) || decide (c = 95)
def rowN (l : List UInt8) : Nat := (l.takeWhile fun c => letterB c.toNat).length

def F_toke_letter : Spec
  | [.int .u8 c] => some (.bool (letterB c))
  | _ => none
def F_toke_row : Spec
  | [.str l] => if l.length ≤ big then some (vI (rowN l)) else none
  | _ => none

theorem takeWhile_len {α : Type} (f : α → Bool) : ∀ (l : List α) (k : Nat), k ≤ (l.takeWhile f).length → (∀ c, l[k]? = some c → f c = true) → k < l.length → k + 1 ≤ (l.takeWhile f).length
  | [], k, _, _, h => by simp at h
  | a :: l, 0, h, hf, _ => by have := hf a rfl; simp [List.takeWhile_cons, this]
  | a :: l, k + 1, h, hf, hl => by
    simp only [List.takeWhile_cons] at h ⊢
    split
    · rename_i ha
      rw [if_pos ha] at h
      simp only [List.length_cons] at h ⊢
      exact Nat.succ_le_succ (takeWhile_len f l k (by omega) (fun c hc => hf c (by simpa using hc)) (by simpa using hl))
    · rename_i ha; rw [if_neg ha] at h; simp at h
theorem takeWhile_stop {α : Type} (f : α → Bool) : ∀ (l : List α) (k : Nat) (c : α), k ≤ (l.takeWhile f).length → l[k]? = some c → f c = false → (l.takeWhile f).length = k
  | [], k, c, _, h, _ => by simp at h
  | a :: l, 0, c, _, h, hf => by simp at h; subst h; simp [List.takeWhile_cons, hf]
  | a :: l, k + 1, c, h, hc, hf => by
    simp only [List.takeWhile_cons] at h ⊢
    split
    · rename_i ha
      rw [if_pos ha] at h
      simp only [List.length_cons] at h ⊢
      rw [takeWhile_stop f l k c (by omega) (by simpa using hc) hf]
    · rename_i ha; rw [if_neg ha] at h; simp at h

theorem ok_toke_letter : SpecOk Try.prog n_toke_letter F_toke_letter := by
  refine ⟨en_toke_letter, fun args v hv m => ?_⟩
  unfold F_toke_letter at hv
  split at hv <;> simp only [Option.some.injEq, reduceCtorEq] at hv
  rename_i c
  subst hv
  have hC : Sound Try.prog (CT Eff (tab []) noE) := sound_nil
  refine go_toke_letter (Nat.le_of_ble_eq_true rfl) ?_ rfl rfl m
  refine aw_seq (w_toke_letter_0 hC fun K hK => ?_)
  simp only [opt_some, optC_some, opt2_some, guardV_true, guardV_false, guardV_tf, guardV_ft, guardV_undef, guardC_true, guardC_false, guardC_tf, guardC_ft, guardC_undef, pickV_true, pickV_false, unV_not, Bool.not_true, Bool.not_false, pt_apply, Nat.reduceEqDiff, if_false, if_true, List.getD_cons_zero, List.getD_cons_succ, lenS_str, lenL_sl]
  refine hK.out _ _ ?_
  by_cases h1 : 97 ≤ c <;> by_cases h2 : c ≤ 122 <;> by_cases h3 : 48 ≤ c <;> by_cases h4 : c ≤ 57 <;> by_cases h5 : c = 95 <;> (
    refine aw_seq (w_toke_letter_1 hC fun K hK => ?_)
    simp only [opt_some, optC_some, opt2_some, guardV_true, guardV_false, guardV_tf, guardV_ft, guardV_undef, guardC_true, guardC_false, guardC_tf, guardC_ft, guardC_undef, pickV_true, pickV_false, unV_not, Bool.not_true, Bool.not_false, pt_apply, Nat.reduceEqDiff, if_false, if_true, List.getD_cons_zero, List.getD_cons_succ, lenS_str, lenL_sl, binV_geq, binV_leq, binV_eql, h1, h2, h3, h4, h5, decide_true, decide_false]
    refine hK.out _ _ (aw_ret ⟨.inr rfl, ?_⟩)
    simp [resV, resVs, Env.get, pt_apply, V.er, V.er1, letterB, h1, h2, h3, h4, h5])

theorem ok_toke_row : SpecOk Try.prog n_toke_row F_toke_row := by
  refine ⟨en_toke_row, fun args v hv m => ?_⟩
  unfold F_toke_row at hv
  split at hv <;> simp only [Option.ite_none_right_eq_some, Option.some.injEq, reduceCtorEq] at hv
  rename_i l
  obtain ⟨hl, rfl⟩ := hv
  unfold big at hl
  have hN : rowN l ≤ l.length := (List.takeWhile_sublist _).length_le
  have hC : Sound Try.prog (CT Eff (tab [(n_toke_letter, F_toke_letter)]) noE) := sound_cons ok_toke_letter sound_nil
  have hp_toke_letter : ∀ args, tab [(n_toke_letter, F_toke_letter)] n_toke_letter args = F_toke_letter args := fun _ => rfl
  refine go_toke_row (Nat.le_of_ble_eq_true rfl) ?_ rfl rfl m
  refine aw_seq (w_toke_row_0 hC fun K hK => ?_)
  simp only [opt_some, optC_some, opt2_some, guardV_true, guardV_false, guardV_tf, guardV_ft, guardV_undef, guardC_true, guardC_false, guardC_tf, guardC_ft, guardC_undef, pickV_true, pickV_false, unV_not, Bool.not_true, Bool.not_false, pt_apply, Nat.reduceEqDiff, if_false, if_true, List.getD_cons_zero, List.getD_cons_succ, lenS_str, lenL_sl]
  refine hK.out _ _ ?_
  refine aw_seq (w_toke_row_1 hC fun K hK => ?_)
  simp only [opt_some, optC_some, opt2_some, guardV_true, guardV_false, guardV_tf, guardV_ft, guardV_undef, guardC_true, guardC_false, guardC_tf, guardC_ft, guardC_undef, pickV_true, pickV_false, unV_not, Bool.not_true, Bool.not_false, pt_apply, Nat.reduceEqDiff, if_false, if_true, List.getD_cons_zero, List.getD_cons_succ, lenS_str, lenL_sl]
  refine hK.out _ _ ?_
  refine aw_seq (aw_block (aw_loop (fun s => ∃ (t : Nat → V) (k : Nat), s = ⟨⟨17, t⟩, empty⟩ ∧ t 0 = .str l ∧ t 3 = vI k ∧ k ≤ rowN l) (fun s => l.length - natOf (s.env.f 3)) ⟨_, 0, rfl, rfl, rfl, Nat.zero_le _⟩ ?_))
  rintro s ⟨t, k, rfl, h0, h3, hk⟩
  have fin : k = rowN l → ∀ t' : Nat → V, t' 3 = vI k → AW Try.prog (.seq (.region 4 (o_toke_row_4).toArray false) .ret) ⟨⟨17, t'⟩, empty⟩ (fun e s => (e = .normal ∨ e = .ret) ∧ ∃ v0, resV Try.prog [.tmp 2] s = some v0 ∧ v0.er = vI (rowN l)) := by
    intro hst t' h3'
    refine aw_seq (w_toke_row_4 hC fun K hK => ?_)
    simp only [opt_some, optC_some, opt2_some, guardV_true, guardV_false, guardV_tf, guardV_ft, guardV_undef, guardC_true, guardC_false, guardC_tf, guardC_ft, guardC_undef, pickV_true, pickV_false, unV_not, Bool.not_true, Bool.not_false, pt_apply, Nat.reduceEqDiff, if_false, if_true, List.getD_cons_zero, List.getD_cons_succ, lenS_str, lenL_sl, h3']
    refine hK.out _ _ ?_
    refine aw_ret ⟨.inr rfl, ?_⟩
    simp [resV, resVs, Env.get, pt_apply, V.er, V.er1, hst]
  refine aw_seq ?_
  by_cases hlt : k < l.length
  · obtain ⟨c, hc⟩ : ∃ c, l[k]? = some c := ⟨l[k], List.getElem?_eq_getElem hlt⟩
    have hlt' : (k : Int) < (l.length : Int) := by omega
    refine aw_seq (w_toke_row_2 hC fun K hK => ?_)
    simp only [opt_some, optC_some, opt2_some, guardV_true, guardV_false, guardV_tf, guardV_ft, guardV_undef, guardC_true, guardC_false, guardC_tf, guardC_ft, guardC_undef, pickV_true, pickV_false, unV_not, Bool.not_true, Bool.not_false, pt_apply, Nat.reduceEqDiff, if_false, if_true, List.getD_cons_zero, List.getD_cons_succ, lenS_str, lenL_sl, h0, h3, binV_lss, hlt', decide_true, indexS_at hc, hp_toke_letter, F_toke_letter]
    cases hb : letterB c.toNat
    · refine hK.out _ _ (aw_condV (b := false) (by simp) (by simp [pt_apply]) (aw_exit ?_))
      have hst : rowN l = k := takeWhile_stop _ l k c hk hc hb
      simp only [blockQ, if_true, thenQ]
      exact fin hst.symm _ (by simp [pt_apply, h3])
    · refine hK.out _ _ (aw_condV (b := true) (by simp) (by simp [pt_apply]) (aw_skip ?_))
      have hst : k + 1 ≤ rowN l := takeWhile_len _ l k hk (fun c' hc' => by rw [hc] at hc'; simp at hc'; subst hc'; exact hb) hlt
      refine aw_block (w_toke_row_3 hC fun K hK => ?_)
      simp only [opt_some, optC_some, opt2_some, guardV_true, guardV_false, guardV_tf, guardV_ft, guardV_undef, guardC_true, guardC_false, guardC_tf, guardC_ft, guardC_undef, pickV_true, pickV_false, unV_not, Bool.not_true, Bool.not_false, pt_apply, Nat.reduceEqDiff, if_false, if_true, List.getD_cons_zero, List.getD_cons_succ, lenS_str, lenL_sl, h3, binV_add]
      rw [wrap_in (by omega) (by omega)]
      refine hK.out _ _ ⟨⟨_, k + 1, rfl, by simp [pt_apply, h0], by simp [pt_apply], hst⟩, ?_⟩
      simp [pt_apply, natOf, h3]; omega
  · have hlt' : ¬ (k : Int) < (l.length : Int) := by omega
    refine aw_seq (w_toke_row_2 hC fun K hK => ?_)
    simp only [opt_some, optC_some, opt2_some, guardV_true, guardV_false, guardV_tf, guardV_ft, guardV_undef, guardC_true, guardC_false, guardC_tf, guardC_ft, guardC_undef, pickV_true, pickV_false, unV_not, Bool.not_true, Bool.not_false, pt_apply, Nat.reduceEqDiff, if_false, if_true, List.getD_cons_zero, List.getD_cons_succ, lenS_str, lenL_sl, h0, h3, binV_lss, hlt', decide_false]
    refine hK.out _ _ (aw_condV (b := false) (by simp) (by simp [pt_apply]) (aw_exit ?_))
    have hst : k = rowN l := by omega
    simp only [blockQ, if_true, thenQ]
    exact fin hst _ (by simp [pt_apply, h3])
end Go.Fbs

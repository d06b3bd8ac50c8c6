import Derived.Test.YthkfcmfphjepnaaLT
set_option linter.unusedVariables false
set_option linter.unusedSimpArgs false
namespace Go.Fbs
open Go.Proofs

def blankB (c : UInt8) : Bool := c == 32 || c == 9 || c == 13 || c == 10
/-- What says nothing at a text's beginning: how much of it; within a note or not. -/
def skipN : Bool → List UInt8 → Nat
  | _, [] => 0
  | true, c :: r => if c = 10 then 1 + skipN false r else 1 + skipN true r
  | false, c :: r => if c = 47 ∧ r.head? = some 47 then 1 + skipN true r else if blankB c then 1 + skipN false r else 0

def F_toke_skip : Spec
  | [.str l] => if l.length ≤ big then some (vI (skipN false l)) else none
  | _ => none

theorem skipN_le : ∀ (b : Bool) (l : List UInt8), skipN b l ≤ l.length
  | b, [] => by cases b <;> simp [skipN]
  | true, c :: r => by
    have h1 := skipN_le false r
    have h2 := skipN_le true r
    simp only [skipN, List.length_cons]; split <;> omega
  | false, c :: r => by
    have h1 := skipN_le false r
    have h2 := skipN_le true r
    simp only [skipN, List.length_cons]; split <;> (try split) <;> omega

theorem ixB_nil (c : UInt8) : ixB [] c = -1 := rfl
theorem ixB_cons (b : UInt8) (l : List UInt8) (c : UInt8) : ixB (b :: l) c = if b == c then 0 else if ixB l c == -1 then -1 else ixB l c + 1 := rfl
/-- A byte stands somewhere, or nowhere. -/
theorem ixB_cases : ∀ (l : List UInt8) (c : UInt8), (ixB l c = -1 ∧ c ∉ l) ∨ ∃ k : Nat, ixB l c = k ∧ l[k]? = some c ∧ c ∉ l.take k
  | [], c => .inl ⟨rfl, by simp⟩
  | b :: l, c => by
    rw [ixB_cons]
    by_cases h : b = c
    · subst h; exact .inr ⟨0, by simp, by simp, by simp⟩
    · have hb : (b == c) = false := by simpa using h
      rw [hb]
      rcases ixB_cases l c with ⟨h1, h2⟩ | ⟨k, h1, h2, h3⟩
      · rw [h1]; exact .inl ⟨rfl, by simp [h2, Ne.symm h]⟩
      · rw [h1]
        refine .inr ⟨k + 1, ?_, by simpa using h2, by simp [h3, Ne.symm h]⟩
        have : ((k : Int) == -1) = false := by simp <;> omega
        simp [this]

/-- A note without an end goes to the text's end; one with an end up to there. -/
theorem skipN_note_all : ∀ (l : List UInt8), (10 : UInt8) ∉ l → skipN true l = l.length
  | [], _ => rfl
  | c :: r, h => by
    simp only [List.mem_cons, not_or] at h
    simp only [skipN, List.length_cons]
    rw [if_neg (fun e => h.1 e.symm), skipN_note_all r h.2, Nat.add_comm]
theorem skipN_note_to : ∀ (l : List UInt8) (k : Nat), l[k]? = some 10 → (10 : UInt8) ∉ l.take k → skipN true l = k + skipN false (l.drop k)
  | [], k, h, _ => by simp at h
  | c :: r, 0, h, _ => by
    simp at h; subst h
    simp [skipN, blankB]
  | c :: r, k + 1, h, hn => by
    simp only [List.take_succ_cons, List.mem_cons, not_or] at hn
    simp only [skipN, List.drop_succ_cons]
    rw [if_neg (fun e => hn.1 e.symm), skipN_note_to r k (by simpa using h) hn.2, Nat.add_comm k 1, Nat.add_assoc]
theorem skipN_two (r : List UInt8) : skipN false (47 :: 47 :: r) = skipN true (47 :: 47 :: r) := by
  simp [skipN]

theorem sl_two {l : List UInt8} : List.isPrefixOf [47, 47] l = true ↔ ∃ r, l = 47 :: 47 :: r := by
  rw [List.isPrefixOf_iff_prefix]
  exact ⟨fun ⟨r, h⟩ => ⟨r, by simpa using h.symm⟩, fun ⟨r, h⟩ => ⟨r, by simpa using h.symm⟩⟩

theorem ixB_has (l : List UInt8) (c : UInt8) : decide (0 ≤ ixB l c) = decide (c ∈ l) := by
  rcases ixB_cases l c with ⟨h1, h2⟩ | ⟨k, h1, h2, _⟩
  · rw [h1]; simp [h2]
  · rw [h1]; simp [List.mem_of_getElem? h2]
theorem ixB_blank (c : UInt8) : decide (0 ≤ ixB [32, 9, 13, 10] c) = blankB c := by
  rw [ixB_has]
  simp only [blankB, List.mem_cons, List.not_mem_nil, or_false, Bool.decide_or, Bool.or_assoc]
  rfl

theorem ok_toke_skip : SpecOk Try.prog n_toke_skip F_toke_skip := by
  refine ⟨en_toke_skip, fun args v hv m => ?_⟩
  unfold F_toke_skip at hv
  split at hv <;> simp only [Option.ite_none_right_eq_some, Option.some.injEq, reduceCtorEq] at hv
  rename_i l
  obtain ⟨hl, rfl⟩ := hv
  have hl0 := hl
  unfold big at hl
  have hC : Sound Try.prog (CT Eff (tab [(n_strings_HasPrefix, F_strings_HasPrefix), (n_strings_Index, F_strings_Index), (n_strings_Contains, F_strings_Contains)]) noE) := sound_cons ok_strings_HasPrefix (sound_cons ok_strings_Index (sound_cons ok_strings_Contains sound_nil))
  have hp_strings_HasPrefix : ∀ args, tab [(n_strings_HasPrefix, F_strings_HasPrefix), (n_strings_Index, F_strings_Index), (n_strings_Contains, F_strings_Contains)] n_strings_HasPrefix args = F_strings_HasPrefix args := fun _ => rfl
  have hp_strings_Index : ∀ args, tab [(n_strings_HasPrefix, F_strings_HasPrefix), (n_strings_Index, F_strings_Index), (n_strings_Contains, F_strings_Contains)] n_strings_Index args = F_strings_Index args := fun _ => rfl
  have hp_strings_Contains : ∀ args, tab [(n_strings_HasPrefix, F_strings_HasPrefix), (n_strings_Index, F_strings_Index), (n_strings_Contains, F_strings_Contains)] n_strings_Contains args = F_strings_Contains args := fun _ => rfl
  refine go_toke_skip (Nat.le_of_ble_eq_true rfl) ?_ rfl rfl m
  refine aw_seq (w_toke_skip_0 hC fun K hK => ?_)
  simp only [opt_some, optC_some, opt2_some, guardV_true, guardV_false, guardV_tf, guardV_ft, guardV_undef, guardC_true, guardC_false, guardC_tf, guardC_ft, guardC_undef, pickV_true, pickV_false, unV_not, Bool.not_true, Bool.not_false, pt_apply, Nat.reduceEqDiff, if_false, if_true, List.getD_cons_zero, List.getD_cons_succ, lenS_str, lenL_sl]
  refine hK.out _ _ ?_
  refine aw_seq (w_toke_skip_1 hC fun K hK => ?_)
  simp only [opt_some, optC_some, opt2_some, guardV_true, guardV_false, guardV_tf, guardV_ft, guardV_undef, guardC_true, guardC_false, guardC_tf, guardC_ft, guardC_undef, pickV_true, pickV_false, unV_not, Bool.not_true, Bool.not_false, pt_apply, Nat.reduceEqDiff, if_false, if_true, List.getD_cons_zero, List.getD_cons_succ, lenS_str, lenL_sl]
  refine hK.out _ _ ?_
  refine aw_block (aw_loop (fun s => ∃ (t : Nat → V) (k : Nat), s = ⟨⟨32, t⟩, empty⟩ ∧ t 0 = .str l ∧ t 3 = vI k ∧ k ≤ l.length ∧ skipN false l = k + skipN false (l.drop k)) (fun s => l.length - natOf (s.env.f 3)) ⟨_, 0, rfl, rfl, rfl, Nat.zero_le _, by simp⟩ ?_)
  rintro s ⟨t, k, rfl, h0, h3, hk, hs⟩
  refine aw_block ?_
  refine aw_seq (w_toke_skip_2 hC fun K hK => ?_)
  simp only [opt_some, optC_some, opt2_some, guardV_true, guardV_false, guardV_tf, guardV_ft, guardV_undef, guardC_true, guardC_false, guardC_tf, guardC_ft, guardC_undef, pickV_true, pickV_false, unV_not, Bool.not_true, Bool.not_false, pt_apply, Nat.reduceEqDiff, if_false, if_true, List.getD_cons_zero, List.getD_cons_succ, lenS_str, lenL_sl, h0, h3, sliceS_from hk]
  refine hK.out _ _ ?_
  refine aw_block ?_
  have hd : (l.drop k).length ≤ big := by simp only [List.length_drop]; unfold big; omega
  have h2 : ([47, 47] : List UInt8).length ≤ big := Nat.le_of_ble_eq_true rfl
  refine aw_seq (w_toke_skip_4 hC fun K hK => ?_)
  simp only [opt_some, optC_some, opt2_some, guardV_true, guardV_false, guardV_tf, guardV_ft, guardV_undef, guardC_true, guardC_false, guardC_tf, guardC_ft, guardC_undef, pickV_true, pickV_false, unV_not, Bool.not_true, Bool.not_false, pt_apply, Nat.reduceEqDiff, if_false, if_true, List.getD_cons_zero, List.getD_cons_succ, lenS_str, lenL_sl, hp_strings_HasPrefix, F_strings_HasPrefix, hd, h2, and_self]
  refine hK.out _ _ ?_
  cases hc : List.isPrefixOf [47, 47] (l.drop k)
  · refine aw_condV (b := false) (by simp) (by simp [pt_apply]) ?_
    simp only [Bool.false_eq_true, if_false]
    refine aw_seq (w_toke_skip_9 hC fun K hK => ?_)
    simp only [opt_some, optC_some, opt2_some, guardV_true, guardV_false, guardV_tf, guardV_ft, guardV_undef, guardC_true, guardC_false, guardC_tf, guardC_ft, guardC_undef, pickV_true, pickV_false, unV_not, Bool.not_true, Bool.not_false, pt_apply, Nat.reduceEqDiff, if_false, if_true, List.getD_cons_zero, List.getD_cons_succ, lenS_str, lenL_sl, h0, h3, binV_sneq]
    cases hr : l.drop k with
    | nil =>
      have e1 : (([] : List UInt8) == []) = true := rfl
      simp only [opt_some, optC_some, opt2_some, guardV_true, guardV_false, guardV_tf, guardV_ft, guardV_undef, guardC_true, guardC_false, guardC_tf, guardC_ft, guardC_undef, pickV_true, pickV_false, unV_not, Bool.not_true, Bool.not_false, pt_apply, Nat.reduceEqDiff, if_false, if_true, List.getD_cons_zero, List.getD_cons_succ, lenS_str, lenL_sl, e1]
      refine hK.out _ _ (aw_condV (b := false) (by simp) (by simp [pt_apply]) ?_)
      simp only [Bool.false_eq_true, if_false]
      refine aw_seq (w_toke_skip_3 hC fun K hK => ?_)
      simp only [opt_some, optC_some, opt2_some, guardV_true, guardV_false, guardV_tf, guardV_ft, guardV_undef, guardC_true, guardC_false, guardC_tf, guardC_ft, guardC_undef, pickV_true, pickV_false, unV_not, Bool.not_true, Bool.not_false, pt_apply, Nat.reduceEqDiff, if_false, if_true, List.getD_cons_zero, List.getD_cons_succ, lenS_str, lenL_sl, h3]
      refine hK.out _ _ ?_
      refine aw_ret ⟨.inr rfl, ?_⟩
      rw [hr] at hs
      simp [resV, resVs, Env.get, pt_apply, V.er, V.er1, hs, skipN]
    | cons c r =>
      have e1 : ((c :: r : List UInt8) == []) = false := rfl
      have e2 : sliceS (.str (c :: r)) none (some (.int .i64 1)) = some (.str [c]) := by
        have := sliceS_to (l := c :: r) (k := 1) (by simp) .i64
        simpa using this
      simp only [opt_some, optC_some, opt2_some, guardV_true, guardV_false, guardV_tf, guardV_ft, guardV_undef, guardC_true, guardC_false, guardC_tf, guardC_ft, guardC_undef, pickV_true, pickV_false, unV_not, Bool.not_true, Bool.not_false, pt_apply, Nat.reduceEqDiff, if_false, if_true, List.getD_cons_zero, List.getD_cons_succ, lenS_str, lenL_sl, e1, e2, hp_strings_Contains, F_strings_Contains, ixB_blank]
      have hn : ¬ (c = 47 ∧ r.head? = some 47) := by
        rintro ⟨rfl, h⟩
        cases r with
        | nil => simp at h
        | cons d r => simp at h; subst h; rw [hr] at hc; simp at hc
      have hkl : k < l.length := by
        have := congrArg List.length hr; simp only [List.length_drop, List.length_cons] at this; omega
      cases hb : blankB c
      · refine hK.out _ _ (aw_condV (b := false) (by simp) (by simp [pt_apply]) ?_)
        simp only [Bool.false_eq_true, if_false]
        refine aw_seq (w_toke_skip_3 hC fun K hK => ?_)
        simp only [opt_some, optC_some, opt2_some, guardV_true, guardV_false, guardV_tf, guardV_ft, guardV_undef, guardC_true, guardC_false, guardC_tf, guardC_ft, guardC_undef, pickV_true, pickV_false, unV_not, Bool.not_true, Bool.not_false, pt_apply, Nat.reduceEqDiff, if_false, if_true, List.getD_cons_zero, List.getD_cons_succ, lenS_str, lenL_sl, h3]
        refine hK.out _ _ ?_
        refine aw_ret ⟨.inr rfl, ?_⟩
        rw [hr] at hs
        simp only [skipN, if_neg hn, hb, Bool.false_eq_true, if_false] at hs
        simp [resV, resVs, Env.get, pt_apply, V.er, V.er1, hs]
      · refine hK.out _ _ (aw_condV (b := true) (by simp) (by simp [pt_apply]) ?_)
        simp only [if_true]
        refine w_toke_skip_10 hC fun K hK => ?_
        simp only [opt_some, optC_some, opt2_some, guardV_true, guardV_false, guardV_tf, guardV_ft, guardV_undef, guardC_true, guardC_false, guardC_tf, guardC_ft, guardC_undef, pickV_true, pickV_false, unV_not, Bool.not_true, Bool.not_false, pt_apply, Nat.reduceEqDiff, if_false, if_true, List.getD_cons_zero, List.getD_cons_succ, lenS_str, lenL_sl, h3, binV_add]
        rw [wrap_in (by omega) (by omega)]
        refine hK.out _ _ ⟨⟨_, k + 1, rfl, by simp [pt_apply, h0], by simp [pt_apply], hkl, ?_⟩, ?_⟩
        · rw [hr] at hs
          simp only [skipN, if_neg hn, hb, if_true] at hs
          have : l.drop (k + 1) = r := by rw [← List.drop_drop, hr]; rfl
          rw [this, hs]; omega
        · simp [pt_apply, natOf, h3]; omega
  · obtain ⟨r, hr⟩ := sl_two.1 hc
    have hkl : k + 2 ≤ l.length := by
      have := congrArg List.length hr; simp only [List.length_drop, List.length_cons] at this; omega
    refine aw_condV (b := true) (by simp) (by simp [pt_apply]) ?_
    simp only [if_true]
    refine aw_seq (w_toke_skip_5 hC fun K hK => ?_)
    simp only [opt_some, optC_some, opt2_some, guardV_true, guardV_false, guardV_tf, guardV_ft, guardV_undef, guardC_true, guardC_false, guardC_tf, guardC_ft, guardC_undef, pickV_true, pickV_false, unV_not, Bool.not_true, Bool.not_false, pt_apply, Nat.reduceEqDiff, if_false, if_true, List.getD_cons_zero, List.getD_cons_succ, lenS_str, lenL_sl, hp_strings_Index, F_strings_Index]
    refine hK.out _ _ ?_
    refine aw_seq (aw_seq ?_)
    rw [hr, skipN_two, ← hr] at hs
    rcases ixB_cases (l.drop k) 10 with ⟨e1, e2⟩ | ⟨j, e1, e2, e3⟩
    · rw [skipN_note_all _ e2] at hs
      refine w_toke_skip_6 hC fun K hK => ?_
      simp only [opt_some, optC_some, opt2_some, guardV_true, guardV_false, guardV_tf, guardV_ft, guardV_undef, guardC_true, guardC_false, guardC_tf, guardC_ft, guardC_undef, pickV_true, pickV_false, unV_not, Bool.not_true, Bool.not_false, pt_apply, Nat.reduceEqDiff, if_false, if_true, List.getD_cons_zero, List.getD_cons_succ, lenS_str, lenL_sl, e1, binV_lss]
      refine hK.out _ _ (aw_condV (b := true) (by simp) (by simp [pt_apply]) ?_)
      simp only [if_true]
      refine aw_seq (w_toke_skip_7 hC fun K hK => ?_)
      simp only [opt_some, optC_some, opt2_some, guardV_true, guardV_false, guardV_tf, guardV_ft, guardV_undef, guardC_true, guardC_false, guardC_tf, guardC_ft, guardC_undef, pickV_true, pickV_false, unV_not, Bool.not_true, Bool.not_false, pt_apply, Nat.reduceEqDiff, if_false, if_true, List.getD_cons_zero, List.getD_cons_succ, lenS_str, lenL_sl, h0]
      refine hK.out _ _ ?_
      refine aw_ret ⟨.inr rfl, ?_⟩
      simp only [List.length_drop] at hs
      simp [resV, resVs, Env.get, pt_apply, V.er, V.er1, hs] <;> omega
    · rw [skipN_note_to _ j e2 e3] at hs
      have hj : k + j < l.length := by
        have := (List.getElem?_eq_some_iff.1 e2).1; simp only [List.length_drop] at this; omega
      have hj0 : j ≠ 0 := by rintro rfl; rw [hr] at e2; simp at e2
      have e4 : decide ((j : Int) < 0) = false := by simp <;> omega
      refine w_toke_skip_6 hC fun K hK => ?_
      simp only [opt_some, optC_some, opt2_some, guardV_true, guardV_false, guardV_tf, guardV_ft, guardV_undef, guardC_true, guardC_false, guardC_tf, guardC_ft, guardC_undef, pickV_true, pickV_false, unV_not, Bool.not_true, Bool.not_false, pt_apply, Nat.reduceEqDiff, if_false, if_true, List.getD_cons_zero, List.getD_cons_succ, lenS_str, lenL_sl, e1, binV_lss, e4]
      refine hK.out _ _ (aw_condV (b := false) (by simp) (by simp [pt_apply]) ?_)
      simp only [Bool.false_eq_true, if_false]
      refine aw_skip ?_
      refine w_toke_skip_8 hC fun K hK => ?_
      simp only [opt_some, optC_some, opt2_some, guardV_true, guardV_false, guardV_tf, guardV_ft, guardV_undef, guardC_true, guardC_false, guardC_tf, guardC_ft, guardC_undef, pickV_true, pickV_false, unV_not, Bool.not_true, Bool.not_false, pt_apply, Nat.reduceEqDiff, if_false, if_true, List.getD_cons_zero, List.getD_cons_succ, lenS_str, lenL_sl, h3, binV_add]
      rw [wrap_in (by omega) (by omega)]
      refine hK.out _ _ ⟨⟨_, k + j, rfl, by simp [pt_apply, h0], by simp [pt_apply], by omega, ?_⟩, ?_⟩
      · rw [hs, List.drop_drop]; omega
      · simp [pt_apply, natOf, h3]; omega
end Go.Fbs

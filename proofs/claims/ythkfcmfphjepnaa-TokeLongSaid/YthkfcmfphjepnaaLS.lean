import Derived.Test.YthkfcmfphjepnaaGS
import Derived.Test.YthkfcmfphjepnaaShelf
set_option linter.unusedVariables false
set_option linter.unusedSimpArgs false
namespace Go.Fbs
open Go.Proofs

/-- Where a byte stands first: -1: nowhere. -/
def ixB (l : List UInt8) (c : UInt8) : Int := Lib.indexByte l c

def F_strings_Index : Spec
  | [.str s, .str [c]] => some (vI (ixB s c))
  | _ => none
def F_internal_stringslite_Index : Spec
  | [.str s, .str [c]] => some (vI (ixB s c))
  | _ => none
def F_strings_Contains : Spec
  | [.str s, .str [c]] => some (.bool (decide (0 ≤ ixB s c)))
  | _ => none
def F_internal_stringslite_HasPrefix : Spec
  | [.str s, .str q] => if s.length ≤ big ∧ q.length ≤ big then some (.bool (q.isPrefixOf s)) else none
  | _ => none
def F_strings_HasPrefix : Spec
  | [.str s, .str q] => if s.length ≤ big ∧ q.length ≤ big then some (.bool (q.isPrefixOf s)) else none
  | _ => none

theorem ok_strings_Index : SpecOk Try.prog n_strings_Index F_strings_Index := by
  refine ⟨en_strings_Index, fun args v hv m => ?_⟩
  unfold F_strings_Index at hv
  split at hv <;> simp only [Option.some.injEq, reduceCtorEq] at hv
  rename_i s c
  subst hv
  exact callOk_same fun κ w xs r => ⟨_, by rw [reps_str2 r]; exact Try.strings_Index_one ⟨⟨s⟩⟩ c w, .int _ _⟩
theorem ok_internal_stringslite_Index : SpecOk Try.prog n_internal_stringslite_Index F_internal_stringslite_Index := by
  refine ⟨⟨_, _, Try.func66, rfl, by kernel_rfl⟩, fun args v hv m => ?_⟩
  unfold F_internal_stringslite_Index at hv
  split at hv <;> simp only [Option.some.injEq, reduceCtorEq] at hv
  rename_i s c
  subst hv
  exact callOk_same fun κ w xs r => ⟨_, by rw [reps_str2 r]; exact Try.stringslite_Index_one ⟨⟨s⟩⟩ c w, .int _ _⟩
theorem ok_strings_Contains : SpecOk Try.prog n_strings_Contains F_strings_Contains := by
  refine ⟨en_strings_Contains, fun args v hv m => ?_⟩
  unfold F_strings_Contains at hv
  split at hv <;> simp only [Option.some.injEq, reduceCtorEq] at hv
  rename_i s c
  subst hv
  exact callOk_same fun κ w xs r => ⟨_, by rw [reps_str2 r]; exact Try.strings_Contains_one ⟨⟨s⟩⟩ c w, .bool _⟩

theorem isPrefixOf_eq_take {q s : List UInt8} : q.isPrefixOf s = (decide (q.length ≤ s.length) && (s.take q.length == q)) := by
  induction q generalizing s with
  | nil => simp
  | cons a q ih => cases s with
    | nil => simp
    | cons b s => 
      simp only [List.isPrefixOf, ih, List.length_cons, List.take_succ_cons, List.cons_beq_cons, Nat.add_le_add_iff_right]
      rw [show (a == b) = (b == a) from BEq.comm]
      cases b == a <;> simp

theorem ok_internal_stringslite_HasPrefix : SpecOk Try.prog n_internal_stringslite_HasPrefix F_internal_stringslite_HasPrefix := by
  refine ⟨en_internal_stringslite_HasPrefix, fun args v hv m => ?_⟩
  unfold F_internal_stringslite_HasPrefix at hv
  split at hv <;> simp only [Option.ite_none_right_eq_some, Option.some.injEq, reduceCtorEq] at hv
  rename_i s q
  obtain ⟨⟨hs, hq⟩, rfl⟩ := hv
  unfold big at hs hq
  have hC : Sound Try.prog (CT Eff (tab []) noE) := sound_nil
  refine go_internal_stringslite_HasPrefix (Nat.le_of_ble_eq_true rfl) ?_ rfl rfl m
  refine aw_seq (w_internal_stringslite_HasPrefix_0 hC fun K hK => ?_)
  simp only [opt_some, optC_some, opt2_some, guardV_true, guardV_false, guardV_tf, guardV_ft, guardV_undef, guardC_true, guardC_false, guardC_tf, guardC_ft, guardC_undef, pickV_true, pickV_false, unV_not, Bool.not_true, Bool.not_false, pt_apply, Nat.reduceEqDiff, if_false, if_true, List.getD_cons_zero, List.getD_cons_succ, lenS_str, lenL_sl]
  refine hK.out _ _ ?_
  refine aw_seq (w_internal_stringslite_HasPrefix_1 hC fun K hK => ?_)
  simp only [opt_some, optC_some, opt2_some, guardV_true, guardV_false, guardV_tf, guardV_ft, guardV_undef, guardC_true, guardC_false, guardC_tf, guardC_ft, guardC_undef, pickV_true, pickV_false, unV_not, Bool.not_true, Bool.not_false, pt_apply, Nat.reduceEqDiff, if_false, if_true, List.getD_cons_zero, List.getD_cons_succ, lenS_str, lenL_sl, binV_geq]
  by_cases hlt : (q.length : Int) ≤ (s.length : Int)
  · have hlt' : q.length ≤ s.length := by omega
    simp only [opt_some, optC_some, opt2_some, guardV_true, guardV_false, guardV_tf, guardV_ft, guardV_undef, guardC_true, guardC_false, guardC_tf, guardC_ft, guardC_undef, pickV_true, pickV_false, unV_not, Bool.not_true, Bool.not_false, pt_apply, Nat.reduceEqDiff, if_false, if_true, List.getD_cons_zero, List.getD_cons_succ, lenS_str, lenL_sl, hlt, decide_true, sliceS_to hlt', binV_seql]
    refine hK.out _ _ (aw_ret ⟨.inr rfl, ?_⟩)
    simp [resV, resVs, Env.get, pt_apply, V.er, V.er1, isPrefixOf_eq_take, hlt']
  · have hlt' : ¬ q.length ≤ s.length := by omega
    simp only [opt_some, optC_some, opt2_some, guardV_true, guardV_false, guardV_tf, guardV_ft, guardV_undef, guardC_true, guardC_false, guardC_tf, guardC_ft, guardC_undef, pickV_true, pickV_false, unV_not, Bool.not_true, Bool.not_false, pt_apply, Nat.reduceEqDiff, if_false, if_true, List.getD_cons_zero, List.getD_cons_succ, lenS_str, lenL_sl, hlt, decide_false]
    refine hK.out _ _ (aw_ret ⟨.inr rfl, ?_⟩)
    simp [resV, resVs, Env.get, pt_apply, V.er, V.er1, isPrefixOf_eq_take, hlt']

theorem ok_strings_HasPrefix : SpecOk Try.prog n_strings_HasPrefix F_strings_HasPrefix := by
  refine ⟨en_strings_HasPrefix, fun args v hv m => ?_⟩
  unfold F_strings_HasPrefix at hv
  split at hv <;> simp only [Option.ite_none_right_eq_some, Option.some.injEq, reduceCtorEq] at hv
  rename_i s q
  obtain ⟨hq, rfl⟩ := hv
  have hC : Sound Try.prog (CT Eff (tab [(n_internal_stringslite_HasPrefix, F_internal_stringslite_HasPrefix)]) noE) := sound_cons ok_internal_stringslite_HasPrefix sound_nil
  have hp_internal_stringslite_HasPrefix : ∀ args, tab [(n_internal_stringslite_HasPrefix, F_internal_stringslite_HasPrefix)] n_internal_stringslite_HasPrefix args = F_internal_stringslite_HasPrefix args := fun _ => rfl
  refine go_strings_HasPrefix (Nat.le_of_ble_eq_true rfl) ?_ rfl rfl m
  refine aw_seq (w_strings_HasPrefix_0 hC fun K hK => ?_)
  simp only [opt_some, optC_some, opt2_some, guardV_true, guardV_false, guardV_tf, guardV_ft, guardV_undef, guardC_true, guardC_false, guardC_tf, guardC_ft, guardC_undef, pickV_true, pickV_false, unV_not, Bool.not_true, Bool.not_false, pt_apply, Nat.reduceEqDiff, if_false, if_true, List.getD_cons_zero, List.getD_cons_succ, lenS_str, lenL_sl]
  refine hK.out _ _ ?_
  refine aw_seq (w_strings_HasPrefix_1 hC fun K hK => ?_)
  simp only [opt_some, optC_some, opt2_some, guardV_true, guardV_false, guardV_tf, guardV_ft, guardV_undef, guardC_true, guardC_false, guardC_tf, guardC_ft, guardC_undef, pickV_true, pickV_false, unV_not, Bool.not_true, Bool.not_false, pt_apply, Nat.reduceEqDiff, if_false, if_true, List.getD_cons_zero, List.getD_cons_succ, lenS_str, lenL_sl, hp_internal_stringslite_HasPrefix, F_internal_stringslite_HasPrefix, hq, and_self]
  refine hK.out _ _ ?_
  refine aw_ret ⟨.inr rfl, ?_⟩
  simp [resV, resVs, Env.get, pt_apply, V.er, V.er1]
end Go.Fbs

import Derived.Test.YthkfcmfphjepnaaDI
set_option linter.unusedVariables false
set_option linter.unusedSimpArgs false
set_option linter.unusedSectionVars false
namespace Go.Fbs
open Go.Proofs

theorem find_ix : ∀ (l : List UInt8) (c : UInt8), findN l c.toNat 0 = ixB l c
  | [], c => rfl
  | b :: l, c => by
    have ih := find_ix l c
    unfold findN at ih ⊢
    simp only [List.drop_zero] at ih ⊢
    rw [ixB_cons, List.findIdx?_cons]
    by_cases h : b = c
    · subst h; simp
    · have h1 : (b == c) = false := by simpa using h
      have h2 : ¬ ((b.toNat : Int) = c.toNat) := fun e => h (UInt8.toNat_inj.1 (by omega))
      simp only [h1, h2, decide_false, Bool.false_eq_true, if_false]
      rw [← ih]
      cases l.findIdx? (fun b => decide ((b.toNat : Int) = c.toNat)) with
      | none => simp
      | some j =>
        have : ((((0 : Nat) : Int) + (j : Int)) == -1) = false := by simp <;> omega
        simp [this] <;> omega
def F_entailref1_Split : Spec
  | [.str l] => if l.length ≤ big then some (cutV (splitT l)) else none
  | _ => none
theorem ok_entailref1_Split : SpecL Try.prog n_entailref1_Split F_entailref1_Split := by
  refine go_entailref1_Split (T := [(n_entailref1_Find, F_entailref1_Find), (n_entailref1_Name, F_entailref1_Name)]) (TabOk.cons ok_entailref1_Find (TabOk.cons ok_entailref1_Name TabOk.nil)) fun args v hv => ?_
  have c_entailref1_Find : ∀ args, tab [(n_entailref1_Find, F_entailref1_Find), (n_entailref1_Name, F_entailref1_Name)] n_entailref1_Find args = F_entailref1_Find args := fun _ => rfl
  have c_entailref1_Name : ∀ args, tab [(n_entailref1_Find, F_entailref1_Find), (n_entailref1_Name, F_entailref1_Name)] n_entailref1_Name args = F_entailref1_Name args := fun _ => rfl
  unfold F_entailref1_Split at hv
  split at hv <;> (try simp only [Option.ite_none_right_eq_some, Option.some.injEq, reduceCtorEq] at hv)
  rename_i l
  obtain ⟨hl, rfl⟩ := hv
  have hl0 := hl
  unfold big at hl0
  refine ⟨rfl, rfl, rfl, ?_⟩
  rw [e_entailref1_Split]
  have hf : F_entailref1_Find [.str l, .int .u8 124, .int .i64 0] = some (vI (ixB l 124)) := by
    simp only [F_entailref1_Find]
    rw [if_pos ⟨hl, by omega, by unfold big; omega⟩]
    exact congrArg (fun n => some (vI n)) (find_ix l 124)
  simp only [if_true, if_false, Bool.false_eq_true, Bool.true_eq_false, reduceCtorEq, opt_s, gBool, gTT, gFF, gTF, gFT, gU, pBool, orN, andN, orI, andI, V.bool.injEq, Bool.true_and, Bool.and_true, Bool.false_and, Bool.and_false, Bool.true_or, Bool.or_true, Bool.false_or, Bool.or_false, Bool.not_true, Bool.not_false, iteB_bool, iteB_true, iteB_false, not_bool, chkB_bool, chkB_undef, bGeq, bLeq, bLss, bGtr, bEql, bNeq, bAdd, bSub, bMul, bSeq, bSne, bSlt, eqB_eq, mmMin, mmMax, ext_tup, cellD_agg, convI_int, lenS_s, lenL_s, gv_0, gv_s, c_entailref1_Find, hf]
  rcases ixB_cases l 124 with ⟨e1, e2⟩ | ⟨k, e1, e2, e3⟩
  · have h : (-1 : Int) < 0 := by omega
    have hr : splitT l = ([], [], false) := by simp only [splitT, cutT, e2, if_false, Bool.false_eq_true, false_and]
    rw [hr]; simp only [e1, h, decide_true, if_true, if_false, Bool.false_eq_true, Bool.true_eq_false, reduceCtorEq, opt_s, gBool, gTT, gFF, gTF, gFT, gU, pBool, orN, andN, orI, andI, V.bool.injEq, Bool.true_and, Bool.and_true, Bool.false_and, Bool.and_false, Bool.true_or, Bool.or_true, Bool.false_or, Bool.or_false, Bool.not_true, Bool.not_false, iteB_bool, iteB_true, iteB_false, not_bool, chkB_bool, chkB_undef, bGeq, bLeq, bLss, bGtr, bEql, bNeq, bAdd, bSub, bMul, bSeq, bSne, bSlt, eqB_eq, mmMin, mmMax, ext_tup, cellD_agg, convI_int, lenS_s, lenL_s, gv_0, gv_s, cutV]
  · have h : ¬ (k : Int) < 0 := by omega
    have hk : k < l.length := (List.getElem?_eq_some_iff.1 e2).1
    have hc : (124 : UInt8) ∈ l := List.mem_of_getElem? e2
    have hw : IntKind.i64.wrap ((k : Int) + 1) = ((k + 1 : Nat) : Int) := by rw [wrap_in (by omega) (by omega)]; omega
    have hcut : cutT l 124 = (l.take k, l.drop (k + 1), true) := by simp only [cutT, hc, if_true, e1, Int.toNat_natCast]
    have ht : (l.take k).length ≤ big := Nat.le_trans (by simp only [List.length_take]; omega) hl
    simp only [e1, h, decide_false, if_true, if_false, Bool.false_eq_true, Bool.true_eq_false, reduceCtorEq, opt_s, gBool, gTT, gFF, gTF, gFT, gU, pBool, orN, andN, orI, andI, V.bool.injEq, Bool.true_and, Bool.and_true, Bool.false_and, Bool.and_false, Bool.true_or, Bool.or_true, Bool.false_or, Bool.or_false, Bool.not_true, Bool.not_false, iteB_bool, iteB_true, iteB_false, not_bool, chkB_bool, chkB_undef, bGeq, bLeq, bLss, bGtr, bEql, bNeq, bAdd, bSub, bMul, bSeq, bSne, bSlt, eqB_eq, mmMin, mmMax, ext_tup, cellD_agg, convI_int, lenS_s, lenL_s, gv_0, gv_s, sliceS_to (Nat.le_of_lt hk), c_entailref1_Name, F_entailref1_Name, ht, hw, sliceS_from (show k + 1 ≤ l.length from hk)]
    cases h2 : nameT (l.take k)
    · have hr : splitT l = ([], [], false) := by simp only [splitT, hcut, h2, Bool.false_eq_true, and_false, if_false]
      rw [hr]; simp only [if_true, if_false, Bool.false_eq_true, Bool.true_eq_false, reduceCtorEq, opt_s, gBool, gTT, gFF, gTF, gFT, gU, pBool, orN, andN, orI, andI, V.bool.injEq, Bool.true_and, Bool.and_true, Bool.false_and, Bool.and_false, Bool.true_or, Bool.or_true, Bool.false_or, Bool.or_false, Bool.not_true, Bool.not_false, iteB_bool, iteB_true, iteB_false, not_bool, chkB_bool, chkB_undef, bGeq, bLeq, bLss, bGtr, bEql, bNeq, bAdd, bSub, bMul, bSeq, bSne, bSlt, eqB_eq, mmMin, mmMax, ext_tup, cellD_agg, convI_int, lenS_s, lenL_s, gv_0, gv_s, cutV]
    · have hr : splitT l = (l.take k, l.drop (k + 1), true) := by simp only [splitT, hcut, h2, and_self, if_true]
      rw [hr]; simp only [if_true, if_false, Bool.false_eq_true, Bool.true_eq_false, reduceCtorEq, opt_s, gBool, gTT, gFF, gTF, gFT, gU, pBool, orN, andN, orI, andI, V.bool.injEq, Bool.true_and, Bool.and_true, Bool.false_and, Bool.and_false, Bool.true_or, Bool.or_true, Bool.false_or, Bool.or_false, Bool.not_true, Bool.not_false, iteB_bool, iteB_true, iteB_false, not_bool, chkB_bool, chkB_undef, bGeq, bLeq, bLss, bGtr, bEql, bNeq, bAdd, bSub, bMul, bSeq, bSne, bSlt, eqB_eq, mmMin, mmMax, ext_tup, cellD_agg, convI_int, lenS_s, lenL_s, gv_0, gv_s, cutV]
end Go.Fbs

import Derived.Test.YthkfcmfphjepnaaDJ
set_option linter.unusedVariables false
set_option linter.unusedSimpArgs false
set_option linter.unusedSectionVars false
namespace Go.Fbs
open Go.Proofs

def namesT : List (List UInt8) := [[97], [98], [99], [100], [97, 98], [98, 45, 49], [120, 46, 121], [48]]
def nmT (n : Int) : List UInt8 := namesT.getD (n % 8).toNat []
theorem nmT_at (n : Int) : namesT[(n % 8).toNat]? = some (nmT n) := by
  unfold nmT
  have h1 := Int.emod_nonneg n (show (8 : Int) ≠ 0 by omega)
  have h2 := Int.emod_lt_of_pos n (show (0 : Int) < 8 by omega)
  have : (n % 8).toNat < namesT.length := by show _ < 8; omega
  rw [List.getD_eq_getElem?_getD, List.getElem?_eq_getElem this]; rfl
theorem nmT_ok (n : Int) : nameT (nmT n) = true := by
  have h : ∀ x ∈ namesT, nameT x = true := by decide
  exact h _ (List.mem_of_getElem? (nmT_at n))
def F_entaillaw1_Nm : Spec
  | [.int .i64 n] => some (.str (nmT n))
  | _ => none
theorem ok_entaillaw1_Nm : SpecL Try.prog n_entaillaw1_Nm F_entaillaw1_Nm := by
  refine go_entaillaw1_Nm (T := []) (TabOk.nil) fun args v hv => ?_
  unfold F_entaillaw1_Nm at hv
  split at hv <;> (try simp only [Option.ite_none_right_eq_some, Option.some.injEq, reduceCtorEq] at hv)
  rename_i n
  subst hv
  refine ⟨rfl, rfl, rfl, ?_⟩
  rw [e_entaillaw1_Nm]
  have hlit : litK 1 [(.str [97]), (.str [98]), (.str [99]), (.str [100]), (.str [97, 98]), (.str [98, 45, 49]), (.str [120, 46, 121]), (.str [48])] = some (cStr.lst namesT) := by kernel_rfl
  have ha : binK .and (.int .i64 n) (.int .i64 7) = some (.int .i64 (((n % 8).toNat : Nat) : Int)) := by
    have := bAndMask (a := n) (j := 3) (by omega)
    have h1 := Int.emod_nonneg n (show (8 : Int) ≠ 0 by omega)
    rw [Int.toNat_of_nonneg h1]
    exact this
  simp only [hlit, ha, opt_s, cStr.idx_one (nmT_at n) rfl]
  rfl
def F_entaillaw2_Short : Spec
  | [.agg [.str a, .str b, .str c, .str d, .str e, .str f]] => if a.length + b.length + c.length + d.length + e.length + f.length ≤ big then some (.bool (decide (a.length + b.length + c.length + d.length + e.length + f.length ≤ 900))) else none
  | _ => none
theorem ok_entaillaw2_Short : SpecL Try.prog n_entaillaw2_Short F_entaillaw2_Short := by
  refine go_entaillaw2_Short (T := []) (TabOk.nil) fun args v hv => ?_
  unfold F_entaillaw2_Short at hv
  split at hv <;> (try simp only [Option.ite_none_right_eq_some, Option.some.injEq, reduceCtorEq] at hv)
  rename_i a b c d e f
  obtain ⟨hl, rfl⟩ := hv
  unfold big at hl
  refine ⟨rfl, rfl, rfl, ?_⟩
  rw [e_entaillaw2_Short]
  simp only [chk_tup, if_true, if_false, Bool.false_eq_true, Bool.true_eq_false, reduceCtorEq, opt_s, gBool, gTT, gFF, gTF, gFT, gU, pBool, orN, andN, orI, andI, V.bool.injEq, Bool.true_and, Bool.and_true, Bool.false_and, Bool.and_false, Bool.true_or, Bool.or_true, Bool.false_or, Bool.or_false, Bool.not_true, Bool.not_false, iteB_bool, iteB_true, iteB_false, not_bool, chkB_bool, chkB_undef, bGeq, bLeq, bLss, bGtr, bEql, bNeq, bAdd, bSub, bMul, bSeq, bSne, bSlt, eqB_eq, mmMin, mmMax, ext_tup, cellD_agg, convI_int, lenS_s, lenL_s, gv_0, gv_s, List.getD_cons_zero, List.getD_cons_succ]
  rw [wrap_in (x := (a.length : Int) + b.length) (by omega) (by omega), wrap_in (x := (a.length : Int) + b.length + c.length) (by omega) (by omega), wrap_in (x := (a.length : Int) + b.length + c.length + d.length) (by omega) (by omega), wrap_in (x := (a.length : Int) + b.length + c.length + d.length + e.length) (by omega) (by omega), wrap_in (x := (a.length : Int) + b.length + c.length + d.length + e.length + f.length) (by omega) (by omega)]
  rw [decide_eq_decide]; omega
end Go.Fbs

import Derived.Test.YthkfcmfphjepnaaDX
import Derived.Test.YthkfcmfphjepnaaHU3
set_option linter.unusedVariables false
set_option linter.unusedSimpArgs false
set_option linter.unusedSectionVars false
namespace Go.Fbs
open Go.Proofs

/-! ### Chapter 2: the document's order -/
theorem less_cb : ∀ a b : List UInt8, Op.bytesLess a b = decide (Lib.compareBytes a b < 0)
  | [], [] => rfl
  | [], _ :: _ => rfl
  | _ :: _, [] => rfl
  | a :: l, b :: m => by
    simp only [Op.bytesLess, Lib.compareBytes, less_cb l m]
    by_cases h1 : a < b
    · simp [h1]
    · by_cases h2 : b < a
      · have : (a == b) = false := by
          simp only [beq_eq_false_iff_ne, ne_eq]
          intro e; subst e; exact h1 h2
        simp [h1, h2, this]
      · have : a = b := UInt8.le_antisymm (UInt8.not_lt.1 h2) (UInt8.not_lt.1 h1)
        simp [h1, h2, this]
def F_entailref1_six : Spec
  | [.agg [.str a, .str b, .str c, .str d, .str e, .str f]] => some (.agg [.str a, .str b, .str c, .str d, .str e, .str f])
  | _ => none
theorem ok_entailref1_six : SpecL Try.prog n_entailref1_six F_entailref1_six := by
  refine go_entailref1_six (T := []) (TabOk.nil) fun args v hv => ?_
  unfold F_entailref1_six at hv
  split at hv <;> (try simp only [Option.ite_none_right_eq_some, Option.some.injEq, reduceCtorEq] at hv)
  rename_i a b c d e f
  subst hv
  refine ⟨rfl, rfl, rfl, ?_⟩
  rw [e_entailref1_six]
  simp only [chk_tup, if_true, if_false, Bool.false_eq_true, Bool.true_eq_false, reduceCtorEq, opt_s, gBool, gTT, gFF, gTF, gFT, gU, pBool, orN, andN, orI, andI, V.bool.injEq, Bool.true_and, Bool.and_true, Bool.false_and, Bool.and_false, Bool.true_or, Bool.or_true, Bool.false_or, Bool.or_false, Bool.not_true, Bool.not_false, iteB_bool, iteB_true, iteB_false, not_bool, chkB_bool, chkB_undef, bGeq, bLeq, bLss, bGtr, bEql, bNeq, bAdd, bSub, bMul, bSeq, bSne, bSlt, eqB_eq, mmMin, mmMax, ext_tup, cellD_agg, convI_int, lenS_s, lenL_s, gv_0, gv_s, List.getD_cons_zero, List.getD_cons_succ, agg6]
def F_entailref1_Less : Spec
  | [.agg [.str a, .str b, .str c, .str d, .str e, .str f], .agg [.str a', .str b', .str c', .str d', .str e', .str f']] => some (.bool (decide (cmpT a b c d e f a' b' c' d' e' f' < 0)))
  | _ => none
theorem inb_k {n k : Nat} (h : k < n) : inbK n (.int .i64 k) = some (.int .i64 k) := by
  simp only [inbK]; rw [if_pos ⟨by omega, by omega⟩]
theorem nth_row (x : Six) {k : Nat} (h : k < 6) : nthK [.str x.a, .str x.b, .str x.c, .str x.d, .str x.e, .str x.f] (.int .i64 k) = some (.str (x.row.getD k [])) := by
  have : k = 0 ∨ k = 1 ∨ k = 2 ∨ k = 3 ∨ k = 4 ∨ k = 5 := by omega
  rcases this with rfl | rfl | rfl | rfl | rfl | rfl <;> rfl
theorem lex_drop {l m : List (List UInt8)} {k : Nat} (hl : k < l.length) (hm : k < m.length) : lexT (l.drop k) (m.drop k) = if Lib.compareBytes (l.getD k []) (m.getD k []) = 0 then lexT (l.drop (k + 1)) (m.drop (k + 1)) else Lib.compareBytes (l.getD k []) (m.getD k []) := by
  rw [List.drop_eq_getElem_cons hl, List.drop_eq_getElem_cons hm, lexT]
  simp only [List.getD_eq_getElem?_getD, List.getElem?_eq_getElem hl, List.getElem?_eq_getElem hm, Option.getD_some]
theorem ok_entailref1_Less : SpecL Try.prog n_entailref1_Less F_entailref1_Less := by
  refine go_entailref1_Less (T := [(n_entailref1_six, F_entailref1_six)]) (TabOk.cons ok_entailref1_six TabOk.nil) fun args v hv => ?_
  have c_entailref1_six : ∀ args, tab [(n_entailref1_six, F_entailref1_six)] n_entailref1_six args = F_entailref1_six args := fun _ => rfl
  unfold F_entailref1_Less at hv
  split at hv <;> (try simp only [Option.ite_none_right_eq_some, Option.some.injEq, reduceCtorEq] at hv)
  rename_i a b c d e f a' b' c' d' e' f'
  subst hv
  refine ⟨rfl, rfl, rfl, ?_⟩
  rw [e_entailref1_Less]
  generalize hx : (⟨a, b, c, d, e, f⟩ : Six) = x
  generalize hy : (⟨a', b', c', d', e', f'⟩ : Six) = y
  have hcmp : cmpT a b c d e f a' b' c' d' e' f' = x.cmp y := by rw [← hx, ← hy]; rfl
  rw [show V.agg [.str a, .str b, .str c, .str d, .str e, .str f] = x.v by rw [← hx]; rfl, show V.agg [.str a', .str b', .str c', .str d', .str e', .str f'] = y.v by rw [← hy]; rfl, hcmp]
  clear hx hy hcmp a b c d e f a' b' c' d' e' f'
  have hs : ∀ z : Six, F_entailref1_six [z.v] = some z.v := fun _ => nr rfl
  simp only [chk_six, opt_s, c_entailref1_six, hs, d_six]
  rw [Six.cmp_lex]
  refine loopP_inv (fun vs => ∃ k : Nat, vs = [vI k] ∧ k ≤ 6 ∧ lexT x.row y.row = lexT (x.row.drop k) (y.row.drop k)) (fun vs => 6 - natOf (gv vs 0)) ⟨0, rfl, by omega, rfl⟩ ?_
  rintro r _ ⟨k, rfl, hk, hn⟩ hr
  refine ⟨rfl, ?_⟩
  simp only [if_true, if_false, Bool.false_eq_true, Bool.true_eq_false, reduceCtorEq, opt_s, gBool, gTT, gFF, gTF, gFT, gU, pBool, orN, andN, orI, andI, V.bool.injEq, Bool.true_and, Bool.and_true, Bool.false_and, Bool.and_false, Bool.true_or, Bool.or_true, Bool.false_or, Bool.or_false, Bool.not_true, Bool.not_false, iteB_bool, iteB_true, iteB_false, not_bool, chkB_bool, chkB_undef, bGeq, bLeq, bLss, bGtr, bEql, bNeq, bAdd, bSub, bMul, bSeq, bSne, bSlt, eqB_eq, mmMin, mmMax, ext_tup, cellD_agg, convI_int, lenS_s, lenL_s, gv_0, gv_s]
  by_cases hlt : k < 6
  · have hlt' : (k : Int) < 6 := by omega
    have hd := lex_drop (l := x.row) (m := y.row) (k := k) hlt hlt
    simp only [hlt', decide_true, if_true, if_false, Bool.false_eq_true, Bool.true_eq_false, reduceCtorEq, opt_s, gBool, gTT, gFF, gTF, gFT, gU, pBool, orN, andN, orI, andI, V.bool.injEq, Bool.true_and, Bool.and_true, Bool.false_and, Bool.and_false, Bool.true_or, Bool.or_true, Bool.false_or, Bool.or_false, Bool.not_true, Bool.not_false, iteB_bool, iteB_true, iteB_false, not_bool, chkB_bool, chkB_undef, bGeq, bLeq, bLss, bGtr, bEql, bNeq, bAdd, bSub, bMul, bSeq, bSne, bSlt, eqB_eq, mmMin, mmMax, ext_tup, cellD_agg, convI_int, lenS_s, lenL_s, gv_0, gv_s, inb_k hlt, nth_row x hlt, nth_row y hlt]
    by_cases hc : Lib.compareBytes (x.row.getD k []) (y.row.getD k []) = 0
    · have he := cb_eq hc
      have hw : IntKind.i64.wrap ((k : Int) + 1) = ((k + 1 : Nat) : Int) := by rw [wrap_in (by omega) (by omega)]; omega
      rw [if_pos hc] at hd
      simp only [he, beq_self_eq_true, if_true, if_false, Bool.false_eq_true, Bool.true_eq_false, reduceCtorEq, opt_s, gBool, gTT, gFF, gTF, gFT, gU, pBool, orN, andN, orI, andI, V.bool.injEq, Bool.true_and, Bool.and_true, Bool.false_and, Bool.and_false, Bool.true_or, Bool.or_true, Bool.false_or, Bool.or_false, Bool.not_true, Bool.not_false, iteB_bool, iteB_true, iteB_false, not_bool, chkB_bool, chkB_undef, bGeq, bLeq, bLss, bGtr, bEql, bNeq, bAdd, bSub, bMul, bSeq, bSne, bSlt, eqB_eq, mmMin, mmMax, ext_tup, cellD_agg, convI_int, lenS_s, lenL_s, gv_0, gv_s, hw]
      exact hr _ ⟨k + 1, rfl, by omega, by rw [hn, hd]⟩ (by simp [gv, natOf]; omega)
    · have he : (x.row.getD k [] == y.row.getD k []) = false := by
        simp only [beq_eq_false_iff_ne, ne_eq]
        intro e; rw [e, cb_self] at hc; exact hc rfl
      rw [if_neg hc] at hd
      simp only [he, if_true, if_false, Bool.false_eq_true, Bool.true_eq_false, reduceCtorEq, opt_s, gBool, gTT, gFF, gTF, gFT, gU, pBool, orN, andN, orI, andI, V.bool.injEq, Bool.true_and, Bool.and_true, Bool.false_and, Bool.and_false, Bool.true_or, Bool.or_true, Bool.false_or, Bool.or_false, Bool.not_true, Bool.not_false, iteB_bool, iteB_true, iteB_false, not_bool, chkB_bool, chkB_undef, bGeq, bLeq, bLss, bGtr, bEql, bNeq, bAdd, bSub, bMul, bSeq, bSne, bSlt, eqB_eq, mmMin, mmMax, ext_tup, cellD_agg, convI_int, lenS_s, lenL_s, gv_0, gv_s, less_cb, hn, hd]
  · have hlt' : ¬ (k : Int) < 6 := by omega
    have h6 : k = 6 := by omega
    subst h6
    have h0 : lexT (x.row.drop 6) (y.row.drop 6) = 0 := rfl
    rw [hn, h0]
    simp only [hlt', decide_false, if_true, if_false, Bool.false_eq_true, Bool.true_eq_false, reduceCtorEq, opt_s, gBool, gTT, gFF, gTF, gFT, gU, pBool, orN, andN, orI, andI, V.bool.injEq, Bool.true_and, Bool.and_true, Bool.false_and, Bool.and_false, Bool.true_or, Bool.or_true, Bool.false_or, Bool.or_false, Bool.not_true, Bool.not_false, iteB_bool, iteB_true, iteB_false, not_bool, chkB_bool, chkB_undef, bGeq, bLeq, bLss, bGtr, bEql, bNeq, bAdd, bSub, bMul, bSeq, bSne, bSlt, eqB_eq, mmMin, mmMax, ext_tup, cellD_agg, convI_int, lenS_s, lenL_s, gv_0, gv_s]
    rfl
end Go.Fbs

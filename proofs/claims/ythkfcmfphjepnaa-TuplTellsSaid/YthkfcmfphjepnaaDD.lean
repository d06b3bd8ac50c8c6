import Derived.Test.YthkfcmfphjepnaaDC
set_option linter.unusedVariables false
set_option linter.unusedSimpArgs false
set_option linter.unusedSectionVars false
namespace Go.Fbs
open Go.Proofs

theorem name_len {l : List UInt8} (h : nameT l = true) : 1 ≤ l.length ∧ l.length ≤ 30 := by
  simp only [nameT, Bool.and_eq_true, decide_eq_true_eq] at h; omega
theorem id_len {l : List UInt8} (h : idT l = true) : 1 ≤ l.length ∧ l.length ≤ 250 := by
  simp only [idT, Bool.and_eq_true, decide_eq_true_eq] at h; omega
theorem ok_lens {a b c d e f : List UInt8} (h : okT a b c d e f = true) : a.length ≤ 30 ∧ b.length ≤ 250 ∧ c.length ≤ 30 ∧ d.length ≤ 30 ∧ e.length ≤ 250 ∧ f.length ≤ 30 := by
  simp only [okT, Bool.and_eq_true, Bool.or_eq_true, beq_iff_eq] at h
  obtain ⟨⟨⟨⟨⟨h1, h2⟩, h3⟩, h4⟩, h5⟩, h6⟩ := h
  refine ⟨(name_len h1).2, (id_len h2).2, (name_len h3).2, (name_len h4).2, (id_len h5).2, ?_⟩
  rcases h6 with rfl | h6
  · simp
  · exact (name_len h6).2
def textT (a b c d e f : List UInt8) : List UInt8 :=
  if okT a b c d e f = true then a ++ [58] ++ b ++ [35] ++ c ++ [64] ++ d ++ [58] ++ e ++ (if f = [] then [] else [35] ++ f) else []
def F_entailref1_Text : Spec
  | [.agg [.str a, .str b, .str c, .str d, .str e, .str f]] => if shortT a b c d e f then some (.str (textT a b c d e f)) else none
  | _ => none
theorem ok_entailref1_Text : SpecL Try.prog n_entailref1_Text F_entailref1_Text := by
  refine go_entailref1_Text (T := [(n_entailref1_Ok, F_entailref1_Ok)]) (TabOk.cons ok_entailref1_Ok TabOk.nil) fun args v hv => ?_
  have c_entailref1_Ok : ∀ args, tab [(n_entailref1_Ok, F_entailref1_Ok)] n_entailref1_Ok args = F_entailref1_Ok args := fun _ => rfl
  unfold F_entailref1_Text at hv
  split at hv <;> (try simp only [Option.ite_none_right_eq_some, Option.some.injEq, reduceCtorEq] at hv)
  rename_i a b c d e f
  obtain ⟨hs, rfl⟩ := hv
  refine ⟨rfl, rfl, rfl, ?_⟩
  rw [e_entailref1_Text]
  simp only [chk_tup, if_true, if_false, Bool.false_eq_true, Bool.true_eq_false, reduceCtorEq, opt_s, gBool, gTT, gFF, gTF, gFT, gU, pBool, orN, andN, orI, andI, V.bool.injEq, Bool.true_and, Bool.and_true, Bool.false_and, Bool.and_false, Bool.true_or, Bool.or_true, Bool.false_or, Bool.or_false, Bool.not_true, Bool.not_false, iteB_bool, iteB_true, iteB_false, not_bool, chkB_bool, chkB_undef, bGeq, bLeq, bLss, bGtr, bEql, bNeq, bAdd, bSub, bMul, bSeq, bSne, bSlt, eqB_eq, mmMin, mmMax, ext_tup, cellD_agg, convI_int, lenS_s, lenL_s, gv_0, gv_s, List.getD_cons_zero, List.getD_cons_succ, c_entailref1_Ok, F_entailref1_Ok, hs]
  cases ho : okT a b c d e f
  · have ht : textT a b c d e f = [] := by simp only [textT, ho, Bool.false_eq_true, if_false]
    rw [ht]; simp only [if_true, if_false, Bool.false_eq_true, Bool.true_eq_false, reduceCtorEq, opt_s, gBool, gTT, gFF, gTF, gFT, gU, pBool, orN, andN, orI, andI, V.bool.injEq, Bool.true_and, Bool.and_true, Bool.false_and, Bool.and_false, Bool.true_or, Bool.or_true, Bool.false_or, Bool.or_false, Bool.not_true, Bool.not_false, iteB_bool, iteB_true, iteB_false, not_bool, chkB_bool, chkB_undef, bGeq, bLeq, bLss, bGtr, bEql, bNeq, bAdd, bSub, bMul, bSeq, bSne, bSlt, eqB_eq, mmMin, mmMax, ext_tup, cellD_agg, convI_int, lenS_s, lenL_s, gv_0, gv_s]
  · have hh := ok_lens ho
    have h1 := hh.1
    have h2 := hh.2.1
    have h3 := hh.2.2.1
    have h4 := hh.2.2.2.1
    have h5 := hh.2.2.2.2.1
    have h6 := hh.2.2.2.2.2
    clear hh
    have k0 := bSadd (a) ([58]) (by simp only [List.length_append, List.length_cons, List.length_nil]; omega)
    have k1 := bSadd (a ++ [58]) (b) (by simp only [List.length_append, List.length_cons, List.length_nil]; omega)
    have k2 := bSadd (a ++ [58] ++ b) ([35]) (by simp only [List.length_append, List.length_cons, List.length_nil]; omega)
    have k3 := bSadd (a ++ [58] ++ b ++ [35]) (c) (by simp only [List.length_append, List.length_cons, List.length_nil]; omega)
    have k4 := bSadd (a ++ [58] ++ b ++ [35] ++ c) ([64]) (by simp only [List.length_append, List.length_cons, List.length_nil]; omega)
    have k5 := bSadd (a ++ [58] ++ b ++ [35] ++ c ++ [64]) (d) (by simp only [List.length_append, List.length_cons, List.length_nil]; omega)
    have k6 := bSadd (a ++ [58] ++ b ++ [35] ++ c ++ [64] ++ d) ([58]) (by simp only [List.length_append, List.length_cons, List.length_nil]; omega)
    have k7 := bSadd (a ++ [58] ++ b ++ [35] ++ c ++ [64] ++ d ++ [58]) (e) (by simp only [List.length_append, List.length_cons, List.length_nil]; omega)
    have k8 := bSadd (a ++ [58] ++ b ++ [35] ++ c ++ [64] ++ d ++ [58] ++ e) [35] (by simp only [List.length_append, List.length_cons, List.length_nil]; omega)
    have k9 := bSadd (a ++ [58] ++ b ++ [35] ++ c ++ [64] ++ d ++ [58] ++ e ++ [35]) f (by simp only [List.length_append, List.length_cons, List.length_nil]; omega)
    have k10 := bSadd [35] f (by simp only [List.length_append, List.length_cons, List.length_nil]; omega)
    have k11 := bSadd (a ++ [58] ++ b ++ [35] ++ c ++ [64] ++ d ++ [58] ++ e) ([35] ++ f) (by simp only [List.length_append, List.length_cons, List.length_nil]; omega)
    simp only [if_true, if_false, Bool.false_eq_true, Bool.true_eq_false, reduceCtorEq, opt_s, gBool, gTT, gFF, gTF, gFT, gU, pBool, orN, andN, orI, andI, V.bool.injEq, Bool.true_and, Bool.and_true, Bool.false_and, Bool.and_false, Bool.true_or, Bool.or_true, Bool.false_or, Bool.or_false, Bool.not_true, Bool.not_false, iteB_bool, iteB_true, iteB_false, not_bool, chkB_bool, chkB_undef, bGeq, bLeq, bLss, bGtr, bEql, bNeq, bAdd, bSub, bMul, bSeq, bSne, bSlt, eqB_eq, mmMin, mmMax, ext_tup, cellD_agg, convI_int, lenS_s, lenL_s, gv_0, gv_s, k0, k1, k2, k3, k4, k5, k6, k7]
    by_cases hf : f = []
    · have ht : textT a b c d e f = a ++ [58] ++ b ++ [35] ++ c ++ [64] ++ d ++ [58] ++ e := by unfold textT; rw [if_pos ho, if_pos hf, List.append_nil]
      have hf' : (f == []) = true := by simpa using hf
      rw [ht]; simp only [if_true, if_false, Bool.false_eq_true, Bool.true_eq_false, reduceCtorEq, opt_s, gBool, gTT, gFF, gTF, gFT, gU, pBool, orN, andN, orI, andI, V.bool.injEq, Bool.true_and, Bool.and_true, Bool.false_and, Bool.and_false, Bool.true_or, Bool.or_true, Bool.false_or, Bool.or_false, Bool.not_true, Bool.not_false, iteB_bool, iteB_true, iteB_false, not_bool, chkB_bool, chkB_undef, bGeq, bLeq, bLss, bGtr, bEql, bNeq, bAdd, bSub, bMul, bSeq, bSne, bSlt, eqB_eq, mmMin, mmMax, ext_tup, cellD_agg, convI_int, lenS_s, lenL_s, gv_0, gv_s, hf']
    · have hf' : (f == []) = false := by simpa using hf
      simp only [if_true, if_false, Bool.false_eq_true, Bool.true_eq_false, reduceCtorEq, opt_s, gBool, gTT, gFF, gTF, gFT, gU, pBool, orN, andN, orI, andI, V.bool.injEq, Bool.true_and, Bool.and_true, Bool.false_and, Bool.and_false, Bool.true_or, Bool.or_true, Bool.false_or, Bool.or_false, Bool.not_true, Bool.not_false, iteB_bool, iteB_true, iteB_false, not_bool, chkB_bool, chkB_undef, bGeq, bLeq, bLss, bGtr, bEql, bNeq, bAdd, bSub, bMul, bSeq, bSne, bSlt, eqB_eq, mmMin, mmMax, ext_tup, cellD_agg, convI_int, lenS_s, lenL_s, gv_0, gv_s, hf', k8, k9, k10, k11]
      simp only [textT, ho, hf, if_true, if_false, List.append_assoc]
def F_tupl_Text : Spec
  | [.agg [.str a, .str b, .str c, .str d, .str e, .str f]] => if shortT a b c d e f then some (.str (textT a b c d e f)) else none
  | _ => none
theorem ok_tupl_Text : SpecL Try.prog n_tupl_Text F_tupl_Text := by
  refine go_tupl_Text (T := [(n_tupl_Ok, F_tupl_Ok)]) (TabOk.cons ok_tupl_Ok TabOk.nil) fun args v hv => ?_
  have c_tupl_Ok : ∀ args, tab [(n_tupl_Ok, F_tupl_Ok)] n_tupl_Ok args = F_tupl_Ok args := fun _ => rfl
  unfold F_tupl_Text at hv
  split at hv <;> (try simp only [Option.ite_none_right_eq_some, Option.some.injEq, reduceCtorEq] at hv)
  rename_i a b c d e f
  obtain ⟨hs, rfl⟩ := hv
  refine ⟨rfl, rfl, rfl, ?_⟩
  rw [e_tupl_Text]
  simp only [chk_tup, if_true, if_false, Bool.false_eq_true, Bool.true_eq_false, reduceCtorEq, opt_s, gBool, gTT, gFF, gTF, gFT, gU, pBool, orN, andN, orI, andI, V.bool.injEq, Bool.true_and, Bool.and_true, Bool.false_and, Bool.and_false, Bool.true_or, Bool.or_true, Bool.false_or, Bool.or_false, Bool.not_true, Bool.not_false, iteB_bool, iteB_true, iteB_false, not_bool, chkB_bool, chkB_undef, bGeq, bLeq, bLss, bGtr, bEql, bNeq, bAdd, bSub, bMul, bSeq, bSne, bSlt, eqB_eq, mmMin, mmMax, ext_tup, cellD_agg, convI_int, lenS_s, lenL_s, gv_0, gv_s, List.getD_cons_zero, List.getD_cons_succ, c_tupl_Ok, F_tupl_Ok, hs]
  cases ho : okT a b c d e f
  · have ht : textT a b c d e f = [] := by simp only [textT, ho, Bool.false_eq_true, if_false]
    rw [ht]; simp only [if_true, if_false, Bool.false_eq_true, Bool.true_eq_false, reduceCtorEq, opt_s, gBool, gTT, gFF, gTF, gFT, gU, pBool, orN, andN, orI, andI, V.bool.injEq, Bool.true_and, Bool.and_true, Bool.false_and, Bool.and_false, Bool.true_or, Bool.or_true, Bool.false_or, Bool.or_false, Bool.not_true, Bool.not_false, iteB_bool, iteB_true, iteB_false, not_bool, chkB_bool, chkB_undef, bGeq, bLeq, bLss, bGtr, bEql, bNeq, bAdd, bSub, bMul, bSeq, bSne, bSlt, eqB_eq, mmMin, mmMax, ext_tup, cellD_agg, convI_int, lenS_s, lenL_s, gv_0, gv_s]
  · have hh := ok_lens ho
    have h1 := hh.1
    have h2 := hh.2.1
    have h3 := hh.2.2.1
    have h4 := hh.2.2.2.1
    have h5 := hh.2.2.2.2.1
    have h6 := hh.2.2.2.2.2
    clear hh
    have k0 := bSadd (a) ([58]) (by simp only [List.length_append, List.length_cons, List.length_nil]; omega)
    have k1 := bSadd (a ++ [58]) (b) (by simp only [List.length_append, List.length_cons, List.length_nil]; omega)
    have k2 := bSadd (a ++ [58] ++ b) ([35]) (by simp only [List.length_append, List.length_cons, List.length_nil]; omega)
    have k3 := bSadd (a ++ [58] ++ b ++ [35]) (c) (by simp only [List.length_append, List.length_cons, List.length_nil]; omega)
    have k4 := bSadd (a ++ [58] ++ b ++ [35] ++ c) ([64]) (by simp only [List.length_append, List.length_cons, List.length_nil]; omega)
    have k5 := bSadd (a ++ [58] ++ b ++ [35] ++ c ++ [64]) (d) (by simp only [List.length_append, List.length_cons, List.length_nil]; omega)
    have k6 := bSadd (a ++ [58] ++ b ++ [35] ++ c ++ [64] ++ d) ([58]) (by simp only [List.length_append, List.length_cons, List.length_nil]; omega)
    have k7 := bSadd (a ++ [58] ++ b ++ [35] ++ c ++ [64] ++ d ++ [58]) (e) (by simp only [List.length_append, List.length_cons, List.length_nil]; omega)
    have k8 := bSadd (a ++ [58] ++ b ++ [35] ++ c ++ [64] ++ d ++ [58] ++ e) [35] (by simp only [List.length_append, List.length_cons, List.length_nil]; omega)
    have k9 := bSadd (a ++ [58] ++ b ++ [35] ++ c ++ [64] ++ d ++ [58] ++ e ++ [35]) f (by simp only [List.length_append, List.length_cons, List.length_nil]; omega)
    have k10 := bSadd [35] f (by simp only [List.length_append, List.length_cons, List.length_nil]; omega)
    have k11 := bSadd (a ++ [58] ++ b ++ [35] ++ c ++ [64] ++ d ++ [58] ++ e) ([35] ++ f) (by simp only [List.length_append, List.length_cons, List.length_nil]; omega)
    simp only [if_true, if_false, Bool.false_eq_true, Bool.true_eq_false, reduceCtorEq, opt_s, gBool, gTT, gFF, gTF, gFT, gU, pBool, orN, andN, orI, andI, V.bool.injEq, Bool.true_and, Bool.and_true, Bool.false_and, Bool.and_false, Bool.true_or, Bool.or_true, Bool.false_or, Bool.or_false, Bool.not_true, Bool.not_false, iteB_bool, iteB_true, iteB_false, not_bool, chkB_bool, chkB_undef, bGeq, bLeq, bLss, bGtr, bEql, bNeq, bAdd, bSub, bMul, bSeq, bSne, bSlt, eqB_eq, mmMin, mmMax, ext_tup, cellD_agg, convI_int, lenS_s, lenL_s, gv_0, gv_s, k0, k1, k2, k3, k4, k5, k6, k7]
    by_cases hf : f = []
    · have ht : textT a b c d e f = a ++ [58] ++ b ++ [35] ++ c ++ [64] ++ d ++ [58] ++ e := by unfold textT; rw [if_pos ho, if_pos hf, List.append_nil]
      have hf' : (f == []) = true := by simpa using hf
      rw [ht]; simp only [if_true, if_false, Bool.false_eq_true, Bool.true_eq_false, reduceCtorEq, opt_s, gBool, gTT, gFF, gTF, gFT, gU, pBool, orN, andN, orI, andI, V.bool.injEq, Bool.true_and, Bool.and_true, Bool.false_and, Bool.and_false, Bool.true_or, Bool.or_true, Bool.false_or, Bool.or_false, Bool.not_true, Bool.not_false, iteB_bool, iteB_true, iteB_false, not_bool, chkB_bool, chkB_undef, bGeq, bLeq, bLss, bGtr, bEql, bNeq, bAdd, bSub, bMul, bSeq, bSne, bSlt, eqB_eq, mmMin, mmMax, ext_tup, cellD_agg, convI_int, lenS_s, lenL_s, gv_0, gv_s, hf']
    · have hf' : (f == []) = false := by simpa using hf
      simp only [if_true, if_false, Bool.false_eq_true, Bool.true_eq_false, reduceCtorEq, opt_s, gBool, gTT, gFF, gTF, gFT, gU, pBool, orN, andN, orI, andI, V.bool.injEq, Bool.true_and, Bool.and_true, Bool.false_and, Bool.and_false, Bool.true_or, Bool.or_true, Bool.false_or, Bool.or_false, Bool.not_true, Bool.not_false, iteB_bool, iteB_true, iteB_false, not_bool, chkB_bool, chkB_undef, bGeq, bLeq, bLss, bGtr, bEql, bNeq, bAdd, bSub, bMul, bSeq, bSne, bSlt, eqB_eq, mmMin, mmMax, ext_tup, cellD_agg, convI_int, lenS_s, lenL_s, gv_0, gv_s, hf', k8, k9, k10, k11]
      simp only [textT, ho, hf, if_true, if_false, List.append_assoc]
end Go.Fbs

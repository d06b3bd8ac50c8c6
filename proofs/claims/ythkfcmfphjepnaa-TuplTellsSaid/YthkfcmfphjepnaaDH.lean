import Derived.Test.YthkfcmfphjepnaaDG
set_option linter.unusedVariables false
set_option linter.unusedSimpArgs false
set_option linter.unusedSectionVars false
namespace Go.Fbs
open Go.Proofs

theorem cut_len (l : List UInt8) (c : UInt8) : (cutT l c).1.length ≤ l.length ∧ (cutT l c).2.1.length ≤ l.length := by
  unfold cutT
  split
  · simp only [List.length_take, List.length_drop]; omega
  · simp
structure Six where
  (a b c d e f : List UInt8)
def Six.v (x : Six) : V := .agg [.str x.a, .str x.b, .str x.c, .str x.d, .str x.e, .str x.f]
def partsT (l : List UInt8) : Six :=
  let u := cutT l 64
  let x := cutT u.1 35
  let y := cutT u.2.1 35
  let p := cutT x.1 58
  let q := cutT y.1 58
  ⟨p.1, p.2.1, x.2.1, q.1, q.2.1, y.2.1⟩
def zeroS : Six := ⟨[], [], [], [], [], []⟩
def readT (l : List UInt8) : Six × Bool :=
  let x := partsT l
  if okT x.a x.b x.c x.d x.e x.f = true ∧ textT x.a x.b x.c x.d x.e x.f = l then (x, true) else (zeroS, false)
def F_tupl_Parse : Spec
  | [.str l] => if l.length ≤ big then some (.tup [(readT l).1.v, .bool (readT l).2]) else none
  | _ => none
theorem ok_tupl_Parse : SpecL Try.prog n_tupl_Parse F_tupl_Parse := by
  refine go_tupl_Parse (T := [(n_strings_Cut, F_strings_Cut), (n_tupl_Ok, F_tupl_Ok), (n_tupl_Text, F_tupl_Text)]) (TabOk.cons ok_strings_Cut (TabOk.cons ok_tupl_Ok (TabOk.cons ok_tupl_Text TabOk.nil))) fun args v hv => ?_
  have c_strings_Cut : ∀ args, tab [(n_strings_Cut, F_strings_Cut), (n_tupl_Ok, F_tupl_Ok), (n_tupl_Text, F_tupl_Text)] n_strings_Cut args = F_strings_Cut args := fun _ => rfl
  have c_tupl_Ok : ∀ args, tab [(n_strings_Cut, F_strings_Cut), (n_tupl_Ok, F_tupl_Ok), (n_tupl_Text, F_tupl_Text)] n_tupl_Ok args = F_tupl_Ok args := fun _ => rfl
  have c_tupl_Text : ∀ args, tab [(n_strings_Cut, F_strings_Cut), (n_tupl_Ok, F_tupl_Ok), (n_tupl_Text, F_tupl_Text)] n_tupl_Text args = F_tupl_Text args := fun _ => rfl
  unfold F_tupl_Parse at hv
  split at hv <;> (try simp only [Option.ite_none_right_eq_some, Option.some.injEq, reduceCtorEq] at hv)
  rename_i l
  obtain ⟨hl, rfl⟩ := hv
  refine ⟨rfl, rfl, rfl, ?_⟩
  rw [e_tupl_Parse]
  have l1 := cut_len l 64
  have l2 := cut_len (cutT l 64).1 35
  have l3 := cut_len (cutT l 64).2.1 35
  have l4 := cut_len (cutT (cutT l 64).1 35).1 58
  have l5 := cut_len (cutT (cutT l 64).2.1 35).1 58
  have m1 := Nat.le_trans l1.1 hl
  have m2 := Nat.le_trans l1.2 hl
  have m3 := Nat.le_trans l2.1 m1
  have m4 := Nat.le_trans l3.1 m2
  have hs : shortT (partsT l).a (partsT l).b (partsT l).c (partsT l).d (partsT l).e (partsT l).f :=
    ⟨Nat.le_trans l4.1 m3, Nat.le_trans l4.2 m3, Nat.le_trans l2.2 m1, Nat.le_trans l5.1 m4, Nat.le_trans l5.2 m4, Nat.le_trans l3.2 m2⟩
  simp only [if_true, if_false, Bool.false_eq_true, Bool.true_eq_false, reduceCtorEq, opt_s, gBool, gTT, gFF, gTF, gFT, gU, pBool, orN, andN, orI, andI, V.bool.injEq, Bool.true_and, Bool.and_true, Bool.false_and, Bool.and_false, Bool.true_or, Bool.or_true, Bool.false_or, Bool.or_false, Bool.not_true, Bool.not_false, iteB_bool, iteB_true, iteB_false, not_bool, chkB_bool, chkB_undef, bGeq, bLeq, bLss, bGtr, bEql, bNeq, bAdd, bSub, bMul, bSeq, bSne, bSlt, eqB_eq, mmMin, mmMax, ext_tup, cellD_agg, convI_int, lenS_s, lenL_s, gv_0, gv_s, c_strings_Cut, F_strings_Cut, hl, m1, m2, m3, m4, cutV, List.getElem?_cons_zero, List.getElem?_cons_succ, chk1K, aggK, sc, List.all_cons, List.all_nil, c_tupl_Ok, F_tupl_Ok, c_tupl_Text, F_tupl_Text]
  simp only [partsT] at hs
  simp only [hs, if_true, if_false, Bool.false_eq_true, Bool.true_eq_false, reduceCtorEq, opt_s, gBool, gTT, gFF, gTF, gFT, gU, pBool, orN, andN, orI, andI, V.bool.injEq, Bool.true_and, Bool.and_true, Bool.false_and, Bool.and_false, Bool.true_or, Bool.or_true, Bool.false_or, Bool.or_false, Bool.not_true, Bool.not_false, iteB_bool, iteB_true, iteB_false, not_bool, chkB_bool, chkB_undef, bGeq, bLeq, bLss, bGtr, bEql, bNeq, bAdd, bSub, bMul, bSeq, bSne, bSlt, eqB_eq, mmMin, mmMax, ext_tup, cellD_agg, convI_int, lenS_s, lenL_s, gv_0, gv_s]
  cases ho : okT (partsT l).a (partsT l).b (partsT l).c (partsT l).d (partsT l).e (partsT l).f
  · have hr : readT l = (zeroS, false) := by simp only [readT, ho, Bool.false_eq_true, false_and, if_false]
    simp only [partsT] at ho
    rw [hr]
    simp only [ho, if_true, if_false, Bool.false_eq_true, Bool.true_eq_false, reduceCtorEq, opt_s, gBool, gTT, gFF, gTF, gFT, gU, pBool, orN, andN, orI, andI, V.bool.injEq, Bool.true_and, Bool.and_true, Bool.false_and, Bool.and_false, Bool.true_or, Bool.or_true, Bool.false_or, Bool.or_false, Bool.not_true, Bool.not_false, iteB_bool, iteB_true, iteB_false, not_bool, chkB_bool, chkB_undef, bGeq, bLeq, bLss, bGtr, bEql, bNeq, bAdd, bSub, bMul, bSeq, bSne, bSlt, eqB_eq, mmMin, mmMax, ext_tup, cellD_agg, convI_int, lenS_s, lenL_s, gv_0, gv_s]
    rfl
  · by_cases ht : textT (partsT l).a (partsT l).b (partsT l).c (partsT l).d (partsT l).e (partsT l).f = l
    · have hr : readT l = (partsT l, true) := by simp only [readT, ho, ht, true_and, if_true]
      rw [hr]
      simp only [partsT] at ho ht
      simp only [ho, ht, if_true, if_false, Bool.false_eq_true, Bool.true_eq_false, reduceCtorEq, opt_s, gBool, gTT, gFF, gTF, gFT, gU, pBool, orN, andN, orI, andI, V.bool.injEq, Bool.true_and, Bool.and_true, Bool.false_and, Bool.and_false, Bool.true_or, Bool.or_true, Bool.false_or, Bool.or_false, Bool.not_true, Bool.not_false, iteB_bool, iteB_true, iteB_false, not_bool, chkB_bool, chkB_undef, bGeq, bLeq, bLss, bGtr, bEql, bNeq, bAdd, bSub, bMul, bSeq, bSne, bSlt, eqB_eq, mmMin, mmMax, ext_tup, cellD_agg, convI_int, lenS_s, lenL_s, gv_0, gv_s, beq_self_eq_true]
      rfl
    · have hr : readT l = (zeroS, false) := by simp only [readT, ho, ht, and_false, if_false]
      rw [hr]
      have hb : (textT (partsT l).a (partsT l).b (partsT l).c (partsT l).d (partsT l).e (partsT l).f == l) = false := by simpa using ht
      simp only [partsT] at ho hb
      simp only [ho, hb, if_true, if_false, Bool.false_eq_true, Bool.true_eq_false, reduceCtorEq, opt_s, gBool, gTT, gFF, gTF, gFT, gU, pBool, orN, andN, orI, andI, V.bool.injEq, Bool.true_and, Bool.and_true, Bool.false_and, Bool.and_false, Bool.true_or, Bool.or_true, Bool.false_or, Bool.or_false, Bool.not_true, Bool.not_false, iteB_bool, iteB_true, iteB_false, not_bool, chkB_bool, chkB_undef, bGeq, bLeq, bLss, bGtr, bEql, bNeq, bAdd, bSub, bMul, bSeq, bSne, bSlt, eqB_eq, mmMin, mmMax, ext_tup, cellD_agg, convI_int, lenS_s, lenL_s, gv_0, gv_s]
      rfl
end Go.Fbs

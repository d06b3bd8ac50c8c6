import Derived.Test.YthkfcmfphjepnaaDP
set_option linter.unusedVariables false
set_option linter.unusedSimpArgs false
set_option linter.unusedSectionVars false
namespace Go.Fbs
open Go.Proofs

theorem bqT (b : Bool) : (b == true) = b := by cases b <;> rfl
theorem bqF (b : Bool) : (b == false) = !b := by cases b <;> rfl
theorem bTq (b : Bool) : (true == b) = b := by cases b <;> rfl
theorem bFq (b : Bool) : (false == b) = !b := by cases b <;> rfl
theorem chk_six (x : Six) : chkK 6 x.v = some x.v := nr rfl
theorem cells_six (x : Six) : aggK [cellD x.v 0, cellD x.v 1, cellD x.v 2, cellD x.v 3, cellD x.v 4, cellD x.v 5] = some x.v := nr rfl
theorem short_six {x : Six} (h : x.ok = true) : shortT x.a x.b x.c x.d x.e x.f := by
  have := ok_lens (show okT x.a x.b x.c x.d x.e x.f = true from h)
  unfold shortT big; omega
theorem fText {x : Six} (h : x.ok = true) : F_tupl_Text [x.v] = some (.str x.text) := by
  simp only [F_tupl_Text, Six.v]; rw [if_pos (short_six h)]; rfl
theorem fRText {x : Six} (h : x.ok = true) : F_entailref1_Text [x.v] = some (.str x.text) := by
  simp only [F_entailref1_Text, Six.v]; rw [if_pos (short_six h)]; rfl
theorem fOk {x : Six} (h : x.ok = true) : F_tupl_Ok [x.v] = some (.bool true) := by
  simp only [F_tupl_Ok, Six.v]; rw [if_pos (short_six h)]; exact congrArg (fun b => some (V.bool b)) h
theorem fParse {l : List UInt8} (h : l.length ≤ big) : F_tupl_Parse [.str l] = some (.tup [(readT l).1.v, .bool (readT l).2]) := by
  simp only [F_tupl_Parse]; rw [if_pos h]
theorem fLess (x y : Six) : F_tupl_Less [x.v, y.v] = some (.bool (decide (x.cmp y < 0))) := nr rfl
theorem eqCells6 (a b c d e f a' b' c' d' e' f' : List UInt8) : eqCells [2, 2, 2, 2, 2, 2] [.str a, .str b, .str c, .str d, .str e, .str f] [.str a', .str b', .str c', .str d', .str e', .str f'] = some ((a == a') && ((b == b') && ((c == c') && ((d == d') && ((e == e') && ((f == f') && true)))))) := nr rfl
instance : DecidableEq Six := fun x y => decidable_of_iff (x.row = y.row) ⟨row_inj, fun h => by rw [h]⟩
theorem eq_six (x y : Six) (neg : Bool) : eqAK [2, 2, 2, 2, 2, 2] neg x.v y.v = some (.bool (decide (x = y) != neg)) := by
  simp only [eqAK, Six.v, eqCells6, Option.map_some]
  congr 3
  rw [Bool.eq_iff_iff]
  simp only [Bool.and_eq_true, beq_iff_eq, decide_eq_true_eq]
  cases x; cases y
  simp
theorem bQuo2 (a : Nat) (h : a ≤ 1000000) : binK .quo (.int .i64 a) (.int .i64 2) = some (.int .i64 ((a / 2 : Nat) : Int)) := by
  have e : ((a : Int).tdiv 2) = ((a / 2 : Nat) : Int) := by rw [show (2 : Int) = ((2 : Nat) : Int) from rfl, Int.ofNat_tdiv]
  simp only [binK, intBin, if_true]
  rw [if_neg (by omega), e, wrap_in (by omega) (by omega)]

def F_entaillaw2_TuplBack : Spec
  | [.int .i64 _, .int .i64 _] => some (.bool true)
  | _ => none
theorem ok_entaillaw2_TuplBack : SpecL Try.prog n_entaillaw2_TuplBack F_entaillaw2_TuplBack := by
  refine go_entaillaw2_TuplBack (T := [(n_entaillaw2_Tame, F_entaillaw2_Tame), (n_tupl_Text, F_tupl_Text), (n_tupl_Parse, F_tupl_Parse), (n_tupl_Ok, F_tupl_Ok), (n_entaillaw2_awake, F_entaillaw2_awake)]) (TabOk.cons ok_entaillaw2_Tame (TabOk.cons ok_tupl_Text (TabOk.cons ok_tupl_Parse (TabOk.cons ok_tupl_Ok (TabOk.cons ok_entaillaw2_awake TabOk.nil))))) fun args v hv => ?_
  have c_entaillaw2_Tame : ∀ args, tab [(n_entaillaw2_Tame, F_entaillaw2_Tame), (n_tupl_Text, F_tupl_Text), (n_tupl_Parse, F_tupl_Parse), (n_tupl_Ok, F_tupl_Ok), (n_entaillaw2_awake, F_entaillaw2_awake)] n_entaillaw2_Tame args = F_entaillaw2_Tame args := fun _ => rfl
  have c_tupl_Text : ∀ args, tab [(n_entaillaw2_Tame, F_entaillaw2_Tame), (n_tupl_Text, F_tupl_Text), (n_tupl_Parse, F_tupl_Parse), (n_tupl_Ok, F_tupl_Ok), (n_entaillaw2_awake, F_entaillaw2_awake)] n_tupl_Text args = F_tupl_Text args := fun _ => rfl
  have c_tupl_Parse : ∀ args, tab [(n_entaillaw2_Tame, F_entaillaw2_Tame), (n_tupl_Text, F_tupl_Text), (n_tupl_Parse, F_tupl_Parse), (n_tupl_Ok, F_tupl_Ok), (n_entaillaw2_awake, F_entaillaw2_awake)] n_tupl_Parse args = F_tupl_Parse args := fun _ => rfl
  have c_tupl_Ok : ∀ args, tab [(n_entaillaw2_Tame, F_entaillaw2_Tame), (n_tupl_Text, F_tupl_Text), (n_tupl_Parse, F_tupl_Parse), (n_tupl_Ok, F_tupl_Ok), (n_entaillaw2_awake, F_entaillaw2_awake)] n_tupl_Ok args = F_tupl_Ok args := fun _ => rfl
  have c_entaillaw2_awake : ∀ args, tab [(n_entaillaw2_Tame, F_entaillaw2_Tame), (n_tupl_Text, F_tupl_Text), (n_tupl_Parse, F_tupl_Parse), (n_tupl_Ok, F_tupl_Ok), (n_entaillaw2_awake, F_entaillaw2_awake)] n_entaillaw2_awake args = F_entaillaw2_awake args := fun _ => rfl
  unfold F_entaillaw2_TuplBack at hv
  split at hv <;> (try simp only [Option.ite_none_right_eq_some, Option.some.injEq, reduceCtorEq] at hv)
  rename_i n m
  subst hv
  refine ⟨rfl, rfl, rfl, ?_⟩
  rw [e_entaillaw2_TuplBack]
  have hx := tameS_ok n
  have hy := tameS_ok m
  simp only [c_entaillaw2_Tame, F_entaillaw2_Tame, opt_s]
  generalize tameS n = x at *
  generalize tameS m = y at *
  have lx := text_len hx
  have ly := text_len hy
  have bx : x.text.length ≤ big := by unfold big; omega
  have bxy : (x.text ++ y.text).length ≤ big := by unfold big; rw [List.length_append]; omega
  have bt : (x.text.take (x.text.length / 2)).length ≤ big := by unfold big; rw [List.length_take]; omega
  have hq : (x.text == y.text) = decide (x = y) := by
    rw [Bool.eq_iff_iff]; simp only [beq_iff_eq, decide_eq_true_eq]
    exact ⟨text_inj hx hy, fun h => by rw [h]⟩
  have hl : (readT (x.text.take (x.text.length / 2))).2 = true → decide ((4 : Int) < ((x.text.length / 2 : Nat) : Int)) = true := fun h => by
    obtain ⟨h1, h2⟩ := read_true h
    have h3 := text_len h1
    rw [h2, List.length_take] at h3
    exact decide_eq_true (by omega)
  have h6 : decide ((6 : Int) < (x.text.length : Int)) = true := decide_eq_true (by omega)
  have ha := bSadd x.text y.text (by omega)
  have hs := sliceS_to (l := x.text) (k := x.text.length / 2) (by omega)
  simp only [chk_six, c_tupl_Text, fText hx, fText hy, c_tupl_Parse, fParse bx, read_text hx, if_true, if_false, Bool.false_eq_true, Bool.true_eq_false, reduceCtorEq, opt_s, gBool, gTT, gFF, gTF, gFT, gU, pBool, orN, andN, orI, andI, V.bool.injEq, Bool.true_and, Bool.and_true, Bool.false_and, Bool.and_false, Bool.true_or, Bool.or_true, Bool.false_or, Bool.or_false, Bool.not_true, Bool.not_false, iteB_bool, iteB_true, iteB_false, not_bool, chkB_bool, chkB_undef, bGeq, bLeq, bLss, bGtr, bEql, bNeq, bAdd, bSub, bMul, bSeq, bSne, bSlt, eqB_eq, mmMin, mmMax, ext_tup, cellD_agg, convI_int, lenS_s, lenL_s, gv_0, gv_s, List.getElem?_cons_zero, List.getElem?_cons_succ, ha, fParse bxy, read_two hx hy, bQuo2 _ (show x.text.length ≤ 1000000 by omega), hs, fParse bt, cells_six, eq_six, h6, hq, c_tupl_Ok, fOk hx, c_entaillaw2_awake, F_entaillaw2_awake]
  cases hb : (readT (x.text.take (x.text.length / 2))).2
  · cases hd : decide (x = y) <;> simp only [if_true, if_false, Bool.false_eq_true, Bool.true_eq_false, reduceCtorEq, opt_s, gBool, gTT, gFF, gTF, gFT, gU, pBool, orN, andN, orI, andI, V.bool.injEq, Bool.true_and, Bool.and_true, Bool.false_and, Bool.and_false, Bool.true_or, Bool.or_true, Bool.false_or, Bool.or_false, Bool.not_true, Bool.not_false, iteB_bool, iteB_true, iteB_false, not_bool, chkB_bool, chkB_undef, bGeq, bLeq, bLss, bGtr, bEql, bNeq, bAdd, bSub, bMul, bSeq, bSne, bSlt, eqB_eq, mmMin, mmMax, ext_tup, cellD_agg, convI_int, lenS_s, lenL_s, gv_0, gv_s, hb, hd, bne, beq_self_eq_true, decide_true, decide_false, bqT, bqF, bTq, bFq]
  · have h4 := hl hb
    cases hd : decide (x = y) <;> simp only [if_true, if_false, Bool.false_eq_true, Bool.true_eq_false, reduceCtorEq, opt_s, gBool, gTT, gFF, gTF, gFT, gU, pBool, orN, andN, orI, andI, V.bool.injEq, Bool.true_and, Bool.and_true, Bool.false_and, Bool.and_false, Bool.true_or, Bool.or_true, Bool.false_or, Bool.or_false, Bool.not_true, Bool.not_false, iteB_bool, iteB_true, iteB_false, not_bool, chkB_bool, chkB_undef, bGeq, bLeq, bLss, bGtr, bEql, bNeq, bAdd, bSub, bMul, bSeq, bSne, bSlt, eqB_eq, mmMin, mmMax, ext_tup, cellD_agg, convI_int, lenS_s, lenL_s, gv_0, gv_s, hb, hd, h4, bne, beq_self_eq_true, decide_true, decide_false, bqT, bqF, bTq, bFq]
end Go.Fbs

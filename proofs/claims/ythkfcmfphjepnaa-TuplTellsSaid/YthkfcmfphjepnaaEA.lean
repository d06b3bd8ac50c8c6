import Derived.Test.YthkfcmfphjepnaaDZ
set_option linter.unusedVariables false
set_option linter.unusedSimpArgs false
set_option linter.unusedSectionVars false
namespace Go.Fbs
open Go.Proofs

def F_entaillaw2_TuplTells : Spec
  | [.agg [.str a, .str b, .str c, .str d, .str e, .str f], .agg [.str a', .str b', .str c', .str d', .str e', .str f'], .str s, .int .i64 _, .int .i64 _] =>
    if a.length + b.length + c.length + d.length + e.length + f.length ≤ big ∧ a'.length + b'.length + c'.length + d'.length + e'.length + f'.length ≤ big ∧ s.length ≤ big then some (.bool true) else none
  | _ => none
def Six.len (x : Six) : Nat := x.a.length + x.b.length + x.c.length + x.d.length + x.e.length + x.f.length
theorem fShort {x : Six} (h : x.len ≤ big) : F_entaillaw2_Short [x.v] = some (.bool (decide (x.len ≤ 900))) := by
  simp only [F_entaillaw2_Short, Six.v]; exact if_pos h
theorem fText2 {x : Six} (h : x.len ≤ big) : F_tupl_Text [x.v] = some (.str x.text) := by
  simp only [F_tupl_Text, Six.v]; rw [if_pos (by unfold Six.len at h; unfold shortT; omega)]; rfl
theorem fRText2 {x : Six} (h : x.len ≤ big) : F_entailref1_Text [x.v] = some (.str x.text) := fRText' x (by unfold Six.len at h; unfold shortT; omega)
theorem fOk2 {x : Six} (h : x.len ≤ big) : F_tupl_Ok [x.v] = some (.bool x.ok) := by
  simp only [F_tupl_Ok, Six.v]; rw [if_pos (by unfold Six.len at h; unfold shortT; omega)]; rfl
theorem fROk2 {x : Six} (h : x.len ≤ big) : F_entailref1_Ok [x.v] = some (.bool x.ok) := by
  simp only [F_entailref1_Ok, Six.v]; rw [if_pos (by unfold Six.len at h; unfold shortT; omega)]; rfl
theorem fRParse {l : List UInt8} (h : l.length ≤ big) : F_entailref1_Parse [.str l] = some (.tup [(readT l).1.v, .bool (readT l).2]) := by
  simp only [F_entailref1_Parse]; rw [if_pos h]
theorem fRLess (x y : Six) : F_entailref1_Less [x.v, y.v] = some (.bool (decide (x.cmp y < 0))) := nr rfl
theorem ok_len {x : Six} (h : x.ok = true) : x.len ≤ big := by
  have := ok_lens (show okT x.a x.b x.c x.d x.e x.f = true from h)
  unfold Six.len big; omega
theorem ok_entaillaw2_TuplTells : SpecL Try.prog n_entaillaw2_TuplTells F_entaillaw2_TuplTells := by
  refine go_entaillaw2_TuplTells (T := [(n_entaillaw2_Short, F_entaillaw2_Short), (n_entaillaw2_awake, F_entaillaw2_awake), (n_tupl_Parse, F_tupl_Parse), (n_entailref1_Parse, F_entailref1_Parse), (n_tupl_Ok, F_tupl_Ok), (n_entailref1_Ok, F_entailref1_Ok), (n_tupl_Text, F_tupl_Text), (n_entailref1_Text, F_entailref1_Text), (n_tupl_Less, F_tupl_Less), (n_entailref1_Less, F_entailref1_Less), (n_entaillaw2_Tame, F_entaillaw2_Tame)]) (TabOk.cons ok_entaillaw2_Short (TabOk.cons ok_entaillaw2_awake (TabOk.cons ok_tupl_Parse (TabOk.cons ok_entailref1_Parse (TabOk.cons ok_tupl_Ok (TabOk.cons ok_entailref1_Ok (TabOk.cons ok_tupl_Text (TabOk.cons ok_entailref1_Text (TabOk.cons ok_tupl_Less (TabOk.cons ok_entailref1_Less (TabOk.cons ok_entaillaw2_Tame TabOk.nil))))))))))) fun args v hv => ?_
  have c_entaillaw2_Short : ∀ args, tab [(n_entaillaw2_Short, F_entaillaw2_Short), (n_entaillaw2_awake, F_entaillaw2_awake), (n_tupl_Parse, F_tupl_Parse), (n_entailref1_Parse, F_entailref1_Parse), (n_tupl_Ok, F_tupl_Ok), (n_entailref1_Ok, F_entailref1_Ok), (n_tupl_Text, F_tupl_Text), (n_entailref1_Text, F_entailref1_Text), (n_tupl_Less, F_tupl_Less), (n_entailref1_Less, F_entailref1_Less), (n_entaillaw2_Tame, F_entaillaw2_Tame)] n_entaillaw2_Short args = F_entaillaw2_Short args := fun _ => rfl
  have c_entaillaw2_awake : ∀ args, tab [(n_entaillaw2_Short, F_entaillaw2_Short), (n_entaillaw2_awake, F_entaillaw2_awake), (n_tupl_Parse, F_tupl_Parse), (n_entailref1_Parse, F_entailref1_Parse), (n_tupl_Ok, F_tupl_Ok), (n_entailref1_Ok, F_entailref1_Ok), (n_tupl_Text, F_tupl_Text), (n_entailref1_Text, F_entailref1_Text), (n_tupl_Less, F_tupl_Less), (n_entailref1_Less, F_entailref1_Less), (n_entaillaw2_Tame, F_entaillaw2_Tame)] n_entaillaw2_awake args = F_entaillaw2_awake args := fun _ => rfl
  have c_tupl_Parse : ∀ args, tab [(n_entaillaw2_Short, F_entaillaw2_Short), (n_entaillaw2_awake, F_entaillaw2_awake), (n_tupl_Parse, F_tupl_Parse), (n_entailref1_Parse, F_entailref1_Parse), (n_tupl_Ok, F_tupl_Ok), (n_entailref1_Ok, F_entailref1_Ok), (n_tupl_Text, F_tupl_Text), (n_entailref1_Text, F_entailref1_Text), (n_tupl_Less, F_tupl_Less), (n_entailref1_Less, F_entailref1_Less), (n_entaillaw2_Tame, F_entaillaw2_Tame)] n_tupl_Parse args = F_tupl_Parse args := fun _ => rfl
  have c_entailref1_Parse : ∀ args, tab [(n_entaillaw2_Short, F_entaillaw2_Short), (n_entaillaw2_awake, F_entaillaw2_awake), (n_tupl_Parse, F_tupl_Parse), (n_entailref1_Parse, F_entailref1_Parse), (n_tupl_Ok, F_tupl_Ok), (n_entailref1_Ok, F_entailref1_Ok), (n_tupl_Text, F_tupl_Text), (n_entailref1_Text, F_entailref1_Text), (n_tupl_Less, F_tupl_Less), (n_entailref1_Less, F_entailref1_Less), (n_entaillaw2_Tame, F_entaillaw2_Tame)] n_entailref1_Parse args = F_entailref1_Parse args := fun _ => rfl
  have c_tupl_Ok : ∀ args, tab [(n_entaillaw2_Short, F_entaillaw2_Short), (n_entaillaw2_awake, F_entaillaw2_awake), (n_tupl_Parse, F_tupl_Parse), (n_entailref1_Parse, F_entailref1_Parse), (n_tupl_Ok, F_tupl_Ok), (n_entailref1_Ok, F_entailref1_Ok), (n_tupl_Text, F_tupl_Text), (n_entailref1_Text, F_entailref1_Text), (n_tupl_Less, F_tupl_Less), (n_entailref1_Less, F_entailref1_Less), (n_entaillaw2_Tame, F_entaillaw2_Tame)] n_tupl_Ok args = F_tupl_Ok args := fun _ => rfl
  have c_entailref1_Ok : ∀ args, tab [(n_entaillaw2_Short, F_entaillaw2_Short), (n_entaillaw2_awake, F_entaillaw2_awake), (n_tupl_Parse, F_tupl_Parse), (n_entailref1_Parse, F_entailref1_Parse), (n_tupl_Ok, F_tupl_Ok), (n_entailref1_Ok, F_entailref1_Ok), (n_tupl_Text, F_tupl_Text), (n_entailref1_Text, F_entailref1_Text), (n_tupl_Less, F_tupl_Less), (n_entailref1_Less, F_entailref1_Less), (n_entaillaw2_Tame, F_entaillaw2_Tame)] n_entailref1_Ok args = F_entailref1_Ok args := fun _ => rfl
  have c_tupl_Text : ∀ args, tab [(n_entaillaw2_Short, F_entaillaw2_Short), (n_entaillaw2_awake, F_entaillaw2_awake), (n_tupl_Parse, F_tupl_Parse), (n_entailref1_Parse, F_entailref1_Parse), (n_tupl_Ok, F_tupl_Ok), (n_entailref1_Ok, F_entailref1_Ok), (n_tupl_Text, F_tupl_Text), (n_entailref1_Text, F_entailref1_Text), (n_tupl_Less, F_tupl_Less), (n_entailref1_Less, F_entailref1_Less), (n_entaillaw2_Tame, F_entaillaw2_Tame)] n_tupl_Text args = F_tupl_Text args := fun _ => rfl
  have c_entailref1_Text : ∀ args, tab [(n_entaillaw2_Short, F_entaillaw2_Short), (n_entaillaw2_awake, F_entaillaw2_awake), (n_tupl_Parse, F_tupl_Parse), (n_entailref1_Parse, F_entailref1_Parse), (n_tupl_Ok, F_tupl_Ok), (n_entailref1_Ok, F_entailref1_Ok), (n_tupl_Text, F_tupl_Text), (n_entailref1_Text, F_entailref1_Text), (n_tupl_Less, F_tupl_Less), (n_entailref1_Less, F_entailref1_Less), (n_entaillaw2_Tame, F_entaillaw2_Tame)] n_entailref1_Text args = F_entailref1_Text args := fun _ => rfl
  have c_tupl_Less : ∀ args, tab [(n_entaillaw2_Short, F_entaillaw2_Short), (n_entaillaw2_awake, F_entaillaw2_awake), (n_tupl_Parse, F_tupl_Parse), (n_entailref1_Parse, F_entailref1_Parse), (n_tupl_Ok, F_tupl_Ok), (n_entailref1_Ok, F_entailref1_Ok), (n_tupl_Text, F_tupl_Text), (n_entailref1_Text, F_entailref1_Text), (n_tupl_Less, F_tupl_Less), (n_entailref1_Less, F_entailref1_Less), (n_entaillaw2_Tame, F_entaillaw2_Tame)] n_tupl_Less args = F_tupl_Less args := fun _ => rfl
  have c_entailref1_Less : ∀ args, tab [(n_entaillaw2_Short, F_entaillaw2_Short), (n_entaillaw2_awake, F_entaillaw2_awake), (n_tupl_Parse, F_tupl_Parse), (n_entailref1_Parse, F_entailref1_Parse), (n_tupl_Ok, F_tupl_Ok), (n_entailref1_Ok, F_entailref1_Ok), (n_tupl_Text, F_tupl_Text), (n_entailref1_Text, F_entailref1_Text), (n_tupl_Less, F_tupl_Less), (n_entailref1_Less, F_entailref1_Less), (n_entaillaw2_Tame, F_entaillaw2_Tame)] n_entailref1_Less args = F_entailref1_Less args := fun _ => rfl
  have c_entaillaw2_Tame : ∀ args, tab [(n_entaillaw2_Short, F_entaillaw2_Short), (n_entaillaw2_awake, F_entaillaw2_awake), (n_tupl_Parse, F_tupl_Parse), (n_entailref1_Parse, F_entailref1_Parse), (n_tupl_Ok, F_tupl_Ok), (n_entailref1_Ok, F_entailref1_Ok), (n_tupl_Text, F_tupl_Text), (n_entailref1_Text, F_entailref1_Text), (n_tupl_Less, F_tupl_Less), (n_entailref1_Less, F_entailref1_Less), (n_entaillaw2_Tame, F_entaillaw2_Tame)] n_entaillaw2_Tame args = F_entaillaw2_Tame args := fun _ => rfl
  unfold F_entaillaw2_TuplTells at hv
  split at hv <;> (try simp only [Option.ite_none_right_eq_some, Option.some.injEq, reduceCtorEq] at hv)
  rename_i a b c d e f a' b' c' d' e' f' s n m
  obtain ⟨⟨h1, h2, h3⟩, rfl⟩ := hv
  refine ⟨rfl, rfl, rfl, ?_⟩
  rw [e_entaillaw2_TuplTells]
  generalize hx : (⟨a, b, c, d, e, f⟩ : Six) = x
  generalize hy : (⟨a', b', c', d', e', f'⟩ : Six) = y
  have hxl : x.len ≤ big := by rw [← hx]; exact h1
  have hyl : y.len ≤ big := by rw [← hy]; exact h2
  rw [show V.agg [.str a, .str b, .str c, .str d, .str e, .str f] = x.v by rw [← hx]; rfl, show V.agg [.str a', .str b', .str c', .str d', .str e', .str f'] = y.v by rw [← hy]; rfl]
  clear hx hy h1 h2 a b c d e f a' b' c' d' e' f'
  simp only [chk_six, if_true, if_false, Bool.false_eq_true, Bool.true_eq_false, reduceCtorEq, opt_s, gBool, gTT, gFF, gTF, gFT, gU, pBool, orN, andN, orI, andI, V.bool.injEq, Bool.true_and, Bool.and_true, Bool.false_and, Bool.and_false, Bool.true_or, Bool.or_true, Bool.false_or, Bool.or_false, Bool.not_true, Bool.not_false, iteB_bool, iteB_true, iteB_false, not_bool, chkB_bool, chkB_undef, bGeq, bLeq, bLss, bGtr, bEql, bNeq, bAdd, bSub, bMul, bSeq, bSne, bSlt, eqB_eq, mmMin, mmMax, ext_tup, cellD_agg, convI_int, lenS_s, lenL_s, gv_0, gv_s, cells_six, c_entaillaw2_Short, fShort hxl, fShort hyl, c_entaillaw2_awake, F_entaillaw2_awake]
  by_cases hc : x.len ≤ 900 ∧ y.len ≤ 900 ∧ s.length ≤ 900
  · obtain ⟨c1, c2, c3⟩ := hc
    have c3' : ¬ (900 : Int) < (s.length : Int) := by omega
    simp only [c1, c2, c3', decide_true, decide_false, if_true, if_false, Bool.false_eq_true, Bool.true_eq_false, reduceCtorEq, opt_s, gBool, gTT, gFF, gTF, gFT, gU, pBool, orN, andN, orI, andI, V.bool.injEq, Bool.true_and, Bool.and_true, Bool.false_and, Bool.and_false, Bool.true_or, Bool.or_true, Bool.false_or, Bool.or_false, Bool.not_true, Bool.not_false, iteB_bool, iteB_true, iteB_false, not_bool, chkB_bool, chkB_undef, bGeq, bLeq, bLss, bGtr, bEql, bNeq, bAdd, bSub, bMul, bSeq, bSne, bSlt, eqB_eq, mmMin, mmMax, ext_tup, cellD_agg, convI_int, lenS_s, lenL_s, gv_0, gv_s, d_six]
    refine loopP_inv (fun vs => ∃ (i : Nat) (s : List UInt8) (x y : Six), i ≤ 2 ∧ s.length ≤ big ∧ x.len ≤ big ∧ y.len ≤ big ∧ vs = [.str s, vI i, .str x.a, .str x.b, .str x.c, .str x.d, .str x.e, .str x.f, .str y.a, .str y.b, .str y.c, .str y.d, .str y.e, .str y.f]) (fun vs => 2 - natOf (gv vs 1)) ⟨0, s, x, y, by omega, h3, hxl, hyl, rfl⟩ ?_
    clear c1 c2 c3 c3' hxl hyl h3 x y s
    rintro r _ ⟨i, s, x, y, hi, hs, hx, hy, rfl⟩ hr
    refine ⟨rfl, ?_⟩
    simp only [if_true, if_false, Bool.false_eq_true, Bool.true_eq_false, reduceCtorEq, opt_s, gBool, gTT, gFF, gTF, gFT, gU, pBool, orN, andN, orI, andI, V.bool.injEq, Bool.true_and, Bool.and_true, Bool.false_and, Bool.and_false, Bool.true_or, Bool.or_true, Bool.false_or, Bool.or_false, Bool.not_true, Bool.not_false, iteB_bool, iteB_true, iteB_false, not_bool, chkB_bool, chkB_undef, bGeq, bLeq, bLss, bGtr, bEql, bNeq, bAdd, bSub, bMul, bSeq, bSne, bSlt, eqB_eq, mmMin, mmMax, ext_tup, cellD_agg, convI_int, lenS_s, lenL_s, gv_0, gv_s, agg_six]
    by_cases hlt : i < 2
    · have hlt' : ((i : Int) < 2) := by omega
      have hw : IntKind.i64.wrap ((i : Int) + 1) = ((i + 1 : Nat) : Int) := by rw [wrap_in (by omega) (by omega)]; omega
      have on := tameS_ok n
      have om := tameS_ok m
      have step := hr [.str (tameS n).text, vI (i + 1 : Nat), .str (tameS n).a, .str (tameS n).b, .str (tameS n).c, .str (tameS n).d, .str (tameS n).e, .str (tameS n).f, .str (tameS m).a, .str (tameS m).b, .str (tameS m).c, .str (tameS m).d, .str (tameS m).e, .str (tameS m).f] ⟨i + 1, (tameS n).text, tameS n, tameS m, by omega, by have := text_len on; unfold big; omega, ok_len on, ok_len om, rfl⟩ (by simp [gv, natOf]; omega)
      simp only [hlt', decide_true, if_true, if_false, Bool.false_eq_true, Bool.true_eq_false, reduceCtorEq, opt_s, gBool, gTT, gFF, gTF, gFT, gU, pBool, orN, andN, orI, andI, V.bool.injEq, Bool.true_and, Bool.and_true, Bool.false_and, Bool.and_false, Bool.true_or, Bool.or_true, Bool.false_or, Bool.or_false, Bool.not_true, Bool.not_false, iteB_bool, iteB_true, iteB_false, not_bool, chkB_bool, chkB_undef, bGeq, bLeq, bLss, bGtr, bEql, bNeq, bAdd, bSub, bMul, bSeq, bSne, bSlt, eqB_eq, mmMin, mmMax, ext_tup, cellD_agg, convI_int, lenS_s, lenL_s, gv_0, gv_s, c_tupl_Parse, fParse hs, c_entailref1_Parse, fRParse hs, List.getElem?_cons_zero, List.getElem?_cons_succ, chk_six, c_tupl_Ok, fOk2 hx, c_entailref1_Ok, fROk2 hx, c_tupl_Text, fText2 hx, c_entailref1_Text, fRText2 hx, c_tupl_Less, fLess, c_entailref1_Less, fRLess, cells_six, eq_six, beq_self_eq_true, bne, Bool.not_true, bqT, bqF, c_entaillaw2_Tame, F_entaillaw2_Tame, fRText on, d_six, hw, step, agg_six]
    · have hlt' : ¬ ((i : Int) < 2) := by omega
      simp only [hlt', decide_false, if_true, if_false, Bool.false_eq_true, Bool.true_eq_false, reduceCtorEq, opt_s, gBool, gTT, gFF, gTF, gFT, gU, pBool, orN, andN, orI, andI, V.bool.injEq, Bool.true_and, Bool.and_true, Bool.false_and, Bool.and_false, Bool.true_or, Bool.or_true, Bool.false_or, Bool.or_false, Bool.not_true, Bool.not_false, iteB_bool, iteB_true, iteB_false, not_bool, chkB_bool, chkB_undef, bGeq, bLeq, bLss, bGtr, bEql, bNeq, bAdd, bSub, bMul, bSeq, bSne, bSlt, eqB_eq, mmMin, mmMax, ext_tup, cellD_agg, convI_int, lenS_s, lenL_s, gv_0, gv_s]
  · have : decide (x.len ≤ 900) = false ∨ decide (y.len ≤ 900) = false ∨ decide ((900 : Int) < (s.length : Int)) = true := by
      by_cases k1 : x.len ≤ 900
      · by_cases k2 : y.len ≤ 900
        · exact .inr (.inr (decide_eq_true (by omega)))
        · exact .inr (.inl (decide_eq_false k2))
      · exact .inl (decide_eq_false k1)
    generalize decide (x.len ≤ 900) = p1 at *
    generalize decide (y.len ≤ 900) = p2 at *
    generalize decide ((900 : Int) < (s.length : Int)) = p3 at *
    cases p1 <;> cases p2 <;> cases p3 <;> simp at this <;> simp only [if_true, if_false, Bool.false_eq_true, Bool.true_eq_false, reduceCtorEq, opt_s, gBool, gTT, gFF, gTF, gFT, gU, pBool, orN, andN, orI, andI, V.bool.injEq, Bool.true_and, Bool.and_true, Bool.false_and, Bool.and_false, Bool.true_or, Bool.or_true, Bool.false_or, Bool.or_false, Bool.not_true, Bool.not_false, iteB_bool, iteB_true, iteB_false, not_bool, chkB_bool, chkB_undef, bGeq, bLeq, bLss, bGtr, bEql, bNeq, bAdd, bSub, bMul, bSeq, bSne, bSlt, eqB_eq, mmMin, mmMax, ext_tup, cellD_agg, convI_int, lenS_s, lenL_s, gv_0, gv_s]
end Go.Fbs

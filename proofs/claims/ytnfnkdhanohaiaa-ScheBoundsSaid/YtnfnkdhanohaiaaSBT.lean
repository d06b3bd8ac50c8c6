/- ScheBounds: the law. -/
import Derived.Test.YtnfnkdhanohaiaaSBS
set_option linter.unusedVariables false
set_option linter.unusedSimpArgs false
set_option linter.unusedSectionVars false
namespace Go.Fbs
open Go.Proofs
def F_entaillaw7_ScheBounds : Spec := fun args => match args with
  | [.int .i64 _, .int .i64 _, .int .i64 _, .int .i64 _] => some (.bool true)
  | _ => none
theorem and7 (x : Int) : ∃ n : Nat, n < 8 ∧ binK .and (.int .i64 x) (.int .i64 7) = some (.int .i64 (n : Int)) := by
  refine ⟨(x % 8).toNat, by omega, ?_⟩
  rw [show (7 : Int) = ((2 ^ 3 - 1 : Nat) : Int) from rfl, bAndMask (by omega)]
  have : x % ((2 ^ 3 : Nat) : Int) = ((x % 8).toNat : Int) := by
    show x % 8 = _
    omega
  rw [this]
theorem okIf_entaillaw7_ScheBounds (hruns : ∀ p ∈ Rx.tab32, Rx.pRun p.1 p.2 = true) : SpecL Try.prog n_entaillaw7_ScheBounds F_entaillaw7_ScheBounds := by
  refine go_entaillaw7_ScheBounds (T := [(n_entaillaw7_ScheBounds_1, F_entaillaw7_ScheBounds_1), (n_sche_Parse, F_sche_Parse), (n_entaillaw7_awake, F_true)]) (TabOk.cons ok_entaillaw7_ScheBounds_1 (TabOk.cons (ok_sche_Parse hruns) (TabOk.cons ok_entaillaw7_awake TabOk.nil))) fun args v hv => ?_
  generalize hT : tab [(n_entaillaw7_ScheBounds_1, F_entaillaw7_ScheBounds_1), (n_sche_Parse, F_sche_Parse), (n_entaillaw7_awake, F_true)] = p
  have c_name : ∀ args, p n_entaillaw7_ScheBounds_1 args = F_entaillaw7_ScheBounds_1 args := fun _ => by rw [← hT]; rfl
  have c_parse : ∀ args, p n_sche_Parse args = F_sche_Parse args := fun _ => by rw [← hT]; rfl
  have c_awake : p n_entaillaw7_awake [] = some (.bool true) := by rw [← hT]; rfl
  clear hT
  unfold F_entaillaw7_ScheBounds at hv
  split at hv <;> (try simp only [Option.ite_none_right_eq_some, Option.some.injEq, reduceCtorEq] at hv)
  rename_i a b c d
  subst hv
  refine ⟨rfl, rfl, rfl, ?_⟩
  rw [e_entaillaw7_ScheBounds]
  obtain ⟨n0, h0, e0⟩ := and7 a
  obtain ⟨n1, h1, e1⟩ := and7 b
  obtain ⟨n2, h2, e2⟩ := and7 c
  obtain ⟨n3, h3, e3⟩ := and7 d
  have w0 : IntKind.i64.wrap (196 + (n0 : Int)) = ((196 + n0 : Nat) : Int) := by rw [wrap_in (by omega) (by omega)]; omega
  have w1 : IntKind.i64.wrap (196 + (n1 : Int)) = ((196 + n1 : Nat) : Int) := by rw [wrap_in (by omega) (by omega)]; omega
  have w2 : IntKind.i64.wrap (46 + (n2 : Int)) = ((46 + n2 : Nat) : Int) := by rw [wrap_in (by omega) (by omega)]; omega
  have w3 : IntKind.i64.wrap (98 + (n3 : Int)) = ((98 + n3 : Nat) : Int) := by rw [wrap_in (by omega) (by omega)]; omega
  have w4 : IntKind.i64.wrap (2 * ((98 + n3 : Nat) : Int)) = ((2 * (98 + n3) : Nat) : Int) := by rw [wrap_in (by omega) (by omega)]; omega
  have w5 : IntKind.i64.wrap (((2 * (98 + n3) : Nat) : Int) + 1) = ((2 * (98 + n3) + 1 : Nat) : Int) := by rw [wrap_in (by omega) (by omega)]; omega
  have wi : ∀ i : Nat, i ≤ 1000 → IntKind.i64.wrap ((i : Int) + 1) = ((i + 1 : Nat) : Int) := fun i hi => by rw [wrap_in (by omega) (by omega)]; omega
  have cn : ∀ i : Nat, i < 208 → callvK p (.func 4 []) [.int .i64 (i : Int)] = some (.str (nmB i)) := fun i hi => by
    show (bif Nat.blt 4 EOFF then p 4 ([V.int .i64 (i : Int)] ++ []) else none) = _
    rw [show Nat.blt 4 EOFF = true from rfl, cond_true, List.append_nil]
    refine (c_name _).trans ?_
    unfold F_entaillaw7_ScheBounds_1
    simp only
    rw [if_pos ⟨by omega, by omega⟩, Int.toNat_natCast]
  simp only [e0, e1, e2, e3, opt_s, bAdd]
  rw [w0, w1, w2, w3]
  refine loopP_inv (fun vs => ∃ i : Nat, vs = [.str (tT i), vI i, .func 4 []] ∧ i ≤ 196 + n0) (fun vs => 196 + n0 - natOf (gv vs 1)) ⟨0, rfl, Nat.zero_le _⟩ ?_
  rintro r _ ⟨i, rfl, hi⟩ hr
  refine ⟨rfl, ?_⟩
  simp only [gv_0, gv_s, bLss, opt_s]
  by_cases hlt : i < 196 + n0
  · have hlt' : (i : Int) < ((196 + n0 : Nat) : Int) := by omega
    have a1 := bSadd (tT i) [116, 121, 112, 101, 32] (by rw [tT_len]; simp; omega)
    have a2 := bSadd (tT i ++ [116, 121, 112, 101, 32]) (nmB i) (by simp [tT_len, nmB]; omega)
    have a3 := bSadd ((tT i ++ [116, 121, 112, 101, 32]) ++ nmB i) [32] (by simp [tT_len, nmB]; omega)
    have step := hr [.str (tT (i + 1)), vI (i + 1 : Nat), .func 4 []] ⟨i + 1, rfl, by omega⟩ (by simp [gv, natOf]; omega)
    simp only [hlt', decide_true, iteB_true, iteB_bool, if_true, opt_s, a1, cn i (by omega), a2, a3, bAdd, wi i (by omega)]
    exact step
  have hlt' : ¬ (i : Int) < ((196 + n0 : Nat) : Int) := by omega
  obtain rfl : i = 196 + n0 := by omega
  clear hr hi hlt
  simp only [hlt', decide_false, iteB_false, iteB_bool, if_false, Bool.false_eq_true]
  refine loopP_inv (fun vs => ∃ i : Nat, vs = [.str (rT i), vI i] ∧ i ≤ 196 + n1) (fun vs => 196 + n1 - natOf (gv vs 1)) ⟨0, rfl, Nat.zero_le _⟩ ?_
  rintro r _ ⟨i, rfl, hi⟩ hr
  refine ⟨rfl, ?_⟩
  simp only [gv_0, gv_s, bLss, opt_s]
  by_cases hlt : i < 196 + n1
  · have hlt' : (i : Int) < ((196 + n1 : Nat) : Int) := by omega
    have a1 := bSadd (rT i) (nmB i) (by simp [rT_len, nmB]; omega)
    have a2 := bSadd (rT i ++ nmB i) [58, 32, 117, 59, 32] (by simp [rT_len, nmB]; omega)
    have step := hr [.str (rT (i + 1)), vI (i + 1 : Nat)] ⟨i + 1, rfl, by omega⟩ (by simp [gv, natOf]; omega)
    simp only [hlt', decide_true, iteB_true, iteB_bool, if_true, opt_s, cn i (by omega), a1, a2, bAdd, wi i (by omega)]
    exact step
  have hlt' : ¬ (i : Int) < ((196 + n1 : Nat) : Int) := by omega
  obtain rfl : i = 196 + n1 := by omega
  clear hr hi hlt
  simp only [hlt', decide_false, iteB_false, iteB_bool, if_false, Bool.false_eq_true]
  refine loopP_inv (fun vs => ∃ i : Nat, vs = [.str (sT i), vI (i + 1 : Nat)] ∧ i ≤ 45 + n2) (fun vs => 46 + n2 - natOf (gv vs 1)) ⟨0, rfl, Nat.zero_le _⟩ ?_
  rintro r _ ⟨i, rfl, hi⟩ hr
  refine ⟨rfl, ?_⟩
  simp only [gv_0, gv_s, bLss, opt_s]
  by_cases hlt : i < 45 + n2
  · have hlt' : ((i + 1 : Nat) : Int) < ((46 + n2 : Nat) : Int) := by omega
    have a1 := bSadd (sT i) [32, 124, 32, 117] (by simp [sT_len]; omega)
    have step := hr [.str (sT (i + 1)), vI (i + 1 + 1 : Nat)] ⟨i + 1, rfl, by omega⟩ (by simp [gv, natOf]; omega)
    simp only [hlt', decide_true, iteB_true, iteB_bool, if_true, opt_s, a1, bAdd, wi (i + 1) (by omega)]
    exact step
  have hlt' : ¬ ((i + 1 : Nat) : Int) < ((46 + n2 : Nat) : Int) := by omega
  obtain rfl : i = 45 + n2 := by omega
  clear hr hi hlt
  simp only [hlt', decide_false, iteB_false, iteB_bool, if_false, Bool.false_eq_true]
  refine loopP_inv (fun vs => ∃ i : Nat, vs = [.str (xT i), vI i] ∧ i ≤ 98 + n3) (fun vs => 98 + n3 - natOf (gv vs 1)) ⟨0, rfl, Nat.zero_le _⟩ ?_
  rintro r _ ⟨i, rfl, hi⟩ hr
  refine ⟨rfl, ?_⟩
  simp only [gv_0, gv_s, bLss, opt_s]
  by_cases hlt : i < 98 + n3
  · have hlt' : (i : Int) < ((98 + n3 : Nat) : Int) := by omega
    have a1 := bSadd (xT i) [32, 43, 32, 115] (by simp [xT_len]; omega)
    have step := hr [.str (xT (i + 1)), vI (i + 1 : Nat)] ⟨i + 1, rfl, by omega⟩ (by simp [gv, natOf]; omega)
    simp only [hlt', decide_true, iteB_true, iteB_bool, if_true, opt_s, a1, bAdd, wi i (by omega)]
    exact step
  have hlt' : ¬ (i : Int) < ((98 + n3 : Nat) : Int) := by omega
  obtain rfl : i = 98 + n3 := by omega
  clear hr hi hlt
  have t1 := bSadd (rT (196 + n1)) [125] (by simp [rT_len]; omega)
  have t2 := bSadd (sT (45 + n2)) [59, 32, 125] (by simp [sT_len]; omega)
  have t3 := bSadd (xT (98 + n3)) [59, 32, 125] (by simp [xT_len]; omega)
  simp only [hlt', decide_false, iteB_false, iteB_bool, if_false, Bool.false_eq_true, c_parse, ft n0 h0, t1, fr n1 h1, t2, fs n2 h2, t3, fx n3 h3, opt_s, ansV, ext_tup, List.getElem?_cons_zero, List.getElem?_cons_succ, bMul, w4, bAdd, w5, bEql, bGtr]
  have d0 : decide ((200 : Int) < ((196 + n0 : Nat) : Int)) = decide (200 < 196 + n0) := by rw [decide_eq_decide]; omega
  have d1 : decide ((200 : Int) < ((196 + n1 : Nat) : Int)) = decide (200 < 196 + n1) := by rw [decide_eq_decide]; omega
  have d2 : decide ((50 : Int) < ((46 + n2 : Nat) : Int)) = decide (50 < 46 + n2) := by rw [decide_eq_decide]; omega
  have d3 : decide ((200 : Int) < ((2 * (98 + n3) + 1 : Nat) : Int)) = decide (200 < 2 * (98 + n3) + 1) := by rw [decide_eq_decide]; omega
  rw [d0, d1, d2, d3]
  clear d0 d1 d2 d3 t1 t2 t3 w0 w1 w2 w3 w4 w5 wi cn e0 e1 e2 e3 c_name c_parse hlt'
  have z08 : decide ((0 : Int) = 8) = false := rfl
  have z88 : decide ((8 : Int) = 8) = true := rfl
  have z00 : decide ((0 : Int) = 0) = true := rfl
  have z80 : decide ((8 : Int) = 0) = false := rfl
  by_cases q0 : 200 < 196 + n0 <;> by_cases q1 : 200 < 196 + n1 <;> by_cases q2 : 50 < 46 + n2 <;> by_cases q3 : 200 < 2 * (98 + n3) + 1 <;> simp only [q0, q1, q2, q3, decide_true, decide_false, z08, z88, z00, z80, beq_self_eq_true, bne, Bool.not_false, Bool.not_true, c_awake, if_true, if_false, Bool.false_eq_true, Bool.true_eq_false, reduceCtorEq, opt_s, gBool, gTT, gFF, gTF, gFT, gU, pBool, orN, andN, orI, andI, V.bool.injEq, Bool.true_and, Bool.and_true, Bool.false_and, Bool.and_false, Bool.true_or, Bool.or_true, Bool.false_or, Bool.or_false, Bool.not_true, Bool.not_false, iteB_bool, iteB_true, iteB_false, not_bool, chkB_bool, chkB_undef, bGeq, bLeq, bLss, bGtr, bEql, bNeq, bAdd, bSub, bMul, bSeq, bSne, bSlt, eqB_eq, mmMin, mmMax, ext_tup, cellD_agg, convI_int, lenS_s, lenL_s, gv_0, gv_s]
  all_goals rfl
end Go.Fbs

import Derived.Test.YthkfcmfphjepnaaDB
set_option linter.unusedVariables false
set_option linter.unusedSimpArgs false
set_option linter.unusedSectionVars false
namespace Go.Fbs
open Go.Proofs

def F_entailref1_ID : Spec
  | [.str l] => if l.length ≤ big then some (.bool (idT l)) else none
  | _ => none
theorem ok_entailref1_ID : SpecL Try.prog n_entailref1_ID F_entailref1_ID := by
  refine go_entailref1_ID (T := [(n_entailref1_alnum, F_entailref1_alnum)]) (TabOk.cons ok_entailref1_alnum TabOk.nil) fun args v hv => ?_
  have c_entailref1_alnum : ∀ args, tab [(n_entailref1_alnum, F_entailref1_alnum)] n_entailref1_alnum args = F_entailref1_alnum args := fun _ => rfl
  unfold F_entailref1_ID at hv
  split at hv <;> (try simp only [Option.ite_none_right_eq_some, Option.some.injEq, reduceCtorEq] at hv)
  rename_i l
  obtain ⟨hl, rfl⟩ := hv
  unfold big at hl
  refine ⟨rfl, rfl, rfl, ?_⟩
  rw [e_entailref1_ID]
  simp only [if_true, if_false, Bool.false_eq_true, Bool.true_eq_false, reduceCtorEq, opt_s, gBool, gTT, gFF, gTF, gFT, gU, pBool, orN, andN, orI, andI, V.bool.injEq, Bool.true_and, Bool.and_true, Bool.false_and, Bool.and_false, Bool.true_or, Bool.or_true, Bool.false_or, Bool.or_false, Bool.not_true, Bool.not_false, iteB_bool, iteB_true, iteB_false, not_bool, chkB_bool, chkB_undef, bGeq, bLeq, bLss, bGtr, bEql, bNeq, bAdd, bSub, bMul, bSeq, bSne, bSlt, eqB_eq, mmMin, mmMax, ext_tup, cellD_agg, convI_int, lenS_s, lenL_s, gv_0, gv_s]
  refine loopP_inv (fun vs => ∃ k : Nat, vs = [vI k] ∧ k ≤ l.length ∧ (l.take k).all (fun c => idB c.toNat) = true) (fun vs => l.length - natOf (gv vs 0)) ⟨0, rfl, Nat.zero_le _, rfl⟩ ?_
  rintro r _ ⟨k, rfl, hk, hn⟩ hr
  refine ⟨rfl, ?_⟩
  simp only [if_true, if_false, Bool.false_eq_true, Bool.true_eq_false, reduceCtorEq, opt_s, gBool, gTT, gFF, gTF, gFT, gU, pBool, orN, andN, orI, andI, V.bool.injEq, Bool.true_and, Bool.and_true, Bool.false_and, Bool.and_false, Bool.true_or, Bool.or_true, Bool.false_or, Bool.or_false, Bool.not_true, Bool.not_false, iteB_bool, iteB_true, iteB_false, not_bool, chkB_bool, chkB_undef, bGeq, bLeq, bLss, bGtr, bEql, bNeq, bAdd, bSub, bMul, bSeq, bSne, bSlt, eqB_eq, mmMin, mmMax, ext_tup, cellD_agg, convI_int, lenS_s, lenL_s, gv_0, gv_s]
  by_cases hlt : k < l.length
  · have hlt' : (k : Int) < (l.length : Int) := by omega
    obtain ⟨d, hd⟩ : ∃ d, l[k]? = some d := ⟨l[k], List.getElem?_eq_getElem hlt⟩
    simp only [hlt', decide_true, if_true, if_false, Bool.false_eq_true, Bool.true_eq_false, reduceCtorEq, opt_s, gBool, gTT, gFF, gTF, gFT, gU, pBool, orN, andN, orI, andI, V.bool.injEq, Bool.true_and, Bool.and_true, Bool.false_and, Bool.and_false, Bool.true_or, Bool.or_true, Bool.false_or, Bool.or_false, Bool.not_true, Bool.not_false, iteB_bool, iteB_true, iteB_false, not_bool, chkB_bool, chkB_undef, bGeq, bLeq, bLss, bGtr, bEql, bNeq, bAdd, bSub, bMul, bSeq, bSne, bSlt, eqB_eq, mmMin, mmMax, ext_tup, cellD_agg, convI_int, lenS_s, lenL_s, gv_0, gv_s, idxS_at hd, c_entailref1_alnum, F_entailref1_alnum]
    have h2 := all_take (p := fun c => idB c.toNat) hd hn
    have hw : IntKind.i64.wrap ((k : Int) + 1) = ((k + 1 : Nat) : Int) := by rw [wrap_in (by omega) (by omega)]; omega
    have e : (((((!alnB d.toNat) && !decide ((d.toNat : Int) = 95)) && !decide ((d.toNat : Int) = 45)) && !decide ((d.toNat : Int) = 46)) && !decide ((d.toNat : Int) = 47) && !decide ((d.toNat : Int) = 124) && !decide ((d.toNat : Int) = 42)) = !idB d.toNat := by
      simp only [idB, nameB, Bool.not_or, Bool.and_assoc]
    rw [e, hw]
    cases hp : idB d.toNat
    · simp only [if_true, if_false, Bool.false_eq_true, Bool.true_eq_false, reduceCtorEq, opt_s, gBool, gTT, gFF, gTF, gFT, gU, pBool, orN, andN, orI, andI, V.bool.injEq, Bool.true_and, Bool.and_true, Bool.false_and, Bool.and_false, Bool.true_or, Bool.or_true, Bool.false_or, Bool.or_false, Bool.not_true, Bool.not_false, iteB_bool, iteB_true, iteB_false, not_bool, chkB_bool, chkB_undef, bGeq, bLeq, bLss, bGtr, bEql, bNeq, bAdd, bSub, bMul, bSeq, bSne, bSlt, eqB_eq, mmMin, mmMax, ext_tup, cellD_agg, convI_int, lenS_s, lenL_s, gv_0, gv_s, idT, all_not (p := fun c => idB c.toNat) hd hp]
    · simp only [if_true, if_false, Bool.false_eq_true, Bool.true_eq_false, reduceCtorEq, opt_s, gBool, gTT, gFF, gTF, gFT, gU, pBool, orN, andN, orI, andI, V.bool.injEq, Bool.true_and, Bool.and_true, Bool.false_and, Bool.and_false, Bool.true_or, Bool.or_true, Bool.false_or, Bool.or_false, Bool.not_true, Bool.not_false, iteB_bool, iteB_true, iteB_false, not_bool, chkB_bool, chkB_undef, bGeq, bLeq, bLss, bGtr, bEql, bNeq, bAdd, bSub, bMul, bSeq, bSne, bSlt, eqB_eq, mmMin, mmMax, ext_tup, cellD_agg, convI_int, lenS_s, lenL_s, gv_0, gv_s]
      exact hr _ ⟨k + 1, rfl, hlt, by rw [h2]; exact hp⟩ (by simp [gv, natOf]; omega)
  · have hlt' : ¬ (k : Int) < (l.length : Int) := by omega
    have ha := all_end (p := fun c => idB c.toNat) (by omega : l.length ≤ k) hn
    have h1 : decide ((1 : Int) ≤ (l.length : Int)) = decide (1 ≤ l.length) := by rw [decide_eq_decide]; omega
    have h2 : decide ((l.length : Int) ≤ 250) = decide (l.length ≤ 250) := by rw [decide_eq_decide]; omega
    simp only [hlt', decide_false, if_true, if_false, Bool.false_eq_true, Bool.true_eq_false, reduceCtorEq, opt_s, gBool, gTT, gFF, gTF, gFT, gU, pBool, orN, andN, orI, andI, V.bool.injEq, Bool.true_and, Bool.and_true, Bool.false_and, Bool.and_false, Bool.true_or, Bool.or_true, Bool.false_or, Bool.or_false, Bool.not_true, Bool.not_false, iteB_bool, iteB_true, iteB_false, not_bool, chkB_bool, chkB_undef, bGeq, bLeq, bLss, bGtr, bEql, bNeq, bAdd, bSub, bMul, bSeq, bSne, bSlt, eqB_eq, mmMin, mmMax, ext_tup, cellD_agg, convI_int, lenS_s, lenL_s, gv_0, gv_s, idT, ha, h1, h2]

/-! ### Chapter 2: tuples -/
def okT (a b c d e f : List UInt8) : Bool := nameT a && idT b && nameT c && nameT d && idT e && (f == [] || nameT f)
def tupV (a b c d e f : List UInt8) : V := .agg [.str a, .str b, .str c, .str d, .str e, .str f]
def shortT (a b c d e f : List UInt8) : Prop := a.length ≤ big ∧ b.length ≤ big ∧ c.length ≤ big ∧ d.length ≤ big ∧ e.length ≤ big ∧ f.length ≤ big
instance (a b c d e f : List UInt8) : Decidable (shortT a b c d e f) := by unfold shortT; infer_instance
theorem chk_tup (a b c d e f : List UInt8) : chkK 6 (.agg [.str a, .str b, .str c, .str d, .str e, .str f]) = some (.agg [.str a, .str b, .str c, .str d, .str e, .str f]) := rfl
def F_entailref1_Ok : Spec
  | [.agg [.str a, .str b, .str c, .str d, .str e, .str f]] => if shortT a b c d e f then some (.bool (okT a b c d e f)) else none
  | _ => none
theorem ok_entailref1_Ok : SpecL Try.prog n_entailref1_Ok F_entailref1_Ok := by
  refine go_entailref1_Ok (T := [(n_entailref1_Name, F_entailref1_Name), (n_entailref1_ID, F_entailref1_ID)]) (TabOk.cons ok_entailref1_Name (TabOk.cons ok_entailref1_ID TabOk.nil)) fun args v hv => ?_
  have c_entailref1_Name : ∀ args, tab [(n_entailref1_Name, F_entailref1_Name), (n_entailref1_ID, F_entailref1_ID)] n_entailref1_Name args = F_entailref1_Name args := fun _ => rfl
  have c_entailref1_ID : ∀ args, tab [(n_entailref1_Name, F_entailref1_Name), (n_entailref1_ID, F_entailref1_ID)] n_entailref1_ID args = F_entailref1_ID args := fun _ => rfl
  unfold F_entailref1_Ok at hv
  split at hv <;> (try simp only [Option.ite_none_right_eq_some, Option.some.injEq, reduceCtorEq] at hv)
  rename_i a b c d e f
  obtain ⟨⟨h1, h2, h3, h4, h5, h6⟩, rfl⟩ := hv
  refine ⟨rfl, rfl, rfl, ?_⟩
  rw [e_entailref1_Ok]
  simp only [chk_tup, if_true, if_false, Bool.false_eq_true, Bool.true_eq_false, reduceCtorEq, opt_s, gBool, gTT, gFF, gTF, gFT, gU, pBool, orN, andN, orI, andI, V.bool.injEq, Bool.true_and, Bool.and_true, Bool.false_and, Bool.and_false, Bool.true_or, Bool.or_true, Bool.false_or, Bool.or_false, Bool.not_true, Bool.not_false, iteB_bool, iteB_true, iteB_false, not_bool, chkB_bool, chkB_undef, bGeq, bLeq, bLss, bGtr, bEql, bNeq, bAdd, bSub, bMul, bSeq, bSne, bSlt, eqB_eq, mmMin, mmMax, ext_tup, cellD_agg, convI_int, lenS_s, lenL_s, gv_0, gv_s, List.getD_cons_zero, List.getD_cons_succ, c_entailref1_Name, F_entailref1_Name, c_entailref1_ID, F_entailref1_ID, h1, h2, h3, h4, h5, h6]
  cases ha : nameT a <;> cases hb : idT b <;> cases hc : nameT c <;> cases hd : nameT d <;> cases he : idT e <;> cases hf : (f == []) <;> cases hg : nameT f <;> simp only [if_true, if_false, Bool.false_eq_true, Bool.true_eq_false, reduceCtorEq, opt_s, gBool, gTT, gFF, gTF, gFT, gU, pBool, orN, andN, orI, andI, V.bool.injEq, Bool.true_and, Bool.and_true, Bool.false_and, Bool.and_false, Bool.true_or, Bool.or_true, Bool.false_or, Bool.or_false, Bool.not_true, Bool.not_false, iteB_bool, iteB_true, iteB_false, not_bool, chkB_bool, chkB_undef, bGeq, bLeq, bLss, bGtr, bEql, bNeq, bAdd, bSub, bMul, bSeq, bSne, bSlt, eqB_eq, mmMin, mmMax, ext_tup, cellD_agg, convI_int, lenS_s, lenL_s, gv_0, gv_s, okT, ha, hb, hc, hd, he, hf, hg]
def F_tupl_Ok : Spec
  | [.agg [.str a, .str b, .str c, .str d, .str e, .str f]] => if shortT a b c d e f then some (.bool (okT a b c d e f)) else none
  | _ => none
theorem ok_tupl_Ok : SpecL Try.prog n_tupl_Ok F_tupl_Ok := by
  refine go_tupl_Ok (T := [(n_atom_Name, F_atom_Name), (n_atom_ID, F_atom_ID)]) (TabOk.cons ok_atom_Name (TabOk.cons ok_atom_ID TabOk.nil)) fun args v hv => ?_
  have c_atom_Name : ∀ args, tab [(n_atom_Name, F_atom_Name), (n_atom_ID, F_atom_ID)] n_atom_Name args = F_atom_Name args := fun _ => rfl
  have c_atom_ID : ∀ args, tab [(n_atom_Name, F_atom_Name), (n_atom_ID, F_atom_ID)] n_atom_ID args = F_atom_ID args := fun _ => rfl
  unfold F_tupl_Ok at hv
  split at hv <;> (try simp only [Option.ite_none_right_eq_some, Option.some.injEq, reduceCtorEq] at hv)
  rename_i a b c d e f
  obtain ⟨⟨h1, h2, h3, h4, h5, h6⟩, rfl⟩ := hv
  refine ⟨rfl, rfl, rfl, ?_⟩
  rw [e_tupl_Ok]
  simp only [chk_tup, if_true, if_false, Bool.false_eq_true, Bool.true_eq_false, reduceCtorEq, opt_s, gBool, gTT, gFF, gTF, gFT, gU, pBool, orN, andN, orI, andI, V.bool.injEq, Bool.true_and, Bool.and_true, Bool.false_and, Bool.and_false, Bool.true_or, Bool.or_true, Bool.false_or, Bool.or_false, Bool.not_true, Bool.not_false, iteB_bool, iteB_true, iteB_false, not_bool, chkB_bool, chkB_undef, bGeq, bLeq, bLss, bGtr, bEql, bNeq, bAdd, bSub, bMul, bSeq, bSne, bSlt, eqB_eq, mmMin, mmMax, ext_tup, cellD_agg, convI_int, lenS_s, lenL_s, gv_0, gv_s, List.getD_cons_zero, List.getD_cons_succ, c_atom_Name, F_atom_Name, c_atom_ID, F_atom_ID, h1, h2, h3, h4, h5, h6]
  cases ha : nameT a <;> cases hb : idT b <;> cases hc : nameT c <;> cases hd : nameT d <;> cases he : idT e <;> cases hf : (f == []) <;> cases hg : nameT f <;> simp only [if_true, if_false, Bool.false_eq_true, Bool.true_eq_false, reduceCtorEq, opt_s, gBool, gTT, gFF, gTF, gFT, gU, pBool, orN, andN, orI, andI, V.bool.injEq, Bool.true_and, Bool.and_true, Bool.false_and, Bool.and_false, Bool.true_or, Bool.or_true, Bool.false_or, Bool.or_false, Bool.not_true, Bool.not_false, iteB_bool, iteB_true, iteB_false, not_bool, chkB_bool, chkB_undef, bGeq, bLeq, bLss, bGtr, bEql, bNeq, bAdd, bSub, bMul, bSeq, bSne, bSlt, eqB_eq, mmMin, mmMax, ext_tup, cellD_agg, convI_int, lenS_s, lenL_s, gv_0, gv_s, okT, ha, hb, hc, hd, he, hf, hg]
end Go.Fbs

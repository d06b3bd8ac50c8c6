import Derived.Test.YthkfcmfphjepnaaDU
set_option linter.unusedVariables false
set_option linter.unusedSimpArgs false
set_option linter.unusedSectionVars false
namespace Go.Fbs
open Go.Proofs

/-! ### Chapter 1: parts joined -/
theorem join_step {l : List (List UInt8)} {s : List UInt8} {k : Nat} {x : List UInt8} (h : l[k]? = some x) : Lib.join (l.take (k + 1)) s = (if 0 < k then Lib.join (l.take k) s ++ s else Lib.join (l.take k) s) ++ x := by
  cases l with
  | nil => simp at h
  | cons y r =>
    cases k with
    | zero => simp at h; subst h; simp [Lib.join_one, Lib.join_nil]
    | succ k =>
      rw [if_pos (by omega), List.take_succ_cons, List.take_succ_cons, Lib.join_cons, Lib.join_cons, Lib.joinTail_take_succ s r k x (by simpa using h)]
      simp [List.append_assoc]
theorem join_take_le (l : List (List UInt8)) (s : List UInt8) (k : Nat) : (Lib.join (l.take k) s).length ≤ (Lib.join l s).length := by
  cases l with
  | nil => simp
  | cons y r =>
    cases k with
    | zero => simp [Lib.join_nil]
    | succ k =>
      rw [List.take_succ_cons, Lib.join_cons, Lib.join_cons, List.length_append, List.length_append]
      have := Lib.joinTail_take_le s r k
      omega
def F_entailref1_Glue : Spec
  | [v, .str s] => match cStr.unl v with | some l => if l.length ≤ big ∧ (Lib.join l s).length ≤ big then some (.str (Lib.join l s)) else none | none => none
  | _ => none
theorem ok_entailref1_Glue : SpecL Try.prog n_entailref1_Glue F_entailref1_Glue := by
  refine go_entailref1_Glue (T := []) (TabOk.nil) fun args v hv => ?_
  unfold F_entailref1_Glue at hv
  split at hv <;> (try simp only [Option.ite_none_right_eq_some, Option.some.injEq, reduceCtorEq] at hv)
  split at hv <;> (try simp only [Option.ite_none_right_eq_some, Option.some.injEq, reduceCtorEq] at hv)
  rename_i s _ l hl
  obtain ⟨⟨h1, h2⟩, rfl⟩ := hv
  unfold big at h1 h2
  rw [cStr.lst_unl hl]
  refine ⟨rfl, by simp [canos, cStr.cano_lst, V.cano], rfl, ?_⟩
  rw [e_entailref1_Glue]
  refine loopP_inv (fun vs => ∃ k : Nat, vs = [.str (Lib.join (l.take k) s), vI k] ∧ k ≤ l.length) (fun vs => l.length - natOf (gv vs 1)) ⟨0, by simp [Lib.join_nil], Nat.zero_le _⟩ ?_
  rintro r _ ⟨k, rfl, hk⟩ hr
  refine ⟨rfl, ?_⟩
  simp only [if_true, if_false, Bool.false_eq_true, Bool.true_eq_false, reduceCtorEq, opt_s, gBool, gTT, gFF, gTF, gFT, gU, pBool, orN, andN, orI, andI, V.bool.injEq, Bool.true_and, Bool.and_true, Bool.false_and, Bool.and_false, Bool.true_or, Bool.or_true, Bool.false_or, Bool.or_false, Bool.not_true, Bool.not_false, iteB_bool, iteB_true, iteB_false, not_bool, chkB_bool, chkB_undef, bGeq, bLeq, bLss, bGtr, bEql, bNeq, bAdd, bSub, bMul, bSeq, bSne, bSlt, eqB_eq, mmMin, mmMax, ext_tup, cellD_agg, convI_int, lenS_s, lenL_s, gv_0, gv_s, cStr.len]
  by_cases hlt : k < l.length
  · have hlt' : (k : Int) < (l.length : Int) := by omega
    have hd : l[k]? = some l[k] := List.getElem?_eq_getElem hlt
    have hle := join_take_le l s (k + 1)
    have hs := join_step (s := s) hd
    have hw : IntKind.i64.wrap ((k : Int) + 1) = ((k + 1 : Nat) : Int) := by rw [wrap_in (by omega) (by omega)]; omega
    have step : r [.str (Lib.join (l.take (k + 1)) s), vI (k + 1 : Nat)] := hr _ ⟨k + 1, rfl, hlt⟩ (by simp [gv, natOf]; omega)
    simp only [hlt', decide_true, if_true, if_false, Bool.false_eq_true, Bool.true_eq_false, reduceCtorEq, opt_s, gBool, gTT, gFF, gTF, gFT, gU, pBool, orN, andN, orI, andI, V.bool.injEq, Bool.true_and, Bool.and_true, Bool.false_and, Bool.and_false, Bool.true_or, Bool.or_true, Bool.false_or, Bool.or_false, Bool.not_true, Bool.not_false, iteB_bool, iteB_true, iteB_false, not_bool, chkB_bool, chkB_undef, bGeq, bLeq, bLss, bGtr, bEql, bNeq, bAdd, bSub, bMul, bSeq, bSne, bSlt, eqB_eq, mmMin, mmMax, ext_tup, cellD_agg, convI_int, lenS_s, lenL_s, gv_0, gv_s, joinP_eq, cStr.idx_one hd rfl]
    rw [show cStr.enc l[k] = V.str l[k] from rfl]
    by_cases h0 : 0 < k
    · have h0' : (0 : Int) < (k : Int) := by omega
      rw [if_pos h0] at hs
      rw [hs] at hle step
      simp only [List.length_append] at hle
      have a1 := bSadd (Lib.join (l.take k) s) s (by omega)
      have a2 := bSadd (Lib.join (l.take k) s ++ s) l[k] (by simp only [List.length_append]; omega)
      simp only [h0', decide_true, if_true, if_false, Bool.false_eq_true, Bool.true_eq_false, reduceCtorEq, opt_s, gBool, gTT, gFF, gTF, gFT, gU, pBool, orN, andN, orI, andI, V.bool.injEq, Bool.true_and, Bool.and_true, Bool.false_and, Bool.and_false, Bool.true_or, Bool.or_true, Bool.false_or, Bool.or_false, Bool.not_true, Bool.not_false, iteB_bool, iteB_true, iteB_false, not_bool, chkB_bool, chkB_undef, bGeq, bLeq, bLss, bGtr, bEql, bNeq, bAdd, bSub, bMul, bSeq, bSne, bSlt, eqB_eq, mmMin, mmMax, ext_tup, cellD_agg, convI_int, lenS_s, lenL_s, gv_0, gv_s, a1, a2, hw, List.length_singleton, step, and_self]
      first | done | exact ⟨rfl, trivial⟩
    · have h0' : ¬ (0 : Int) < (k : Int) := by omega
      rw [if_neg h0] at hs
      rw [hs] at hle step
      simp only [List.length_append] at hle
      have a2 := bSadd (Lib.join (l.take k) s) l[k] (by omega)
      simp only [h0', decide_false, if_true, if_false, Bool.false_eq_true, Bool.true_eq_false, reduceCtorEq, opt_s, gBool, gTT, gFF, gTF, gFT, gU, pBool, orN, andN, orI, andI, V.bool.injEq, Bool.true_and, Bool.and_true, Bool.false_and, Bool.and_false, Bool.true_or, Bool.or_true, Bool.false_or, Bool.or_false, Bool.not_true, Bool.not_false, iteB_bool, iteB_true, iteB_false, not_bool, chkB_bool, chkB_undef, bGeq, bLeq, bLss, bGtr, bEql, bNeq, bAdd, bSub, bMul, bSeq, bSne, bSlt, eqB_eq, mmMin, mmMax, ext_tup, cellD_agg, convI_int, lenS_s, lenL_s, gv_0, gv_s, a2, hw, step, and_self]
      first | done | exact ⟨rfl, trivial⟩
  · have hlt' : ¬ (k : Int) < (l.length : Int) := by omega
    rw [List.take_of_length_le (by omega)]
    simp only [hlt', decide_false, if_true, if_false, Bool.false_eq_true, Bool.true_eq_false, reduceCtorEq, opt_s, gBool, gTT, gFF, gTF, gFT, gU, pBool, orN, andN, orI, andI, V.bool.injEq, Bool.true_and, Bool.and_true, Bool.false_and, Bool.and_false, Bool.true_or, Bool.or_true, Bool.false_or, Bool.or_false, Bool.not_true, Bool.not_false, iteB_bool, iteB_true, iteB_false, not_bool, chkB_bool, chkB_undef, bGeq, bLeq, bLss, bGtr, bEql, bNeq, bAdd, bSub, bMul, bSeq, bSne, bSlt, eqB_eq, mmMin, mmMax, ext_tup, cellD_agg, convI_int, lenS_s, lenL_s, gv_0, gv_s]

/-- A tenant's id. -/
def joinT (s : List UInt8) (l : List (List UInt8)) : List UInt8 := s ++ 124 :: Lib.join l [47]
def F_entailref1_Join : Spec
  | [.str s, v] => match cStr.unl v with | some l => if s.length ≤ big ∧ l.length ≤ 140737488355328 ∧ (Lib.join l [47]).length ≤ 140737488355328 then some (.str (joinT s l)) else none | none => none
  | _ => none
theorem joinT_eq (s : List UInt8) (l : List (List UInt8)) : s ++ [124] ++ Lib.join l [47] = joinT s l := by simp [joinT]
theorem ok_entailref1_Join : SpecL Try.prog n_entailref1_Join F_entailref1_Join := by
  refine go_entailref1_Join (T := [(n_entailref1_Glue, F_entailref1_Glue)]) (TabOk.cons ok_entailref1_Glue TabOk.nil) fun args v hv => ?_
  have c_entailref1_Glue : ∀ args, tab [(n_entailref1_Glue, F_entailref1_Glue)] n_entailref1_Glue args = F_entailref1_Glue args := fun _ => rfl
  unfold F_entailref1_Join at hv
  split at hv <;> (try simp only [Option.ite_none_right_eq_some, Option.some.injEq, reduceCtorEq] at hv)
  split at hv <;> (try simp only [Option.ite_none_right_eq_some, Option.some.injEq, reduceCtorEq] at hv)
  rename_i s v _ l hl
  obtain ⟨⟨h1, h2, h3⟩, rfl⟩ := hv
  have h1' := h1
  unfold big at h1'
  rw [cStr.lst_unl hl]
  refine ⟨rfl, by simp [canos, cStr.cano_lst, V.cano], rfl, ?_⟩
  rw [e_entailref1_Join]
  have hg : F_entailref1_Glue [cStr.lst l, .str [47]] = some (.str (Lib.join l [47])) := by
    simp only [F_entailref1_Glue, cStr.unl_lst]
    rw [if_pos ⟨by unfold big; omega, by unfold big; omega⟩]
  have a1 := bSadd s [124] (by simp only [List.length_singleton]; omega)
  have a2 := bSadd (s ++ [124]) (Lib.join l [47]) (by simp only [List.length_append, List.length_singleton]; omega)
  simp only [c_entailref1_Glue, hg, a1, a2, opt_s, joinT_eq]
def F_atom_Join : Spec
  | [.str s, v] => match cStr.unl v with | some l => if s.length ≤ big ∧ l.length ≤ 140737488355328 ∧ (Lib.join l [47]).length ≤ 140737488355328 then some (.str (joinT s l)) else none | none => none
  | _ => none
theorem ok_atom_Join : SpecL Try.prog n_atom_Join F_atom_Join := by
  refine go_atom_Join (T := [(n_strings_Join, F_strings_Join)]) (TabOk.cons ok_strings_Join TabOk.nil) fun args v hv => ?_
  have c_strings_Join : ∀ args, tab [(n_strings_Join, F_strings_Join)] n_strings_Join args = F_strings_Join args := fun _ => rfl
  unfold F_atom_Join at hv
  split at hv <;> (try simp only [Option.ite_none_right_eq_some, Option.some.injEq, reduceCtorEq] at hv)
  split at hv <;> (try simp only [Option.ite_none_right_eq_some, Option.some.injEq, reduceCtorEq] at hv)
  rename_i s v _ l hl
  obtain ⟨⟨h1, h2, h3⟩, rfl⟩ := hv
  have h1' := h1
  unfold big at h1'
  rw [cStr.lst_unl hl]
  refine ⟨rfl, by simp [canos, cStr.cano_lst, V.cano], rfl, ?_⟩
  rw [e_atom_Join]
  have hg : F_strings_Join [cStr.lst l, .str [47]] = some (.str (Lib.join l [47])) := by
    simp only [F_strings_Join, cStr.unl_lst]
    rw [if_pos ⟨h2, h3⟩]
  have a1 := bSadd s [124] (by simp only [List.length_singleton]; omega)
  have a2 := bSadd (s ++ [124]) (Lib.join l [47]) (by simp only [List.length_append, List.length_singleton]; omega)
  simp only [c_strings_Join, hg, a1, a2, opt_s, joinT_eq]

/-! ### Tame names -/
/-- Those bytes that may be in a name, at most so many in all. -/
def tameN : List UInt8 → List UInt8 → List UInt8
  | acc, [] => acc
  | acc, c :: l => if acc.length < 12 then (if nameB c.toNat = true then tameN (acc ++ [c]) l else tameN acc l) else acc
theorem tameN_full : ∀ (l acc : List UInt8), ¬ acc.length < 12 → tameN acc l = acc
  | [], _, _ => rfl
  | c :: l, acc, h => by simp only [tameN, h, if_false]
theorem nameT_n {c : UInt8} : nameT [110, c] = nameB c.toNat := by
  have h : alnB ((110 : UInt8).toNat) = true := by decide
  have h2 : nameB ((110 : UInt8).toNat) = true := by decide
  simp only [nameT, List.length_cons, List.length_nil, List.getD_cons_zero, List.all_cons, List.all_nil, h, h2, Bool.and_true, Bool.true_and]
  rfl
def F_entaillaw1_Tame : Spec
  | [.str l] => if l.length ≤ big then some (.str (tameN [110] l)) else none
  | _ => none
theorem ok_entaillaw1_Tame : SpecL Try.prog n_entaillaw1_Tame F_entaillaw1_Tame := by
  refine go_entaillaw1_Tame (T := [(n_entailref1_Name, F_entailref1_Name)]) (TabOk.cons ok_entailref1_Name TabOk.nil) fun args v hv => ?_
  have c_entailref1_Name : ∀ args, tab [(n_entailref1_Name, F_entailref1_Name)] n_entailref1_Name args = F_entailref1_Name args := fun _ => rfl
  unfold F_entaillaw1_Tame at hv
  split at hv <;> (try simp only [Option.ite_none_right_eq_some, Option.some.injEq, reduceCtorEq] at hv)
  rename_i l
  obtain ⟨hl, rfl⟩ := hv
  unfold big at hl
  refine ⟨rfl, rfl, rfl, ?_⟩
  rw [e_entaillaw1_Tame]
  refine loopP_inv (fun vs => ∃ (k : Nat) (acc : List UInt8), vs = [.str acc, vI k] ∧ k ≤ l.length ∧ acc.length ≤ 12 ∧ tameN acc (l.drop k) = tameN [110] l) (fun vs => l.length - natOf (gv vs 1)) ⟨0, [110], rfl, Nat.zero_le _, by simp, rfl⟩ ?_
  rintro r _ ⟨k, acc, rfl, hk, ha, hn⟩ hr
  refine ⟨rfl, ?_⟩
  simp only [if_true, if_false, Bool.false_eq_true, Bool.true_eq_false, reduceCtorEq, opt_s, gBool, gTT, gFF, gTF, gFT, gU, pBool, orN, andN, orI, andI, V.bool.injEq, Bool.true_and, Bool.and_true, Bool.false_and, Bool.and_false, Bool.true_or, Bool.or_true, Bool.false_or, Bool.or_false, Bool.not_true, Bool.not_false, iteB_bool, iteB_true, iteB_false, not_bool, chkB_bool, chkB_undef, bGeq, bLeq, bLss, bGtr, bEql, bNeq, bAdd, bSub, bMul, bSeq, bSne, bSlt, eqB_eq, mmMin, mmMax, ext_tup, cellD_agg, convI_int, lenS_s, lenL_s, gv_0, gv_s]
  by_cases hlt : k < l.length
  · have hlt' : (k : Int) < (l.length : Int) := by omega
    by_cases h12 : acc.length < 12
    · have h12' : (acc.length : Int) < 12 := by omega
      have hw : IntKind.i64.wrap ((k : Int) + 1) = ((k + 1 : Nat) : Int) := by rw [wrap_in (by omega) (by omega)]; omega
      have hs : sliceS (.str l) (some (.int .i64 k)) (some (.int .i64 ((k + 1 : Nat) : Int))) = some (.str [l[k]]) := by
        rw [sliceS_both (by omega) (by omega)]
        congr 2
        rw [List.take_succ_eq_append_getElem hlt, List.drop_left' (by simp; omega)]
      have ad := bSadd [110] [l[k]] (by simp)
      have ad2 := bSadd acc [l[k]] (by simp only [List.length_singleton]; omega)
      have hN : F_entailref1_Name [.str ([110] ++ [l[k]])] = some (.bool (nameB l[k].toNat)) := by
        simp only [F_entailref1_Name]
        rw [if_pos (by unfold big; simp), show ([110] ++ [l[k]] : List UInt8) = [110, l[k]] from rfl, nameT_n]
      rw [List.drop_eq_getElem_cons hlt] at hn
      simp only [tameN, h12, if_true] at hn
      simp only [hlt', h12', decide_true, if_true, if_false, Bool.false_eq_true, Bool.true_eq_false, reduceCtorEq, opt_s, gBool, gTT, gFF, gTF, gFT, gU, pBool, orN, andN, orI, andI, V.bool.injEq, Bool.true_and, Bool.and_true, Bool.false_and, Bool.and_false, Bool.true_or, Bool.or_true, Bool.false_or, Bool.or_false, Bool.not_true, Bool.not_false, iteB_bool, iteB_true, iteB_false, not_bool, chkB_bool, chkB_undef, bGeq, bLeq, bLss, bGtr, bEql, bNeq, bAdd, bSub, bMul, bSeq, bSne, bSlt, eqB_eq, mmMin, mmMax, ext_tup, cellD_agg, convI_int, lenS_s, lenL_s, gv_0, gv_s, hw, hs, ad, ad2, c_entailref1_Name, hN]
      cases hb : nameB l[k].toNat
      · simp only [hb, Bool.false_eq_true, if_false] at hn
        simp only [if_true, if_false, Bool.false_eq_true, Bool.true_eq_false, reduceCtorEq, opt_s, gBool, gTT, gFF, gTF, gFT, gU, pBool, orN, andN, orI, andI, V.bool.injEq, Bool.true_and, Bool.and_true, Bool.false_and, Bool.and_false, Bool.true_or, Bool.or_true, Bool.false_or, Bool.or_false, Bool.not_true, Bool.not_false, iteB_bool, iteB_true, iteB_false, not_bool, chkB_bool, chkB_undef, bGeq, bLeq, bLss, bGtr, bEql, bNeq, bAdd, bSub, bMul, bSeq, bSne, bSlt, eqB_eq, mmMin, mmMax, ext_tup, cellD_agg, convI_int, lenS_s, lenL_s, gv_0, gv_s]
        exact hr _ ⟨k + 1, acc, rfl, hlt, ha, hn⟩ (by simp [gv, natOf]; omega)
      · simp only [hb, if_true] at hn
        simp only [if_true, if_false, Bool.false_eq_true, Bool.true_eq_false, reduceCtorEq, opt_s, gBool, gTT, gFF, gTF, gFT, gU, pBool, orN, andN, orI, andI, V.bool.injEq, Bool.true_and, Bool.and_true, Bool.false_and, Bool.and_false, Bool.true_or, Bool.or_true, Bool.false_or, Bool.or_false, Bool.not_true, Bool.not_false, iteB_bool, iteB_true, iteB_false, not_bool, chkB_bool, chkB_undef, bGeq, bLeq, bLss, bGtr, bEql, bNeq, bAdd, bSub, bMul, bSeq, bSne, bSlt, eqB_eq, mmMin, mmMax, ext_tup, cellD_agg, convI_int, lenS_s, lenL_s, gv_0, gv_s]
        exact hr _ ⟨k + 1, acc ++ [l[k]], rfl, hlt, by simp; omega, hn⟩ (by simp [gv, natOf]; omega)
    · have h12' : ¬ (acc.length : Int) < 12 := by omega
      rw [tameN_full _ _ h12] at hn
      simp only [hlt', h12', decide_true, decide_false, if_true, if_false, Bool.false_eq_true, Bool.true_eq_false, reduceCtorEq, opt_s, gBool, gTT, gFF, gTF, gFT, gU, pBool, orN, andN, orI, andI, V.bool.injEq, Bool.true_and, Bool.and_true, Bool.false_and, Bool.and_false, Bool.true_or, Bool.or_true, Bool.false_or, Bool.or_false, Bool.not_true, Bool.not_false, iteB_bool, iteB_true, iteB_false, not_bool, chkB_bool, chkB_undef, bGeq, bLeq, bLss, bGtr, bEql, bNeq, bAdd, bSub, bMul, bSeq, bSne, bSlt, eqB_eq, mmMin, mmMax, ext_tup, cellD_agg, convI_int, lenS_s, lenL_s, gv_0, gv_s]
      rw [hn]
  · have hlt' : ¬ (k : Int) < (l.length : Int) := by omega
    rw [List.drop_eq_nil_of_le (by omega)] at hn
    simp only [tameN] at hn
    simp only [hlt', decide_false, if_true, if_false, Bool.false_eq_true, Bool.true_eq_false, reduceCtorEq, opt_s, gBool, gTT, gFF, gTF, gFT, gU, pBool, orN, andN, orI, andI, V.bool.injEq, Bool.true_and, Bool.and_true, Bool.false_and, Bool.and_false, Bool.true_or, Bool.or_true, Bool.false_or, Bool.or_false, Bool.not_true, Bool.not_false, iteB_bool, iteB_true, iteB_false, not_bool, chkB_bool, chkB_undef, bGeq, bLeq, bLss, bGtr, bEql, bNeq, bAdd, bSub, bMul, bSeq, bSne, bSlt, eqB_eq, mmMin, mmMax, ext_tup, cellD_agg, convI_int, lenS_s, lenL_s, gv_0, gv_s, hn]
theorem tameN_ok : ∀ (l acc : List UInt8), 1 ≤ acc.length → acc.length ≤ 12 → alnB (acc.getD 0 0).toNat = true → acc.all (fun c => nameB c.toNat) = true → nameT (tameN acc l) = true ∧ (tameN acc l).length ≤ 12
  | [], acc, h1, h2, h3, h4 => by
    have e1 : decide (1 ≤ acc.length) = true := decide_eq_true h1
    have e2 : decide (acc.length ≤ 30) = true := decide_eq_true (by omega)
    show nameT acc = true ∧ acc.length ≤ 12
    exact ⟨by simp only [nameT, h3, h4, Bool.and_true]; rw [e1, e2]; rfl, h2⟩
  | c :: l, acc, h1, h2, h3, h4 => by
    unfold tameN
    by_cases h : acc.length < 12
    · rw [if_pos h]
      by_cases hc : nameB c.toNat = true
      · rw [if_pos hc]
        refine tameN_ok l _ (by simp) (by simp; omega) ?_ (by rw [List.all_append, h4]; simp [hc])
        rw [List.getD_eq_getElem?_getD, List.getElem?_append_left (by omega), ← List.getD_eq_getElem?_getD]; exact h3
      · rw [if_neg hc]; exact tameN_ok l acc h1 h2 h3 h4
    · rw [if_neg h]
      have e1 : decide (1 ≤ acc.length) = true := decide_eq_true h1
      have e2 : decide (acc.length ≤ 30) = true := decide_eq_true (by omega)
      exact ⟨by simp only [nameT, h3, h4, Bool.and_true]; rw [e1, e2]; rfl, h2⟩
theorem tame_ok (l : List UInt8) : nameT (tameN [110] l) = true ∧ (tameN [110] l).length ≤ 12 := tameN_ok l [110] (by simp) (by simp) (by decide) (by decide)

def F_entaillaw1_awake : Spec
  | [] => some (.bool true)
  | _ => none
theorem ok_entaillaw1_awake : SpecL Try.prog n_entaillaw1_awake F_entaillaw1_awake := by
  refine go_entaillaw1_awake (T := [(n_atom_Split, F_atom_Split), (n_atom_Name, F_atom_Name), (n_atom_ID, F_atom_ID), (n_atom_Join, F_atom_Join)]) (TabOk.cons ok_atom_Split (TabOk.cons ok_atom_Name (TabOk.cons ok_atom_ID (TabOk.cons ok_atom_Join TabOk.nil)))) fun args v hv => ?_
  have c_atom_Split : ∀ args, tab [(n_atom_Split, F_atom_Split), (n_atom_Name, F_atom_Name), (n_atom_ID, F_atom_ID), (n_atom_Join, F_atom_Join)] n_atom_Split args = F_atom_Split args := fun _ => rfl
  have c_atom_Name : ∀ args, tab [(n_atom_Split, F_atom_Split), (n_atom_Name, F_atom_Name), (n_atom_ID, F_atom_ID), (n_atom_Join, F_atom_Join)] n_atom_Name args = F_atom_Name args := fun _ => rfl
  have c_atom_ID : ∀ args, tab [(n_atom_Split, F_atom_Split), (n_atom_Name, F_atom_Name), (n_atom_ID, F_atom_ID), (n_atom_Join, F_atom_Join)] n_atom_ID args = F_atom_ID args := fun _ => rfl
  have c_atom_Join : ∀ args, tab [(n_atom_Split, F_atom_Split), (n_atom_Name, F_atom_Name), (n_atom_ID, F_atom_ID), (n_atom_Join, F_atom_Join)] n_atom_Join args = F_atom_Join args := fun _ => rfl
  unfold F_entaillaw1_awake at hv
  split at hv <;> (try simp only [Option.ite_none_right_eq_some, Option.some.injEq, reduceCtorEq] at hv)
  subst hv
  refine ⟨rfl, rfl, rfl, ?_⟩
  have h : FunWp tyT (tab [(n_atom_Split, F_atom_Split), (n_atom_Name, F_atom_Name), (n_atom_ID, F_atom_ID), (n_atom_Join, F_atom_Join)]) 57 q_entaillaw1_awake [.tmp 0] (cB Try.f35) [] (fun r => r = .bool true) = (V.bool true = V.bool true) := by kernel_rfl
  rw [h]
end Go.Fbs

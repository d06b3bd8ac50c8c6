import Derived.Test.YthkfcmfphjepnaaDV
set_option linter.unusedVariables false
set_option linter.unusedSimpArgs false
set_option linter.unusedSectionVars false
namespace Go.Fbs
open Go.Proofs

theorem s124 {l : List UInt8} (h : nameT l = true) : (124 : UInt8) ∉ l := fun hm => by
  simp only [nameT, Bool.and_eq_true, List.all_eq_true] at h
  have := h.2 124 hm
  rw [show nameB ((124 : UInt8).toNat) = false by decide] at this; simp at this
theorem split_mid {s r : List UInt8} (h : nameT s = true) : splitT (s ++ 124 :: r) = (s, r, true) := by
  unfold splitT; rw [cut_mid (s124 h), if_pos ⟨rfl, h⟩]
theorem split_not {x r : List UInt8} (hx : (124 : UInt8) ∉ x) (h : nameT x = false) : splitT (x ++ 124 :: r) = ([], [], false) := by
  unfold splitT; rw [cut_mid hx]; simp [h]
theorem split_none {x : List UInt8} (hx : (124 : UInt8) ∉ x) : splitT x = ([], [], false) := by
  unfold splitT; rw [cut_none hx]; simp
theorem nameT_dash (l : List UInt8) : nameT (45 :: l) = false := by
  have : alnB ((45 : UInt8).toNat) = false := by decide
  simp only [nameT, List.getD_cons_zero, this, Bool.and_false, Bool.false_and]
def F_entaillaw1_AtomSplits : Spec
  | [.int .i64 _, .int .i64 _, .int .i64 _] => some (.bool true)
  | _ => none
theorem fSplit {l : List UInt8} (h : l.length ≤ big) : F_atom_Split [.str l] = some (cutV (splitT l)) := by simp only [F_atom_Split]; rw [if_pos h]
theorem ok_entaillaw1_AtomSplits : SpecL Try.prog n_entaillaw1_AtomSplits F_entaillaw1_AtomSplits := by
  refine go_entaillaw1_AtomSplits (T := [(n_entaillaw1_Nm, F_entaillaw1_Nm), (n_atom_Split, F_atom_Split), (n_entaillaw1_awake, F_entaillaw1_awake)]) (TabOk.cons ok_entaillaw1_Nm (TabOk.cons ok_atom_Split (TabOk.cons ok_entaillaw1_awake TabOk.nil))) fun args v hv => ?_
  have c_entaillaw1_Nm : ∀ args, tab [(n_entaillaw1_Nm, F_entaillaw1_Nm), (n_atom_Split, F_atom_Split), (n_entaillaw1_awake, F_entaillaw1_awake)] n_entaillaw1_Nm args = F_entaillaw1_Nm args := fun _ => rfl
  have c_atom_Split : ∀ args, tab [(n_entaillaw1_Nm, F_entaillaw1_Nm), (n_atom_Split, F_atom_Split), (n_entaillaw1_awake, F_entaillaw1_awake)] n_atom_Split args = F_atom_Split args := fun _ => rfl
  have c_entaillaw1_awake : ∀ args, tab [(n_entaillaw1_Nm, F_entaillaw1_Nm), (n_atom_Split, F_atom_Split), (n_entaillaw1_awake, F_entaillaw1_awake)] n_entaillaw1_awake args = F_entaillaw1_awake args := fun _ => rfl
  unfold F_entaillaw1_AtomSplits at hv
  split at hv <;> (try simp only [Option.ite_none_right_eq_some, Option.some.injEq, reduceCtorEq] at hv)
  rename_i a b n
  subst hv
  refine ⟨rfl, rfl, rfl, ?_⟩
  rw [e_entaillaw1_AtomSplits]
  have hm : (n % 4).toNat < 4 := modlt (m := 4) (by omega)
  simp only [bAnd3, c_entaillaw1_Nm, F_entaillaw1_Nm, opt_s]
  generalize (n % 4).toNat = q at hm
  refine loopP_inv (fun vs => ∃ k : Nat, vs = [.str (List.replicate k 124), vI k] ∧ k ≤ q) (fun vs => q - natOf (gv vs 1)) ⟨0, rfl, Nat.zero_le _⟩ ?_
  rintro r _ ⟨k, rfl, hk⟩ hr
  refine ⟨rfl, ?_⟩
  simp only [if_true, if_false, Bool.false_eq_true, Bool.true_eq_false, reduceCtorEq, opt_s, gBool, gTT, gFF, gTF, gFT, gU, pBool, orN, andN, orI, andI, V.bool.injEq, Bool.true_and, Bool.and_true, Bool.false_and, Bool.and_false, Bool.true_or, Bool.or_true, Bool.false_or, Bool.or_false, Bool.not_true, Bool.not_false, iteB_bool, iteB_true, iteB_false, not_bool, chkB_bool, chkB_undef, bGeq, bLeq, bLss, bGtr, bEql, bNeq, bAdd, bSub, bMul, bSeq, bSne, bSlt, eqB_eq, mmMin, mmMax, ext_tup, cellD_agg, convI_int, lenS_s, lenL_s, gv_0, gv_s]
  by_cases hlt : k < q
  · have hlt' : (k : Int) < (q : Int) := by omega
    have hw : IntKind.i64.wrap ((k : Int) + 1) = ((k + 1 : Nat) : Int) := by rw [wrap_in (by omega) (by omega)]; omega
    have ad := bSadd (List.replicate k 124) [124] (by simp; omega)
    simp only [hlt', decide_true, if_true, if_false, Bool.false_eq_true, Bool.true_eq_false, reduceCtorEq, opt_s, gBool, gTT, gFF, gTF, gFT, gU, pBool, orN, andN, orI, andI, V.bool.injEq, Bool.true_and, Bool.and_true, Bool.false_and, Bool.and_false, Bool.true_or, Bool.or_true, Bool.false_or, Bool.or_false, Bool.not_true, Bool.not_false, iteB_bool, iteB_true, iteB_false, not_bool, chkB_bool, chkB_undef, bGeq, bLeq, bLss, bGtr, bEql, bNeq, bAdd, bSub, bMul, bSeq, bSne, bSlt, eqB_eq, mmMin, mmMax, ext_tup, cellD_agg, convI_int, lenS_s, lenL_s, gv_0, gv_s, ad, hw]
    exact hr _ ⟨k + 1, by rw [List.replicate_succ'], hlt⟩ (by simp [gv, natOf]; omega)
  · have hlt' : ¬ (k : Int) < (q : Int) := by omega
    have la := nmT_len a
    have lb := nmT_len b
    have a1 := bSadd (nmT a) [124] (by simp; omega)
    have a2 := bSadd (nmT a ++ [124]) (nmT b) (by simp; omega)
    have a3 := bSadd (nmT a ++ [124] ++ nmT b) (List.replicate k 124) (by simp; omega)
    have a4 := bSadd [45] (nmT a) (by simp; omega)
    have a5 := bSadd ([45] ++ nmT a) [124] (by simp; omega)
    have a6 := bSadd ([45] ++ nmT a ++ [124]) (nmT b) (by simp; omega)
    have a7 := bSadd (nmT a) (nmT b) (by omega)
    have a8 := bSadd [124] (nmT a) (by simp; omega)
    have a9 := bSadd (nmT b) (List.replicate k 124) (by simp; omega)
    have na := s124 (nmT_ok a)
    have nb := s124 (nmT_ok b)
    have f1 := fSplit (l := nmT a ++ [124] ++ nmT b ++ List.replicate k 124) (by unfold big; simp; omega)
    have f2 := fSplit (l := [45] ++ nmT a ++ [124] ++ nmT b) (by unfold big; simp; omega)
    have f3 := fSplit (l := nmT a ++ nmT b) (by unfold big; simp; omega)
    have f4 := fSplit (l := [124] ++ nmT a) (by unfold big; simp; omega)
    rw [show nmT a ++ [124] ++ nmT b ++ List.replicate k 124 = nmT a ++ 124 :: (nmT b ++ List.replicate k 124) by simp, split_mid (nmT_ok a)] at f1
    rw [show [45] ++ nmT a ++ [124] ++ nmT b = (45 :: nmT a) ++ 124 :: nmT b by simp, split_not (by simp [na]) (nameT_dash _)] at f2
    rw [split_none (by simp [na, nb])] at f3
    rw [show [124] ++ nmT a = [] ++ 124 :: nmT a by rfl, split_not (by simp) (by rfl)] at f4
    rw [show nmT a ++ [124] ++ nmT b ++ List.replicate k 124 = nmT a ++ 124 :: (nmT b ++ List.replicate k 124) by simp] at a3
    rw [show [45] ++ nmT a ++ [124] ++ nmT b = (45 :: nmT a) ++ 124 :: nmT b by simp] at a6
    rw [show [124] ++ nmT a = [] ++ 124 :: nmT a by rfl] at a8
    simp only [hlt', decide_false, if_true, if_false, Bool.false_eq_true, Bool.true_eq_false, reduceCtorEq, opt_s, gBool, gTT, gFF, gTF, gFT, gU, pBool, orN, andN, orI, andI, V.bool.injEq, Bool.true_and, Bool.and_true, Bool.false_and, Bool.and_false, Bool.true_or, Bool.or_true, Bool.false_or, Bool.or_false, Bool.not_true, Bool.not_false, iteB_bool, iteB_true, iteB_false, not_bool, chkB_bool, chkB_undef, bGeq, bLeq, bLss, bGtr, bEql, bNeq, bAdd, bSub, bMul, bSeq, bSne, bSlt, eqB_eq, mmMin, mmMax, ext_tup, cellD_agg, convI_int, lenS_s, lenL_s, gv_0, gv_s, c_entaillaw1_Nm, F_entaillaw1_Nm, a1, a2, a3, a4, a5, a6, a7, a8, a9, c_atom_Split, f1, f2, f3, f4, cutV, List.getElem?_cons_zero, List.getElem?_cons_succ, beq_self_eq_true, c_entaillaw1_awake, F_entaillaw1_awake]

def F_entaillaw1_AtomTells : Spec
  | [.str s, .str t, v] => match cStr.unl v with | some l => if s.length ≤ big ∧ t.length ≤ big ∧ l.length ≤ big then some (.bool true) else none | none => none
  | _ => none
theorem join_len_le {l : List (List UInt8)} (h : ∀ x ∈ l, x.length ≤ 100) (hl : l.length ≤ 20) : (Lib.join l [47]).length ≤ 3000 := by
  cases l with
  | nil => simp [Lib.join_nil]
  | cons y r =>
    rw [Lib.join_cons, List.length_append, Lib.joinTail_length]
    have h1 := h y (by simp)
    have h2 : ∀ r : List (List UInt8), (∀ x ∈ r, x.length ≤ 100) → Lib.lens r ≤ 100 * r.length := by
      intro r
      induction r with
      | nil => intro _; simp [Lib.lens]
      | cons z r ih =>
        intro h
        have := ih fun x hx => h x (by simp [hx])
        have := h z (by simp)
        simp only [Lib.lens, List.map_cons, List.sum_cons, List.length_cons] at *
        omega
    have h3 := h2 r fun x hx => h x (by simp [hx])
    simp at hl ⊢; omega
theorem ok_entaillaw1_AtomTells : SpecL Try.prog n_entaillaw1_AtomTells F_entaillaw1_AtomTells := by
  refine go_entaillaw1_AtomTells (T := [(n_atom_Split, F_atom_Split), (n_entailref1_Split, F_entailref1_Split), (n_atom_Name, F_atom_Name), (n_entailref1_Name, F_entailref1_Name), (n_atom_ID, F_atom_ID), (n_entailref1_ID, F_entailref1_ID), (n_atom_Join, F_atom_Join), (n_entailref1_Join, F_entailref1_Join), (n_entaillaw1_awake, F_entaillaw1_awake)]) (TabOk.cons ok_atom_Split (TabOk.cons ok_entailref1_Split (TabOk.cons ok_atom_Name (TabOk.cons ok_entailref1_Name (TabOk.cons ok_atom_ID (TabOk.cons ok_entailref1_ID (TabOk.cons ok_atom_Join (TabOk.cons ok_entailref1_Join (TabOk.cons ok_entaillaw1_awake TabOk.nil))))))))) fun args v hv => ?_
  have c_atom_Split : ∀ args, tab [(n_atom_Split, F_atom_Split), (n_entailref1_Split, F_entailref1_Split), (n_atom_Name, F_atom_Name), (n_entailref1_Name, F_entailref1_Name), (n_atom_ID, F_atom_ID), (n_entailref1_ID, F_entailref1_ID), (n_atom_Join, F_atom_Join), (n_entailref1_Join, F_entailref1_Join), (n_entaillaw1_awake, F_entaillaw1_awake)] n_atom_Split args = F_atom_Split args := fun _ => rfl
  have c_entailref1_Split : ∀ args, tab [(n_atom_Split, F_atom_Split), (n_entailref1_Split, F_entailref1_Split), (n_atom_Name, F_atom_Name), (n_entailref1_Name, F_entailref1_Name), (n_atom_ID, F_atom_ID), (n_entailref1_ID, F_entailref1_ID), (n_atom_Join, F_atom_Join), (n_entailref1_Join, F_entailref1_Join), (n_entaillaw1_awake, F_entaillaw1_awake)] n_entailref1_Split args = F_entailref1_Split args := fun _ => rfl
  have c_atom_Name : ∀ args, tab [(n_atom_Split, F_atom_Split), (n_entailref1_Split, F_entailref1_Split), (n_atom_Name, F_atom_Name), (n_entailref1_Name, F_entailref1_Name), (n_atom_ID, F_atom_ID), (n_entailref1_ID, F_entailref1_ID), (n_atom_Join, F_atom_Join), (n_entailref1_Join, F_entailref1_Join), (n_entaillaw1_awake, F_entaillaw1_awake)] n_atom_Name args = F_atom_Name args := fun _ => rfl
  have c_entailref1_Name : ∀ args, tab [(n_atom_Split, F_atom_Split), (n_entailref1_Split, F_entailref1_Split), (n_atom_Name, F_atom_Name), (n_entailref1_Name, F_entailref1_Name), (n_atom_ID, F_atom_ID), (n_entailref1_ID, F_entailref1_ID), (n_atom_Join, F_atom_Join), (n_entailref1_Join, F_entailref1_Join), (n_entaillaw1_awake, F_entaillaw1_awake)] n_entailref1_Name args = F_entailref1_Name args := fun _ => rfl
  have c_atom_ID : ∀ args, tab [(n_atom_Split, F_atom_Split), (n_entailref1_Split, F_entailref1_Split), (n_atom_Name, F_atom_Name), (n_entailref1_Name, F_entailref1_Name), (n_atom_ID, F_atom_ID), (n_entailref1_ID, F_entailref1_ID), (n_atom_Join, F_atom_Join), (n_entailref1_Join, F_entailref1_Join), (n_entaillaw1_awake, F_entaillaw1_awake)] n_atom_ID args = F_atom_ID args := fun _ => rfl
  have c_entailref1_ID : ∀ args, tab [(n_atom_Split, F_atom_Split), (n_entailref1_Split, F_entailref1_Split), (n_atom_Name, F_atom_Name), (n_entailref1_Name, F_entailref1_Name), (n_atom_ID, F_atom_ID), (n_entailref1_ID, F_entailref1_ID), (n_atom_Join, F_atom_Join), (n_entailref1_Join, F_entailref1_Join), (n_entaillaw1_awake, F_entaillaw1_awake)] n_entailref1_ID args = F_entailref1_ID args := fun _ => rfl
  have c_atom_Join : ∀ args, tab [(n_atom_Split, F_atom_Split), (n_entailref1_Split, F_entailref1_Split), (n_atom_Name, F_atom_Name), (n_entailref1_Name, F_entailref1_Name), (n_atom_ID, F_atom_ID), (n_entailref1_ID, F_entailref1_ID), (n_atom_Join, F_atom_Join), (n_entailref1_Join, F_entailref1_Join), (n_entaillaw1_awake, F_entaillaw1_awake)] n_atom_Join args = F_atom_Join args := fun _ => rfl
  have c_entailref1_Join : ∀ args, tab [(n_atom_Split, F_atom_Split), (n_entailref1_Split, F_entailref1_Split), (n_atom_Name, F_atom_Name), (n_entailref1_Name, F_entailref1_Name), (n_atom_ID, F_atom_ID), (n_entailref1_ID, F_entailref1_ID), (n_atom_Join, F_atom_Join), (n_entailref1_Join, F_entailref1_Join), (n_entaillaw1_awake, F_entaillaw1_awake)] n_entailref1_Join args = F_entailref1_Join args := fun _ => rfl
  have c_entaillaw1_awake : ∀ args, tab [(n_atom_Split, F_atom_Split), (n_entailref1_Split, F_entailref1_Split), (n_atom_Name, F_atom_Name), (n_entailref1_Name, F_entailref1_Name), (n_atom_ID, F_atom_ID), (n_entailref1_ID, F_entailref1_ID), (n_atom_Join, F_atom_Join), (n_entailref1_Join, F_entailref1_Join), (n_entaillaw1_awake, F_entaillaw1_awake)] n_entaillaw1_awake args = F_entaillaw1_awake args := fun _ => rfl
  unfold F_entaillaw1_AtomTells at hv
  split at hv <;> (try simp only [Option.ite_none_right_eq_some, Option.some.injEq, reduceCtorEq] at hv)
  split at hv <;> (try simp only [Option.ite_none_right_eq_some, Option.some.injEq, reduceCtorEq] at hv)
  rename_i s t v _ l hl
  obtain ⟨⟨hs, ht, hll⟩, rfl⟩ := hv
  rw [cStr.lst_unl hl]
  refine ⟨rfl, by simp [canos, cStr.cano_lst, V.cano], rfl, ?_⟩
  rw [e_entaillaw1_AtomTells]
  simp only [if_true, if_false, Bool.false_eq_true, Bool.true_eq_false, reduceCtorEq, opt_s, gBool, gTT, gFF, gTF, gFT, gU, pBool, orN, andN, orI, andI, V.bool.injEq, Bool.true_and, Bool.and_true, Bool.false_and, Bool.and_false, Bool.true_or, Bool.or_true, Bool.false_or, Bool.or_false, Bool.not_true, Bool.not_false, iteB_bool, iteB_true, iteB_false, not_bool, chkB_bool, chkB_undef, bGeq, bLeq, bLss, bGtr, bEql, bNeq, bAdd, bSub, bMul, bSeq, bSne, bSlt, eqB_eq, mmMin, mmMax, ext_tup, cellD_agg, convI_int, lenS_s, lenL_s, gv_0, gv_s, cStr.len, c_entaillaw1_awake, F_entaillaw1_awake]
  have fin : l.length ≤ 20 → t.length ≤ 100 → (∀ x ∈ l, x.length ≤ 100) → F_atom_Join [.str t, cStr.lst l] = some (.str (joinT t l)) ∧ F_entailref1_Join [.str t, cStr.lst l] = some (.str (joinT t l)) := by
    intro h1 h2 h3
    have := join_len_le h3 h1
    simp only [F_atom_Join, F_entailref1_Join, cStr.unl_lst]
    rw [if_pos ⟨ht, by omega, by omega⟩]
    exact ⟨rfl, rfl⟩
  have loop : l.length ≤ 20 → t.length ≤ 100 → ∀ (r : List V → Prop) (k : Nat), k ≤ l.length → (∀ x ∈ l.take k, x.length ≤ 100) → True := fun _ _ _ _ _ _ => trivial
  have key : l.length ≤ 20 → t.length ≤ 100 → loopP (fun r0 w0 => w0.length = 1 ∧ (opt (binK .lss (gv w0 0) (.int .i64 l.length)) fun y13 => iteB y13 True True)) [] → True := fun _ _ _ => trivial
  clear loop key
  unfold big at hs ht hll
  by_cases c1 : s.length ≤ 400
  · by_cases c2 : t.length ≤ 100
    · by_cases c3 : l.length ≤ 20
      · have c1' : ¬ (400 : Int) < (s.length : Int) := by omega
        have c2' : ¬ (100 : Int) < (t.length : Int) := by omega
        have c3' : ¬ (20 : Int) < (l.length : Int) := by omega
        simp only [c1', c2', c3', decide_false, if_true, if_false, Bool.false_eq_true, Bool.true_eq_false, reduceCtorEq, opt_s, gBool, gTT, gFF, gTF, gFT, gU, pBool, orN, andN, orI, andI, V.bool.injEq, Bool.true_and, Bool.and_true, Bool.false_and, Bool.and_false, Bool.true_or, Bool.or_true, Bool.false_or, Bool.or_false, Bool.not_true, Bool.not_false, iteB_bool, iteB_true, iteB_false, not_bool, chkB_bool, chkB_undef, bGeq, bLeq, bLss, bGtr, bEql, bNeq, bAdd, bSub, bMul, bSeq, bSne, bSlt, eqB_eq, mmMin, mmMax, ext_tup, cellD_agg, convI_int, lenS_s, lenL_s, gv_0, gv_s]
        refine loopP_inv (fun vs => ∃ k : Nat, vs = [vI k] ∧ k ≤ l.length ∧ ∀ x ∈ l.take k, x.length ≤ 100) (fun vs => l.length - natOf (gv vs 0)) ⟨0, rfl, Nat.zero_le _, by simp⟩ ?_
        rintro r _ ⟨k, rfl, hk, hn⟩ hr
        refine ⟨rfl, ?_⟩
        simp only [if_true, if_false, Bool.false_eq_true, Bool.true_eq_false, reduceCtorEq, opt_s, gBool, gTT, gFF, gTF, gFT, gU, pBool, orN, andN, orI, andI, V.bool.injEq, Bool.true_and, Bool.and_true, Bool.false_and, Bool.and_false, Bool.true_or, Bool.or_true, Bool.false_or, Bool.or_false, Bool.not_true, Bool.not_false, iteB_bool, iteB_true, iteB_false, not_bool, chkB_bool, chkB_undef, bGeq, bLeq, bLss, bGtr, bEql, bNeq, bAdd, bSub, bMul, bSeq, bSne, bSlt, eqB_eq, mmMin, mmMax, ext_tup, cellD_agg, convI_int, lenS_s, lenL_s, gv_0, gv_s]
        by_cases hlt : k < l.length
        · have hlt' : (k : Int) < (l.length : Int) := by omega
          have hd : l[k]? = some l[k] := List.getElem?_eq_getElem hlt
          have hw : IntKind.i64.wrap ((k : Int) + 1) = ((k + 1 : Nat) : Int) := by rw [wrap_in (by omega) (by omega)]; omega
          simp only [hlt', decide_true, if_true, if_false, Bool.false_eq_true, Bool.true_eq_false, reduceCtorEq, opt_s, gBool, gTT, gFF, gTF, gFT, gU, pBool, orN, andN, orI, andI, V.bool.injEq, Bool.true_and, Bool.and_true, Bool.false_and, Bool.and_false, Bool.true_or, Bool.or_true, Bool.false_or, Bool.or_false, Bool.not_true, Bool.not_false, iteB_bool, iteB_true, iteB_false, not_bool, chkB_bool, chkB_undef, bGeq, bLeq, bLss, bGtr, bEql, bNeq, bAdd, bSub, bMul, bSeq, bSne, bSlt, eqB_eq, mmMin, mmMax, ext_tup, cellD_agg, convI_int, lenS_s, lenL_s, gv_0, gv_s, cStr.idx_one hd rfl]
          rw [show cStr.enc l[k] = V.str l[k] from rfl]
          simp only [if_true, if_false, Bool.false_eq_true, Bool.true_eq_false, reduceCtorEq, opt_s, gBool, gTT, gFF, gTF, gFT, gU, pBool, orN, andN, orI, andI, V.bool.injEq, Bool.true_and, Bool.and_true, Bool.false_and, Bool.and_false, Bool.true_or, Bool.or_true, Bool.false_or, Bool.or_false, Bool.not_true, Bool.not_false, iteB_bool, iteB_true, iteB_false, not_bool, chkB_bool, chkB_undef, bGeq, bLeq, bLss, bGtr, bEql, bNeq, bAdd, bSub, bMul, bSeq, bSne, bSlt, eqB_eq, mmMin, mmMax, ext_tup, cellD_agg, convI_int, lenS_s, lenL_s, gv_0, gv_s, hw]
          by_cases c4 : l[k].length ≤ 100
          · have c4' : ¬ (100 : Int) < (l[k].length : Int) := by omega
            simp only [c4', decide_false, if_true, if_false, Bool.false_eq_true, Bool.true_eq_false, reduceCtorEq, opt_s, gBool, gTT, gFF, gTF, gFT, gU, pBool, orN, andN, orI, andI, V.bool.injEq, Bool.true_and, Bool.and_true, Bool.false_and, Bool.and_false, Bool.true_or, Bool.or_true, Bool.false_or, Bool.or_false, Bool.not_true, Bool.not_false, iteB_bool, iteB_true, iteB_false, not_bool, chkB_bool, chkB_undef, bGeq, bLeq, bLss, bGtr, bEql, bNeq, bAdd, bSub, bMul, bSeq, bSne, bSlt, eqB_eq, mmMin, mmMax, ext_tup, cellD_agg, convI_int, lenS_s, lenL_s, gv_0, gv_s]
            refine hr _ ⟨k + 1, rfl, hlt, fun x hx => ?_⟩ (by simp [gv, natOf]; omega)
            rw [List.take_add_one, hd] at hx
            rcases List.mem_append.1 hx with hx | hx
            · exact hn x hx
            · simp at hx; subst hx; exact c4
          · have c4' : (100 : Int) < (l[k].length : Int) := by omega
            simp only [c4', decide_true, if_true, if_false, Bool.false_eq_true, Bool.true_eq_false, reduceCtorEq, opt_s, gBool, gTT, gFF, gTF, gFT, gU, pBool, orN, andN, orI, andI, V.bool.injEq, Bool.true_and, Bool.and_true, Bool.false_and, Bool.and_false, Bool.true_or, Bool.or_true, Bool.false_or, Bool.or_false, Bool.not_true, Bool.not_false, iteB_bool, iteB_true, iteB_false, not_bool, chkB_bool, chkB_undef, bGeq, bLeq, bLss, bGtr, bEql, bNeq, bAdd, bSub, bMul, bSeq, bSne, bSlt, eqB_eq, mmMin, mmMax, ext_tup, cellD_agg, convI_int, lenS_s, lenL_s, gv_0, gv_s]
        · have hlt' : ¬ (k : Int) < (l.length : Int) := by omega
          rw [List.take_of_length_le (by omega)] at hn
          have hj := fin c3 c2 hn
          have hs' : s.length ≤ big := hs
          have f1 : F_atom_Split [.str s] = some (cutV (splitT s)) := fSplit hs'
          have f2 : F_entailref1_Split [.str s] = some (cutV (splitT s)) := by simp only [F_entailref1_Split]; rw [if_pos hs']
          have f3 : F_atom_Name [.str s] = some (.bool (nameT s)) := by simp only [F_atom_Name]; rw [if_pos hs']
          have f4 : F_entailref1_Name [.str s] = some (.bool (nameT s)) := by simp only [F_entailref1_Name]; rw [if_pos hs']
          have f5 : F_atom_ID [.str s] = some (.bool (idT s)) := by simp only [F_atom_ID]; rw [if_pos hs']
          have f6 : F_entailref1_ID [.str s] = some (.bool (idT s)) := by simp only [F_entailref1_ID]; rw [if_pos hs']
          simp only [hlt', decide_false, if_true, if_false, Bool.false_eq_true, Bool.true_eq_false, reduceCtorEq, opt_s, gBool, gTT, gFF, gTF, gFT, gU, pBool, orN, andN, orI, andI, V.bool.injEq, Bool.true_and, Bool.and_true, Bool.false_and, Bool.and_false, Bool.true_or, Bool.or_true, Bool.false_or, Bool.or_false, Bool.not_true, Bool.not_false, iteB_bool, iteB_true, iteB_false, not_bool, chkB_bool, chkB_undef, bGeq, bLeq, bLss, bGtr, bEql, bNeq, bAdd, bSub, bMul, bSeq, bSne, bSlt, eqB_eq, mmMin, mmMax, ext_tup, cellD_agg, convI_int, lenS_s, lenL_s, gv_0, gv_s, c_atom_Split, c_entailref1_Split, c_atom_Name, c_entailref1_Name, c_atom_ID, c_entailref1_ID, c_atom_Join, c_entailref1_Join, f1, f2, f3, f4, f5, f6, hj, cutV, List.getElem?_cons_zero, List.getElem?_cons_succ, beq_self_eq_true, bne, bqF]
      · have c3' : (20 : Int) < (l.length : Int) := by omega
        simp [if_true, if_false, Bool.false_eq_true, Bool.true_eq_false, reduceCtorEq, opt_s, gBool, gTT, gFF, gTF, gFT, gU, pBool, orN, andN, orI, andI, V.bool.injEq, Bool.true_and, Bool.and_true, Bool.false_and, Bool.and_false, Bool.true_or, Bool.or_true, Bool.false_or, Bool.or_false, Bool.not_true, Bool.not_false, iteB_bool, iteB_true, iteB_false, not_bool, chkB_bool, chkB_undef, bGeq, bLeq, bLss, bGtr, bEql, bNeq, bAdd, bSub, bMul, bSeq, bSne, bSlt, eqB_eq, mmMin, mmMax, ext_tup, cellD_agg, convI_int, lenS_s, lenL_s, gv_0, gv_s, c3']
    · have c2' : (100 : Int) < (t.length : Int) := by omega
      simp [if_true, if_false, Bool.false_eq_true, Bool.true_eq_false, reduceCtorEq, opt_s, gBool, gTT, gFF, gTF, gFT, gU, pBool, orN, andN, orI, andI, V.bool.injEq, Bool.true_and, Bool.and_true, Bool.false_and, Bool.and_false, Bool.true_or, Bool.or_true, Bool.false_or, Bool.or_false, Bool.not_true, Bool.not_false, iteB_bool, iteB_true, iteB_false, not_bool, chkB_bool, chkB_undef, bGeq, bLeq, bLss, bGtr, bEql, bNeq, bAdd, bSub, bMul, bSeq, bSne, bSlt, eqB_eq, mmMin, mmMax, ext_tup, cellD_agg, convI_int, lenS_s, lenL_s, gv_0, gv_s, c2']
  · have c1' : (400 : Int) < (s.length : Int) := by omega
    simp [if_true, if_false, Bool.false_eq_true, Bool.true_eq_false, reduceCtorEq, opt_s, gBool, gTT, gFF, gTF, gFT, gU, pBool, orN, andN, orI, andI, V.bool.injEq, Bool.true_and, Bool.and_true, Bool.false_and, Bool.and_false, Bool.true_or, Bool.or_true, Bool.false_or, Bool.or_false, Bool.not_true, Bool.not_false, iteB_bool, iteB_true, iteB_false, not_bool, chkB_bool, chkB_undef, bGeq, bLeq, bLss, bGtr, bEql, bNeq, bAdd, bSub, bMul, bSeq, bSne, bSlt, eqB_eq, mmMin, mmMax, ext_tup, cellD_agg, convI_int, lenS_s, lenL_s, gv_0, gv_s, c1']
end Go.Fbs

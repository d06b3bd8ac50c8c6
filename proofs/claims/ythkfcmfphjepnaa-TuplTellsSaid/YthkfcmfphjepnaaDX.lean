import Derived.Test.YthkfcmfphjepnaaDW
set_option linter.unusedVariables false
set_option linter.unusedSimpArgs false
set_option linter.unusedSectionVars false
namespace Go.Fbs
open Go.Proofs

def F_entaillaw1_AtomBack : Spec
  | [.str s, .str u, v, v'] =>
    match cStr.unl v, cStr.unl v' with
    | some l, some m => if s.length ≤ big ∧ u.length ≤ big ∧ l.length ≤ big ∧ m.length ≤ big ∧ (Lib.join l [47]).length ≤ 140737488355328 ∧ (Lib.join m [47]).length ≤ 140737488355328 then some (.bool true) else none
    | _, _ => none
  | _ => none
theorem join_inj {x y : List UInt8} {l m : List (List UInt8)} (hx : nameT x = true) (hy : nameT y = true) (h : joinT x l = joinT y m) : x = y := by
  have h1 := split_mid (r := Lib.join l [47]) hx
  have h2 := split_mid (r := Lib.join m [47]) hy
  unfold joinT at h
  rw [h, h2] at h1
  simp only [Prod.mk.injEq] at h1
  exact h1.1.symm
theorem ok_entaillaw1_AtomBack : SpecL Try.prog n_entaillaw1_AtomBack F_entaillaw1_AtomBack := by
  refine go_entaillaw1_AtomBack (T := [(n_entaillaw1_Tame, F_entaillaw1_Tame), (n_atom_Join, F_atom_Join), (n_atom_Split, F_atom_Split), (n_entailref1_Glue, F_entailref1_Glue), (n_atom_Name, F_atom_Name), (n_entaillaw1_awake, F_entaillaw1_awake)]) (TabOk.cons ok_entaillaw1_Tame (TabOk.cons ok_atom_Join (TabOk.cons ok_atom_Split (TabOk.cons ok_entailref1_Glue (TabOk.cons ok_atom_Name (TabOk.cons ok_entaillaw1_awake TabOk.nil)))))) fun args v hv => ?_
  have c_entaillaw1_Tame : ∀ args, tab [(n_entaillaw1_Tame, F_entaillaw1_Tame), (n_atom_Join, F_atom_Join), (n_atom_Split, F_atom_Split), (n_entailref1_Glue, F_entailref1_Glue), (n_atom_Name, F_atom_Name), (n_entaillaw1_awake, F_entaillaw1_awake)] n_entaillaw1_Tame args = F_entaillaw1_Tame args := fun _ => rfl
  have c_atom_Join : ∀ args, tab [(n_entaillaw1_Tame, F_entaillaw1_Tame), (n_atom_Join, F_atom_Join), (n_atom_Split, F_atom_Split), (n_entailref1_Glue, F_entailref1_Glue), (n_atom_Name, F_atom_Name), (n_entaillaw1_awake, F_entaillaw1_awake)] n_atom_Join args = F_atom_Join args := fun _ => rfl
  have c_atom_Split : ∀ args, tab [(n_entaillaw1_Tame, F_entaillaw1_Tame), (n_atom_Join, F_atom_Join), (n_atom_Split, F_atom_Split), (n_entailref1_Glue, F_entailref1_Glue), (n_atom_Name, F_atom_Name), (n_entaillaw1_awake, F_entaillaw1_awake)] n_atom_Split args = F_atom_Split args := fun _ => rfl
  have c_entailref1_Glue : ∀ args, tab [(n_entaillaw1_Tame, F_entaillaw1_Tame), (n_atom_Join, F_atom_Join), (n_atom_Split, F_atom_Split), (n_entailref1_Glue, F_entailref1_Glue), (n_atom_Name, F_atom_Name), (n_entaillaw1_awake, F_entaillaw1_awake)] n_entailref1_Glue args = F_entailref1_Glue args := fun _ => rfl
  have c_atom_Name : ∀ args, tab [(n_entaillaw1_Tame, F_entaillaw1_Tame), (n_atom_Join, F_atom_Join), (n_atom_Split, F_atom_Split), (n_entailref1_Glue, F_entailref1_Glue), (n_atom_Name, F_atom_Name), (n_entaillaw1_awake, F_entaillaw1_awake)] n_atom_Name args = F_atom_Name args := fun _ => rfl
  have c_entaillaw1_awake : ∀ args, tab [(n_entaillaw1_Tame, F_entaillaw1_Tame), (n_atom_Join, F_atom_Join), (n_atom_Split, F_atom_Split), (n_entailref1_Glue, F_entailref1_Glue), (n_atom_Name, F_atom_Name), (n_entaillaw1_awake, F_entaillaw1_awake)] n_entaillaw1_awake args = F_entaillaw1_awake args := fun _ => rfl
  unfold F_entaillaw1_AtomBack at hv
  split at hv <;> (try simp only [Option.ite_none_right_eq_some, Option.some.injEq, reduceCtorEq] at hv)
  split at hv <;> (try simp only [Option.ite_none_right_eq_some, Option.some.injEq, reduceCtorEq] at hv)
  rename_i s u v v' _ _ l m hl hm
  obtain ⟨⟨h1, h2, h3, h4, h5, h6⟩, rfl⟩ := hv
  rw [cStr.lst_unl hl, cStr.lst_unl hm]
  refine ⟨rfl, by simp [canos, cStr.cano_lst, V.cano], rfl, ?_⟩
  rw [e_entaillaw1_AtomBack]
  simp only [if_true, if_false, Bool.false_eq_true, Bool.true_eq_false, reduceCtorEq, opt_s, gBool, gTT, gFF, gTF, gFT, gU, pBool, orN, andN, orI, andI, V.bool.injEq, Bool.true_and, Bool.and_true, Bool.false_and, Bool.and_false, Bool.true_or, Bool.or_true, Bool.false_or, Bool.or_false, Bool.not_true, Bool.not_false, iteB_bool, iteB_true, iteB_false, not_bool, chkB_bool, chkB_undef, bGeq, bLeq, bLss, bGtr, bEql, bNeq, bAdd, bSub, bMul, bSeq, bSne, bSlt, eqB_eq, mmMin, mmMax, ext_tup, cellD_agg, convI_int, lenS_s, lenL_s, gv_0, gv_s, cStr.len, c_entaillaw1_awake, F_entaillaw1_awake]
  by_cases c1 : l.length ≤ 10
  · by_cases c2 : m.length ≤ 10
    · have c1' : ¬ (10 : Int) < (l.length : Int) := by omega
      have c2' : ¬ (10 : Int) < (m.length : Int) := by omega
      have hx := tame_ok s
      have hy := tame_ok u
      have f1 : F_entaillaw1_Tame [.str s] = some (.str (tameN [110] s)) := by simp only [F_entaillaw1_Tame]; rw [if_pos h1]
      have f2 : F_entaillaw1_Tame [.str u] = some (.str (tameN [110] u)) := by simp only [F_entaillaw1_Tame]; rw [if_pos h2]
      generalize tameN [110] s = x at *
      generalize tameN [110] u = y at *
      have g1 : F_atom_Join [.str x, cStr.lst l] = some (.str (joinT x l)) := by simp only [F_atom_Join, cStr.unl_lst]; rw [if_pos ⟨by unfold big; omega, by omega, h5⟩]
      have g2 : F_atom_Join [.str y, cStr.lst m] = some (.str (joinT y m)) := by simp only [F_atom_Join, cStr.unl_lst]; rw [if_pos ⟨by unfold big; omega, by omega, h6⟩]
      have g3 : F_atom_Split [.str (joinT x l)] = some (cutV (x, Lib.join l [47], true)) := by
        rw [fSplit (by unfold joinT big; simp; omega)]
        unfold joinT; rw [split_mid hx.1]
      have g4 : F_entailref1_Glue [cStr.lst l, .str [47]] = some (.str (Lib.join l [47])) := by simp only [F_entailref1_Glue, cStr.unl_lst]; rw [if_pos ⟨h3, by unfold big; omega⟩]
      have g5 : F_atom_Name [.str x] = some (.bool true) := by simp only [F_atom_Name]; rw [if_pos (by unfold big; omega), hx.1]
      simp only [c1', c2', decide_false, if_true, if_false, Bool.false_eq_true, Bool.true_eq_false, reduceCtorEq, opt_s, gBool, gTT, gFF, gTF, gFT, gU, pBool, orN, andN, orI, andI, V.bool.injEq, Bool.true_and, Bool.and_true, Bool.false_and, Bool.and_false, Bool.true_or, Bool.or_true, Bool.false_or, Bool.or_false, Bool.not_true, Bool.not_false, iteB_bool, iteB_true, iteB_false, not_bool, chkB_bool, chkB_undef, bGeq, bLeq, bLss, bGtr, bEql, bNeq, bAdd, bSub, bMul, bSeq, bSne, bSlt, eqB_eq, mmMin, mmMax, ext_tup, cellD_agg, convI_int, lenS_s, lenL_s, gv_0, gv_s, c_entaillaw1_Tame, f1, f2, c_atom_Join, g1, g2, c_atom_Split, g3, c_entailref1_Glue, g4, c_atom_Name, g5, cutV, List.getElem?_cons_zero, List.getElem?_cons_succ, beq_self_eq_true]
      by_cases hxy : x = y
      · subst hxy
        simp only [beq_self_eq_true, if_true, if_false, Bool.false_eq_true, Bool.true_eq_false, reduceCtorEq, opt_s, gBool, gTT, gFF, gTF, gFT, gU, pBool, orN, andN, orI, andI, V.bool.injEq, Bool.true_and, Bool.and_true, Bool.false_and, Bool.and_false, Bool.true_or, Bool.or_true, Bool.false_or, Bool.or_false, Bool.not_true, Bool.not_false, iteB_bool, iteB_true, iteB_false, not_bool, chkB_bool, chkB_undef, bGeq, bLeq, bLss, bGtr, bEql, bNeq, bAdd, bSub, bMul, bSeq, bSne, bSlt, eqB_eq, mmMin, mmMax, ext_tup, cellD_agg, convI_int, lenS_s, lenL_s, gv_0, gv_s]
      · have e1 : (x == y) = false := by simpa using hxy
        have e2 : (joinT x l == joinT y m) = false := by simpa using fun h => hxy (join_inj hx.1 hy.1 h)
        simp only [e1, e2, if_true, if_false, Bool.false_eq_true, Bool.true_eq_false, reduceCtorEq, opt_s, gBool, gTT, gFF, gTF, gFT, gU, pBool, orN, andN, orI, andI, V.bool.injEq, Bool.true_and, Bool.and_true, Bool.false_and, Bool.and_false, Bool.true_or, Bool.or_true, Bool.false_or, Bool.or_false, Bool.not_true, Bool.not_false, iteB_bool, iteB_true, iteB_false, not_bool, chkB_bool, chkB_undef, bGeq, bLeq, bLss, bGtr, bEql, bNeq, bAdd, bSub, bMul, bSeq, bSne, bSlt, eqB_eq, mmMin, mmMax, ext_tup, cellD_agg, convI_int, lenS_s, lenL_s, gv_0, gv_s]
    · have c2' : (10 : Int) < (m.length : Int) := by omega
      simp [if_true, if_false, Bool.false_eq_true, Bool.true_eq_false, reduceCtorEq, opt_s, gBool, gTT, gFF, gTF, gFT, gU, pBool, orN, andN, orI, andI, V.bool.injEq, Bool.true_and, Bool.and_true, Bool.false_and, Bool.and_false, Bool.true_or, Bool.or_true, Bool.false_or, Bool.or_false, Bool.not_true, Bool.not_false, iteB_bool, iteB_true, iteB_false, not_bool, chkB_bool, chkB_undef, bGeq, bLeq, bLss, bGtr, bEql, bNeq, bAdd, bSub, bMul, bSeq, bSne, bSlt, eqB_eq, mmMin, mmMax, ext_tup, cellD_agg, convI_int, lenS_s, lenL_s, gv_0, gv_s, c2']
  · have c1' : (10 : Int) < (l.length : Int) := by omega
    simp [if_true, if_false, Bool.false_eq_true, Bool.true_eq_false, reduceCtorEq, opt_s, gBool, gTT, gFF, gTF, gFT, gU, pBool, orN, andN, orI, andI, V.bool.injEq, Bool.true_and, Bool.and_true, Bool.false_and, Bool.and_false, Bool.true_or, Bool.or_true, Bool.false_or, Bool.or_false, Bool.not_true, Bool.not_false, iteB_bool, iteB_true, iteB_false, not_bool, chkB_bool, chkB_undef, bGeq, bLeq, bLss, bGtr, bEql, bNeq, bAdd, bSub, bMul, bSeq, bSne, bSlt, eqB_eq, mmMin, mmMax, ext_tup, cellD_agg, convI_int, lenS_s, lenL_s, gv_0, gv_s, c1']

def F_entaillaw1_AtomBounds : Spec
  | [.int .u8 c, .int .i64 _, .int .i64 _] => if 0 ≤ c ∧ c < 256 then some (.bool true) else none
  | _ => none
theorem all_rep {p : UInt8 → Bool} {c : UInt8} (h : p c = true) : ∀ k, (List.replicate k c).all p = true
  | 0 => rfl
  | k + 1 => by rw [List.replicate_succ, List.all_cons, h, all_rep h k]; rfl
theorem nameT_rep {k : Nat} (hk : 1 ≤ k) : nameT (List.replicate k 122) = decide (k ≤ 30) := by
  have h1 : (List.replicate k (122 : UInt8)).getD 0 0 = 122 := by cases k; omega; rfl
  have h2 : (List.replicate k (122 : UInt8)).all (fun c => nameB c.toNat) = true := all_rep (p := fun c => nameB c.toNat) (by decide) k
  have h3 : alnB ((122 : UInt8).toNat) = true := by decide
  simp only [nameT, h1, h2, h3, List.length_replicate, Bool.and_true]
  rw [decide_eq_true hk, Bool.true_and]
theorem idT_rep {k : Nat} (hk : 1 ≤ k) : idT (List.replicate k 47) = decide (k ≤ 250) := by
  have h2 : (List.replicate k (47 : UInt8)).all (fun c => idB c.toNat) = true := all_rep (p := fun c => idB c.toNat) (by decide) k
  simp only [idT, h2, List.length_replicate, Bool.and_true]
  rw [decide_eq_true hk, Bool.true_and]
theorem name_one (c : UInt8) : nameT [c] = alnB c.toNat := by
  simp only [nameT, List.length_singleton, List.getD_cons_zero, List.all_cons, List.all_nil, Bool.and_true]
  show (true && true && alnB c.toNat && nameB c.toNat) = _
  cases h : alnB c.toNat <;> simp [nameB, h]
theorem name_a (c : UInt8) : nameT [97, c] = nameB c.toNat := by
  have h : alnB ((97 : UInt8).toNat) = true := by decide
  have h2 : nameB ((97 : UInt8).toNat) = true := by decide
  simp only [nameT, List.length_cons, List.length_nil, List.getD_cons_zero, List.all_cons, List.all_nil, h, h2, Bool.and_true, Bool.true_and]
  rfl
theorem id_one (c : UInt8) : idT [c] = idB c.toNat := by
  simp only [idT, List.length_singleton, List.all_cons, List.all_nil, Bool.and_true]
  show (true && true && idB c.toNat) = _
  rfl
theorem convBS_one (c : UInt8) : convBS (.sl .ro [.int .u8 c.toNat]) = some (.str [c]) := by
  simp [convBS]
theorem byte_of {c : Int} (h1 : 0 ≤ c) (h2 : c < 256) : ∃ b : UInt8, c = (b.toNat : Int) := by
  refine ⟨UInt8.ofNat c.toNat, ?_⟩
  have : c.toNat < 256 := by omega
  simp [Nat.mod_eq_of_lt this]; omega
theorem ok_entaillaw1_AtomBounds : SpecL Try.prog n_entaillaw1_AtomBounds F_entaillaw1_AtomBounds := by
  refine go_entaillaw1_AtomBounds (T := [(n_atom_Name, F_atom_Name), (n_atom_ID, F_atom_ID), (n_entaillaw1_awake, F_entaillaw1_awake)]) (TabOk.cons ok_atom_Name (TabOk.cons ok_atom_ID (TabOk.cons ok_entaillaw1_awake TabOk.nil))) fun args v hv => ?_
  have c_atom_Name : ∀ args, tab [(n_atom_Name, F_atom_Name), (n_atom_ID, F_atom_ID), (n_entaillaw1_awake, F_entaillaw1_awake)] n_atom_Name args = F_atom_Name args := fun _ => rfl
  have c_atom_ID : ∀ args, tab [(n_atom_Name, F_atom_Name), (n_atom_ID, F_atom_ID), (n_entaillaw1_awake, F_entaillaw1_awake)] n_atom_ID args = F_atom_ID args := fun _ => rfl
  have c_entaillaw1_awake : ∀ args, tab [(n_atom_Name, F_atom_Name), (n_atom_ID, F_atom_ID), (n_entaillaw1_awake, F_entaillaw1_awake)] n_entaillaw1_awake args = F_entaillaw1_awake args := fun _ => rfl
  unfold F_entaillaw1_AtomBounds at hv
  split at hv <;> (try simp only [Option.ite_none_right_eq_some, Option.some.injEq, reduceCtorEq] at hv)
  rename_i c n k
  obtain ⟨hc, rfl⟩ := hv
  obtain ⟨b, rfl⟩ := byte_of hc.1 hc.2
  refine ⟨rfl, rfl, rfl, ?_⟩
  rw [e_entaillaw1_AtomBounds]
  have hn : (n % 8).toNat < 8 := modlt (m := 8) (by omega)
  have hk : (k % 8).toNat < 8 := modlt (m := 8) (by omega)
  simp only [bAnd7, opt_s, bAdd]
  generalize (n % 8).toNat = n0 at hn
  generalize (k % 8).toNat = k0 at hk
  have wn : IntKind.i64.wrap (25 + (n0 : Int)) = ((25 + n0 : Nat) : Int) := by rw [wrap_in (by omega) (by omega)]; omega
  have wk : IntKind.i64.wrap (245 + (k0 : Int)) = ((245 + k0 : Nat) : Int) := by rw [wrap_in (by omega) (by omega)]; omega
  rw [wn, wk]
  refine loopP_inv (fun vs => ∃ i : Nat, vs = [.str (List.replicate (min i (25 + n0)) 122), .str (List.replicate i 47), vI i] ∧ i ≤ 245 + k0) (fun vs => 245 + k0 - natOf (gv vs 2)) ⟨0, by simp, Nat.zero_le _⟩ ?_
  rintro r _ ⟨i, rfl, hi⟩ hr
  refine ⟨rfl, ?_⟩
  simp only [if_true, if_false, Bool.false_eq_true, Bool.true_eq_false, reduceCtorEq, opt_s, gBool, gTT, gFF, gTF, gFT, gU, pBool, orN, andN, orI, andI, V.bool.injEq, Bool.true_and, Bool.and_true, Bool.false_and, Bool.and_false, Bool.true_or, Bool.or_true, Bool.false_or, Bool.or_false, Bool.not_true, Bool.not_false, iteB_bool, iteB_true, iteB_false, not_bool, chkB_bool, chkB_undef, bGeq, bLeq, bLss, bGtr, bEql, bNeq, bAdd, bSub, bMul, bSeq, bSne, bSlt, eqB_eq, mmMin, mmMax, ext_tup, cellD_agg, convI_int, lenS_s, lenL_s, gv_0, gv_s]
  by_cases hlt : i < 245 + k0
  · have hlt' : (i : Int) < ((245 + k0 : Nat) : Int) := by omega
    have hw : IntKind.i64.wrap ((i : Int) + 1) = ((i + 1 : Nat) : Int) := by rw [wrap_in (by omega) (by omega)]; omega
    have a1 := bSadd (List.replicate i 47) [47] (by simp; omega)
    have step : r [.str (List.replicate (min (i + 1) (25 + n0)) 122), .str (List.replicate (i + 1) 47), vI (i + 1 : Nat)] := hr _ ⟨i + 1, rfl, hlt⟩ (by simp [gv, natOf]; omega)
    rw [List.replicate_succ' (n := i)] at step
    by_cases h2 : i < 25 + n0
    · have h2' : (i : Int) < ((25 + n0 : Nat) : Int) := by omega
      have a2 := bSadd (List.replicate (min i (25 + n0)) 122) [122] (by simp; omega)
      rw [show min (i + 1) (25 + n0) = min i (25 + n0) + 1 by omega, List.replicate_succ' (n := min i (25 + n0))] at step
      simp only [hlt', h2', decide_true, joinP_eq, if_true, if_false, Bool.false_eq_true, Bool.true_eq_false, reduceCtorEq, opt_s, gBool, gTT, gFF, gTF, gFT, gU, pBool, orN, andN, orI, andI, V.bool.injEq, Bool.true_and, Bool.and_true, Bool.false_and, Bool.and_false, Bool.true_or, Bool.or_true, Bool.false_or, Bool.or_false, Bool.not_true, Bool.not_false, iteB_bool, iteB_true, iteB_false, not_bool, chkB_bool, chkB_undef, bGeq, bLeq, bLss, bGtr, bEql, bNeq, bAdd, bSub, bMul, bSeq, bSne, bSlt, eqB_eq, mmMin, mmMax, ext_tup, cellD_agg, convI_int, lenS_s, lenL_s, gv_0, gv_s, a1, a2, hw, List.length_singleton, true_and, step]
    · have h2' : ¬ (i : Int) < ((25 + n0 : Nat) : Int) := by omega
      rw [show min (i + 1) (25 + n0) = min i (25 + n0) by omega] at step
      simp only [hlt', h2', decide_true, decide_false, joinP_eq, if_true, if_false, Bool.false_eq_true, Bool.true_eq_false, reduceCtorEq, opt_s, gBool, gTT, gFF, gTF, gFT, gU, pBool, orN, andN, orI, andI, V.bool.injEq, Bool.true_and, Bool.and_true, Bool.false_and, Bool.and_false, Bool.true_or, Bool.or_true, Bool.false_or, Bool.or_false, Bool.not_true, Bool.not_false, iteB_bool, iteB_true, iteB_false, not_bool, chkB_bool, chkB_undef, bGeq, bLeq, bLss, bGtr, bEql, bNeq, bAdd, bSub, bMul, bSeq, bSne, bSlt, eqB_eq, mmMin, mmMax, ext_tup, cellD_agg, convI_int, lenS_s, lenL_s, gv_0, gv_s, a1, hw, List.length_singleton, true_and, step]
  · have hlt' : ¬ (i : Int) < ((245 + k0 : Nat) : Int) := by omega
    have hi' : i = 245 + k0 := by omega
    have f1 : F_atom_Name [.str (List.replicate (min i (25 + n0)) 122)] = some (.bool (decide (((25 + n0 : Nat) : Int) ≤ 30))) := by
      simp only [F_atom_Name]
      rw [if_pos (by unfold big; simp; omega), nameT_rep (by omega)]
      congr 2; rw [decide_eq_decide]; omega
    have f2 : F_atom_ID [.str (List.replicate i 47)] = some (.bool (decide (((245 + k0 : Nat) : Int) ≤ 250))) := by
      simp only [F_atom_ID]
      rw [if_pos (by unfold big; simp; omega), idT_rep (by omega)]
      congr 2; rw [decide_eq_decide]; omega
    have f3 : F_atom_Name [.str [b]] = some (.bool (alnB b.toNat)) := by simp only [F_atom_Name]; rw [if_pos (by unfold big; simp), name_one]
    have f4 : F_atom_Name [.str ([97] ++ [b])] = some (.bool (nameB b.toNat)) := by simp only [F_atom_Name]; rw [if_pos (by unfold big; simp), show [97] ++ [b] = [97, b] from rfl, name_a]
    have f5 : F_atom_ID [.str [b]] = some (.bool (idB b.toNat)) := by simp only [F_atom_ID]; rw [if_pos (by unfold big; simp), id_one]
    have l1 : litK 1 [.int .u8 b.toNat] = some (.sl .ro [.int .u8 b.toNat]) := lit_s (by simp) (by simp [V.cells, V.ok1])
    have a1 := bSadd [97] [b] (by simp)
    simp only [hlt', decide_false, if_true, if_false, Bool.false_eq_true, Bool.true_eq_false, reduceCtorEq, opt_s, gBool, gTT, gFF, gTF, gFT, gU, pBool, orN, andN, orI, andI, V.bool.injEq, Bool.true_and, Bool.and_true, Bool.false_and, Bool.and_false, Bool.true_or, Bool.or_true, Bool.false_or, Bool.or_false, Bool.not_true, Bool.not_false, iteB_bool, iteB_true, iteB_false, not_bool, chkB_bool, chkB_undef, bGeq, bLeq, bLss, bGtr, bEql, bNeq, bAdd, bSub, bMul, bSeq, bSne, bSlt, eqB_eq, mmMin, mmMax, ext_tup, cellD_agg, convI_int, lenS_s, lenL_s, gv_0, gv_s, l1, convBS_one, a1, c_atom_Name, c_atom_ID, f1, f2, f3, f4, f5, beq_self_eq_true, bne, bqF, c_entaillaw1_awake, F_entaillaw1_awake]
    simp only [alnB, nameB, idB]
    generalize decide ((97 : Int) ≤ b.toNat) = p1
    generalize decide ((b.toNat : Int) ≤ 122) = p2
    generalize decide ((48 : Int) ≤ b.toNat) = p3
    generalize decide ((b.toNat : Int) ≤ 57) = p4
    generalize decide ((b.toNat : Int) = 95) = p5
    generalize decide ((b.toNat : Int) = 45) = p6
    generalize decide ((b.toNat : Int) = 46) = p7
    generalize decide ((b.toNat : Int) = 47) = p8
    generalize decide ((b.toNat : Int) = 124) = p9
    generalize decide ((b.toNat : Int) = 42) = p10
    clear f1 f2 f3 f4 f5 l1 a1 hr hlt hlt' hi hi' wn wk hn hk hc c_atom_Name c_atom_ID c_entaillaw1_awake
    cases p1 <;> cases p2 <;> cases p3 <;> cases p4 <;> simp only [if_true, if_false, Bool.false_eq_true, Bool.true_eq_false, reduceCtorEq, opt_s, gBool, gTT, gFF, gTF, gFT, gU, pBool, orN, andN, orI, andI, V.bool.injEq, Bool.true_and, Bool.and_true, Bool.false_and, Bool.and_false, Bool.true_or, Bool.or_true, Bool.false_or, Bool.or_false, Bool.not_true, Bool.not_false, iteB_bool, iteB_true, iteB_false, not_bool, chkB_bool, chkB_undef, bGeq, bLeq, bLss, bGtr, bEql, bNeq, bAdd, bSub, bMul, bSeq, bSne, bSlt, eqB_eq, mmMin, mmMax, ext_tup, cellD_agg, convI_int, lenS_s, lenL_s, gv_0, gv_s, beq_self_eq_true, bne, bqF, bqT, bFq, bTq]
    all_goals (cases p5 <;> cases p6 <;> cases p7 <;> simp only [if_true, if_false, Bool.false_eq_true, Bool.true_eq_false, reduceCtorEq, opt_s, gBool, gTT, gFF, gTF, gFT, gU, pBool, orN, andN, orI, andI, V.bool.injEq, Bool.true_and, Bool.and_true, Bool.false_and, Bool.and_false, Bool.true_or, Bool.or_true, Bool.false_or, Bool.or_false, Bool.not_true, Bool.not_false, iteB_bool, iteB_true, iteB_false, not_bool, chkB_bool, chkB_undef, bGeq, bLeq, bLss, bGtr, bEql, bNeq, bAdd, bSub, bMul, bSeq, bSne, bSlt, eqB_eq, mmMin, mmMax, ext_tup, cellD_agg, convI_int, lenS_s, lenL_s, gv_0, gv_s, beq_self_eq_true, bne, bqF, bqT, bFq, bTq])
    all_goals (cases p8 <;> cases p9 <;> cases p10 <;> simp only [if_true, if_false, Bool.false_eq_true, Bool.true_eq_false, reduceCtorEq, opt_s, gBool, gTT, gFF, gTF, gFT, gU, pBool, orN, andN, orI, andI, V.bool.injEq, Bool.true_and, Bool.and_true, Bool.false_and, Bool.and_false, Bool.true_or, Bool.or_true, Bool.false_or, Bool.or_false, Bool.not_true, Bool.not_false, iteB_bool, iteB_true, iteB_false, not_bool, chkB_bool, chkB_undef, bGeq, bLeq, bLss, bGtr, bEql, bNeq, bAdd, bSub, bMul, bSeq, bSne, bSlt, eqB_eq, mmMin, mmMax, ext_tup, cellD_agg, convI_int, lenS_s, lenL_s, gv_0, gv_s, beq_self_eq_true, bne, bqF, bqT, bFq, bTq])
end Go.Fbs
namespace Go.Fbs
theorem wf_u8 {n : Int} (h : (Lit.int .u8 n).wf = true) : 0 ≤ n ∧ n < 256 := by
  simp only [Lit.wf, Bool.and_eq_true, decide_eq_true_eq] at h
  have h1 : IntKind.u8.min = 0 := by decide
  have h2 : IntKind.u8.max = 255 := by decide
  rw [h1, h2] at h; omega
end Go.Fbs

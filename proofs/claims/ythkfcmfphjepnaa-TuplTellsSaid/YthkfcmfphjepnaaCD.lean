import Derived.Test.YthkfcmfphjepnaaCC
import Derived.Test.YthkfcmfphjepnaaHU1
import Derived.Test.YthkfcmfphjepnaaK4
set_option linter.unusedVariables false
set_option linter.unusedSimpArgs false
set_option linter.unusedSectionVars false
namespace Go.Fbs
open Go.Proofs

/-! ### Chapter 6: what the document says -/
def F_entailref6_part : Spec
  | [.int .u8 c] => some (.bool (letterB c))
  | _ => none
theorem ok_entailref6_part : SpecL Try.prog n_entailref6_part F_entailref6_part := by
  refine go_entailref6_part (T := []) (TabOk.nil) fun args v hv => ?_
  unfold F_entailref6_part at hv
  split at hv <;> (try simp only [Option.ite_none_right_eq_some, Option.some.injEq, reduceCtorEq] at hv)
  rename_i c
  subst hv
  refine ⟨rfl, rfl, rfl, ?_⟩
  rw [e_entailref6_part]
  by_cases h1 : 97 ≤ c <;> by_cases h2 : c ≤ 122 <;> by_cases h3 : 48 ≤ c <;> by_cases h4 : c ≤ 57 <;> by_cases h5 : c = 95 <;> simp [if_true, if_false, Bool.false_eq_true, Bool.true_eq_false, reduceCtorEq, opt_s, gBool, gTT, gFF, gTF, gFT, gU, pBool, orN, andN, orI, andI, V.bool.injEq, Bool.true_and, Bool.and_true, Bool.false_and, Bool.and_false, Bool.true_or, Bool.or_true, Bool.false_or, Bool.or_false, Bool.not_true, Bool.not_false, iteB_bool, iteB_true, iteB_false, not_bool, chkB_bool, chkB_undef, bGeq, bLeq, bLss, bGtr, bEql, bNeq, bAdd, bSub, bMul, bSeq, bSne, bSlt, eqB_eq, mmMin, mmMax, ext_tup, cellD_agg, convI_int, lenS_s, lenL_s, gv_0, gv_s, letterB, h1, h2, h3, h4, h5]

/-- Where a byte stands first, from a place on. -/
def findN (l : List UInt8) (c : Int) (k : Nat) : Int :=
  match (l.drop k).findIdx? (fun b => decide ((b.toNat : Int) = c)) with
  | some j => k + j
  | none => -1
theorem findN_end {l : List UInt8} {c : Int} {k : Nat} (h : l.length ≤ k) : findN l c k = -1 := by
  unfold findN; rw [List.drop_eq_nil_of_le h]; rfl
theorem findN_at {l : List UInt8} {c : Int} {k : Nat} {b : UInt8} (h : l[k]? = some b) : findN l c k = if (b.toNat : Int) = c then (k : Int) else findN l c (k + 1) := by
  have hk : k < l.length := (List.getElem?_eq_some_iff.1 h).1
  have hb : l[k] = b := (List.getElem?_eq_some_iff.1 h).2
  unfold findN
  rw [List.drop_eq_getElem_cons hk, hb, List.findIdx?_cons]
  by_cases hc : (b.toNat : Int) = c
  · simp [hc]
  · simp only [hc, decide_false, Bool.false_eq_true, if_false]
    cases (l.drop (k + 1)).findIdx? (fun b => decide ((b.toNat : Int) = c)) with
    | none => rfl
    | some j => simp; omega

def F_entailref1_Find : Spec
  | [.str l, .int .u8 c, .int .i64 k] => if l.length ≤ big ∧ 0 ≤ k ∧ k ≤ big then some (vI (findN l c k.toNat)) else none
  | _ => none
theorem ok_entailref1_Find : SpecL Try.prog n_entailref1_Find F_entailref1_Find := by
  refine go_entailref1_Find (T := []) (TabOk.nil) fun args v hv => ?_
  unfold F_entailref1_Find at hv
  split at hv <;> (try simp only [Option.ite_none_right_eq_some, Option.some.injEq, reduceCtorEq] at hv)
  rename_i l c k
  obtain ⟨⟨hl, hk, hk'⟩, rfl⟩ := hv
  unfold big at hl hk'
  obtain ⟨k, rfl⟩ : ∃ n : Nat, k = n := ⟨k.toNat, by omega⟩
  simp only [Int.toNat_natCast]
  refine ⟨rfl, rfl, rfl, ?_⟩
  rw [e_entailref1_Find]
  simp only [if_true, if_false, Bool.false_eq_true, Bool.true_eq_false, reduceCtorEq, opt_s, gBool, gTT, gFF, gTF, gFT, gU, pBool, orN, andN, orI, andI, V.bool.injEq, Bool.true_and, Bool.and_true, Bool.false_and, Bool.and_false, Bool.true_or, Bool.or_true, Bool.false_or, Bool.or_false, Bool.not_true, Bool.not_false, iteB_bool, iteB_true, iteB_false, not_bool, chkB_bool, chkB_undef, bGeq, bLeq, bLss, bGtr, bEql, bNeq, bAdd, bSub, bMul, bSeq, bSne, bSlt, eqB_eq, mmMin, mmMax, ext_tup, cellD_agg, convI_int, lenS_s, lenL_s, gv_0, gv_s]
  refine loopP_inv (fun vs => ∃ j : Nat, vs = [vI j] ∧ findN l c j = findN l c k ∧ j ≤ 4611686018427387904) (fun vs => l.length - natOf (gv vs 0)) ⟨k, rfl, rfl, by omega⟩ ?_
  rintro r _ ⟨j, rfl, hj, hjb⟩ hr
  refine ⟨rfl, ?_⟩
  simp only [if_true, if_false, Bool.false_eq_true, Bool.true_eq_false, reduceCtorEq, opt_s, gBool, gTT, gFF, gTF, gFT, gU, pBool, orN, andN, orI, andI, V.bool.injEq, Bool.true_and, Bool.and_true, Bool.false_and, Bool.and_false, Bool.true_or, Bool.or_true, Bool.false_or, Bool.or_false, Bool.not_true, Bool.not_false, iteB_bool, iteB_true, iteB_false, not_bool, chkB_bool, chkB_undef, bGeq, bLeq, bLss, bGtr, bEql, bNeq, bAdd, bSub, bMul, bSeq, bSne, bSlt, eqB_eq, mmMin, mmMax, ext_tup, cellD_agg, convI_int, lenS_s, lenL_s, gv_0, gv_s]
  by_cases hlt : j < l.length
  · obtain ⟨b, hb⟩ : ∃ b, l[j]? = some b := ⟨l[j], List.getElem?_eq_getElem hlt⟩
    have hlt' : (j : Int) < (l.length : Int) := by omega
    rw [findN_at hb] at hj
    simp only [hlt', decide_true, if_true, if_false, Bool.false_eq_true, Bool.true_eq_false, reduceCtorEq, opt_s, gBool, gTT, gFF, gTF, gFT, gU, pBool, orN, andN, orI, andI, V.bool.injEq, Bool.true_and, Bool.and_true, Bool.false_and, Bool.and_false, Bool.true_or, Bool.or_true, Bool.false_or, Bool.or_false, Bool.not_true, Bool.not_false, iteB_bool, iteB_true, iteB_false, not_bool, chkB_bool, chkB_undef, bGeq, bLeq, bLss, bGtr, bEql, bNeq, bAdd, bSub, bMul, bSeq, bSne, bSlt, eqB_eq, mmMin, mmMax, ext_tup, cellD_agg, convI_int, lenS_s, lenL_s, gv_0, gv_s, idxS_at hb]
    by_cases hc : (b.toNat : Int) = c
    · rw [if_pos hc] at hj
      simp [hc, hj]
    · rw [if_neg hc] at hj
      simp only [hc, decide_false, if_true, if_false, Bool.false_eq_true, Bool.true_eq_false, reduceCtorEq, opt_s, gBool, gTT, gFF, gTF, gFT, gU, pBool, orN, andN, orI, andI, V.bool.injEq, Bool.true_and, Bool.and_true, Bool.false_and, Bool.and_false, Bool.true_or, Bool.or_true, Bool.false_or, Bool.or_false, Bool.not_true, Bool.not_false, iteB_bool, iteB_true, iteB_false, not_bool, chkB_bool, chkB_undef, bGeq, bLeq, bLss, bGtr, bEql, bNeq, bAdd, bSub, bMul, bSeq, bSne, bSlt, eqB_eq, mmMin, mmMax, ext_tup, cellD_agg, convI_int, lenS_s, lenL_s, gv_0, gv_s]
      rw [wrap_in (by omega) (by omega)]
      exact hr _ ⟨j + 1, by simp, hj, by omega⟩ (by simp [gv, natOf]; omega)
  · have hlt' : ¬ (j : Int) < (l.length : Int) := by omega
    rw [findN_end (by omega)] at hj
    simp [if_true, if_false, Bool.false_eq_true, Bool.true_eq_false, reduceCtorEq, opt_s, gBool, gTT, gFF, gTF, gFT, gU, pBool, orN, andN, orI, andI, V.bool.injEq, Bool.true_and, Bool.and_true, Bool.false_and, Bool.and_false, Bool.true_or, Bool.or_true, Bool.false_or, Bool.or_false, Bool.not_true, Bool.not_false, iteB_bool, iteB_true, iteB_false, not_bool, chkB_bool, chkB_undef, bGeq, bLeq, bLss, bGtr, bEql, bNeq, bAdd, bSub, bMul, bSeq, bSne, bSlt, eqB_eq, mmMin, mmMax, ext_tup, cellD_agg, convI_int, lenS_s, lenL_s, gv_0, gv_s, hlt', hj]

/-! ### Two rows of tokens -/
abbrev Tok := Int × Nat × List UInt8
theorem eqA_tok (neg : Bool) (a b : Tok) : eqAK [1, 1, 2] neg (tokW a) (tokW b) = some (.bool (decide (a = b) != neg)) := by
  obtain ⟨k, n, x⟩ := a
  obtain ⟨k', n', x'⟩ := b
  have : (k == k' && ((n : Int) == (n' : Int) && x == x')) = decide ((k, n, x) = (k', n', x')) := by
    by_cases h1 : k = k' <;> by_cases h2 : n = n' <;> by_cases h3 : x = x' <;> simp [h1, h2, h3] <;> omega
  simp only [eqAK, tokW, tokV, eqCells, eqS, if_true, Option.map_some, Bool.and_true, this]

def tokC : Cd Tok where
  enc := tokW
  dec := fun | .agg [.int .i64 k, .int .i64 n, .str x] => if 0 ≤ n then some (k, n.toNat, x) else none | _ => none
  de a := by simp [tokW, tokV]
  ed v a h := by
    split at h
    · split at h
      · rename_i hn
        simp only [Option.some.injEq] at h
        subst h
        simp [tokW, tokV]; omega
      · simp at h
    · simp at h
  cano _ := rfl
theorem chk_tok (a : Tok) : chkK 3 (tokC.enc a) = some (tokC.enc a) := rfl

def F_entaillaw6_Same : Spec
  | [x, y] =>
    match tokC.unl x, tokC.unl y with
    | some a, some b => if a.length ≤ big then some (.bool (decide (a = b))) else none
    | _, _ => none
  | _ => none
theorem ok_entaillaw6_Same : SpecL Try.prog n_entaillaw6_Same F_entaillaw6_Same := by
  refine go_entaillaw6_Same (T := []) (TabOk.nil) fun args v hv => ?_
  unfold F_entaillaw6_Same at hv
  split at hv <;> (try simp only [Option.ite_none_right_eq_some, Option.some.injEq, reduceCtorEq] at hv)
  split at hv <;> (try simp only [Option.ite_none_right_eq_some, Option.some.injEq, reduceCtorEq] at hv)
  rename_i a b ha hb
  obtain ⟨hl, rfl⟩ := hv
  unfold big at hl
  rw [tokC.lst_unl ha, tokC.lst_unl hb]
  refine ⟨rfl, by simp [canos, tokC.cano_lst], rfl, ?_⟩
  rw [e_entaillaw6_Same]
  simp only [if_true, if_false, Bool.false_eq_true, Bool.true_eq_false, reduceCtorEq, opt_s, gBool, gTT, gFF, gTF, gFT, gU, pBool, orN, andN, orI, andI, V.bool.injEq, Bool.true_and, Bool.and_true, Bool.false_and, Bool.and_false, Bool.true_or, Bool.or_true, Bool.false_or, Bool.or_false, Bool.not_true, Bool.not_false, iteB_bool, iteB_true, iteB_false, not_bool, chkB_bool, chkB_undef, bGeq, bLeq, bLss, bGtr, bEql, bNeq, bAdd, bSub, bMul, bSeq, bSne, bSlt, eqB_eq, mmMin, mmMax, ext_tup, cellD_agg, convI_int, lenS_s, lenL_s, gv_0, gv_s, tokC.len]
  by_cases hlen : a.length = b.length
  · have hlen' : (a.length : Int) = (b.length : Int) := by omega
    simp only [hlen', decide_true, Bool.not_true, if_true, if_false, Bool.false_eq_true, Bool.true_eq_false, reduceCtorEq, opt_s, gBool, gTT, gFF, gTF, gFT, gU, pBool, orN, andN, orI, andI, V.bool.injEq, Bool.true_and, Bool.and_true, Bool.false_and, Bool.and_false, Bool.true_or, Bool.or_true, Bool.false_or, Bool.or_false, Bool.not_true, Bool.not_false, iteB_bool, iteB_true, iteB_false, not_bool, chkB_bool, chkB_undef, bGeq, bLeq, bLss, bGtr, bEql, bNeq, bAdd, bSub, bMul, bSeq, bSne, bSlt, eqB_eq, mmMin, mmMax, ext_tup, cellD_agg, convI_int, lenS_s, lenL_s, gv_0, gv_s]
    refine loopP_inv (fun vs => ∃ k : Nat, vs = [vI k] ∧ k ≤ a.length ∧ a.take k = b.take k) (fun vs => a.length - natOf (gv vs 0)) ⟨0, rfl, Nat.zero_le _, by simp⟩ ?_
    rintro r _ ⟨k, rfl, hk, he⟩ hr
    refine ⟨rfl, ?_⟩
    simp only [if_true, if_false, Bool.false_eq_true, Bool.true_eq_false, reduceCtorEq, opt_s, gBool, gTT, gFF, gTF, gFT, gU, pBool, orN, andN, orI, andI, V.bool.injEq, Bool.true_and, Bool.and_true, Bool.false_and, Bool.and_false, Bool.true_or, Bool.or_true, Bool.false_or, Bool.or_false, Bool.not_true, Bool.not_false, iteB_bool, iteB_true, iteB_false, not_bool, chkB_bool, chkB_undef, bGeq, bLeq, bLss, bGtr, bEql, bNeq, bAdd, bSub, bMul, bSeq, bSne, bSlt, eqB_eq, mmMin, mmMax, ext_tup, cellD_agg, convI_int, lenS_s, lenL_s, gv_0, gv_s]
    by_cases hlt : k < a.length
    · have hlt' : (k : Int) < (b.length : Int) := by omega
      have h1 : a[k]? = some a[k] := List.getElem?_eq_getElem hlt
      have h2 : b[k]? = some (b[k]'(by omega)) := List.getElem?_eq_getElem _
      simp only [hlt', decide_true, if_true, if_false, Bool.false_eq_true, Bool.true_eq_false, reduceCtorEq, opt_s, gBool, gTT, gFF, gTF, gFT, gU, pBool, orN, andN, orI, andI, V.bool.injEq, Bool.true_and, Bool.and_true, Bool.false_and, Bool.and_false, Bool.true_or, Bool.or_true, Bool.false_or, Bool.or_false, Bool.not_true, Bool.not_false, iteB_bool, iteB_true, iteB_false, not_bool, chkB_bool, chkB_undef, bGeq, bLeq, bLss, bGtr, bEql, bNeq, bAdd, bSub, bMul, bSeq, bSne, bSlt, eqB_eq, mmMin, mmMax, ext_tup, cellD_agg, convI_int, lenS_s, lenL_s, gv_0, gv_s, tokC.idx_agg h1 (chk_tok _), tokC.idx_agg h2 (chk_tok _)]
      rw [show tokC.enc = tokW from rfl, eqA_tok]
      by_cases hab : a[k] = b[k]'(by omega)
      · simp only [hab, decide_true, if_true, if_false, Bool.false_eq_true, Bool.true_eq_false, reduceCtorEq, opt_s, gBool, gTT, gFF, gTF, gFT, gU, pBool, orN, andN, orI, andI, V.bool.injEq, Bool.true_and, Bool.and_true, Bool.false_and, Bool.and_false, Bool.true_or, Bool.or_true, Bool.false_or, Bool.or_false, Bool.not_true, Bool.not_false, iteB_bool, iteB_true, iteB_false, not_bool, chkB_bool, chkB_undef, bGeq, bLeq, bLss, bGtr, bEql, bNeq, bAdd, bSub, bMul, bSeq, bSne, bSlt, eqB_eq, mmMin, mmMax, ext_tup, cellD_agg, convI_int, lenS_s, lenL_s, gv_0, gv_s, Bool.bne_true, Bool.not_true]
        rw [wrap_in (by omega) (by omega)]
        refine hr _ ⟨k + 1, by simp, hlt, ?_⟩ (by simp [gv, natOf]; omega)
        rw [List.take_add_one, List.take_add_one, he, h1, h2, hab]
      · have hne : a ≠ b := fun e => hab (by subst e; rfl)
        simp [hab, if_true, if_false, Bool.false_eq_true, Bool.true_eq_false, reduceCtorEq, opt_s, gBool, gTT, gFF, gTF, gFT, gU, pBool, orN, andN, orI, andI, V.bool.injEq, Bool.true_and, Bool.and_true, Bool.false_and, Bool.and_false, Bool.true_or, Bool.or_true, Bool.false_or, Bool.or_false, Bool.not_true, Bool.not_false, iteB_bool, iteB_true, iteB_false, not_bool, chkB_bool, chkB_undef, bGeq, bLeq, bLss, bGtr, bEql, bNeq, bAdd, bSub, bMul, bSeq, bSne, bSlt, eqB_eq, mmMin, mmMax, ext_tup, cellD_agg, convI_int, lenS_s, lenL_s, gv_0, gv_s, hne]
    · have hlt' : ¬ (k : Int) < (b.length : Int) := by omega
      have hk' : k = a.length := by omega
      have : a = b := by
        rw [hk', List.take_of_length_le (Nat.le_refl _), List.take_of_length_le (by omega)] at he
        exact he
      simp [if_true, if_false, Bool.false_eq_true, Bool.true_eq_false, reduceCtorEq, opt_s, gBool, gTT, gFF, gTF, gFT, gU, pBool, orN, andN, orI, andI, V.bool.injEq, Bool.true_and, Bool.and_true, Bool.false_and, Bool.and_false, Bool.true_or, Bool.or_true, Bool.false_or, Bool.or_false, Bool.not_true, Bool.not_false, iteB_bool, iteB_true, iteB_false, not_bool, chkB_bool, chkB_undef, bGeq, bLeq, bLss, bGtr, bEql, bNeq, bAdd, bSub, bMul, bSeq, bSne, bSlt, eqB_eq, mmMin, mmMax, ext_tup, cellD_agg, convI_int, lenS_s, lenL_s, gv_0, gv_s, hlt', this]
  · have hlen' : ¬ (a.length : Int) = (b.length : Int) := by omega
    have hne : a ≠ b := fun e => hlen (by rw [e])
    simp [if_true, if_false, Bool.false_eq_true, Bool.true_eq_false, reduceCtorEq, opt_s, gBool, gTT, gFF, gTF, gFT, gU, pBool, orN, andN, orI, andI, V.bool.injEq, Bool.true_and, Bool.and_true, Bool.false_and, Bool.and_false, Bool.true_or, Bool.or_true, Bool.false_or, Bool.or_false, Bool.not_true, Bool.not_false, iteB_bool, iteB_true, iteB_false, not_bool, chkB_bool, chkB_undef, bGeq, bLeq, bLss, bGtr, bEql, bNeq, bAdd, bSub, bMul, bSeq, bSne, bSlt, eqB_eq, mmMin, mmMax, ext_tup, cellD_agg, convI_int, lenS_s, lenL_s, gv_0, gv_s, hlen', hne]
end Go.Fbs

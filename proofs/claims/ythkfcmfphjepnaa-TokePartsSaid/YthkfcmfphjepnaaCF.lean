import Derived.Test.YthkfcmfphjepnaaCE
set_option linter.unusedVariables false
set_option linter.unusedSimpArgs false
set_option linter.unusedSectionVars false
namespace Go.Fbs
open Go.Proofs

/-! ### Chapter 6: the document's tokens -/
theorem toks_fuel : ∀ (f : Nat) (k : Nat) (l : List UInt8), l.length ≤ f → toks f k l = toks l.length k l := by
  intro f
  induction f using Nat.strongRecOn with
  | ind f ih =>
    intro k l hl
    cases l with
    | nil => cases f <;> rfl
    | cons c t =>
      obtain ⟨g, rfl⟩ : ∃ g, f = g + 1 := ⟨f - 1, by simp at hl; omega⟩
      simp only [List.length_cons, toks]
      split
      · rfl
      · have hn := (nextT_len (l := c :: t) (by simp)).1
        generalize (nextT (c :: t)).2.1.length = n at *
        have h1 : (((c :: t).drop n).drop (skipN false ((c :: t).drop n))).length ≤ t.length := by
          simp only [List.length_drop, List.length_cons]; omega
        simp only [List.length_cons] at hl
        rw [ih g (by omega) _ _ (by omega)]
        by_cases hg : t.length < g + 1
        · by_cases hg2 : t.length = g
          · rw [hg2, ih g (by omega) _ _ (by omega)]
          · rw [ih t.length (by omega) _ _ h1]
        · omega

/-- The tokens from a place on, also of what says nothing there. -/
def restT (l : List UInt8) (i : Nat) : List Tok × Option Nat := toks (l.length - i) (i + skipN false (l.drop i)) (l.drop (i + skipN false (l.drop i)))
theorem restT_fuel (l : List UInt8) (i f : Nat) (h : l.length - i ≤ f) : toks f (i + skipN false (l.drop i)) (l.drop (i + skipN false (l.drop i))) = restT l i := by
  unfold restT
  rw [toks_fuel f _ _ (by simp only [List.length_drop]; omega), toks_fuel (l.length - i) _ _ (by simp only [List.length_drop]; omega)]
theorem restT_all (l : List UInt8) : toks l.length (skipN false l) (l.drop (skipN false l)) = restT l 0 := by
  have := restT_fuel l 0 l.length (by omega)
  simpa using this
/-- What says nothing is passed. -/
theorem restT_skip {l : List UInt8} {i k : Nat} (hi : i ≤ k) (h : skipN false (l.drop i) = (k - i) + skipN false (l.drop k)) : restT l i = restT l k := by
  have e : i + skipN false (l.drop i) = k + skipN false (l.drop k) := by omega
  have := restT_fuel l k (l.length - i) (by omega)
  rw [← this]
  unfold restT
  rw [e]
theorem restT_tok {l : List UInt8} {i : Nat} {c : UInt8} {t : List UInt8} (hd : l.drop i = c :: t) (h0 : skipN false (c :: t) = 0) :
    restT l i = if (nextT (c :: t)).2.2 = false then ([], some i) else (((nextT (c :: t)).1, i, (nextT (c :: t)).2.1) :: (restT l (i + (nextT (c :: t)).2.1.length)).1, (restT l (i + (nextT (c :: t)).2.1.length)).2) := by
  have hl : i < l.length := by
    have := congrArg List.length hd; simp only [List.length_drop, List.length_cons] at this; omega
  have e1 : restT l i = toks (l.length - i) i (c :: t) := by
    unfold restT; rw [hd, h0, Nat.add_zero, hd]
  rw [e1]
  obtain ⟨g, hg⟩ : ∃ g, l.length - i = g + 1 := ⟨l.length - i - 1, by omega⟩
  rw [hg]
  simp only [toks]
  split
  · rfl
  · have hn := (nextT_len (l := c :: t) (by simp)).1
    generalize hnn : (nextT (c :: t)).2.1.length = n at *
    have e2 : ∀ j, (c :: t).drop j = l.drop (i + j) := fun j => by rw [← hd, List.drop_drop]
    rw [e2 n, List.drop_drop]
    rw [restT_fuel l (i + n) g (by omega)]
theorem restT_end {l : List UInt8} {i : Nat} (h : l.length ≤ i) : restT l i = ([], none) := by
  unfold restT
  rw [show l.drop (i + skipN false (l.drop i)) = [] from List.drop_eq_nil_of_le (by omega)]
  cases l.length - i <;> rfl

theorem tokensT_rest {l : List UInt8} (h : ¬ 100000 < l.length) : tokensT l = match (restT l 0).2 with | some k => ([], k, 7) | none => ((restT l 0).1, 0, 0) := by
  unfold tokensT
  rw [if_neg h, restT_all]
  rfl

theorem toks_len : ∀ (f k : Nat) (l : List UInt8), (toks f k l).1.length ≤ f
  | 0, k, l => by simp [toks]
  | f + 1, k, [] => by simp [toks]
  | f + 1, k, c :: l => by
    simp only [toks]
    split
    · simp
    · have := toks_len f (k + (nextT (c :: l)).2.1.length + skipN false ((c :: l).drop (nextT (c :: l)).2.1.length)) (((c :: l).drop (nextT (c :: l)).2.1.length).drop (skipN false ((c :: l).drop (nextT (c :: l)).2.1.length)))
      simp only [List.length_cons]; omega
theorem tokensT_len (l : List UInt8) : (tokensT l).1.length ≤ l.length := by
  unfold tokensT
  split
  · simp
  · have := toks_len l.length (skipN false l) (l.drop (skipN false l))
    simp only
    split
    · simp
    · exact this

theorem skipN_tok {c : UInt8} {t : List UInt8} (h : ¬ (c = 47 ∧ t.head? = some 47)) (hb : blankB c = false) : skipN false (c :: t) = 0 := by
  simp only [skipN, if_neg h, hb, Bool.false_eq_true, if_false]
theorem skipN_blank {c : UInt8} {t : List UInt8} (hb : blankB c = true) : skipN false (c :: t) = 1 + skipN false t := by
  have h : ¬ (c = 47 ∧ t.head? = some 47) := by
    rintro ⟨rfl, _⟩; simp [blankB] at hb
  simp only [skipN, if_neg h, hb, if_true]

theorem letter_row {c : UInt8} {t : List UInt8} (h : letterB c.toNat = true) : rowN (c :: t) = 1 + rowN t := by
  simp [rowN, List.takeWhile_cons, h]; omega
theorem letter_row0 {c : UInt8} {t : List UInt8} (h : letterB c.toNat = false) : rowN (c :: t) = 0 := by
  simp [rowN, List.takeWhile_cons, h]
theorem rowN_at {l : List UInt8} {k : Nat} {c : UInt8} (h : l[k]? = some c) : rowN (l.drop k) = if letterB c.toNat then 1 + rowN (l.drop (k + 1)) else 0 := by
  have hk : k < l.length := (List.getElem?_eq_some_iff.1 h).1
  rw [List.drop_eq_getElem_cons hk, (List.getElem?_eq_some_iff.1 h).2]
  split
  · rename_i hc; exact letter_row hc
  · rename_i hc; exact letter_row0 (by simpa using hc)

theorem findN_has {l : List UInt8} {c : UInt8} : decide (findN l c.toNat 0 < 0) = decide (c ∉ l) := by
  unfold findN
  simp only [List.drop_zero]
  cases h : l.findIdx? (fun b => decide ((b.toNat : Int) = c.toNat)) with
  | none =>
    rw [List.findIdx?_eq_none_iff] at h
    have : c ∉ l := fun hc => by have := h c hc; simp at this
    simp [this]
  | some j =>
    have : c ∈ l := by
      obtain ⟨hj, h1, _⟩ := List.findIdx?_eq_some_iff_getElem.1 h
      simp only [decide_eq_true_eq] at h1
      have : l[j] = c := UInt8.toNat_inj.1 (by omega)
      rw [← this]; exact List.getElem_mem hj
    simp [this]

def F_entailref6_Tokens : Spec
  | [.str l] => if l.length ≤ big then some (.tup [tokensV (tokensT l).1, vI (tokensT l).2.1, vI (tokensT l).2.2]) else none
  | _ => none
theorem ok_entailref6_Tokens : SpecL Try.prog n_entailref6_Tokens F_entailref6_Tokens := by
  refine go_entailref6_Tokens (T := [(n_entailref6_part, F_entailref6_part), (n_entailref1_Find, F_entailref1_Find)]) (TabOk.cons ok_entailref6_part (TabOk.cons ok_entailref1_Find TabOk.nil)) fun args v hv => ?_
  have c_entailref6_part : ∀ args, tab [(n_entailref6_part, F_entailref6_part), (n_entailref1_Find, F_entailref1_Find)] n_entailref6_part args = F_entailref6_part args := fun _ => rfl
  have c_entailref1_Find : ∀ args, tab [(n_entailref6_part, F_entailref6_part), (n_entailref1_Find, F_entailref1_Find)] n_entailref1_Find args = F_entailref1_Find args := fun _ => rfl
  unfold F_entailref6_Tokens at hv
  split at hv <;> (try simp only [Option.ite_none_right_eq_some, Option.some.injEq, reduceCtorEq] at hv)
  rename_i l
  obtain ⟨hl, rfl⟩ := hv
  have hl0 := hl
  unfold big at hl
  refine ⟨rfl, rfl, by simp [V.cano, canos, cano_tokens], ?_⟩
  rw [e_entailref6_Tokens]
  simp only [if_true, if_false, Bool.false_eq_true, Bool.true_eq_false, reduceCtorEq, opt_s, gBool, gTT, gFF, gTF, gFT, gU, pBool, orN, andN, orI, andI, V.bool.injEq, Bool.true_and, Bool.and_true, Bool.false_and, Bool.and_false, Bool.true_or, Bool.or_true, Bool.false_or, Bool.or_false, Bool.not_true, Bool.not_false, iteB_bool, iteB_true, iteB_false, not_bool, chkB_bool, chkB_undef, bGeq, bLeq, bLss, bGtr, bEql, bNeq, bAdd, bSub, bMul, bSeq, bSne, bSlt, eqB_eq, mmMin, mmMax, ext_tup, cellD_agg, convI_int, lenS_s, lenL_s, gv_0, gv_s]
  by_cases hbig : 100000 < l.length
  · have hb' : (100000 : Int) < (l.length : Int) := by omega
    simp [hb', tokensT, hbig, tokensV]
  · have hb' : ¬ (100000 : Int) < (l.length : Int) := by omega
    have hT := tokensT_rest hbig
    simp only [hb', decide_false, if_true, if_false, Bool.false_eq_true, Bool.true_eq_false, reduceCtorEq, opt_s, gBool, gTT, gFF, gTF, gFT, gU, pBool, orN, andN, orI, andI, V.bool.injEq, Bool.true_and, Bool.and_true, Bool.false_and, Bool.and_false, Bool.true_or, Bool.or_true, Bool.false_or, Bool.or_false, Bool.not_true, Bool.not_false, iteB_bool, iteB_true, iteB_false, not_bool, chkB_bool, chkB_undef, bGeq, bLeq, bLss, bGtr, bEql, bNeq, bAdd, bSub, bMul, bSeq, bSne, bSlt, eqB_eq, mmMin, mmMax, ext_tup, cellD_agg, convI_int, lenS_s, lenL_s, gv_0, gv_s]
    refine loopP_inv (fun vs => ∃ (k : Nat) (dn : List Tok), vs = [.sl .ro (dn.map tokW), vI k] ∧ k ≤ l.length ∧ dn.length ≤ k ∧
      restT l 0 = (dn ++ (restT l k).1, (restT l k).2)) (fun vs => l.length - natOf (gv vs 1)) ⟨0, [], rfl, Nat.zero_le _, Nat.le_refl _, by simp⟩ ?_
    rintro r _ ⟨k, dn, rfl, hk, hdn, hr0⟩ hr
    refine ⟨rfl, ?_⟩
    simp only [if_true, if_false, Bool.false_eq_true, Bool.true_eq_false, reduceCtorEq, opt_s, gBool, gTT, gFF, gTF, gFT, gU, pBool, orN, andN, orI, andI, V.bool.injEq, Bool.true_and, Bool.and_true, Bool.false_and, Bool.and_false, Bool.true_or, Bool.or_true, Bool.false_or, Bool.or_false, Bool.not_true, Bool.not_false, iteB_bool, iteB_true, iteB_false, not_bool, chkB_bool, chkB_undef, bGeq, bLeq, bLss, bGtr, bEql, bNeq, bAdd, bSub, bMul, bSeq, bSne, bSlt, eqB_eq, mmMin, mmMax, ext_tup, cellD_agg, convI_int, lenS_s, lenL_s, gv_0, gv_s]
    by_cases hlt : k < l.length
    · have hlt' : (k : Int) < (l.length : Int) := by omega
      obtain ⟨c, hc⟩ : ∃ c, l[k]? = some c := ⟨l[k], List.getElem?_eq_getElem hlt⟩
      obtain ⟨t, hd⟩ : ∃ t, l.drop k = c :: t := ⟨l.drop (k + 1), by rw [List.drop_eq_getElem_cons hlt, (List.getElem?_eq_some_iff.1 hc).2]⟩
      have htd : l.drop (k + 1) = t := by rw [← List.drop_drop, hd]; rfl
      have hk1 : IntKind.i64.wrap ((k : Int) + 1) = ((k + 1 : Nat) : Int) := by rw [wrap_in (by omega) (by omega)]; omega
      simp only [hlt', decide_true, if_true, if_false, Bool.false_eq_true, Bool.true_eq_false, reduceCtorEq, opt_s, gBool, gTT, gFF, gTF, gFT, gU, pBool, orN, andN, orI, andI, V.bool.injEq, Bool.true_and, Bool.and_true, Bool.false_and, Bool.and_false, Bool.true_or, Bool.or_true, Bool.false_or, Bool.or_false, Bool.not_true, Bool.not_false, iteB_bool, iteB_true, iteB_false, not_bool, chkB_bool, chkB_undef, bGeq, bLeq, bLss, bGtr, bEql, bNeq, bAdd, bSub, bMul, bSeq, bSne, bSlt, eqB_eq, mmMin, mmMax, ext_tup, cellD_agg, convI_int, lenS_s, lenL_s, gv_0, gv_s, idxS_at hc, hk1]
      refine joinP_inv (fun w => ∃ (kind : Int) (j : Nat), w = [vI kind, vI j, .sl .ro (dn.map tokW)] ∧ k < j ∧ j ≤ l.length ∧ (0 < kind → restT l 0 = (dn ++ (kind, k, (l.take j).drop k) :: (restT l j).1, (restT l j).2)) ∧ (¬ 0 < kind → restT l k = restT l j)) ?_ ?_
      · rintro _ ⟨kind, j, rfl, hkj, hj, h1, h2⟩
        refine ⟨rfl, ?_⟩
        simp only [if_true, if_false, Bool.false_eq_true, Bool.true_eq_false, reduceCtorEq, opt_s, gBool, gTT, gFF, gTF, gFT, gU, pBool, orN, andN, orI, andI, V.bool.injEq, Bool.true_and, Bool.and_true, Bool.false_and, Bool.and_false, Bool.true_or, Bool.or_true, Bool.false_or, Bool.or_false, Bool.not_true, Bool.not_false, iteB_bool, iteB_true, iteB_false, not_bool, chkB_bool, chkB_undef, bGeq, bLeq, bLss, bGtr, bEql, bNeq, bAdd, bSub, bMul, bSeq, bSne, bSlt, eqB_eq, mmMin, mmMax, ext_tup, cellD_agg, convI_int, lenS_s, lenL_s, gv_0, gv_s]
        by_cases hpos : 0 < kind
        · simp only [hpos, decide_true, sliceS_both hj (Nat.le_of_lt hkj), if_true, if_false, Bool.false_eq_true, Bool.true_eq_false, reduceCtorEq, opt_s, gBool, gTT, gFF, gTF, gFT, gU, pBool, orN, andN, orI, andI, V.bool.injEq, Bool.true_and, Bool.and_true, Bool.false_and, Bool.and_false, Bool.true_or, Bool.or_true, Bool.false_or, Bool.or_false, Bool.not_true, Bool.not_false, iteB_bool, iteB_true, iteB_false, not_bool, chkB_bool, chkB_undef, bGeq, bLeq, bLss, bGtr, bEql, bNeq, bAdd, bSub, bMul, bSeq, bSne, bSlt, eqB_eq, mmMin, mmMax, ext_tup, cellD_agg, convI_int, lenS_s, lenL_s, gv_0, gv_s]
          rw [agg_s (by simp [sc])]
          simp only [if_true, if_false, Bool.false_eq_true, Bool.true_eq_false, reduceCtorEq, opt_s, gBool, gTT, gFF, gTF, gFT, gU, pBool, orN, andN, orI, andI, V.bool.injEq, Bool.true_and, Bool.and_true, Bool.false_and, Bool.and_false, Bool.true_or, Bool.or_true, Bool.false_or, Bool.or_false, Bool.not_true, Bool.not_false, iteB_bool, iteB_true, iteB_false, not_bool, chkB_bool, chkB_undef, bGeq, bLeq, bLss, bGtr, bEql, bNeq, bAdd, bSub, bMul, bSeq, bSne, bSlt, eqB_eq, mmMin, mmMax, ext_tup, cellD_agg, convI_int, lenS_s, lenL_s, gv_0, gv_s]
          rw [lit_s (by simp) (by simp [V.cells, V.ok1])]
          simp only [if_true, if_false, Bool.false_eq_true, Bool.true_eq_false, reduceCtorEq, opt_s, gBool, gTT, gFF, gTF, gFT, gU, pBool, orN, andN, orI, andI, V.bool.injEq, Bool.true_and, Bool.and_true, Bool.false_and, Bool.and_false, Bool.true_or, Bool.or_true, Bool.false_or, Bool.or_false, Bool.not_true, Bool.not_false, iteB_bool, iteB_true, iteB_false, not_bool, chkB_bool, chkB_undef, bGeq, bLeq, bLss, bGtr, bEql, bNeq, bAdd, bSub, bMul, bSeq, bSne, bSlt, eqB_eq, mmMin, mmMax, ext_tup, cellD_agg, convI_int, lenS_s, lenL_s, gv_0, gv_s]
          rw [app_s (n := 3) (b := 32) (by simp; omega) (all_map_len (f := tokW) fun a => rfl) (by simp [V.cells])]
          simp only [if_true, if_false, Bool.false_eq_true, Bool.true_eq_false, reduceCtorEq, opt_s, gBool, gTT, gFF, gTF, gFT, gU, pBool, orN, andN, orI, andI, V.bool.injEq, Bool.true_and, Bool.and_true, Bool.false_and, Bool.and_false, Bool.true_or, Bool.or_true, Bool.false_or, Bool.or_false, Bool.not_true, Bool.not_false, iteB_bool, iteB_true, iteB_false, not_bool, chkB_bool, chkB_undef, bGeq, bLeq, bLss, bGtr, bEql, bNeq, bAdd, bSub, bMul, bSeq, bSne, bSlt, eqB_eq, mmMin, mmMax, ext_tup, cellD_agg, convI_int, lenS_s, lenL_s, gv_0, gv_s]
          exact hr _ ⟨j, dn ++ [(kind, k, (l.take j).drop k)], by simp [tokW, tokV], hj, by simp; omega, by rw [h1 hpos]; simp⟩ (by simp [gv, natOf]; omega)
        · simp only [hpos, decide_false, if_true, if_false, Bool.false_eq_true, Bool.true_eq_false, reduceCtorEq, opt_s, gBool, gTT, gFF, gTF, gFT, gU, pBool, orN, andN, orI, andI, V.bool.injEq, Bool.true_and, Bool.and_true, Bool.false_and, Bool.and_false, Bool.true_or, Bool.or_true, Bool.false_or, Bool.or_false, Bool.not_true, Bool.not_false, iteB_bool, iteB_true, iteB_false, not_bool, chkB_bool, chkB_undef, bGeq, bLeq, bLss, bGtr, bEql, bNeq, bAdd, bSub, bMul, bSeq, bSne, bSlt, eqB_eq, mmMin, mmMax, ext_tup, cellD_agg, convI_int, lenS_s, lenL_s, gv_0, gv_s]
          exact hr _ ⟨j, dn, rfl, hj, by omega, by rw [hr0, h2 hpos]⟩ (by simp [gv, natOf]; omega)
      · intro r1 hr1
        have none_ : ∀ j : Nat, k < j → j ≤ l.length → restT l k = restT l j → r1 [vI 0, vI j, .sl .ro (dn.map tokW)] := fun j h1 h2 h3 => hr1 _ ⟨0, j, rfl, h1, h2, fun h => absurd h (by omega), fun _ => h3⟩
        have blank : blankB c = true → r1 [vI 0, vI (k + 1 : Nat), .sl .ro (dn.map tokW)] := fun hb => none_ (k + 1) (by omega) (by omega) (restT_skip (by omega) (by rw [hd, htd, skipN_blank hb]; omega))
        by_cases b1 : c = 32
        · subst b1; simp [if_true, if_false, Bool.false_eq_true, Bool.true_eq_false, reduceCtorEq, opt_s, gBool, gTT, gFF, gTF, gFT, gU, pBool, orN, andN, orI, andI, V.bool.injEq, Bool.true_and, Bool.and_true, Bool.false_and, Bool.and_false, Bool.true_or, Bool.or_true, Bool.false_or, Bool.or_false, Bool.not_true, Bool.not_false, iteB_bool, iteB_true, iteB_false, not_bool, chkB_bool, chkB_undef, bGeq, bLeq, bLss, bGtr, bEql, bNeq, bAdd, bSub, bMul, bSeq, bSne, bSlt, eqB_eq, mmMin, mmMax, ext_tup, cellD_agg, convI_int, lenS_s, lenL_s, gv_0, gv_s]; exact blank rfl
        by_cases b2 : c = 9
        · subst b2; simp [if_true, if_false, Bool.false_eq_true, Bool.true_eq_false, reduceCtorEq, opt_s, gBool, gTT, gFF, gTF, gFT, gU, pBool, orN, andN, orI, andI, V.bool.injEq, Bool.true_and, Bool.and_true, Bool.false_and, Bool.and_false, Bool.true_or, Bool.or_true, Bool.false_or, Bool.or_false, Bool.not_true, Bool.not_false, iteB_bool, iteB_true, iteB_false, not_bool, chkB_bool, chkB_undef, bGeq, bLeq, bLss, bGtr, bEql, bNeq, bAdd, bSub, bMul, bSeq, bSne, bSlt, eqB_eq, mmMin, mmMax, ext_tup, cellD_agg, convI_int, lenS_s, lenL_s, gv_0, gv_s]; exact blank rfl
        by_cases b3 : c = 10
        · subst b3; simp [if_true, if_false, Bool.false_eq_true, Bool.true_eq_false, reduceCtorEq, opt_s, gBool, gTT, gFF, gTF, gFT, gU, pBool, orN, andN, orI, andI, V.bool.injEq, Bool.true_and, Bool.and_true, Bool.false_and, Bool.and_false, Bool.true_or, Bool.or_true, Bool.false_or, Bool.or_false, Bool.not_true, Bool.not_false, iteB_bool, iteB_true, iteB_false, not_bool, chkB_bool, chkB_undef, bGeq, bLeq, bLss, bGtr, bEql, bNeq, bAdd, bSub, bMul, bSeq, bSne, bSlt, eqB_eq, mmMin, mmMax, ext_tup, cellD_agg, convI_int, lenS_s, lenL_s, gv_0, gv_s]; exact blank rfl
        by_cases b4 : c = 13
        · subst b4; simp [if_true, if_false, Bool.false_eq_true, Bool.true_eq_false, reduceCtorEq, opt_s, gBool, gTT, gFF, gTF, gFT, gU, pBool, orN, andN, orI, andI, V.bool.injEq, Bool.true_and, Bool.and_true, Bool.false_and, Bool.and_false, Bool.true_or, Bool.or_true, Bool.false_or, Bool.or_false, Bool.not_true, Bool.not_false, iteB_bool, iteB_true, iteB_false, not_bool, chkB_bool, chkB_undef, bGeq, bLeq, bLss, bGtr, bEql, bNeq, bAdd, bSub, bMul, bSeq, bSne, bSlt, eqB_eq, mmMin, mmMax, ext_tup, cellD_agg, convI_int, lenS_s, lenL_s, gv_0, gv_s]; exact blank rfl
        have ne : ∀ n : UInt8, c ≠ n → ¬ ((c.toNat : Int) = (n.toNat : Int)) := fun n hn h => hn (UInt8.toNat_inj.1 (by omega))
        have e1 : ¬ ((c.toNat : Int) = 32) := ne 32 b1
        have e2 : ¬ ((c.toNat : Int) = 9) := ne 9 b2
        have e3 : ¬ ((c.toNat : Int) = 10) := ne 10 b3
        have e4 : ¬ ((c.toNat : Int) = 13) := ne 13 b4
        have hnb : blankB c = false := by simp [blankB, b1, b2, b3, b4]
        simp only [e1, e2, e3, e4, decide_false, if_true, if_false, Bool.false_eq_true, Bool.true_eq_false, reduceCtorEq, opt_s, gBool, gTT, gFF, gTF, gFT, gU, pBool, orN, andN, orI, andI, V.bool.injEq, Bool.true_and, Bool.and_true, Bool.false_and, Bool.and_false, Bool.true_or, Bool.or_true, Bool.false_or, Bool.or_false, Bool.not_true, Bool.not_false, iteB_bool, iteB_true, iteB_false, not_bool, chkB_bool, chkB_undef, bGeq, bLeq, bLss, bGtr, bEql, bNeq, bAdd, bSub, bMul, bSeq, bSne, bSlt, eqB_eq, mmMin, mmMax, ext_tup, cellD_agg, convI_int, lenS_s, lenL_s, gv_0, gv_s]
        have hnx : l[k + 1]? = t.head? := by rw [← htd, List.head?_drop]
        -- is it a sign of two?
        have two : ∀ (n m : UInt8) (X Y : Prop), (opt (guardV (V.bool (decide ((c.toNat : Int) = (n.toNat : Int)) && decide (((k + 1 : Nat) : Int) < (l.length : Int)))) true (indexS (V.str l) (V.int .i64 ((k + 1 : Nat) : Int)))) fun y20 =>
            opt (guardV (V.bool (decide ((c.toNat : Int) = (n.toNat : Int)) && decide (((k + 1 : Nat) : Int) < (l.length : Int)))) true (binK .eql y20 (V.int .u8 (m.toNat : Int)))) fun y21 => iteB (if (decide ((c.toNat : Int) = (n.toNat : Int)) && decide (((k + 1 : Nat) : Int) < (l.length : Int))) = true then y21 else V.bool false) X Y) = iteB (.bool (decide (c = n ∧ t.head? = some m))) X Y := by
          intro n m X Y
          by_cases h1 : c = n
          · subst h1
            by_cases h2 : k + 1 < l.length
            · obtain ⟨d, hdd⟩ : ∃ d, l[k + 1]? = some d := ⟨l[k + 1], List.getElem?_eq_getElem h2⟩
              have h2' : ((k + 1 : Nat) : Int) < (l.length : Int) := by omega
              rw [hdd] at hnx
              simp only [h2', decide_true, if_true, if_false, Bool.false_eq_true, Bool.true_eq_false, reduceCtorEq, opt_s, gBool, gTT, gFF, gTF, gFT, gU, pBool, orN, andN, orI, andI, V.bool.injEq, Bool.true_and, Bool.and_true, Bool.false_and, Bool.and_false, Bool.true_or, Bool.or_true, Bool.false_or, Bool.or_false, Bool.not_true, Bool.not_false, iteB_bool, iteB_true, iteB_false, not_bool, chkB_bool, chkB_undef, bGeq, bLeq, bLss, bGtr, bEql, bNeq, bAdd, bSub, bMul, bSeq, bSne, bSlt, eqB_eq, mmMin, mmMax, ext_tup, cellD_agg, convI_int, lenS_s, lenL_s, gv_0, gv_s, idxS_at hdd, ← hnx, Option.some.injEq, true_and]
              congr 2
              simp only [decide_eq_decide]
              exact ⟨fun h => UInt8.toNat_inj.1 (by omega), fun h => by rw [h]⟩
            · have h2' : ¬ ((k + 1 : Nat) : Int) < (l.length : Int) := by omega
              rw [List.getElem?_eq_none (by omega)] at hnx
              simp only [h2', decide_false, decide_true, if_true, if_false, Bool.false_eq_true, Bool.true_eq_false, reduceCtorEq, opt_s, gBool, gTT, gFF, gTF, gFT, gU, pBool, orN, andN, orI, andI, V.bool.injEq, Bool.true_and, Bool.and_true, Bool.false_and, Bool.and_false, Bool.true_or, Bool.or_true, Bool.false_or, Bool.or_false, Bool.not_true, Bool.not_false, iteB_bool, iteB_true, iteB_false, not_bool, chkB_bool, chkB_undef, bGeq, bLeq, bLss, bGtr, bEql, bNeq, bAdd, bSub, bMul, bSeq, bSne, bSlt, eqB_eq, mmMin, mmMax, ext_tup, cellD_agg, convI_int, lenS_s, lenL_s, gv_0, gv_s, ← hnx, and_false, reduceCtorEq]
          · simp only [ne n h1, decide_false, if_true, if_false, Bool.false_eq_true, Bool.true_eq_false, reduceCtorEq, opt_s, gBool, gTT, gFF, gTF, gFT, gU, pBool, orN, andN, orI, andI, V.bool.injEq, Bool.true_and, Bool.and_true, Bool.false_and, Bool.and_false, Bool.true_or, Bool.or_true, Bool.false_or, Bool.or_false, Bool.not_true, Bool.not_false, iteB_bool, iteB_true, iteB_false, not_bool, chkB_bool, chkB_undef, bGeq, bLeq, bLss, bGtr, bEql, bNeq, bAdd, bSub, bMul, bSeq, bSne, bSlt, eqB_eq, mmMin, mmMax, ext_tup, cellD_agg, convI_int, lenS_s, lenL_s, gv_0, gv_s, h1, false_and]
        have t1 := two 47 47
        have t2 := two 45 62
        simp only [UInt8.reduceToNat, Int.ofNat_eq_natCast, Int.cast_ofNat_Int] at t1 t2
        rw [t1]
        by_cases hcm : c = 47 ∧ t.head? = some 47
        · simp only [hcm, and_self, decide_true, if_true, if_false, Bool.false_eq_true, Bool.true_eq_false, reduceCtorEq, opt_s, gBool, gTT, gFF, gTF, gFT, gU, pBool, orN, andN, orI, andI, V.bool.injEq, Bool.true_and, Bool.and_true, Bool.false_and, Bool.and_false, Bool.true_or, Bool.or_true, Bool.false_or, Bool.or_false, Bool.not_true, Bool.not_false, iteB_bool, iteB_true, iteB_false, not_bool, chkB_bool, chkB_undef, bGeq, bLeq, bLss, bGtr, bEql, bNeq, bAdd, bSub, bMul, bSeq, bSne, bSlt, eqB_eq, mmMin, mmMax, ext_tup, cellD_agg, convI_int, lenS_s, lenL_s, gv_0, gv_s]
          obtain ⟨rfl, hh⟩ := hcm
          obtain ⟨u, rfl⟩ : ∃ u, t = 47 :: u := by
            cases t with
            | nil => simp at hh
            | cons d u => simp at hh; subst hh; exact ⟨u, rfl⟩
          refine loopP_inv (fun vs => ∃ j : Nat, vs = [vI j, .sl .ro (dn.map tokW)] ∧ k + 1 ≤ j ∧ j ≤ l.length ∧ (10 : UInt8) ∉ (l.drop k).take (j - k)) (fun vs => l.length - natOf (gv vs 0)) ⟨k + 1, rfl, Nat.le_refl _, by omega, by rw [hd, show k + 1 - k = 1 by omega]; simp⟩ ?_
          rintro r2 _ ⟨j, rfl, hj1, hj2, hj3⟩ hr2
          refine ⟨rfl, ?_⟩
          simp only [if_true, if_false, Bool.false_eq_true, Bool.true_eq_false, reduceCtorEq, opt_s, gBool, gTT, gFF, gTF, gFT, gU, pBool, orN, andN, orI, andI, V.bool.injEq, Bool.true_and, Bool.and_true, Bool.false_and, Bool.and_false, Bool.true_or, Bool.or_true, Bool.false_or, Bool.or_false, Bool.not_true, Bool.not_false, iteB_bool, iteB_true, iteB_false, not_bool, chkB_bool, chkB_undef, bGeq, bLeq, bLss, bGtr, bEql, bNeq, bAdd, bSub, bMul, bSeq, bSne, bSlt, eqB_eq, mmMin, mmMax, ext_tup, cellD_agg, convI_int, lenS_s, lenL_s, gv_0, gv_s]
          by_cases hjl : j < l.length
          · have hjl' : (j : Int) < (l.length : Int) := by omega
            obtain ⟨d, hdd⟩ : ∃ d, l[j]? = some d := ⟨l[j], List.getElem?_eq_getElem hjl⟩
            simp only [hjl', decide_true, if_true, if_false, Bool.false_eq_true, Bool.true_eq_false, reduceCtorEq, opt_s, gBool, gTT, gFF, gTF, gFT, gU, pBool, orN, andN, orI, andI, V.bool.injEq, Bool.true_and, Bool.and_true, Bool.false_and, Bool.and_false, Bool.true_or, Bool.or_true, Bool.false_or, Bool.or_false, Bool.not_true, Bool.not_false, iteB_bool, iteB_true, iteB_false, not_bool, chkB_bool, chkB_undef, bGeq, bLeq, bLss, bGtr, bEql, bNeq, bAdd, bSub, bMul, bSeq, bSne, bSlt, eqB_eq, mmMin, mmMax, ext_tup, cellD_agg, convI_int, lenS_s, lenL_s, gv_0, gv_s, idxS_at hdd]
            by_cases hd10 : d = 10
            · subst hd10
              simp only [UInt8.reduceToNat, Int.ofNat_eq_natCast, Int.cast_ofNat_Int, decide_true, if_true, if_false, Bool.false_eq_true, Bool.true_eq_false, reduceCtorEq, opt_s, gBool, gTT, gFF, gTF, gFT, gU, pBool, orN, andN, orI, andI, V.bool.injEq, Bool.true_and, Bool.and_true, Bool.false_and, Bool.and_false, Bool.true_or, Bool.or_true, Bool.false_or, Bool.or_false, Bool.not_true, Bool.not_false, iteB_bool, iteB_true, iteB_false, not_bool, chkB_bool, chkB_undef, bGeq, bLeq, bLss, bGtr, bEql, bNeq, bAdd, bSub, bMul, bSeq, bSne, bSlt, eqB_eq, mmMin, mmMax, ext_tup, cellD_agg, convI_int, lenS_s, lenL_s, gv_0, gv_s]
              refine none_ j (by omega) hj2 (restT_skip (by omega) ?_)
              have hx : (l.drop k)[j - k]? = some 10 := by rw [List.getElem?_drop, show k + (j - k) = j by omega]; exact hdd
              have := skipN_note_to (l.drop k) (j - k) hx hj3
              rw [List.drop_drop, show k + (j - k) = j by omega] at this
              rw [hd, skipN_two, ← hd]; exact this
            · have : ¬ ((d.toNat : Int) = 10) := fun h => hd10 (UInt8.toNat_inj.1 (by simpa using (by omega : d.toNat = 10)))
              simp only [this, decide_false, if_true, if_false, Bool.false_eq_true, Bool.true_eq_false, reduceCtorEq, opt_s, gBool, gTT, gFF, gTF, gFT, gU, pBool, orN, andN, orI, andI, V.bool.injEq, Bool.true_and, Bool.and_true, Bool.false_and, Bool.and_false, Bool.true_or, Bool.or_true, Bool.false_or, Bool.or_false, Bool.not_true, Bool.not_false, iteB_bool, iteB_true, iteB_false, not_bool, chkB_bool, chkB_undef, bGeq, bLeq, bLss, bGtr, bEql, bNeq, bAdd, bSub, bMul, bSeq, bSne, bSlt, eqB_eq, mmMin, mmMax, ext_tup, cellD_agg, convI_int, lenS_s, lenL_s, gv_0, gv_s]
              rw [wrap_in (by omega) (by omega)]
              refine hr2 _ ⟨j + 1, by simp, by omega, hjl, ?_⟩ (by simp [gv, natOf]; omega)
              have hx : (l.drop k)[j - k]? = some d := by rw [List.getElem?_drop, show k + (j - k) = j by omega]; exact hdd
              rw [show j + 1 - k = j - k + 1 by omega, List.take_add_one, hx]
              simp [hj3, Ne.symm hd10]
          · have hjl' : ¬ (j : Int) < (l.length : Int) := by omega
            simp only [hjl', decide_false, if_true, if_false, Bool.false_eq_true, Bool.true_eq_false, reduceCtorEq, opt_s, gBool, gTT, gFF, gTF, gFT, gU, pBool, orN, andN, orI, andI, V.bool.injEq, Bool.true_and, Bool.and_true, Bool.false_and, Bool.and_false, Bool.true_or, Bool.or_true, Bool.false_or, Bool.or_false, Bool.not_true, Bool.not_false, iteB_bool, iteB_true, iteB_false, not_bool, chkB_bool, chkB_undef, bGeq, bLeq, bLss, bGtr, bEql, bNeq, bAdd, bSub, bMul, bSeq, bSne, bSlt, eqB_eq, mmMin, mmMax, ext_tup, cellD_agg, convI_int, lenS_s, lenL_s, gv_0, gv_s]
            refine none_ j (by omega) hj2 (restT_skip (by omega) ?_)
            have h10 : (10 : UInt8) ∉ l.drop k := by rw [List.take_of_length_le (by simp; omega)] at hj3; exact hj3
            have := skipN_note_all (l.drop k) h10
            rw [hd, skipN_two, ← hd, this, List.drop_eq_nil_of_le (show l.length ≤ j by omega)]
            simp [skipN]; omega
        · have hcm' : decide (c = 47 ∧ t.head? = some 47) = false := by simpa using hcm
          simp only [hcm', if_true, if_false, Bool.false_eq_true, Bool.true_eq_false, reduceCtorEq, opt_s, gBool, gTT, gFF, gTF, gFT, gU, pBool, orN, andN, orI, andI, V.bool.injEq, Bool.true_and, Bool.and_true, Bool.false_and, Bool.and_false, Bool.true_or, Bool.or_true, Bool.false_or, Bool.or_false, Bool.not_true, Bool.not_false, iteB_bool, iteB_true, iteB_false, not_bool, chkB_bool, chkB_undef, bGeq, bLeq, bLss, bGtr, bEql, bNeq, bAdd, bSub, bMul, bSeq, bSne, bSlt, eqB_eq, mmMin, mmMax, ext_tup, cellD_agg, convI_int, lenS_s, lenL_s, gv_0, gv_s, c_entailref6_part, F_entailref6_part]
          have htok := restT_tok hd (skipN_tok hcm hnb)
          have some_ : ∀ (kind : Int) (x : List UInt8), 0 < kind → nextT (c :: t) = (kind, x, true) → x.length ≤ (c :: t).length → x = (c :: t).take x.length → r1 [vI kind, vI (k + x.length : Nat), .sl .ro (dn.map tokW)] := by
            intro kind x hk0 hn hxl hx
            rw [hn] at htok
            have h1 := (nextT_len (l := c :: t) (by simp)).1
            rw [hn] at h1
            have hxl' : x.length ≤ (l.drop k).length := by rw [hd]; exact hxl
            rw [List.length_drop] at hxl'
            refine hr1 _ ⟨kind, k + x.length, rfl, by simp only at h1; omega, by omega, fun _ => ?_, fun h => absurd hk0 h⟩
            rw [hr0, htok]
            simp only [Bool.true_eq_false, if_false]
            rw [List.drop_take, show k + x.length - k = x.length by omega, hd, ← hx]
          cases hlet : letterB c.toNat
          · have hrow := letter_row0 (t := t) hlet
            simp only [if_true, if_false, Bool.false_eq_true, Bool.true_eq_false, reduceCtorEq, opt_s, gBool, gTT, gFF, gTF, gFT, gU, pBool, orN, andN, orI, andI, V.bool.injEq, Bool.true_and, Bool.and_true, Bool.false_and, Bool.and_false, Bool.true_or, Bool.or_true, Bool.false_or, Bool.or_false, Bool.not_true, Bool.not_false, iteB_bool, iteB_true, iteB_false, not_bool, chkB_bool, chkB_undef, bGeq, bLeq, bLss, bGtr, bEql, bNeq, bAdd, bSub, bMul, bSeq, bSne, bSlt, eqB_eq, mmMin, mmMax, ext_tup, cellD_agg, convI_int, lenS_s, lenL_s, gv_0, gv_s, t2]
            by_cases har : c = 45 ∧ t.head? = some 62
            · simp only [har, and_self, decide_true, if_true, if_false, Bool.false_eq_true, Bool.true_eq_false, reduceCtorEq, opt_s, gBool, gTT, gFF, gTF, gFT, gU, pBool, orN, andN, orI, andI, V.bool.injEq, Bool.true_and, Bool.and_true, Bool.false_and, Bool.and_false, Bool.true_or, Bool.or_true, Bool.false_or, Bool.or_false, Bool.not_true, Bool.not_false, iteB_bool, iteB_true, iteB_false, not_bool, chkB_bool, chkB_undef, bGeq, bLeq, bLss, bGtr, bEql, bNeq, bAdd, bSub, bMul, bSeq, bSne, bSlt, eqB_eq, mmMin, mmMax, ext_tup, cellD_agg, convI_int, lenS_s, lenL_s, gv_0, gv_s]
              obtain ⟨rfl, hh⟩ := har
              obtain ⟨u, rfl⟩ : ∃ u, t = 62 :: u := by
                cases t with
                | nil => simp at hh
                | cons d u => simp at hh; subst hh; exact ⟨u, rfl⟩
              have hlen := congrArg List.length hd
              simp only [List.length_drop, List.length_cons] at hlen
              rw [wrap_in (by omega) (by omega)]
              have := some_ 2 [45, 62] (by omega) (by simp [nextT, hrow]) (by simp) (by simp)
              rw [show ((k + 1 : Nat) : Int) + 1 = ((k + 2 : Nat) : Int) by omega]
              exact this
            · have har' : decide (c = 45 ∧ t.head? = some 62) = false := by simpa using har
              have hpre : List.isPrefixOf [45, 62] (c :: t) = false := by
                cases t with
                | nil => simp [List.isPrefixOf]
                | cons d u => simp at har; simp [List.isPrefixOf]; intro h1 h2; exact har h1.symm h2.symm
              have hfind : F_entailref1_Find [.str [123, 125, 58, 59, 124, 35, 61, 43, 45, 38, 40, 41], .int .u8 c.toNat, .int .i64 0] = some (vI (findN signsL c.toNat 0)) := by
                simp only [F_entailref1_Find]
                rw [if_pos ⟨by simp [big], by omega, by simp [big]⟩]; rfl
              simp only [har', if_true, if_false, Bool.false_eq_true, Bool.true_eq_false, reduceCtorEq, opt_s, gBool, gTT, gFF, gTF, gFT, gU, pBool, orN, andN, orI, andI, V.bool.injEq, Bool.true_and, Bool.and_true, Bool.false_and, Bool.and_false, Bool.true_or, Bool.or_true, Bool.false_or, Bool.or_false, Bool.not_true, Bool.not_false, iteB_bool, iteB_true, iteB_false, not_bool, chkB_bool, chkB_undef, bGeq, bLeq, bLss, bGtr, bEql, bNeq, bAdd, bSub, bMul, bSeq, bSne, bSlt, eqB_eq, mmMin, mmMax, ext_tup, cellD_agg, convI_int, lenS_s, lenL_s, gv_0, gv_s, c_entailref1_Find, hfind, findN_has]
              by_cases hsg : c ∈ signsL
              · have := some_ 2 [c] (by omega) (by simp [nextT, hrow, hpre, hsg]) (by simp) (by simp)
                simpa [hsg] using this
              · have hn : nextT (c :: t) = (2, [c], false) := by simp [nextT, hrow, hpre, hsg]
                rw [hn] at htok
                simp only [if_true] at htok
                rw [hr0, htok] at hT
                simp only at hT
                simp [hsg, hT, tokensV]
          · simp only [if_true, if_false, Bool.false_eq_true, Bool.true_eq_false, reduceCtorEq, opt_s, gBool, gTT, gFF, gTF, gFT, gU, pBool, orN, andN, orI, andI, V.bool.injEq, Bool.true_and, Bool.and_true, Bool.false_and, Bool.and_false, Bool.true_or, Bool.or_true, Bool.false_or, Bool.or_false, Bool.not_true, Bool.not_false, iteB_bool, iteB_true, iteB_false, not_bool, chkB_bool, chkB_undef, bGeq, bLeq, bLss, bGtr, bEql, bNeq, bAdd, bSub, bMul, bSeq, bSne, bSlt, eqB_eq, mmMin, mmMax, ext_tup, cellD_agg, convI_int, lenS_s, lenL_s, gv_0, gv_s]
            have hrow0 : rowN (l.drop k) = 1 + rowN (l.drop (k + 1)) := by rw [rowN_at hc, if_pos hlet]
            refine loopP_inv (fun vs => ∃ j : Nat, vs = [vI j, .sl .ro (dn.map tokW)] ∧ k + 1 ≤ j ∧ j ≤ l.length ∧ rowN (l.drop k) = (j - k) + rowN (l.drop j)) (fun vs => l.length - natOf (gv vs 0)) ⟨k + 1, rfl, Nat.le_refl _, by omega, by rw [hrow0]; omega⟩ ?_
            rintro r2 _ ⟨j, rfl, hj1, hj2, hj3⟩ hr2
            refine ⟨rfl, ?_⟩
            simp only [if_true, if_false, Bool.false_eq_true, Bool.true_eq_false, reduceCtorEq, opt_s, gBool, gTT, gFF, gTF, gFT, gU, pBool, orN, andN, orI, andI, V.bool.injEq, Bool.true_and, Bool.and_true, Bool.false_and, Bool.and_false, Bool.true_or, Bool.or_true, Bool.false_or, Bool.or_false, Bool.not_true, Bool.not_false, iteB_bool, iteB_true, iteB_false, not_bool, chkB_bool, chkB_undef, bGeq, bLeq, bLss, bGtr, bEql, bNeq, bAdd, bSub, bMul, bSeq, bSne, bSlt, eqB_eq, mmMin, mmMax, ext_tup, cellD_agg, convI_int, lenS_s, lenL_s, gv_0, gv_s]
            have done : rowN (l.drop j) = 0 → r1 [vI 1, vI j, .sl .ro (dn.map tokW)] := fun h0 => by
              have hn : rowN (c :: t) = j - k := by rw [← hd]; omega
              have hl2 : (c :: t).length = l.length - k := by rw [← hd, List.length_drop]
              have hx : ((c :: t).take (j - k)).length = j - k := by rw [List.length_take, hl2]; omega
              have := some_ 1 ((c :: t).take (j - k)) (by omega) (by unfold nextT; rw [if_pos (by omega), hn]) (by omega) (by rw [hx])
              rw [hx, show k + (j - k) = j by omega] at this
              exact this
            by_cases hjl : j < l.length
            · have hjl' : (j : Int) < (l.length : Int) := by omega
              obtain ⟨d, hdd⟩ : ∃ d, l[j]? = some d := ⟨l[j], List.getElem?_eq_getElem hjl⟩
              simp only [hjl', decide_true, if_true, if_false, Bool.false_eq_true, Bool.true_eq_false, reduceCtorEq, opt_s, gBool, gTT, gFF, gTF, gFT, gU, pBool, orN, andN, orI, andI, V.bool.injEq, Bool.true_and, Bool.and_true, Bool.false_and, Bool.and_false, Bool.true_or, Bool.or_true, Bool.false_or, Bool.or_false, Bool.not_true, Bool.not_false, iteB_bool, iteB_true, iteB_false, not_bool, chkB_bool, chkB_undef, bGeq, bLeq, bLss, bGtr, bEql, bNeq, bAdd, bSub, bMul, bSeq, bSne, bSlt, eqB_eq, mmMin, mmMax, ext_tup, cellD_agg, convI_int, lenS_s, lenL_s, gv_0, gv_s, idxS_at hdd, c_entailref6_part, F_entailref6_part]
              have hra := rowN_at hdd
              cases hld : letterB d.toNat
              · rw [hld] at hra
                simp only [if_true, if_false, Bool.false_eq_true, Bool.true_eq_false, reduceCtorEq, opt_s, gBool, gTT, gFF, gTF, gFT, gU, pBool, orN, andN, orI, andI, V.bool.injEq, Bool.true_and, Bool.and_true, Bool.false_and, Bool.and_false, Bool.true_or, Bool.or_true, Bool.false_or, Bool.or_false, Bool.not_true, Bool.not_false, iteB_bool, iteB_true, iteB_false, not_bool, chkB_bool, chkB_undef, bGeq, bLeq, bLss, bGtr, bEql, bNeq, bAdd, bSub, bMul, bSeq, bSne, bSlt, eqB_eq, mmMin, mmMax, ext_tup, cellD_agg, convI_int, lenS_s, lenL_s, gv_0, gv_s]
                exact done (by simpa using hra)
              · rw [hld] at hra
                simp only [if_true, if_false, Bool.false_eq_true, Bool.true_eq_false, reduceCtorEq, opt_s, gBool, gTT, gFF, gTF, gFT, gU, pBool, orN, andN, orI, andI, V.bool.injEq, Bool.true_and, Bool.and_true, Bool.false_and, Bool.and_false, Bool.true_or, Bool.or_true, Bool.false_or, Bool.or_false, Bool.not_true, Bool.not_false, iteB_bool, iteB_true, iteB_false, not_bool, chkB_bool, chkB_undef, bGeq, bLeq, bLss, bGtr, bEql, bNeq, bAdd, bSub, bMul, bSeq, bSne, bSlt, eqB_eq, mmMin, mmMax, ext_tup, cellD_agg, convI_int, lenS_s, lenL_s, gv_0, gv_s]
                rw [wrap_in (by omega) (by omega)]
                refine hr2 _ ⟨j + 1, by simp, by omega, hjl, ?_⟩ (by simp [gv, natOf]; omega)
                simp only [if_true] at hra
                omega
            · have hjl' : ¬ (j : Int) < (l.length : Int) := by omega
              simp only [hjl', decide_false, if_true, if_false, Bool.false_eq_true, Bool.true_eq_false, reduceCtorEq, opt_s, gBool, gTT, gFF, gTF, gFT, gU, pBool, orN, andN, orI, andI, V.bool.injEq, Bool.true_and, Bool.and_true, Bool.false_and, Bool.and_false, Bool.true_or, Bool.or_true, Bool.false_or, Bool.or_false, Bool.not_true, Bool.not_false, iteB_bool, iteB_true, iteB_false, not_bool, chkB_bool, chkB_undef, bGeq, bLeq, bLss, bGtr, bEql, bNeq, bAdd, bSub, bMul, bSeq, bSne, bSlt, eqB_eq, mmMin, mmMax, ext_tup, cellD_agg, convI_int, lenS_s, lenL_s, gv_0, gv_s]
              exact done (by rw [List.drop_eq_nil_of_le (by omega)]; rfl)
    · have hlt' : ¬ (k : Int) < (l.length : Int) := by omega
      rw [restT_end (l := l) (i := k) (by omega)] at hr0
      rw [hr0] at hT
      simp only [List.append_nil] at hT
      simp [hlt', hT, tokensV]
end Go.Fbs

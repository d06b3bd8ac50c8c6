import Derived.Test.YtknpmfnhkiknkaaCC
import Derived.Test.YtknpmfnhkiknkaaHU1
import Derived.Test.YtknpmfnhkiknkaaK5
set_option linter.unusedVariables false
set_option linter.unusedSimpArgs false
set_option linter.unusedSectionVars false
namespace Go.Fbs
open Go.Proofs

/-- Where a byte stands first, from a place on. -/
def findN (l : List UInt8) (c : Int) (k : Nat) : Int :=
  match (l.drop k).findIdx? (fun b => decide ((b.toNat : Int) = c)) with
  | some j => k + j
  | none => -1
theorem findN_end {l : List UInt8} {c : Int} {k : Nat} (h : l.length ≤ k) : findN l c k = -1 := by
  unfold findN; rw [List.drop_eq_nil_of_le h]; rfl
theorem findN_at {l : List UInt8} {c : Int} {k : Nat} {b : UInt8} (h : l[k]? = some b) : findN l c k = if (b.toNat : Int) = c then (k : Int) else findN l c (k + 1) := by
  have hk : k < l.length := (List.getElem?_eq_some_iff.1 h).1
  have hb : l[k] = b := (List.getElem?_eq_some_iff.1 h).2
  unfold findN
  rw [List.drop_eq_getElem_cons hk, hb, List.findIdx?_cons]
  by_cases hc : (b.toNat : Int) = c
  · simp [hc]
  · simp only [hc, decide_false, Bool.false_eq_true, if_false]
    cases (l.drop (k + 1)).findIdx? (fun b => decide ((b.toNat : Int) = c)) with
    | none => rfl
    | some j => simp; omega

def F_entailref1_Find : Spec
  | [.str l, .int .u8 c, .int .i64 k] => if l.length ≤ big ∧ 0 ≤ k ∧ k ≤ big then some (vI (findN l c k.toNat)) else none
  | _ => none
theorem ok_entailref1_Find : SpecL Try.prog n_entailref1_Find F_entailref1_Find := by
  refine go_entailref1_Find (T := []) (TabOk.nil) fun args v hv => ?_
  unfold F_entailref1_Find at hv
  split at hv <;> (try simp only [Option.ite_none_right_eq_some, Option.some.injEq, reduceCtorEq] at hv)
  rename_i l c k
  obtain ⟨⟨hl, hk, hk'⟩, rfl⟩ := hv
  unfold big at hl hk'
  obtain ⟨k, rfl⟩ : ∃ n : Nat, k = n := ⟨k.toNat, by omega⟩
  simp only [Int.toNat_natCast]
  refine ⟨rfl, rfl, rfl, ?_⟩
  rw [e_entailref1_Find]
  simp only [if_true, if_false, Bool.false_eq_true, Bool.true_eq_false, reduceCtorEq, opt_s, gBool, gTT, gFF, gTF, gFT, gU, pBool, orN, andN, orI, andI, V.bool.injEq, Bool.true_and, Bool.and_true, Bool.false_and, Bool.and_false, Bool.true_or, Bool.or_true, Bool.false_or, Bool.or_false, Bool.not_true, Bool.not_false, iteB_bool, iteB_true, iteB_false, not_bool, chkB_bool, chkB_undef, bGeq, bLeq, bLss, bGtr, bEql, bNeq, bAdd, bSub, bMul, bSeq, bSne, bSlt, eqB_eq, mmMin, mmMax, ext_tup, cellD_agg, convI_int, lenS_s, lenL_s, gv_0, gv_s]
  refine loopP_inv (fun vs => ∃ j : Nat, vs = [vI j] ∧ findN l c j = findN l c k ∧ j ≤ 4611686018427387904) (fun vs => l.length - natOf (gv vs 0)) ⟨k, rfl, rfl, by omega⟩ ?_
  rintro r _ ⟨j, rfl, hj, hjb⟩ hr
  refine ⟨rfl, ?_⟩
  simp only [if_true, if_false, Bool.false_eq_true, Bool.true_eq_false, reduceCtorEq, opt_s, gBool, gTT, gFF, gTF, gFT, gU, pBool, orN, andN, orI, andI, V.bool.injEq, Bool.true_and, Bool.and_true, Bool.false_and, Bool.and_false, Bool.true_or, Bool.or_true, Bool.false_or, Bool.or_false, Bool.not_true, Bool.not_false, iteB_bool, iteB_true, iteB_false, not_bool, chkB_bool, chkB_undef, bGeq, bLeq, bLss, bGtr, bEql, bNeq, bAdd, bSub, bMul, bSeq, bSne, bSlt, eqB_eq, mmMin, mmMax, ext_tup, cellD_agg, convI_int, lenS_s, lenL_s, gv_0, gv_s]
  by_cases hlt : j < l.length
  · obtain ⟨b, hb⟩ : ∃ b, l[j]? = some b := ⟨l[j], List.getElem?_eq_getElem hlt⟩
    have hlt' : (j : Int) < (l.length : Int) := by omega
    rw [findN_at hb] at hj
    simp only [hlt', decide_true, if_true, if_false, Bool.false_eq_true, Bool.true_eq_false, reduceCtorEq, opt_s, gBool, gTT, gFF, gTF, gFT, gU, pBool, orN, andN, orI, andI, V.bool.injEq, Bool.true_and, Bool.and_true, Bool.false_and, Bool.and_false, Bool.true_or, Bool.or_true, Bool.false_or, Bool.or_false, Bool.not_true, Bool.not_false, iteB_bool, iteB_true, iteB_false, not_bool, chkB_bool, chkB_undef, bGeq, bLeq, bLss, bGtr, bEql, bNeq, bAdd, bSub, bMul, bSeq, bSne, bSlt, eqB_eq, mmMin, mmMax, ext_tup, cellD_agg, convI_int, lenS_s, lenL_s, gv_0, gv_s, idxS_at hb]
    by_cases hc : (b.toNat : Int) = c
    · rw [if_pos hc] at hj
      simp [hc, hj]
    · rw [if_neg hc] at hj
      simp only [hc, decide_false, if_true, if_false, Bool.false_eq_true, Bool.true_eq_false, reduceCtorEq, opt_s, gBool, gTT, gFF, gTF, gFT, gU, pBool, orN, andN, orI, andI, V.bool.injEq, Bool.true_and, Bool.and_true, Bool.false_and, Bool.and_false, Bool.true_or, Bool.or_true, Bool.false_or, Bool.or_false, Bool.not_true, Bool.not_false, iteB_bool, iteB_true, iteB_false, not_bool, chkB_bool, chkB_undef, bGeq, bLeq, bLss, bGtr, bEql, bNeq, bAdd, bSub, bMul, bSeq, bSne, bSlt, eqB_eq, mmMin, mmMax, ext_tup, cellD_agg, convI_int, lenS_s, lenL_s, gv_0, gv_s]
      rw [wrap_in (by omega) (by omega)]
      exact hr _ ⟨j + 1, by simp, hj, by omega⟩ (by simp [gv, natOf]; omega)
  · have hlt' : ¬ (j : Int) < (l.length : Int) := by omega
    rw [findN_end (by omega)] at hj
    simp [if_true, if_false, Bool.false_eq_true, Bool.true_eq_false, reduceCtorEq, opt_s, gBool, gTT, gFF, gTF, gFT, gU, pBool, orN, andN, orI, andI, V.bool.injEq, Bool.true_and, Bool.and_true, Bool.false_and, Bool.and_false, Bool.true_or, Bool.or_true, Bool.false_or, Bool.or_false, Bool.not_true, Bool.not_false, iteB_bool, iteB_true, iteB_false, not_bool, chkB_bool, chkB_undef, bGeq, bLeq, bLss, bGtr, bEql, bNeq, bAdd, bSub, bMul, bSeq, bSne, bSlt, eqB_eq, mmMin, mmMax, ext_tup, cellD_agg, convI_int, lenS_s, lenL_s, gv_0, gv_s, hlt', hj]

/-! ### Two rows of tokens -/
abbrev Tok := Int × Nat × List UInt8
def awText6 : List UInt8 := [116, 121, 112, 101, 32, 97, 32, 123, 32, 114, 58, 32, 98, 35, 99, 59, 32, 47, 47, 32, 120, 10, 32, 115, 32, 61, 32, 114, 45, 62, 116, 32, 45, 32, 40, 114, 32, 38, 32, 115, 41, 59, 32, 125]
def F_entaillaw6_awake : Spec
  | [] => some (.bool true)
  | _ => none
theorem ok_entaillaw6_awake : SpecL Try.prog n_entaillaw6_awake F_entaillaw6_awake := by
  refine go_entaillaw6_awake (T := [(n_toke_Tokens, F_toke_Tokens)]) (TabOk.cons ok_toke_Tokens TabOk.nil) fun args v hv => ?_
  have c_toke_Tokens : ∀ args, tab [(n_toke_Tokens, F_toke_Tokens)] n_toke_Tokens args = F_toke_Tokens args := fun _ => rfl
  unfold F_entaillaw6_awake at hv
  split at hv <;> (try simp only [Option.ite_none_right_eq_some, Option.some.injEq, reduceCtorEq] at hv)
  subst hv
  refine ⟨rfl, rfl, rfl, ?_⟩
  have h : FunWp tyT (tab [(n_toke_Tokens, F_toke_Tokens)]) 60 q_entaillaw6_awake [.tmp 0] (cB Try.f6) [] (fun r => r = .bool true) = (V.bool true = V.bool true) := by kernel_rfl
  rw [h]
/-! ### Chapter 6: the document's tokens -/
theorem toks_fuel : ∀ (f : Nat) (k : Nat) (l : List UInt8), l.length ≤ f → toks f k l = toks l.length k l := by
  intro f
  induction f using Nat.strongRecOn with
  | ind f ih =>
    intro k l hl
    cases l with
    | nil => cases f <;> rfl
    | cons c t =>
      obtain ⟨g, rfl⟩ : ∃ g, f = g + 1 := ⟨f - 1, by simp at hl; omega⟩
      simp only [List.length_cons, toks]
      split
      · rfl
      · have hn := (nextT_len (l := c :: t) (by simp)).1
        generalize (nextT (c :: t)).2.1.length = n at *
        have h1 : (((c :: t).drop n).drop (skipN false ((c :: t).drop n))).length ≤ t.length := by
          simp only [List.length_drop, List.length_cons]; omega
        simp only [List.length_cons] at hl
        rw [ih g (by omega) _ _ (by omega)]
        by_cases hg : t.length < g + 1
        · by_cases hg2 : t.length = g
          · rw [hg2, ih g (by omega) _ _ (by omega)]
          · rw [ih t.length (by omega) _ _ h1]
        · omega

/-- The tokens from a place on, also of what says nothing there. -/
def restT (l : List UInt8) (i : Nat) : List Tok × Option Nat := toks (l.length - i) (i + skipN false (l.drop i)) (l.drop (i + skipN false (l.drop i)))
theorem restT_fuel (l : List UInt8) (i f : Nat) (h : l.length - i ≤ f) : toks f (i + skipN false (l.drop i)) (l.drop (i + skipN false (l.drop i))) = restT l i := by
  unfold restT
  rw [toks_fuel f _ _ (by simp only [List.length_drop]; omega), toks_fuel (l.length - i) _ _ (by simp only [List.length_drop]; omega)]
theorem restT_all (l : List UInt8) : toks l.length (skipN false l) (l.drop (skipN false l)) = restT l 0 := by
  have := restT_fuel l 0 l.length (by omega)
  simpa using this
/-- What says nothing is passed. -/
theorem restT_skip {l : List UInt8} {i k : Nat} (hi : i ≤ k) (h : skipN false (l.drop i) = (k - i) + skipN false (l.drop k)) : restT l i = restT l k := by
  have e : i + skipN false (l.drop i) = k + skipN false (l.drop k) := by omega
  have := restT_fuel l k (l.length - i) (by omega)
  rw [← this]
  unfold restT
  rw [e]
theorem restT_tok {l : List UInt8} {i : Nat} {c : UInt8} {t : List UInt8} (hd : l.drop i = c :: t) (h0 : skipN false (c :: t) = 0) :
    restT l i = if (nextT (c :: t)).2.2 = false then ([], some i) else (((nextT (c :: t)).1, i, (nextT (c :: t)).2.1) :: (restT l (i + (nextT (c :: t)).2.1.length)).1, (restT l (i + (nextT (c :: t)).2.1.length)).2) := by
  have hl : i < l.length := by
    have := congrArg List.length hd; simp only [List.length_drop, List.length_cons] at this; omega
  have e1 : restT l i = toks (l.length - i) i (c :: t) := by
    unfold restT; rw [hd, h0, Nat.add_zero, hd]
  rw [e1]
  obtain ⟨g, hg⟩ : ∃ g, l.length - i = g + 1 := ⟨l.length - i - 1, by omega⟩
  rw [hg]
  simp only [toks]
  split
  · rfl
  · have hn := (nextT_len (l := c :: t) (by simp)).1
    generalize hnn : (nextT (c :: t)).2.1.length = n at *
    have e2 : ∀ j, (c :: t).drop j = l.drop (i + j) := fun j => by rw [← hd, List.drop_drop]
    rw [e2 n, List.drop_drop]
    rw [restT_fuel l (i + n) g (by omega)]
theorem restT_end {l : List UInt8} {i : Nat} (h : l.length ≤ i) : restT l i = ([], none) := by
  unfold restT
  rw [show l.drop (i + skipN false (l.drop i)) = [] from List.drop_eq_nil_of_le (by omega)]
  cases l.length - i <;> rfl

theorem tokensT_rest {l : List UInt8} (h : ¬ 100000 < l.length) : tokensT l = match (restT l 0).2 with | some k => ([], k, 7) | none => ((restT l 0).1, 0, 0) := by
  unfold tokensT
  rw [if_neg h, restT_all]
  rfl

theorem toks_len : ∀ (f k : Nat) (l : List UInt8), (toks f k l).1.length ≤ f
  | 0, k, l => by simp [toks]
  | f + 1, k, [] => by simp [toks]
  | f + 1, k, c :: l => by
    simp only [toks]
    split
    · simp
    · have := toks_len f (k + (nextT (c :: l)).2.1.length + skipN false ((c :: l).drop (nextT (c :: l)).2.1.length)) (((c :: l).drop (nextT (c :: l)).2.1.length).drop (skipN false ((c :: l).drop (nextT (c :: l)).2.1.length)))
      simp only [List.length_cons]; omega
theorem tokensT_len (l : List UInt8) : (tokensT l).1.length ≤ l.length := by
  unfold tokensT
  split
  · simp
  · have := toks_len l.length (skipN false l) (l.drop (skipN false l))
    simp only
    split
    · simp
    · exact this

theorem skipN_tok {c : UInt8} {t : List UInt8} (h : ¬ (c = 47 ∧ t.head? = some 47)) (hb : blankB c = false) : skipN false (c :: t) = 0 := by
  simp only [skipN, if_neg h, hb, Bool.false_eq_true, if_false]
theorem skipN_blank {c : UInt8} {t : List UInt8} (hb : blankB c = true) : skipN false (c :: t) = 1 + skipN false t := by
  have h : ¬ (c = 47 ∧ t.head? = some 47) := by
    rintro ⟨rfl, _⟩; simp [blankB] at hb
  simp only [skipN, if_neg h, hb, if_true]

theorem letter_row {c : UInt8} {t : List UInt8} (h : letterB c.toNat = true) : rowN (c :: t) = 1 + rowN t := by
  simp [rowN, List.takeWhile_cons, h]; omega
theorem letter_row0 {c : UInt8} {t : List UInt8} (h : letterB c.toNat = false) : rowN (c :: t) = 0 := by
  simp [rowN, List.takeWhile_cons, h]
theorem rowN_at {l : List UInt8} {k : Nat} {c : UInt8} (h : l[k]? = some c) : rowN (l.drop k) = if letterB c.toNat then 1 + rowN (l.drop (k + 1)) else 0 := by
  have hk : k < l.length := (List.getElem?_eq_some_iff.1 h).1
  rw [List.drop_eq_getElem_cons hk, (List.getElem?_eq_some_iff.1 h).2]
  split
  · rename_i hc; exact letter_row hc
  · rename_i hc; exact letter_row0 (by simpa using hc)

theorem findN_has {l : List UInt8} {c : UInt8} : decide (findN l c.toNat 0 < 0) = decide (c ∉ l) := by
  unfold findN
  simp only [List.drop_zero]
  cases h : l.findIdx? (fun b => decide ((b.toNat : Int) = c.toNat)) with
  | none =>
    rw [List.findIdx?_eq_none_iff] at h
    have : c ∉ l := fun hc => by have := h c hc; simp at this
    simp [this]
  | some j =>
    have : c ∈ l := by
      obtain ⟨hj, h1, _⟩ := List.findIdx?_eq_some_iff_getElem.1 h
      simp only [decide_eq_true_eq] at h1
      have : l[j] = c := UInt8.toNat_inj.1 (by omega)
      rw [← this]; exact List.getElem_mem hj
    simp [this]


/-! ### TokeBytes: the plain law -/
def repsT (n : Nat) : List UInt8 := (List.replicate n [97, 32]).flatten
theorem repsT_succ (n : Nat) : repsT (n + 1) = 97 :: 32 :: repsT n := by
  simp [repsT, List.replicate_succ]
theorem repsT_snoc : ∀ n : Nat, repsT n ++ [97, 32] = repsT (n + 1)
  | 0 => rfl
  | n + 1 => by rw [repsT_succ (n + 1), repsT_succ n, List.cons_append, List.cons_append, repsT_snoc n, repsT_succ n]
theorem repsT_len : ∀ n : Nat, (repsT n).length = 2 * n
  | 0 => rfl
  | n + 1 => by rw [repsT_succ]; simp only [List.length_cons]; rw [repsT_len n]; omega
theorem repsT_drop (t : List UInt8) : ∀ (n i : Nat), i ≤ n → (repsT n ++ t).drop (2 * i) = repsT (n - i) ++ t
  | n, 0, _ => by simp
  | 0, i + 1, h => by omega
  | n + 1, i + 1, h => by
    rw [repsT_succ, show 2 * (i + 1) = 2 * i + 2 by omega, show n + 1 - (i + 1) = n - i by omega]
    simp only [List.cons_append, List.drop_succ_cons]
    exact repsT_drop t n i (by omega)
theorem next_a (u : List UInt8) : nextT (97 :: 32 :: u) = (1, [97], true) := by
  have h1 : rowN (97 :: 32 :: u) = 1 := by
    rw [letter_row (by decide), letter_row0 (by decide)]
  unfold nextT
  rw [h1]
  simp
theorem reps_rest (t : List UInt8) (n : Nat) : ∀ (d i : Nat), i + d = n → (restT (repsT n ++ t) (2 * i)).2 = (restT (repsT n ++ t) (2 * n)).2
  | 0, i, h => by rw [show i = n by omega]
  | d + 1, i, h => by
    rw [← reps_rest t n d (i + 1) (by omega)]
    have hd : (repsT n ++ t).drop (2 * i) = 97 :: 32 :: (repsT (n - (i + 1)) ++ t) := by
      rw [repsT_drop t n i (by omega), show n - i = (n - (i + 1)) + 1 by omega, repsT_succ]; rfl
    rw [restT_tok hd (skipN_tok (by simp) (by decide)), next_a]
    simp only [Bool.true_eq_false, if_false, List.length_singleton]
    have h1 : (repsT n ++ t).drop (2 * i + 1) = 32 :: (repsT (n - (i + 1)) ++ t) := by
      rw [← List.drop_drop, hd]; rfl
    have h2 : (repsT n ++ t).drop (2 * i + 2) = repsT (n - (i + 1)) ++ t := by
      rw [← List.drop_drop, hd]; rfl
    rw [restT_skip (i := 2 * i + 1) (k := 2 * i + 2) (by omega) (by
      rw [h1, h2, skipN_blank (by decide)]; omega)]
    rw [show 2 * (i + 1) = 2 * i + 2 by omega]
theorem toks_shift : ∀ (f k m : Nat) (l : List UInt8), (toks f (k + m) l).2 = ((toks f k l).2).map (· + m)
  | 0, _, _, _ => rfl
  | f + 1, _, _, [] => rfl
  | f + 1, k, m, c :: l => by
    simp only [toks]
    split
    · simp
    · simp only
      rw [show k + m + (nextT (c :: l)).2.1.length + skipN false ((c :: l).drop (nextT (c :: l)).2.1.length) = k + (nextT (c :: l)).2.1.length + skipN false ((c :: l).drop (nextT (c :: l)).2.1.length) + m by omega]
      exact toks_shift f _ m _
def goodC (c : UInt8) : Bool := blankB c || letterB c.toNat || decide (c ∈ signsL)
def tailK (c : UInt8) : Bool :=
  match (toks 3 (skipN false [c, 32, 98]) ([c, 32, 98].drop (skipN false [c, 32, 98]))).2 with
  | none => goodC c
  | some 0 => !goodC c
  | some _ => false
theorem tail_all : ((List.range 256).all fun n => tailK (UInt8.ofNat n)) = true := by kernel_rfl
theorem tail_c (c : UInt8) : (toks 3 (skipN false [c, 32, 98]) ([c, 32, 98].drop (skipN false [c, 32, 98]))).2 = if goodC c then none else some 0 := by
  have h := List.all_eq_true.1 tail_all c.toNat (List.mem_range.2 c.toNat_lt)
  rw [UInt8.ofNat_toNat] at h
  unfold tailK at h
  split at h
  · rename_i e; rw [e, h]; rfl
  · rename_i e
    rw [e]
    simp only [Bool.not_eq_true'] at h
    rw [h]; rfl
  · simp at h
theorem tail_rest {l : List UInt8} {m : Nat} {c : UInt8} (h : l.drop m = [c, 32, 98]) : (restT l m).2 = if goodC c then none else some m := by
  have hl : l.length - m = 3 := by rw [← List.length_drop, h]; rfl
  unfold restT
  rw [← List.drop_drop, h, hl, show m + skipN false [c, 32, 98] = skipN false [c, 32, 98] + m by omega, toks_shift, tail_c]
  cases goodC c <;> simp
theorem bytes_tokens (n : Nat) (c : UInt8) (hn : n < 32) : ∃ ts, tokensT (repsT n ++ ([c] ++ [32, 98])) = if goodC c then (ts, 0, 0) else ([], 2 * n, 7) := by
  have hd : (repsT n ++ ([c] ++ [32, 98])).drop (2 * n) = [c, 32, 98] := by
    rw [repsT_drop _ n n (Nat.le_refl _), Nat.sub_self]; rfl
  have h0 := reps_rest ([c] ++ [32, 98]) n n 0 (by omega)
  rw [tail_rest hd] at h0
  refine ⟨(restT (repsT n ++ ([c] ++ [32, 98])) 0).1, ?_⟩
  rw [tokensT_rest (by simp only [List.length_append, repsT_len]; simp; omega), show (0 : Nat) = 2 * 0 from rfl, h0]
  cases goodC c <;> rfl
theorem blank_tokens (k : Nat) : ∃ ts a e, tokensT (List.replicate k 32) = (ts, a, e) ∧ decide (e = 8) = decide (100000 < k) := by
  by_cases h : 100000 < k
  · refine ⟨[], 0, 8, ?_, by simp [h]⟩
    unfold tokensT
    rw [if_pos (by simpa using h)]
  · rw [tokensT_rest (by simpa using h)]
    cases (restT (List.replicate k 32) 0).2 with
    | none => exact ⟨_, _, _, rfl, by simp [h]⟩
    | some a => exact ⟨_, _, _, rfl, by simp [h]⟩
theorem convBS_rep : ∀ k : Nat, convBS (.sl .ro (List.replicate k (.int .u8 32))) = some (.str (List.replicate k 32)) := by
  intro k
  simp only [convBS]
  refine Option.map_eq_some_iff.2 ⟨List.replicate k 32, ?_, rfl⟩
  induction k with
  | zero => rfl
  | succ k ih => rw [List.replicate_succ, List.mapM_cons, ih]; rfl

theorem bMask {a : Int} {j : Nat} (hj : j < 63) {m : Int} (hm : m = ((2 ^ j - 1 : Nat) : Int)) : binK .and (.int .i64 a) (.int .i64 m) = some (.int .i64 (((a % (2 ^ j : Nat)).toNat : Nat) : Int)) := by
  rw [hm, bAndMask hj]
  have : 0 ≤ a % ((2 ^ j : Nat) : Int) := Int.emod_nonneg _ (by have : 0 < (2 : Nat) ^ j := Nat.pow_pos (by omega); omega)
  rw [Int.toNat_of_nonneg this]
theorem bAnd31 (a : Int) : binK .and (.int .i64 a) (.int .i64 31) = some (.int .i64 (((a % 32).toNat : Nat) : Int)) := bMask (j := 5) (by omega) rfl
theorem modlt {n : Int} {m : Nat} (hm : 0 < m) : (n % (m : Int)).toNat < m := by
  have h1 := Int.emod_nonneg n (show (m : Int) ≠ 0 by omega)
  have h2 := Int.emod_lt_of_pos n (show (0 : Int) < m by omega)
  omega
theorem convBS_one (c : UInt8) : convBS (.sl .ro [.int .u8 c.toNat]) = some (.str [c]) := by
  simp [convBS]
theorem byte_of {c : Int} (h1 : 0 ≤ c) (h2 : c < 256) : ∃ b : UInt8, c = (b.toNat : Int) := by
  refine ⟨UInt8.ofNat c.toNat, ?_⟩
  have : c.toNat < 256 := by omega
  simp [Nat.mod_eq_of_lt this]; omega
theorem bqT (b : Bool) : (b == true) = b := by cases b <;> rfl
theorem bqF (b : Bool) : (b == false) = !b := by cases b <;> rfl
theorem bTq (b : Bool) : (true == b) = b := by cases b <;> rfl
theorem bFq (b : Bool) : (false == b) = !b := by cases b <;> rfl
theorem F_toke_of {l : List UInt8} {ts : List Tok} {a : Nat} {e : Int} (hl : l.length ≤ big) (h : tokensT l = (ts, a, e)) : F_toke_Tokens [.str l] = some (.tup [tokensV ts, vI a, vI e]) := by
  show (if l.length ≤ big then some (V.tup [tokensV (tokensT l).1, vI (tokensT l).2.1, vI (tokensT l).2.2]) else none) = _
  rw [if_pos hl, h]
theorem wf_u8 {n : Int} (h : (Lit.int .u8 n).wf = true) : 0 ≤ n ∧ n < 256 := by
  simp only [Lit.wf, Bool.and_eq_true, decide_eq_true_eq] at h
  have h1 : IntKind.u8.min = 0 := by decide
  have h2 : IntKind.u8.max = 255 := by decide
  rw [h1, h2] at h; omega
def goodK (c : UInt8) : Bool := decide ((c.toNat : Int) = 32) || decide ((c.toNat : Int) = 9) || decide ((c.toNat : Int) = 10) || decide ((c.toNat : Int) = 13) || (decide (97 ≤ (c.toNat : Int)) && decide ((c.toNat : Int) ≤ 122)) || (decide (48 ≤ (c.toNat : Int)) && decide ((c.toNat : Int) ≤ 57)) || decide ((c.toNat : Int) = 95) || decide (0 ≤ findN signsL c.toNat 0)
theorem good_all : ((List.range 256).all fun n => goodC (UInt8.ofNat n) == goodK (UInt8.ofNat n)) = true := by kernel_rfl
theorem good_eq (c : UInt8) : goodC c = goodK c := by
  have h := List.all_eq_true.1 good_all c.toNat (List.mem_range.2 c.toNat_lt)
  rw [UInt8.ofNat_toNat] at h
  simpa using h
theorem make_rep (K : Nat) (h : K ≤ 200000) : makeK (.int .u8 32) 1 (vI K) (vI K) = some (.sl .ro (List.replicate K (.int .u8 32))) := by
  simp only [makeK]
  rw [if_pos (by omega)]
  simp
def F_entaillaw6_TokeBytes : Spec
  | [.int .u8 c, .int .i64 _, .int .i64 _] => if 0 ≤ c ∧ c < 256 then some (.bool true) else none
  | _ => none
theorem ok_entaillaw6_TokeBytes : SpecL Try.prog n_entaillaw6_TokeBytes F_entaillaw6_TokeBytes := by
  refine go_entaillaw6_TokeBytes (T := [(n_toke_Tokens, F_toke_Tokens), (n_entailref1_Find, F_entailref1_Find), (n_entaillaw6_awake, F_entaillaw6_awake)]) (TabOk.cons ok_toke_Tokens (TabOk.cons ok_entailref1_Find (TabOk.cons ok_entaillaw6_awake TabOk.nil))) fun args v hv => ?_
  have c_toke_Tokens : ∀ args, tab [(n_toke_Tokens, F_toke_Tokens), (n_entailref1_Find, F_entailref1_Find), (n_entaillaw6_awake, F_entaillaw6_awake)] n_toke_Tokens args = F_toke_Tokens args := fun _ => rfl
  have c_entailref1_Find : ∀ args, tab [(n_toke_Tokens, F_toke_Tokens), (n_entailref1_Find, F_entailref1_Find), (n_entaillaw6_awake, F_entaillaw6_awake)] n_entailref1_Find args = F_entailref1_Find args := fun _ => rfl
  have c_entaillaw6_awake : ∀ args, tab [(n_toke_Tokens, F_toke_Tokens), (n_entailref1_Find, F_entailref1_Find), (n_entaillaw6_awake, F_entaillaw6_awake)] n_entaillaw6_awake args = F_entaillaw6_awake args := fun _ => rfl
  unfold F_entaillaw6_TokeBytes at hv
  split at hv <;> (try simp only [Option.ite_none_right_eq_some, Option.some.injEq, reduceCtorEq] at hv)
  rename_i c n k
  obtain ⟨hc, rfl⟩ := hv
  obtain ⟨b, rfl⟩ := byte_of hc.1 hc.2
  refine ⟨rfl, rfl, rfl, ?_⟩
  rw [e_entaillaw6_TokeBytes]
  have hn : (n % 32).toNat < 32 := modlt (m := 32) (by omega)
  have hk : (k % 32).toNat < 32 := modlt (m := 32) (by omega)
  simp only [bAnd31, opt_s, bAdd]
  generalize (n % 32).toNat = n0 at hn
  generalize (k % 32).toNat = k0 at hk
  have wk : IntKind.i64.wrap (99990 + (k0 : Int)) = ((99990 + k0 : Nat) : Int) := by rw [wrap_in (by omega) (by omega)]; omega
  rw [wk]
  generalize hK : 99990 + k0 = K
  have hK2 : K ≤ 200000 := by omega
  refine loopP_inv (fun vs => ∃ i : Nat, vs = [.str (repsT i), vI i] ∧ i ≤ n0) (fun vs => n0 - natOf (gv vs 1)) ⟨0, rfl, Nat.zero_le _⟩ ?_
  rintro r _ ⟨i, rfl, hi⟩ hr
  refine ⟨rfl, ?_⟩
  simp only [if_true, if_false, Bool.false_eq_true, Bool.true_eq_false, reduceCtorEq, opt_s, gBool, gTT, gFF, gTF, gFT, gU, pBool, orN, andN, orI, andI, V.bool.injEq, Bool.true_and, Bool.and_true, Bool.false_and, Bool.and_false, Bool.true_or, Bool.or_true, Bool.false_or, Bool.or_false, Bool.not_true, Bool.not_false, iteB_bool, iteB_true, iteB_false, not_bool, chkB_bool, chkB_undef, bGeq, bLeq, bLss, bGtr, bEql, bNeq, bAdd, bSub, bMul, bSeq, bSne, bSlt, eqB_eq, mmMin, mmMax, ext_tup, cellD_agg, convI_int, lenS_s, lenL_s, gv_0, gv_s]
  by_cases hlt : i < n0
  · have hlt' : (i : Int) < (n0 : Int) := by omega
    have hw : IntKind.i64.wrap ((i : Int) + 1) = ((i + 1 : Nat) : Int) := by rw [wrap_in (by omega) (by omega)]; omega
    have a1 := bSadd (repsT i) [97, 32] (by rw [repsT_len]; simp; omega)
    have step : r [.str (repsT (i + 1)), vI (i + 1 : Nat)] := hr _ ⟨i + 1, rfl, hlt⟩ (by simp [gv, natOf]; omega)
    rw [← repsT_snoc] at step
    simp only [hlt', decide_true, if_true, if_false, Bool.false_eq_true, Bool.true_eq_false, reduceCtorEq, opt_s, gBool, gTT, gFF, gTF, gFT, gU, pBool, orN, andN, orI, andI, V.bool.injEq, Bool.true_and, Bool.and_true, Bool.false_and, Bool.and_false, Bool.true_or, Bool.or_true, Bool.false_or, Bool.or_false, Bool.not_true, Bool.not_false, iteB_bool, iteB_true, iteB_false, not_bool, chkB_bool, chkB_undef, bGeq, bLeq, bLss, bGtr, bEql, bNeq, bAdd, bSub, bMul, bSeq, bSne, bSlt, eqB_eq, mmMin, mmMax, ext_tup, cellD_agg, convI_int, lenS_s, lenL_s, gv_0, gv_s, a1, hw, step]
  · have hlt' : ¬ (i : Int) < (n0 : Int) := by omega
    obtain rfl : i = n0 := by omega
    have l1 : litK 1 [.int .u8 b.toNat] = some (.sl .ro [.int .u8 b.toNat]) := lit_s (by simp) (by simp [V.cells, V.ok1])
    have a1 := bSadd (repsT i) [b] (by rw [repsT_len]; simp; omega)
    have a2 := bSadd (repsT i ++ [b]) [32, 98] (by rw [List.length_append, repsT_len]; simp; omega)
    have w2 : IntKind.i64.wrap (2 * (i : Int)) = ((2 * i : Nat) : Int) := by rw [wrap_in (by omega) (by omega)]; omega
    obtain ⟨ts, ht⟩ := bytes_tokens i b hn
    rw [← List.append_assoc] at ht
    have hlen : (repsT i ++ [b] ++ [32, 98]).length ≤ big := by simp only [List.length_append, repsT_len]; unfold big; simp; omega
    obtain ⟨us, ua, ue, hu, hue⟩ := blank_tokens K
    have f5 := F_toke_of (by simp; unfold big; omega) hu
    have f2 : F_entailref1_Find [.str [123, 125, 58, 59, 124, 35, 61, 43, 45, 38, 40, 41], .int .u8 b.toNat, .int .i64 0] = some (vI (findN signsL b.toNat 0)) := by
      simp only [F_entailref1_Find]
      rw [if_pos (by unfold big; simp)]
      rfl
    have f3 := make_rep K hK2
    have hKK : decide ((100000 : Int) < (K : Int)) = decide (100000 < K) := by rw [decide_eq_decide]; omega
    have hg := good_eq b
    have f1 : ∃ a e, F_toke_Tokens [.str (repsT i ++ [b] ++ [32, 98])] = some (.tup [tokensV (if goodC b then ts else []), vI a, vI e]) ∧ ((goodC b = true ∧ e = 0) ∨ (goodC b = false ∧ e = 7 ∧ a = (2 * i : Nat))) := by
      cases hgb : goodC b with
      | true => rw [hgb] at ht; exact ⟨_, _, F_toke_of hlen ht, .inl ⟨rfl, rfl⟩⟩
      | false => rw [hgb] at ht; exact ⟨_, _, F_toke_of hlen ht, .inr ⟨rfl, rfl, rfl⟩⟩
    obtain ⟨a, e, f1, hae⟩ := f1
    simp only [hlt', decide_false, if_true, if_false, Bool.false_eq_true, Bool.true_eq_false, reduceCtorEq, opt_s, gBool, gTT, gFF, gTF, gFT, gU, pBool, orN, andN, orI, andI, V.bool.injEq, Bool.true_and, Bool.and_true, Bool.false_and, Bool.and_false, Bool.true_or, Bool.or_true, Bool.false_or, Bool.or_false, Bool.not_true, Bool.not_false, iteB_bool, iteB_true, iteB_false, not_bool, chkB_bool, chkB_undef, bGeq, bLeq, bLss, bGtr, bEql, bNeq, bAdd, bSub, bMul, bSeq, bSne, bSlt, eqB_eq, mmMin, mmMax, ext_tup, cellD_agg, convI_int, lenS_s, lenL_s, gv_0, gv_s, l1, convBS_one, a1, a2, c_toke_Tokens, c_entailref1_Find, f1, f2, f3, convBS_rep, f5, w2, List.getElem?_cons_zero, List.getElem?_cons_succ, hue, hKK, c_entaillaw6_awake, F_entaillaw6_awake]
    unfold goodK at hg
    rw [hg] at hae
    have e1 : decide (((2 * i : Nat) : Int) = ((2 * i : Nat) : Int)) = true := by simp
    clear ht f1 f2 f3 f5 hg hu hue l1 a1 a2 hr hlen w2 wk hlt hlt' hi hKK c_toke_Tokens c_entailref1_Find c_entaillaw6_awake
    have gq : ∀ z : V, binK .geq (.int .i64 (findN signsL b.toNat 0)) (.int .i64 0) = some (.bool (decide (0 ≤ findN signsL b.toNat 0))) := fun _ => rfl
    generalize decide (100000 < K) = pk
    generalize findN signsL b.toNat 0 = fN at *
    generalize hp10 : decide (0 ≤ fN) = p10 at *
    generalize decide ((b.toNat : Int) = 32) = p1 at *
    generalize decide ((b.toNat : Int) = 9) = p2 at *
    generalize decide ((b.toNat : Int) = 10) = p3 at *
    generalize decide ((b.toNat : Int) = 13) = p4 at *
    generalize (p1 || p2 || p3 || p4) = q at *
    generalize decide ((97 : Int) ≤ b.toNat) = p5 at *
    generalize decide ((b.toNat : Int) ≤ 122) = p6 at *
    generalize decide ((48 : Int) ≤ b.toNat) = p7 at *
    generalize decide ((b.toNat : Int) ≤ 57) = p8 at *
    generalize decide ((b.toNat : Int) = 95) = p9 at *
    rcases hae with ⟨h1, rfl⟩ | ⟨h1, rfl, rfl⟩
    · cases q
      · cases p5 <;> cases p6 <;> cases p7 <;> cases p8 <;> simp only [if_true, if_false, Bool.false_eq_true, Bool.true_eq_false, reduceCtorEq, opt_s, gBool, gTT, gFF, gTF, gFT, gU, pBool, orN, andN, orI, andI, V.bool.injEq, Bool.true_and, Bool.and_true, Bool.false_and, Bool.and_false, Bool.true_or, Bool.or_true, Bool.false_or, Bool.or_false, Bool.not_true, Bool.not_false, iteB_bool, iteB_true, iteB_false, not_bool, chkB_bool, chkB_undef, bGeq, bLeq, bLss, bGtr, bEql, bNeq, bAdd, bSub, bMul, bSeq, bSne, bSlt, eqB_eq, mmMin, mmMax, ext_tup, cellD_agg, convI_int, lenS_s, lenL_s, gv_0, gv_s, hp10, gq, beq_self_eq_true, bne, bqF, bqT, bFq, bTq] at h1 ⊢
        all_goals (cases p9 <;> cases p10 <;> simp [if_true, if_false, Bool.false_eq_true, Bool.true_eq_false, reduceCtorEq, opt_s, gBool, gTT, gFF, gTF, gFT, gU, pBool, orN, andN, orI, andI, V.bool.injEq, Bool.true_and, Bool.and_true, Bool.false_and, Bool.and_false, Bool.true_or, Bool.or_true, Bool.false_or, Bool.or_false, Bool.not_true, Bool.not_false, iteB_bool, iteB_true, iteB_false, not_bool, chkB_bool, chkB_undef, bGeq, bLeq, bLss, bGtr, bEql, bNeq, bAdd, bSub, bMul, bSeq, bSne, bSlt, eqB_eq, mmMin, mmMax, ext_tup, cellD_agg, convI_int, lenS_s, lenL_s, gv_0, gv_s, hp10, gq, beq_self_eq_true, bne, bqF, bqT, bFq, bTq] at h1 ⊢)
      · simp [if_true, if_false, Bool.false_eq_true, Bool.true_eq_false, reduceCtorEq, opt_s, gBool, gTT, gFF, gTF, gFT, gU, pBool, orN, andN, orI, andI, V.bool.injEq, Bool.true_and, Bool.and_true, Bool.false_and, Bool.and_false, Bool.true_or, Bool.or_true, Bool.false_or, Bool.or_false, Bool.not_true, Bool.not_false, iteB_bool, iteB_true, iteB_false, not_bool, chkB_bool, chkB_undef, bGeq, bLeq, bLss, bGtr, bEql, bNeq, bAdd, bSub, bMul, bSeq, bSne, bSlt, eqB_eq, mmMin, mmMax, ext_tup, cellD_agg, convI_int, lenS_s, lenL_s, gv_0, gv_s, gq, beq_self_eq_true, bne, bqF, bqT, bFq, bTq]
    · cases q
      · cases p5 <;> cases p6 <;> cases p7 <;> cases p8 <;> simp only [if_true, if_false, Bool.false_eq_true, Bool.true_eq_false, reduceCtorEq, opt_s, gBool, gTT, gFF, gTF, gFT, gU, pBool, orN, andN, orI, andI, V.bool.injEq, Bool.true_and, Bool.and_true, Bool.false_and, Bool.and_false, Bool.true_or, Bool.or_true, Bool.false_or, Bool.or_false, Bool.not_true, Bool.not_false, iteB_bool, iteB_true, iteB_false, not_bool, chkB_bool, chkB_undef, bGeq, bLeq, bLss, bGtr, bEql, bNeq, bAdd, bSub, bMul, bSeq, bSne, bSlt, eqB_eq, mmMin, mmMax, ext_tup, cellD_agg, convI_int, lenS_s, lenL_s, gv_0, gv_s, hp10, gq, beq_self_eq_true, bne, bqF, bqT, bFq, bTq] at h1 ⊢
        all_goals (cases p9 <;> cases p10 <;> simp [if_true, if_false, Bool.false_eq_true, Bool.true_eq_false, reduceCtorEq, opt_s, gBool, gTT, gFF, gTF, gFT, gU, pBool, orN, andN, orI, andI, V.bool.injEq, Bool.true_and, Bool.and_true, Bool.false_and, Bool.and_false, Bool.true_or, Bool.or_true, Bool.false_or, Bool.or_false, Bool.not_true, Bool.not_false, iteB_bool, iteB_true, iteB_false, not_bool, chkB_bool, chkB_undef, bGeq, bLeq, bLss, bGtr, bEql, bNeq, bAdd, bSub, bMul, bSeq, bSne, bSlt, eqB_eq, mmMin, mmMax, ext_tup, cellD_agg, convI_int, lenS_s, lenL_s, gv_0, gv_s, hp10, gq, e1, beq_self_eq_true, bne, bqF, bqT, bFq, bTq] at h1 ⊢)
      · simp at h1
end Go.Fbs

import Derived.Test.YthkfcmfphjepnaaCD
set_option linter.unusedVariables false
set_option linter.unusedSimpArgs false
set_option linter.unusedSectionVars false
namespace Go.Fbs
open Go.Proofs

/-! ### Chapter 6: tame texts; what holds by hand -/
def wordsT : List (List UInt8) := [[116, 121, 112, 101, 32], [97], [98], [114], [115], [32], [123], [125], [58], [59], [124], [35], [61], [43], [45], [38], [40], [41], [45, 62], [47, 47, 120, 10], [10], [116, 121, 112, 101, 32, 97, 32, 123], [114, 58, 32, 97, 59], [115, 32, 61, 32, 114]]
def wordT (c : UInt8) : List UInt8 := wordsT.getD (c.toNat % 24) []
def tameT (l : List UInt8) : List UInt8 := ((l.take 100).map wordT).flatten
theorem wordT_at (c : UInt8) : wordsT[c.toNat % 24]? = some (wordT c) := by
  unfold wordT
  have : c.toNat % 24 < wordsT.length := Nat.mod_lt _ (by decide)
  rw [List.getD_eq_getElem?_getD, List.getElem?_eq_getElem this]; rfl
theorem wordT_len (c : UInt8) : (wordT c).length ≤ 8 := by
  have h : ∀ x ∈ wordsT, x.length ≤ 8 := by decide
  exact h _ (List.mem_of_getElem? (wordT_at c))
theorem flat_len : ∀ (l : List UInt8), ((l.map wordT).flatten).length ≤ 8 * l.length
  | [] => by simp
  | c :: l => by
    have := flat_len l
    have := wordT_len c
    simp only [List.map_cons, List.flatten_cons, List.length_append, List.length_cons]; omega
theorem tameT_len (l : List UInt8) : (tameT l).length ≤ 800 := by
  have := flat_len (l.take 100)
  have h2 : (l.take 100).length ≤ 100 := by simp; omega
  unfold tameT; omega

def chkRem (n : Nat) : Bool :=
  match binK .and (.int .u8 n) (.int .u8 255) with
  | some (.int .u8 a) => a == n && (match binK .rem (.int .u8 n) (.int .u8 24) with | some (.int .u8 b) => b == (n % 24 : Nat) | _ => false)
  | _ => false
theorem chkRem_all : ((List.range 256).all chkRem) = true := by kernel_rfl
theorem byte_rem (c : UInt8) : binK .and (.int .u8 c.toNat) (.int .u8 255) = some (.int .u8 c.toNat) ∧ binK .rem (.int .u8 c.toNat) (.int .u8 24) = some (.int .u8 (c.toNat % 24 : Nat)) := by
  have h := List.all_eq_true.1 chkRem_all c.toNat (List.mem_range.2 c.toNat_lt)
  unfold chkRem at h
  split at h
  · rename_i a h1
    simp only [Bool.and_eq_true, beq_iff_eq] at h
    obtain ⟨rfl, h⟩ := h
    split at h
    · rename_i b h2
      simp only [beq_iff_eq] at h
      subst h
      exact ⟨h1, h2⟩
    · simp at h
  · simp at h

def F_entaillaw6_Tame : Spec
  | [.str l] => if l.length ≤ big then some (.str (tameT l)) else none
  | _ => none
theorem ok_entaillaw6_Tame : SpecL Try.prog n_entaillaw6_Tame F_entaillaw6_Tame := by
  refine go_entaillaw6_Tame (T := []) (TabOk.nil) fun args v hv => ?_
  unfold F_entaillaw6_Tame at hv
  split at hv <;> (try simp only [Option.ite_none_right_eq_some, Option.some.injEq, reduceCtorEq] at hv)
  rename_i l
  obtain ⟨hl, rfl⟩ := hv
  unfold big at hl
  refine ⟨rfl, rfl, rfl, ?_⟩
  rw [e_entaillaw6_Tame]
  have hlit : litK 1 [(.str [116, 121, 112, 101, 32]), (.str [97]), (.str [98]), (.str [114]), (.str [115]), (.str [32]), (.str [123]), (.str [125]), (.str [58]), (.str [59]), (.str [124]), (.str [35]), (.str [61]), (.str [43]), (.str [45]), (.str [38]), (.str [40]), (.str [41]), (.str [45, 62]), (.str [47, 47, 120, 10]), (.str [10]), (.str [116, 121, 112, 101, 32, 97, 32, 123]), (.str [114, 58, 32, 97, 59]), (.str [115, 32, 61, 32, 114])] = some (cStr.lst wordsT) := by kernel_rfl
  simp only [hlit]
  have hfl : ∀ k, (((l.take k).map wordT).flatten).length ≤ 8 * k := fun k => by
    have := flat_len (l.take k)
    have : (l.take k).length ≤ k := by simp; omega
    omega
  refine loopP_inv (fun vs => ∃ k : Nat, vs = [.str (((l.take k).map wordT).flatten), vI k] ∧ k ≤ l.length ∧ k ≤ 100) (fun vs => l.length - natOf (gv vs 1)) ⟨0, rfl, Nat.zero_le _, Nat.zero_le _⟩ ?_
  rintro r _ ⟨k, rfl, hk, hk2⟩ hr
  refine ⟨rfl, ?_⟩
  simp only [if_true, if_false, Bool.false_eq_true, Bool.true_eq_false, reduceCtorEq, opt_s, gBool, gTT, gFF, gTF, gFT, gU, pBool, orN, andN, orI, andI, V.bool.injEq, Bool.true_and, Bool.and_true, Bool.false_and, Bool.and_false, Bool.true_or, Bool.or_true, Bool.false_or, Bool.or_false, Bool.not_true, Bool.not_false, iteB_bool, iteB_true, iteB_false, not_bool, chkB_bool, chkB_undef, bGeq, bLeq, bLss, bGtr, bEql, bNeq, bAdd, bSub, bMul, bSeq, bSne, bSlt, eqB_eq, mmMin, mmMax, ext_tup, cellD_agg, convI_int, lenS_s, lenL_s, gv_0, gv_s]
  by_cases hlt : k < l.length
  · have hlt' : (k : Int) < (l.length : Int) := by omega
    by_cases h100 : k < 100
    · have h100' : (k : Int) < 100 := by omega
      obtain ⟨b, hb⟩ : ∃ b, l[k]? = some b := ⟨l[k], List.getElem?_eq_getElem hlt⟩
      simp only [hlt', h100', decide_true, if_true, if_false, Bool.false_eq_true, Bool.true_eq_false, reduceCtorEq, opt_s, gBool, gTT, gFF, gTF, gFT, gU, pBool, orN, andN, orI, andI, V.bool.injEq, Bool.true_and, Bool.and_true, Bool.false_and, Bool.and_false, Bool.true_or, Bool.or_true, Bool.false_or, Bool.or_false, Bool.not_true, Bool.not_false, iteB_bool, iteB_true, iteB_false, not_bool, chkB_bool, chkB_undef, bGeq, bLeq, bLss, bGtr, bEql, bNeq, bAdd, bSub, bMul, bSeq, bSne, bSlt, eqB_eq, mmMin, mmMax, ext_tup, cellD_agg, convI_int, lenS_s, lenL_s, gv_0, gv_s, idxS_at hb, (byte_rem b).1, (byte_rem b).2, cStr.idx_one (wordT_at b) rfl]
      rw [show cStr.enc (wordT b) = .str (wordT b) from rfl, bSadd _ _ (by have := hfl k; have := wordT_len b; omega)]
      simp only [if_true, if_false, Bool.false_eq_true, Bool.true_eq_false, reduceCtorEq, opt_s, gBool, gTT, gFF, gTF, gFT, gU, pBool, orN, andN, orI, andI, V.bool.injEq, Bool.true_and, Bool.and_true, Bool.false_and, Bool.and_false, Bool.true_or, Bool.or_true, Bool.false_or, Bool.or_false, Bool.not_true, Bool.not_false, iteB_bool, iteB_true, iteB_false, not_bool, chkB_bool, chkB_undef, bGeq, bLeq, bLss, bGtr, bEql, bNeq, bAdd, bSub, bMul, bSeq, bSne, bSlt, eqB_eq, mmMin, mmMax, ext_tup, cellD_agg, convI_int, lenS_s, lenL_s, gv_0, gv_s]
      rw [wrap_in (by omega) (by omega)]
      refine hr _ ⟨k + 1, ?_, hlt, by omega⟩ (by simp [gv, natOf]; omega)
      rw [List.take_add_one, hb]; simp
    · have h100' : ¬ (k : Int) < 100 := by omega
      have : k = 100 := by omega
      simp only [hlt', h100', decide_true, decide_false, if_true, if_false, Bool.false_eq_true, Bool.true_eq_false, reduceCtorEq, opt_s, gBool, gTT, gFF, gTF, gFT, gU, pBool, orN, andN, orI, andI, V.bool.injEq, Bool.true_and, Bool.and_true, Bool.false_and, Bool.and_false, Bool.true_or, Bool.or_true, Bool.false_or, Bool.or_false, Bool.not_true, Bool.not_false, iteB_bool, iteB_true, iteB_false, not_bool, chkB_bool, chkB_undef, bGeq, bLeq, bLss, bGtr, bEql, bNeq, bAdd, bSub, bMul, bSeq, bSne, bSlt, eqB_eq, mmMin, mmMax, ext_tup, cellD_agg, convI_int, lenS_s, lenL_s, gv_0, gv_s]
      unfold tameT; rw [this]
  · have hlt' : ¬ (k : Int) < (l.length : Int) := by omega
    have h1 : tameT l = ((l.take k).map wordT).flatten := by
      unfold tameT
      rw [List.take_of_length_le (by omega), List.take_of_length_le (by omega)]
    simp [hlt', if_true, if_false, Bool.false_eq_true, Bool.true_eq_false, reduceCtorEq, opt_s, gBool, gTT, gFF, gTF, gFT, gU, pBool, orN, andN, orI, andI, V.bool.injEq, Bool.true_and, Bool.and_true, Bool.false_and, Bool.and_false, Bool.true_or, Bool.or_true, Bool.false_or, Bool.or_false, Bool.not_true, Bool.not_false, iteB_bool, iteB_true, iteB_false, not_bool, chkB_bool, chkB_undef, bGeq, bLeq, bLss, bGtr, bEql, bNeq, bAdd, bSub, bMul, bSeq, bSne, bSlt, eqB_eq, mmMin, mmMax, ext_tup, cellD_agg, convI_int, lenS_s, lenL_s, gv_0, gv_s, h1]

def awText6 : List UInt8 := [116, 121, 112, 101, 32, 97, 32, 123, 32, 114, 58, 32, 98, 35, 99, 59, 32, 47, 47, 32, 120, 10, 32, 115, 32, 61, 32, 114, 45, 62, 116, 32, 45, 32, 40, 114, 32, 38, 32, 115, 41, 59, 32, 125]
def F_entaillaw6_awake : Spec
  | [] => some (.bool true)
  | _ => none
theorem ok_entaillaw6_awake : SpecL Try.prog n_entaillaw6_awake F_entaillaw6_awake := by
  refine go_entaillaw6_awake (T := [(n_toke_Tokens, F_toke_Tokens)]) (TabOk.cons ok_toke_Tokens TabOk.nil) fun args v hv => ?_
  have c_toke_Tokens : ∀ args, tab [(n_toke_Tokens, F_toke_Tokens)] n_toke_Tokens args = F_toke_Tokens args := fun _ => rfl
  unfold F_entaillaw6_awake at hv
  split at hv <;> (try simp only [Option.ite_none_right_eq_some, Option.some.injEq, reduceCtorEq] at hv)
  subst hv
  refine ⟨rfl, rfl, rfl, ?_⟩
  have h : FunWp tyT (tab [(n_toke_Tokens, F_toke_Tokens)]) 60 q_entaillaw6_awake [.tmp 0] (cB Try.f17) [] (fun r => r = .bool true) = (V.bool true = V.bool true) := by kernel_rfl
  rw [h]
end Go.Fbs

/- The plain law's names: they rise, so that Once changes nothing; the star takes all. -/
import Derived.Test.YtgmdijjibhknmaaGreatIJ
set_option linter.unusedVariables false
set_option linter.unusedSimpArgs false
set_option maxRecDepth 100000
namespace Go.Fbs
open Go.Proofs Go.RowKit Go.Maps
def nmL (i : Nat) : B8 := [UInt8.ofNat (97 + i / 26), UInt8.ofNat (97 + i % 26)]
def nms (n : Nat) : List B8 := (List.range n).map nmL
theorem nms_len (n : Nat) : (nms n).length = n := by simp [nms]
theorem nms_get {n i : Nat} (h : i < n) : (nms n)[i]? = some (nmL i) := by simp [nms, h]
theorem nms_snoc (n : Nat) : nms (n + 1) = nms n ++ [nmL n] := by simp [nms, List.range_succ]
theorem u8_lt {a b : Nat} (ha : a < 256) (hb : b < 256) (h : a < b) : UInt8.ofNat a < UInt8.ofNat b := by
  rw [UInt8.lt_iff_toNat_lt]
  simp
  omega
theorem u8_ne {a b : Nat} (ha : a < 256) (hb : b < 256) (h : UInt8.ofNat a = UInt8.ofNat b) : a = b := by
  have := congrArg UInt8.toNat h
  simp at this
  omega
theorem nmL_lt {i j : Nat} (hij : i < j) (hj : j < 676) : nmL i < nmL j := by
  unfold nmL
  by_cases h : i / 26 = j / 26
  · rw [h, List.cons_lt_cons_iff]
    refine .inr ⟨rfl, ?_⟩
    rw [List.cons_lt_cons_iff]
    exact .inl (u8_lt (by omega) (by omega) (by omega))
  · rw [List.cons_lt_cons_iff]
    exact .inl (u8_lt (by omega) (by omega) (by omega))
theorem nmL_ne {i j : Nat} (hij : i < j) (hj : j < 676) : nmL i ≠ nmL j := fun e => by
  have := nmL_lt hij hj
  rw [e] at this
  exact List.lt_irrefl _ this
theorem once_rise {zs : List B8} (h : zs.Pairwise fun x y => x < y) : onceM zs = zs := by
  unfold onceM
  rw [List.mergeSort_of_pairwise (h.imp fun {a b} hab => by simpa using List.le_of_lt hab)]
  refine Lib.compact_all zs fun j hj => ?_
  unfold Lib.keeps
  rw [decide_eq_true_eq]
  by_cases h0 : j = 0
  · exact .inl h0
  · refine .inr fun e => ?_
    have := (List.pairwise_iff_getElem.1 h) (j - 1) j (by omega) hj (by omega)
    have e1 : (zs.toArray[j]!) = zs[j] := by simp [hj]
    have hj' : j - 1 < zs.length := by omega
    have e2 : (zs.toArray[j - 1]!) = zs[j - 1] := by simp [hj']
    rw [e1, e2] at e
    rw [e] at this
    exact List.lt_irrefl _ this
theorem nms_rise {n : Nat} (hn : n ≤ 676) : (nms n).Pairwise fun x y => x < y := by
  unfold nms
  rw [List.pairwise_map]
  refine List.Pairwise.imp_of_mem (fun {a b} _ hb hab => nmL_lt hab (by have := List.mem_range.1 hb; omega)) List.pairwise_lt_range
theorem once_nms {n : Nat} (hn : n ≤ 676) : onceM (nms n) = nms n := once_rise (nms_rise hn)
theorem once_one (s : B8) : onceM [s] = [s] := once_rise (List.pairwise_singleton _ _)
theorem match_star (s : B8) : matchB [42] s = true := by
  unfold matchB
  have h1 : Lib.hasSuffix [42] [42] = true := by decide
  have h2 : Lib.trimSuffix [42] [42] = [] := by decide
  rw [if_pos h1, h2]
  simp [Lib.hasPrefix]
theorem over_star (ns : List B8) : overM [[42]] ns = onceM ns := by
  unfold overM overL
  rw [List.filter_eq_self.2 (fun s _ => by simp [match_star])]
theorem nmL_len (i : Nat) : (nmL i).length = 2 := rfl
theorem cmp_lt {s t : B8} (h : s < t) : Lib.compareBytes t s = 1 := by
  induction s generalizing t with
  | nil => cases t with
    | nil => exact absurd h (List.lt_irrefl _)
    | cons => rfl
  | cons a s ih => cases t with
    | nil => exact absurd h (List.not_lt_nil _)
    | cons b t =>
      rw [List.cons_lt_cons_iff] at h
      unfold Lib.compareBytes
      rcases h with h | ⟨rfl, h⟩
      · have : ¬ b < a := UInt8.lt_asymm h
        rw [if_neg this, if_pos h]
      · rw [if_neg (UInt8.lt_irrefl a), if_neg (UInt8.lt_irrefl a)]
        exact ih h
theorem cmpS_lt {s t : B8} (h : s < t) : cmpS t s false false = 1 := by
  unfold cmpS
  rw [cmp_lt h]
  decide
end Go.Fbs

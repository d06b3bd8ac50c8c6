import Derived.Test.YthkfcmfphjepnaaDN
set_option linter.unusedVariables false
set_option linter.unusedSimpArgs false
set_option linter.unusedSectionVars false
namespace Go.Fbs
open Go.Proofs

theorem bMask {a : Int} {j : Nat} (hj : j < 63) {m : Int} (hm : m = ((2 ^ j - 1 : Nat) : Int)) : binK .and (.int .i64 a) (.int .i64 m) = some (.int .i64 (((a % (2 ^ j : Nat)).toNat : Nat) : Int)) := by
  subst hm
  have h1 := Int.emod_nonneg a (show ((2 ^ j : Nat) : Int) ≠ 0 by have := Nat.pow_pos (n := j) (show 0 < 2 by omega); omega)
  rw [Int.toNat_of_nonneg h1]
  exact bAndMask hj
theorem bAnd1 (a : Int) : binK .and (.int .i64 a) (.int .i64 1) = some (.int .i64 (((a % 2).toNat : Nat) : Int)) := bMask (j := 1) (by omega) rfl
theorem bAnd3 (a : Int) : binK .and (.int .i64 a) (.int .i64 3) = some (.int .i64 (((a % 4).toNat : Nat) : Int)) := bMask (j := 2) (by omega) rfl
theorem bAnd7 (a : Int) : binK .and (.int .i64 a) (.int .i64 7) = some (.int .i64 (((a % 8).toNat : Nat) : Int)) := bMask (j := 3) (by omega) rfl
theorem bAnd31 (a : Int) : binK .and (.int .i64 a) (.int .i64 31) = some (.int .i64 (((a % 32).toNat : Nat) : Int)) := bMask (j := 5) (by omega) rfl
theorem bAnd255 (a : Int) : binK .and (.int .i64 a) (.int .i64 255) = some (.int .i64 (((a % 256).toNat : Nat) : Int)) := bMask (j := 8) (by omega) rfl
theorem bRemN (a b : Nat) (hb : 0 < b) : binK .rem (.int .i64 a) (.int .i64 b) = some (.int .i64 ((a % b : Nat) : Int)) := by
  have h : ¬ (b : Int) = 0 := by omega
  simp only [binK, intBin, if_true]
  rw [if_neg h]
  rw [Int.ofNat_tmod]
theorem getD_at {ls : List (List UInt8)} {k : Nat} (h : k < ls.length) : ls[k]? = some (ls.getD k []) := by
  rw [List.getD_eq_getElem?_getD, List.getElem?_eq_getElem h]; rfl
theorem modlt {n : Int} {m : Nat} (hm : 0 < m) : (n % (m : Int)).toNat < m := by
  have h1 := Int.emod_nonneg n (show (m : Int) ≠ 0 by omega)
  have h2 := Int.emod_lt_of_pos n (show (0 : Int) < m by omega)
  omega

def abT : List (List UInt8) := [[97], [98]]
def rsT : List (List UInt8) := [[114], [115]]
def uabT : List (List UInt8) := [[117], [97], [98]]
def tameS (n : Int) : Six := ⟨abT.getD (n % 2).toNat [], nmT (n.fdiv 2), rsT.getD ((n.fdiv 16) % 2).toNat [], uabT.getD (((n.fdiv 32) % 256).toNat % 3) [], nmT (n.fdiv 8192), if ((n.fdiv 65536) % 4).toNat = 0 then rsT.getD ((n.fdiv 262144) % 2).toNat [] else []⟩
theorem names_ok {ls : List (List UInt8)} (h : ls.all nameT = true) {k : Nat} (hk : k < ls.length) : nameT (ls.getD k []) = true := List.all_eq_true.1 h _ (List.mem_of_getElem? (getD_at hk))
theorem nameT_idT {l : List UInt8} (h : nameT l = true) : idT l = true := by
  have h1 := name_len h
  have h2 := name_all h
  simp only [idT, Bool.and_eq_true, decide_eq_true_eq]
  exact ⟨⟨by omega, by omega⟩, h2⟩
theorem tameS_ok (n : Int) : (tameS n).ok = true := by
  have h1 : nameT (tameS n).a = true := names_ok (by decide) (modlt (m := 2) (by omega))
  have h2 : nameT (tameS n).b = true := nmT_ok _
  have h3 : nameT (tameS n).c = true := names_ok (by decide) (modlt (m := 2) (by omega))
  have h4 : nameT (tameS n).d = true := names_ok (by decide) (Nat.mod_lt _ (by decide))
  have h5 : nameT (tameS n).e = true := nmT_ok _
  have h6 : ((tameS n).f == []) = true ∨ nameT (tameS n).f = true := by
    simp only [tameS]
    split
    · exact .inr (names_ok (by decide) (modlt (m := 2) (by omega)))
    · exact .inl rfl
  simp only [Six.ok, okT, h1, nameT_idT h2, h3, h4, nameT_idT h5, Bool.true_and, Bool.and_true, Bool.or_eq_true]
  exact h6
def F_entaillaw2_Tame : Spec
  | [.int .i64 n] => some (tameS n).v
  | _ => none
theorem chk1_str (l : List UInt8) : chk1K (.str l) = some (.str l) := nr rfl
theorem agg2 (a b : List UInt8) : aggK [.str a, .str b] = some (.agg [.str a, .str b]) := nr rfl
theorem agg3 (a b c : List UInt8) : aggK [.str a, .str b, .str c] = some (.agg [.str a, .str b, .str c]) := nr rfl
theorem agg6 (a b c d e f : List UInt8) : aggK [.str a, .str b, .str c, .str d, .str e, .str f] = some (.agg [.str a, .str b, .str c, .str d, .str e, .str f]) := nr rfl
theorem bShr1 (a : Int) : binK .shr (.int .i64 a) (.int .u64 1) = some (.int .i64 (a.fdiv 2)) := bShr (b := 1) (by omega)
theorem bShr4 (a : Int) : binK .shr (.int .i64 a) (.int .u64 4) = some (.int .i64 (a.fdiv 16)) := bShr (b := 4) (by omega)
theorem bShr5 (a : Int) : binK .shr (.int .i64 a) (.int .u64 5) = some (.int .i64 (a.fdiv 32)) := bShr (b := 5) (by omega)
theorem bShr13 (a : Int) : binK .shr (.int .i64 a) (.int .u64 13) = some (.int .i64 (a.fdiv 8192)) := bShr (b := 13) (by omega)
theorem bShr16 (a : Int) : binK .shr (.int .i64 a) (.int .u64 16) = some (.int .i64 (a.fdiv 65536)) := bShr (b := 16) (by omega)
theorem bShr18 (a : Int) : binK .shr (.int .i64 a) (.int .u64 18) = some (.int .i64 (a.fdiv 262144)) := bShr (b := 18) (by omega)
theorem ok_entaillaw2_Tame : SpecL Try.prog n_entaillaw2_Tame F_entaillaw2_Tame := by
  refine go_entaillaw2_Tame (T := [(n_entaillaw1_Nm, F_entaillaw1_Nm)]) (TabOk.cons ok_entaillaw1_Nm TabOk.nil) fun args v hv => ?_
  have c_entaillaw1_Nm : ∀ args, tab [(n_entaillaw1_Nm, F_entaillaw1_Nm)] n_entaillaw1_Nm args = F_entaillaw1_Nm args := fun _ => rfl
  unfold F_entaillaw2_Tame at hv
  split at hv <;> (try simp only [Option.ite_none_right_eq_some, Option.some.injEq, reduceCtorEq] at hv)
  rename_i n
  subst hv
  refine ⟨rfl, rfl, rfl, ?_⟩
  rw [e_entaillaw2_Tame]
  have l1 : litK 1 [(.str [97]), (.str [98])] = some (cStr.lst abT) := by kernel_rfl
  have l2 : litK 1 [(.str [114]), (.str [115])] = some (cStr.lst rsT) := by kernel_rfl
  have l3 : litK 1 [(.str [117]), (.str [97]), (.str [98])] = some (cStr.lst uabT) := by kernel_rfl
  have i1 := cStr.idx_one (getD_at (show (n % 2).toNat < abT.length from modlt (m := 2) (by omega))) rfl 1 .i64
  have i2 := cStr.idx_one (getD_at (show ((n.fdiv 16) % 2).toNat < rsT.length from modlt (m := 2) (by omega))) rfl 1 .i64
  have i3 := cStr.idx_one (getD_at (show ((n.fdiv 32) % 256).toNat % 3 < uabT.length from Nat.mod_lt _ (by decide))) rfl 1 .i64
  have i4 := cStr.idx_one (getD_at (show ((n.fdiv 262144) % 2).toNat < rsT.length from modlt (m := 2) (by omega))) rfl 1 .i64
  have r3 := bRemN ((n.fdiv 32) % 256).toNat 3 (by omega)
  rw [show cStr.enc = V.str from rfl] at i1 i2 i3 i4
  simp only [l1, l2, l3, bAnd1, bAnd3, bAnd255, bShr1, bShr4, bShr5, bShr13, bShr16, bShr18, i1, i2, i3, i4, opt_s, c_entaillaw1_Nm, F_entaillaw1_Nm, chk1_str, agg2, agg3, cellD_agg, List.getD_cons_zero, List.getD_cons_succ, agg6]
  rw [show ((3 : Int)) = ((3 : Nat) : Int) from rfl, r3]
  simp only [i3, opt_s, cellD_agg, List.getD_cons_zero, List.getD_cons_succ, agg2, agg3, agg6, bEql]
  by_cases h : ((n.fdiv 65536) % 4).toNat = 0
  · have hi : (((n.fdiv 65536 % 4).toNat : Nat) : Int) = 0 := by omega
    rw [decide_eq_true hi]
    simp only [iteB_true, Six.v, tameS, h, if_true]
  · have hi : ¬ (((n.fdiv 65536 % 4).toNat : Nat) : Int) = 0 := by omega
    rw [decide_eq_false hi]
    simp only [iteB_false, Six.v, tameS, h, if_false]
end Go.Fbs

import Derived.Test.YthkfcmfphjepnaaDL
set_option linter.unusedVariables false
set_option linter.unusedSimpArgs false
set_option linter.unusedSectionVars false
namespace Go.Fbs
open Go.Proofs

theorem bShr {a : Int} {b : Nat} (hb : b ≤ 64) : binK .shr (.int .i64 a) (.int .u64 b) = some (.int .i64 (a.fdiv (2 ^ b))) := by
  have e : min (b : Int).toNat IntKind.i64.bits = b := by
    show min (b : Int).toNat 64 = b
    rw [Int.toNat_natCast]; omega
  have e2 : min b IntKind.i64.bits = b := by rw [Int.toNat_natCast] at e; exact e
  simp [binK, shiftBin, e2]
/-- One of a few, by the low bits. -/
theorem pickN {ls : List (List UInt8)} {m : Nat} (hl : ls.length = m) (hm : 0 < m) (n : Int) : ls[(n % m).toNat]? = some (ls.getD (n % m).toNat []) := by
  have h1 := Int.emod_nonneg n (show (m : Int) ≠ 0 by omega)
  have h2 := Int.emod_lt_of_pos n (show (0 : Int) < m by omega)
  have : (n % m).toNat < ls.length := by omega
  rw [List.getD_eq_getElem?_getD, List.getElem?_eq_getElem this]; rfl
end Go.Fbs

/- Of a number the lowest bits. -/
import Derived.Test.YtgmdijjibhknmaaGreatIQ
set_option linter.unusedVariables false
set_option linter.unusedSimpArgs false
set_option maxRecDepth 100000
namespace Go.Fbs
open Go.Proofs Go.RowKit Go.Maps
theorem low_of (x : Int) (m : Nat) (hm : m ≤ 1000) : ∃ a : Nat, a ≤ m ∧ bits .and .i64 x (m : Int) = (a : Int) := by
  refine ⟨(BitVec.ofInt 64 x &&& BitVec.ofInt 64 (m : Int)).toNat, ?_, ?_⟩
  · rw [BitVec.toNat_and]
    refine Nat.le_trans Nat.and_le_right ?_
    rw [BitVec.toNat_ofInt]
    omega
  · have h : (BitVec.ofInt 64 x &&& BitVec.ofInt 64 (m : Int)).toNat ≤ m := by
      rw [BitVec.toNat_and]
      refine Nat.le_trans Nat.and_le_right ?_
      rw [BitVec.toNat_ofInt]
      omega
    show IntKind.i64.wrap _ = _
    exact wrapZ (Int.natCast_nonneg _) (by show (((BitVec.ofInt 64 x &&& BitVec.ofInt 64 (m : Int)).toNat : Nat) : Int) ≤ _; omega)
theorem low511 (x : Int) : ∃ a : Nat, a ≤ 511 ∧ bits .and .i64 x 511 = (a : Int) := low_of x 511 (by decide)
theorem low7 (x : Int) : ∃ a : Nat, a ≤ 7 ∧ bits .and .i64 x 7 = (a : Int) := low_of x 7 (by decide)
end Go.Fbs

/- Closed runs of MaskMany: some rows. -/
import Derived.Test.YtekbhhbnabdcbaaGreatDoorMaskManyP
set_option linter.unusedVariables false
set_option linter.unusedSimpArgs false
set_option linter.unusedSectionVars false
set_option maxRecDepth 100000
namespace Go.Rx
open Go.Proofs
theorem mR0ff : mRun 0 false false = true := by kernel_rfl
theorem mR2ff : mRun 2 false false = true := by kernel_rfl
theorem mR4ff : mRun 4 false false = true := by kernel_rfl
theorem mR6ff : mRun 6 false false = true := by kernel_rfl
theorem mR8ff : mRun 8 false false = true := by kernel_rfl
theorem mR10ff : mRun 10 false false = true := by kernel_rfl
theorem mR12ff : mRun 12 false false = true := by kernel_rfl
theorem mR14ff : mRun 14 false false = true := by kernel_rfl
end Go.Rx

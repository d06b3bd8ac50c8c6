/- Closed runs of MaskMany: some rows. -/
import Derived.Test.YtekbhhbnabdcbaaGreatDoorMaskManyP
set_option linter.unusedVariables false
set_option linter.unusedSimpArgs false
set_option linter.unusedSectionVars false
set_option maxRecDepth 100000
namespace Go.Rx
open Go.Proofs
theorem mR1ff : mRun 1 false false = true := by kernel_rfl
theorem mR3ff : mRun 3 false false = true := by kernel_rfl
theorem mR5ff : mRun 5 false false = true := by kernel_rfl
theorem mR7ff : mRun 7 false false = true := by kernel_rfl
theorem mR9ff : mRun 9 false false = true := by kernel_rfl
theorem mR11ff : mRun 11 false false = true := by kernel_rfl
theorem mR13ff : mRun 13 false false = true := by kernel_rfl
theorem mR15ff : mRun 15 false false = true := by kernel_rfl
end Go.Rx

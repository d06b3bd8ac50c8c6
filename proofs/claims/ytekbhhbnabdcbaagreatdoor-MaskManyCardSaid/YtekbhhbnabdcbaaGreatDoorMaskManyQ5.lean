/- Closed runs of MaskMany: some rows. -/
import Derived.Test.YtekbhhbnabdcbaaGreatDoorMaskManyP
set_option linter.unusedVariables false
set_option linter.unusedSimpArgs false
set_option linter.unusedSectionVars false
set_option maxRecDepth 100000
namespace Go.Rx
open Go.Proofs
theorem mR1tf : mRun 1 true false = true := by kernel_rfl
theorem mR3tf : mRun 3 true false = true := by kernel_rfl
theorem mR5tf : mRun 5 true false = true := by kernel_rfl
theorem mR7tf : mRun 7 true false = true := by kernel_rfl
theorem mR9tf : mRun 9 true false = true := by kernel_rfl
theorem mR11tf : mRun 11 true false = true := by kernel_rfl
theorem mR13tf : mRun 13 true false = true := by kernel_rfl
theorem mR15tf : mRun 15 true false = true := by kernel_rfl
end Go.Rx

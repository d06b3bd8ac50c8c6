/- Closed runs of MaskMany: some rows. -/
import Derived.Test.YtekbhhbnabdcbaaGreatDoorMaskManyP
set_option linter.unusedVariables false
set_option linter.unusedSimpArgs false
set_option linter.unusedSectionVars false
set_option maxRecDepth 100000
namespace Go.Rx
open Go.Proofs
theorem mR1tt : mRun 1 true true = true := by kernel_rfl
theorem mR3tt : mRun 3 true true = true := by kernel_rfl
theorem mR5tt : mRun 5 true true = true := by kernel_rfl
theorem mR7tt : mRun 7 true true = true := by kernel_rfl
theorem mR9tt : mRun 9 true true = true := by kernel_rfl
theorem mR11tt : mRun 11 true true = true := by kernel_rfl
theorem mR13tt : mRun 13 true true = true := by kernel_rfl
theorem mR15tt : mRun 15 true true = true := by kernel_rfl
end Go.Rx

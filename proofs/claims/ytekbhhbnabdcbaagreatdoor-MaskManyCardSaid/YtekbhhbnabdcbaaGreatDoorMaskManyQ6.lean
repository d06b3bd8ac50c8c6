/- Closed runs of MaskMany: some rows. -/
import Derived.Test.YtekbhhbnabdcbaaGreatDoorMaskManyP
set_option linter.unusedVariables false
set_option linter.unusedSimpArgs false
set_option linter.unusedSectionVars false
set_option maxRecDepth 100000
namespace Go.Rx
open Go.Proofs
theorem mR1ft : mRun 1 false true = true := by kernel_rfl
theorem mR3ft : mRun 3 false true = true := by kernel_rfl
theorem mR5ft : mRun 5 false true = true := by kernel_rfl
theorem mR7ft : mRun 7 false true = true := by kernel_rfl
theorem mR9ft : mRun 9 false true = true := by kernel_rfl
theorem mR11ft : mRun 11 false true = true := by kernel_rfl
theorem mR13ft : mRun 13 false true = true := by kernel_rfl
theorem mR15ft : mRun 15 false true = true := by kernel_rfl
end Go.Rx

/- Closed runs of MaskMany: some rows. -/
import Derived.Test.YtekbhhbnabdcbaaGreatDoorMaskManyP
set_option linter.unusedVariables false
set_option linter.unusedSimpArgs false
set_option linter.unusedSectionVars false
set_option maxRecDepth 100000
namespace Go.Rx
open Go.Proofs
theorem mR0ft : mRun 0 false true = true := by kernel_rfl
theorem mR2ft : mRun 2 false true = true := by kernel_rfl
theorem mR4ft : mRun 4 false true = true := by kernel_rfl
theorem mR6ft : mRun 6 false true = true := by kernel_rfl
theorem mR8ft : mRun 8 false true = true := by kernel_rfl
theorem mR10ft : mRun 10 false true = true := by kernel_rfl
theorem mR12ft : mRun 12 false true = true := by kernel_rfl
theorem mR14ft : mRun 14 false true = true := by kernel_rfl
end Go.Rx

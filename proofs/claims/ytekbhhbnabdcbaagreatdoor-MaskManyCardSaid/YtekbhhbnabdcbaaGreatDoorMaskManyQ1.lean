/- Closed runs of MaskMany: some rows. -/
import Derived.Test.YtekbhhbnabdcbaaGreatDoorMaskManyP
set_option linter.unusedVariables false
set_option linter.unusedSimpArgs false
set_option linter.unusedSectionVars false
set_option maxRecDepth 100000
namespace Go.Rx
open Go.Proofs
theorem mR0tf : mRun 0 true false = true := by kernel_rfl
theorem mR2tf : mRun 2 true false = true := by kernel_rfl
theorem mR4tf : mRun 4 true false = true := by kernel_rfl
theorem mR6tf : mRun 6 true false = true := by kernel_rfl
theorem mR8tf : mRun 8 true false = true := by kernel_rfl
theorem mR10tf : mRun 10 true false = true := by kernel_rfl
theorem mR12tf : mRun 12 true false = true := by kernel_rfl
theorem mR14tf : mRun 14 true false = true := by kernel_rfl
end Go.Rx

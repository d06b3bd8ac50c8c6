/- Closed runs of MaskMany: some rows. -/
import Derived.Test.YtekbhhbnabdcbaaGreatDoorMaskManyP
set_option linter.unusedVariables false
set_option linter.unusedSimpArgs false
set_option linter.unusedSectionVars false
set_option maxRecDepth 100000
namespace Go.Rx
open Go.Proofs
theorem mR0tt : mRun 0 true true = true := by kernel_rfl
theorem mR2tt : mRun 2 true true = true := by kernel_rfl
theorem mR4tt : mRun 4 true true = true := by kernel_rfl
theorem mR6tt : mRun 6 true true = true := by kernel_rfl
theorem mR8tt : mRun 8 true true = true := by kernel_rfl
theorem mR10tt : mRun 10 true true = true := by kernel_rfl
theorem mR12tt : mRun 12 true true = true := by kernel_rfl
theorem mR14tt : mRun 14 true true = true := by kernel_rfl
end Go.Rx

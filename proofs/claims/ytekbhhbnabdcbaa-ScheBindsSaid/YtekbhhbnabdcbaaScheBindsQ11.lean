/- Closed runs of ScheBinds: some rows. -/
import Derived.Test.YtekbhhbnabdcbaaScheBindsP
set_option linter.unusedVariables false
set_option linter.unusedSimpArgs false
set_option linter.unusedSectionVars false
set_option maxRecDepth 100000
namespace Go.Rx
open Go.Proofs
theorem bR0023 : ((bRun 0 0 2 3 0 && bRun 0 0 2 3 1) && (bRun 0 0 2 3 2 && bRun 0 0 2 3 3)) = true := by kernel_rfl
theorem bR0123 : ((bRun 0 1 2 3 0 && bRun 0 1 2 3 1) && (bRun 0 1 2 3 2 && bRun 0 1 2 3 3)) = true := by kernel_rfl
theorem bR1023 : ((bRun 1 0 2 3 0 && bRun 1 0 2 3 1) && (bRun 1 0 2 3 2 && bRun 1 0 2 3 3)) = true := by kernel_rfl
theorem bR1123 : ((bRun 1 1 2 3 0 && bRun 1 1 2 3 1) && (bRun 1 1 2 3 2 && bRun 1 1 2 3 3)) = true := by kernel_rfl
theorem bR2023 : ((bRun 2 0 2 3 0 && bRun 2 0 2 3 1) && (bRun 2 0 2 3 2 && bRun 2 0 2 3 3)) = true := by kernel_rfl
theorem bR2123 : ((bRun 2 1 2 3 0 && bRun 2 1 2 3 1) && (bRun 2 1 2 3 2 && bRun 2 1 2 3 3)) = true := by kernel_rfl
theorem bR3023 : ((bRun 3 0 2 3 0 && bRun 3 0 2 3 1) && (bRun 3 0 2 3 2 && bRun 3 0 2 3 3)) = true := by kernel_rfl
theorem bR3123 : ((bRun 3 1 2 3 0 && bRun 3 1 2 3 1) && (bRun 3 1 2 3 2 && bRun 3 1 2 3 3)) = true := by kernel_rfl
theorem bR4023 : ((bRun 4 0 2 3 0 && bRun 4 0 2 3 1) && (bRun 4 0 2 3 2 && bRun 4 0 2 3 3)) = true := by kernel_rfl
theorem bR4123 : ((bRun 4 1 2 3 0 && bRun 4 1 2 3 1) && (bRun 4 1 2 3 2 && bRun 4 1 2 3 3)) = true := by kernel_rfl
end Go.Rx

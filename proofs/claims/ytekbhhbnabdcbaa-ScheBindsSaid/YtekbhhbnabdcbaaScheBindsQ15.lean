/- Closed runs of ScheBinds: some rows. -/
import Derived.Test.YtekbhhbnabdcbaaScheBindsP
set_option linter.unusedVariables false
set_option linter.unusedSimpArgs false
set_option linter.unusedSectionVars false
set_option maxRecDepth 100000
namespace Go.Rx
open Go.Proofs
theorem bR0033 : ((bRun 0 0 3 3 0 && bRun 0 0 3 3 1) && (bRun 0 0 3 3 2 && bRun 0 0 3 3 3)) = true := by kernel_rfl
theorem bR0133 : ((bRun 0 1 3 3 0 && bRun 0 1 3 3 1) && (bRun 0 1 3 3 2 && bRun 0 1 3 3 3)) = true := by kernel_rfl
theorem bR1033 : ((bRun 1 0 3 3 0 && bRun 1 0 3 3 1) && (bRun 1 0 3 3 2 && bRun 1 0 3 3 3)) = true := by kernel_rfl
theorem bR1133 : ((bRun 1 1 3 3 0 && bRun 1 1 3 3 1) && (bRun 1 1 3 3 2 && bRun 1 1 3 3 3)) = true := by kernel_rfl
theorem bR2033 : ((bRun 2 0 3 3 0 && bRun 2 0 3 3 1) && (bRun 2 0 3 3 2 && bRun 2 0 3 3 3)) = true := by kernel_rfl
theorem bR2133 : ((bRun 2 1 3 3 0 && bRun 2 1 3 3 1) && (bRun 2 1 3 3 2 && bRun 2 1 3 3 3)) = true := by kernel_rfl
theorem bR3033 : ((bRun 3 0 3 3 0 && bRun 3 0 3 3 1) && (bRun 3 0 3 3 2 && bRun 3 0 3 3 3)) = true := by kernel_rfl
theorem bR3133 : ((bRun 3 1 3 3 0 && bRun 3 1 3 3 1) && (bRun 3 1 3 3 2 && bRun 3 1 3 3 3)) = true := by kernel_rfl
theorem bR4033 : ((bRun 4 0 3 3 0 && bRun 4 0 3 3 1) && (bRun 4 0 3 3 2 && bRun 4 0 3 3 3)) = true := by kernel_rfl
theorem bR4133 : ((bRun 4 1 3 3 0 && bRun 4 1 3 3 1) && (bRun 4 1 3 3 2 && bRun 4 1 3 3 3)) = true := by kernel_rfl
end Go.Rx

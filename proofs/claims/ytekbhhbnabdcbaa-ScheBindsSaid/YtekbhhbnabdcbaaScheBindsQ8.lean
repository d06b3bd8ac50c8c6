/- Closed runs of ScheBinds: some rows. -/
import Derived.Test.YtekbhhbnabdcbaaScheBindsP
set_option linter.unusedVariables false
set_option linter.unusedSimpArgs false
set_option linter.unusedSectionVars false
set_option maxRecDepth 100000
namespace Go.Rx
open Go.Proofs
theorem bR0020 : ((bRun 0 0 2 0 0 && bRun 0 0 2 0 1) && (bRun 0 0 2 0 2 && bRun 0 0 2 0 3)) = true := by kernel_rfl
theorem bR0120 : ((bRun 0 1 2 0 0 && bRun 0 1 2 0 1) && (bRun 0 1 2 0 2 && bRun 0 1 2 0 3)) = true := by kernel_rfl
theorem bR1020 : ((bRun 1 0 2 0 0 && bRun 1 0 2 0 1) && (bRun 1 0 2 0 2 && bRun 1 0 2 0 3)) = true := by kernel_rfl
theorem bR1120 : ((bRun 1 1 2 0 0 && bRun 1 1 2 0 1) && (bRun 1 1 2 0 2 && bRun 1 1 2 0 3)) = true := by kernel_rfl
theorem bR2020 : ((bRun 2 0 2 0 0 && bRun 2 0 2 0 1) && (bRun 2 0 2 0 2 && bRun 2 0 2 0 3)) = true := by kernel_rfl
theorem bR2120 : ((bRun 2 1 2 0 0 && bRun 2 1 2 0 1) && (bRun 2 1 2 0 2 && bRun 2 1 2 0 3)) = true := by kernel_rfl
theorem bR3020 : ((bRun 3 0 2 0 0 && bRun 3 0 2 0 1) && (bRun 3 0 2 0 2 && bRun 3 0 2 0 3)) = true := by kernel_rfl
theorem bR3120 : ((bRun 3 1 2 0 0 && bRun 3 1 2 0 1) && (bRun 3 1 2 0 2 && bRun 3 1 2 0 3)) = true := by kernel_rfl
theorem bR4020 : ((bRun 4 0 2 0 0 && bRun 4 0 2 0 1) && (bRun 4 0 2 0 2 && bRun 4 0 2 0 3)) = true := by kernel_rfl
theorem bR4120 : ((bRun 4 1 2 0 0 && bRun 4 1 2 0 1) && (bRun 4 1 2 0 2 && bRun 4 1 2 0 3)) = true := by kernel_rfl
end Go.Rx

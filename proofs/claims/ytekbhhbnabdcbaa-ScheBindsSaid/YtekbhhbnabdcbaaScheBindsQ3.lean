/- Closed runs of ScheBinds: some rows. -/
import Derived.Test.YtekbhhbnabdcbaaScheBindsP
set_option linter.unusedVariables false
set_option linter.unusedSimpArgs false
set_option linter.unusedSectionVars false
set_option maxRecDepth 100000
namespace Go.Rx
open Go.Proofs
theorem bR0003 : ((bRun 0 0 0 3 0 && bRun 0 0 0 3 1) && (bRun 0 0 0 3 2 && bRun 0 0 0 3 3)) = true := by kernel_rfl
theorem bR0103 : ((bRun 0 1 0 3 0 && bRun 0 1 0 3 1) && (bRun 0 1 0 3 2 && bRun 0 1 0 3 3)) = true := by kernel_rfl
theorem bR1003 : ((bRun 1 0 0 3 0 && bRun 1 0 0 3 1) && (bRun 1 0 0 3 2 && bRun 1 0 0 3 3)) = true := by kernel_rfl
theorem bR1103 : ((bRun 1 1 0 3 0 && bRun 1 1 0 3 1) && (bRun 1 1 0 3 2 && bRun 1 1 0 3 3)) = true := by kernel_rfl
theorem bR2003 : ((bRun 2 0 0 3 0 && bRun 2 0 0 3 1) && (bRun 2 0 0 3 2 && bRun 2 0 0 3 3)) = true := by kernel_rfl
theorem bR2103 : ((bRun 2 1 0 3 0 && bRun 2 1 0 3 1) && (bRun 2 1 0 3 2 && bRun 2 1 0 3 3)) = true := by kernel_rfl
theorem bR3003 : ((bRun 3 0 0 3 0 && bRun 3 0 0 3 1) && (bRun 3 0 0 3 2 && bRun 3 0 0 3 3)) = true := by kernel_rfl
theorem bR3103 : ((bRun 3 1 0 3 0 && bRun 3 1 0 3 1) && (bRun 3 1 0 3 2 && bRun 3 1 0 3 3)) = true := by kernel_rfl
theorem bR4003 : ((bRun 4 0 0 3 0 && bRun 4 0 0 3 1) && (bRun 4 0 0 3 2 && bRun 4 0 0 3 3)) = true := by kernel_rfl
theorem bR4103 : ((bRun 4 1 0 3 0 && bRun 4 1 0 3 1) && (bRun 4 1 0 3 2 && bRun 4 1 0 3 3)) = true := by kernel_rfl
end Go.Rx

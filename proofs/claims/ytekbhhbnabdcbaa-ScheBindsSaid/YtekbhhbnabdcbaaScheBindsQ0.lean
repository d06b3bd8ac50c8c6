/- Closed runs of ScheBinds: some rows. -/
import Derived.Test.YtekbhhbnabdcbaaScheBindsP
set_option linter.unusedVariables false
set_option linter.unusedSimpArgs false
set_option linter.unusedSectionVars false
set_option maxRecDepth 100000
namespace Go.Rx
open Go.Proofs
theorem bR0000 : ((bRun 0 0 0 0 0 && bRun 0 0 0 0 1) && (bRun 0 0 0 0 2 && bRun 0 0 0 0 3)) = true := by kernel_rfl
theorem bR0100 : ((bRun 0 1 0 0 0 && bRun 0 1 0 0 1) && (bRun 0 1 0 0 2 && bRun 0 1 0 0 3)) = true := by kernel_rfl
theorem bR1000 : ((bRun 1 0 0 0 0 && bRun 1 0 0 0 1) && (bRun 1 0 0 0 2 && bRun 1 0 0 0 3)) = true := by kernel_rfl
theorem bR1100 : ((bRun 1 1 0 0 0 && bRun 1 1 0 0 1) && (bRun 1 1 0 0 2 && bRun 1 1 0 0 3)) = true := by kernel_rfl
theorem bR2000 : ((bRun 2 0 0 0 0 && bRun 2 0 0 0 1) && (bRun 2 0 0 0 2 && bRun 2 0 0 0 3)) = true := by kernel_rfl
theorem bR2100 : ((bRun 2 1 0 0 0 && bRun 2 1 0 0 1) && (bRun 2 1 0 0 2 && bRun 2 1 0 0 3)) = true := by kernel_rfl
theorem bR3000 : ((bRun 3 0 0 0 0 && bRun 3 0 0 0 1) && (bRun 3 0 0 0 2 && bRun 3 0 0 0 3)) = true := by kernel_rfl
theorem bR3100 : ((bRun 3 1 0 0 0 && bRun 3 1 0 0 1) && (bRun 3 1 0 0 2 && bRun 3 1 0 0 3)) = true := by kernel_rfl
theorem bR4000 : ((bRun 4 0 0 0 0 && bRun 4 0 0 0 1) && (bRun 4 0 0 0 2 && bRun 4 0 0 0 3)) = true := by kernel_rfl
theorem bR4100 : ((bRun 4 1 0 0 0 && bRun 4 1 0 0 1) && (bRun 4 1 0 0 2 && bRun 4 1 0 0 3)) = true := by kernel_rfl
end Go.Rx

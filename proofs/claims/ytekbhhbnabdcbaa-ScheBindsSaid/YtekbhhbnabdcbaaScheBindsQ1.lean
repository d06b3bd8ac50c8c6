/- Closed runs of ScheBinds: some rows. -/
import Derived.Test.YtekbhhbnabdcbaaScheBindsP
set_option linter.unusedVariables false
set_option linter.unusedSimpArgs false
set_option linter.unusedSectionVars false
set_option maxRecDepth 100000
namespace Go.Rx
open Go.Proofs
theorem bR0001 : ((bRun 0 0 0 1 0 && bRun 0 0 0 1 1) && (bRun 0 0 0 1 2 && bRun 0 0 0 1 3)) = true := by kernel_rfl
theorem bR0101 : ((bRun 0 1 0 1 0 && bRun 0 1 0 1 1) && (bRun 0 1 0 1 2 && bRun 0 1 0 1 3)) = true := by kernel_rfl
theorem bR1001 : ((bRun 1 0 0 1 0 && bRun 1 0 0 1 1) && (bRun 1 0 0 1 2 && bRun 1 0 0 1 3)) = true := by kernel_rfl
theorem bR1101 : ((bRun 1 1 0 1 0 && bRun 1 1 0 1 1) && (bRun 1 1 0 1 2 && bRun 1 1 0 1 3)) = true := by kernel_rfl
theorem bR2001 : ((bRun 2 0 0 1 0 && bRun 2 0 0 1 1) && (bRun 2 0 0 1 2 && bRun 2 0 0 1 3)) = true := by kernel_rfl
theorem bR2101 : ((bRun 2 1 0 1 0 && bRun 2 1 0 1 1) && (bRun 2 1 0 1 2 && bRun 2 1 0 1 3)) = true := by kernel_rfl
theorem bR3001 : ((bRun 3 0 0 1 0 && bRun 3 0 0 1 1) && (bRun 3 0 0 1 2 && bRun 3 0 0 1 3)) = true := by kernel_rfl
theorem bR3101 : ((bRun 3 1 0 1 0 && bRun 3 1 0 1 1) && (bRun 3 1 0 1 2 && bRun 3 1 0 1 3)) = true := by kernel_rfl
theorem bR4001 : ((bRun 4 0 0 1 0 && bRun 4 0 0 1 1) && (bRun 4 0 0 1 2 && bRun 4 0 0 1 3)) = true := by kernel_rfl
theorem bR4101 : ((bRun 4 1 0 1 0 && bRun 4 1 0 1 1) && (bRun 4 1 0 1 2 && bRun 4 1 0 1 3)) = true := by kernel_rfl
end Go.Rx

/- Closed runs of ScheBinds: some rows. -/
import Derived.Test.YtekbhhbnabdcbaaScheBindsP
set_option linter.unusedVariables false
set_option linter.unusedSimpArgs false
set_option linter.unusedSectionVars false
set_option maxRecDepth 100000
namespace Go.Rx
open Go.Proofs
theorem bR0030 : ((bRun 0 0 3 0 0 && bRun 0 0 3 0 1) && (bRun 0 0 3 0 2 && bRun 0 0 3 0 3)) = true := by kernel_rfl
theorem bR0130 : ((bRun 0 1 3 0 0 && bRun 0 1 3 0 1) && (bRun 0 1 3 0 2 && bRun 0 1 3 0 3)) = true := by kernel_rfl
theorem bR1030 : ((bRun 1 0 3 0 0 && bRun 1 0 3 0 1) && (bRun 1 0 3 0 2 && bRun 1 0 3 0 3)) = true := by kernel_rfl
theorem bR1130 : ((bRun 1 1 3 0 0 && bRun 1 1 3 0 1) && (bRun 1 1 3 0 2 && bRun 1 1 3 0 3)) = true := by kernel_rfl
theorem bR2030 : ((bRun 2 0 3 0 0 && bRun 2 0 3 0 1) && (bRun 2 0 3 0 2 && bRun 2 0 3 0 3)) = true := by kernel_rfl
theorem bR2130 : ((bRun 2 1 3 0 0 && bRun 2 1 3 0 1) && (bRun 2 1 3 0 2 && bRun 2 1 3 0 3)) = true := by kernel_rfl
theorem bR3030 : ((bRun 3 0 3 0 0 && bRun 3 0 3 0 1) && (bRun 3 0 3 0 2 && bRun 3 0 3 0 3)) = true := by kernel_rfl
theorem bR3130 : ((bRun 3 1 3 0 0 && bRun 3 1 3 0 1) && (bRun 3 1 3 0 2 && bRun 3 1 3 0 3)) = true := by kernel_rfl
theorem bR4030 : ((bRun 4 0 3 0 0 && bRun 4 0 3 0 1) && (bRun 4 0 3 0 2 && bRun 4 0 3 0 3)) = true := by kernel_rfl
theorem bR4130 : ((bRun 4 1 3 0 0 && bRun 4 1 3 0 1) && (bRun 4 1 3 0 2 && bRun 4 1 3 0 3)) = true := by kernel_rfl
end Go.Rx

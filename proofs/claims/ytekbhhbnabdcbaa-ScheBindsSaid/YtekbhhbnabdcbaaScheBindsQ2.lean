/- Closed runs of ScheBinds: some rows. -/
import Derived.Test.YtekbhhbnabdcbaaScheBindsP
set_option linter.unusedVariables false
set_option linter.unusedSimpArgs false
set_option linter.unusedSectionVars false
set_option maxRecDepth 100000
namespace Go.Rx
open Go.Proofs
theorem bR0002 : ((bRun 0 0 0 2 0 && bRun 0 0 0 2 1) && (bRun 0 0 0 2 2 && bRun 0 0 0 2 3)) = true := by kernel_rfl
theorem bR0102 : ((bRun 0 1 0 2 0 && bRun 0 1 0 2 1) && (bRun 0 1 0 2 2 && bRun 0 1 0 2 3)) = true := by kernel_rfl
theorem bR1002 : ((bRun 1 0 0 2 0 && bRun 1 0 0 2 1) && (bRun 1 0 0 2 2 && bRun 1 0 0 2 3)) = true := by kernel_rfl
theorem bR1102 : ((bRun 1 1 0 2 0 && bRun 1 1 0 2 1) && (bRun 1 1 0 2 2 && bRun 1 1 0 2 3)) = true := by kernel_rfl
theorem bR2002 : ((bRun 2 0 0 2 0 && bRun 2 0 0 2 1) && (bRun 2 0 0 2 2 && bRun 2 0 0 2 3)) = true := by kernel_rfl
theorem bR2102 : ((bRun 2 1 0 2 0 && bRun 2 1 0 2 1) && (bRun 2 1 0 2 2 && bRun 2 1 0 2 3)) = true := by kernel_rfl
theorem bR3002 : ((bRun 3 0 0 2 0 && bRun 3 0 0 2 1) && (bRun 3 0 0 2 2 && bRun 3 0 0 2 3)) = true := by kernel_rfl
theorem bR3102 : ((bRun 3 1 0 2 0 && bRun 3 1 0 2 1) && (bRun 3 1 0 2 2 && bRun 3 1 0 2 3)) = true := by kernel_rfl
theorem bR4002 : ((bRun 4 0 0 2 0 && bRun 4 0 0 2 1) && (bRun 4 0 0 2 2 && bRun 4 0 0 2 3)) = true := by kernel_rfl
theorem bR4102 : ((bRun 4 1 0 2 0 && bRun 4 1 0 2 1) && (bRun 4 1 0 2 2 && bRun 4 1 0 2 3)) = true := by kernel_rfl
end Go.Rx

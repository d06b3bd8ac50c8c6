/- Closed runs of ScheBinds: some rows. -/
import Derived.Test.YtekbhhbnabdcbaaScheBindsP
set_option linter.unusedVariables false
set_option linter.unusedSimpArgs false
set_option linter.unusedSectionVars false
set_option maxRecDepth 100000
namespace Go.Rx
open Go.Proofs
theorem bR0012 : ((bRun 0 0 1 2 0 && bRun 0 0 1 2 1) && (bRun 0 0 1 2 2 && bRun 0 0 1 2 3)) = true := by kernel_rfl
theorem bR0112 : ((bRun 0 1 1 2 0 && bRun 0 1 1 2 1) && (bRun 0 1 1 2 2 && bRun 0 1 1 2 3)) = true := by kernel_rfl
theorem bR1012 : ((bRun 1 0 1 2 0 && bRun 1 0 1 2 1) && (bRun 1 0 1 2 2 && bRun 1 0 1 2 3)) = true := by kernel_rfl
theorem bR1112 : ((bRun 1 1 1 2 0 && bRun 1 1 1 2 1) && (bRun 1 1 1 2 2 && bRun 1 1 1 2 3)) = true := by kernel_rfl
theorem bR2012 : ((bRun 2 0 1 2 0 && bRun 2 0 1 2 1) && (bRun 2 0 1 2 2 && bRun 2 0 1 2 3)) = true := by kernel_rfl
theorem bR2112 : ((bRun 2 1 1 2 0 && bRun 2 1 1 2 1) && (bRun 2 1 1 2 2 && bRun 2 1 1 2 3)) = true := by kernel_rfl
theorem bR3012 : ((bRun 3 0 1 2 0 && bRun 3 0 1 2 1) && (bRun 3 0 1 2 2 && bRun 3 0 1 2 3)) = true := by kernel_rfl
theorem bR3112 : ((bRun 3 1 1 2 0 && bRun 3 1 1 2 1) && (bRun 3 1 1 2 2 && bRun 3 1 1 2 3)) = true := by kernel_rfl
theorem bR4012 : ((bRun 4 0 1 2 0 && bRun 4 0 1 2 1) && (bRun 4 0 1 2 2 && bRun 4 0 1 2 3)) = true := by kernel_rfl
theorem bR4112 : ((bRun 4 1 1 2 0 && bRun 4 1 1 2 1) && (bRun 4 1 1 2 2 && bRun 4 1 1 2 3)) = true := by kernel_rfl
end Go.Rx

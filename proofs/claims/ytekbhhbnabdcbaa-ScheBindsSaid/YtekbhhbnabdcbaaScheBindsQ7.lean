/- Closed runs of ScheBinds: some rows. -/
import Derived.Test.YtekbhhbnabdcbaaScheBindsP
set_option linter.unusedVariables false
set_option linter.unusedSimpArgs false
set_option linter.unusedSectionVars false
set_option maxRecDepth 100000
namespace Go.Rx
open Go.Proofs
theorem bR0013 : ((bRun 0 0 1 3 0 && bRun 0 0 1 3 1) && (bRun 0 0 1 3 2 && bRun 0 0 1 3 3)) = true := by kernel_rfl
theorem bR0113 : ((bRun 0 1 1 3 0 && bRun 0 1 1 3 1) && (bRun 0 1 1 3 2 && bRun 0 1 1 3 3)) = true := by kernel_rfl
theorem bR1013 : ((bRun 1 0 1 3 0 && bRun 1 0 1 3 1) && (bRun 1 0 1 3 2 && bRun 1 0 1 3 3)) = true := by kernel_rfl
theorem bR1113 : ((bRun 1 1 1 3 0 && bRun 1 1 1 3 1) && (bRun 1 1 1 3 2 && bRun 1 1 1 3 3)) = true := by kernel_rfl
theorem bR2013 : ((bRun 2 0 1 3 0 && bRun 2 0 1 3 1) && (bRun 2 0 1 3 2 && bRun 2 0 1 3 3)) = true := by kernel_rfl
theorem bR2113 : ((bRun 2 1 1 3 0 && bRun 2 1 1 3 1) && (bRun 2 1 1 3 2 && bRun 2 1 1 3 3)) = true := by kernel_rfl
theorem bR3013 : ((bRun 3 0 1 3 0 && bRun 3 0 1 3 1) && (bRun 3 0 1 3 2 && bRun 3 0 1 3 3)) = true := by kernel_rfl
theorem bR3113 : ((bRun 3 1 1 3 0 && bRun 3 1 1 3 1) && (bRun 3 1 1 3 2 && bRun 3 1 1 3 3)) = true := by kernel_rfl
theorem bR4013 : ((bRun 4 0 1 3 0 && bRun 4 0 1 3 1) && (bRun 4 0 1 3 2 && bRun 4 0 1 3 3)) = true := by kernel_rfl
theorem bR4113 : ((bRun 4 1 1 3 0 && bRun 4 1 1 3 1) && (bRun 4 1 1 3 2 && bRun 4 1 1 3 3)) = true := by kernel_rfl
end Go.Rx

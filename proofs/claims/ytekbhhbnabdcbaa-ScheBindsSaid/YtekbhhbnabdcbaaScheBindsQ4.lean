/- Closed runs of ScheBinds: some rows. -/
import Derived.Test.YtekbhhbnabdcbaaScheBindsP
set_option linter.unusedVariables false
set_option linter.unusedSimpArgs false
set_option linter.unusedSectionVars false
set_option maxRecDepth 100000
namespace Go.Rx
open Go.Proofs
theorem bR0010 : ((bRun 0 0 1 0 0 && bRun 0 0 1 0 1) && (bRun 0 0 1 0 2 && bRun 0 0 1 0 3)) = true := by kernel_rfl
theorem bR0110 : ((bRun 0 1 1 0 0 && bRun 0 1 1 0 1) && (bRun 0 1 1 0 2 && bRun 0 1 1 0 3)) = true := by kernel_rfl
theorem bR1010 : ((bRun 1 0 1 0 0 && bRun 1 0 1 0 1) && (bRun 1 0 1 0 2 && bRun 1 0 1 0 3)) = true := by kernel_rfl
theorem bR1110 : ((bRun 1 1 1 0 0 && bRun 1 1 1 0 1) && (bRun 1 1 1 0 2 && bRun 1 1 1 0 3)) = true := by kernel_rfl
theorem bR2010 : ((bRun 2 0 1 0 0 && bRun 2 0 1 0 1) && (bRun 2 0 1 0 2 && bRun 2 0 1 0 3)) = true := by kernel_rfl
theorem bR2110 : ((bRun 2 1 1 0 0 && bRun 2 1 1 0 1) && (bRun 2 1 1 0 2 && bRun 2 1 1 0 3)) = true := by kernel_rfl
theorem bR3010 : ((bRun 3 0 1 0 0 && bRun 3 0 1 0 1) && (bRun 3 0 1 0 2 && bRun 3 0 1 0 3)) = true := by kernel_rfl
theorem bR3110 : ((bRun 3 1 1 0 0 && bRun 3 1 1 0 1) && (bRun 3 1 1 0 2 && bRun 3 1 1 0 3)) = true := by kernel_rfl
theorem bR4010 : ((bRun 4 0 1 0 0 && bRun 4 0 1 0 1) && (bRun 4 0 1 0 2 && bRun 4 0 1 0 3)) = true := by kernel_rfl
theorem bR4110 : ((bRun 4 1 1 0 0 && bRun 4 1 1 0 1) && (bRun 4 1 1 0 2 && bRun 4 1 1 0 3)) = true := by kernel_rfl
end Go.Rx

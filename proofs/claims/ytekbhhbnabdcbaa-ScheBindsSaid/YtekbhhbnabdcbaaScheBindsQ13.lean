/- Closed runs of ScheBinds: some rows. -/
import Derived.Test.YtekbhhbnabdcbaaScheBindsP
set_option linter.unusedVariables false
set_option linter.unusedSimpArgs false
set_option linter.unusedSectionVars false
set_option maxRecDepth 100000
namespace Go.Rx
open Go.Proofs
theorem bR0031 : ((bRun 0 0 3 1 0 && bRun 0 0 3 1 1) && (bRun 0 0 3 1 2 && bRun 0 0 3 1 3)) = true := by kernel_rfl
theorem bR0131 : ((bRun 0 1 3 1 0 && bRun 0 1 3 1 1) && (bRun 0 1 3 1 2 && bRun 0 1 3 1 3)) = true := by kernel_rfl
theorem bR1031 : ((bRun 1 0 3 1 0 && bRun 1 0 3 1 1) && (bRun 1 0 3 1 2 && bRun 1 0 3 1 3)) = true := by kernel_rfl
theorem bR1131 : ((bRun 1 1 3 1 0 && bRun 1 1 3 1 1) && (bRun 1 1 3 1 2 && bRun 1 1 3 1 3)) = true := by kernel_rfl
theorem bR2031 : ((bRun 2 0 3 1 0 && bRun 2 0 3 1 1) && (bRun 2 0 3 1 2 && bRun 2 0 3 1 3)) = true := by kernel_rfl
theorem bR2131 : ((bRun 2 1 3 1 0 && bRun 2 1 3 1 1) && (bRun 2 1 3 1 2 && bRun 2 1 3 1 3)) = true := by kernel_rfl
theorem bR3031 : ((bRun 3 0 3 1 0 && bRun 3 0 3 1 1) && (bRun 3 0 3 1 2 && bRun 3 0 3 1 3)) = true := by kernel_rfl
theorem bR3131 : ((bRun 3 1 3 1 0 && bRun 3 1 3 1 1) && (bRun 3 1 3 1 2 && bRun 3 1 3 1 3)) = true := by kernel_rfl
theorem bR4031 : ((bRun 4 0 3 1 0 && bRun 4 0 3 1 1) && (bRun 4 0 3 1 2 && bRun 4 0 3 1 3)) = true := by kernel_rfl
theorem bR4131 : ((bRun 4 1 3 1 0 && bRun 4 1 3 1 1) && (bRun 4 1 3 1 2 && bRun 4 1 3 1 3)) = true := by kernel_rfl
end Go.Rx

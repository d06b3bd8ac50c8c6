/- Closed runs of ScheBinds: some rows. -/
import Derived.Test.YtekbhhbnabdcbaaScheBindsP
set_option linter.unusedVariables false
set_option linter.unusedSimpArgs false
set_option linter.unusedSectionVars false
set_option maxRecDepth 100000
namespace Go.Rx
open Go.Proofs
theorem bR0032 : ((bRun 0 0 3 2 0 && bRun 0 0 3 2 1) && (bRun 0 0 3 2 2 && bRun 0 0 3 2 3)) = true := by kernel_rfl
theorem bR0132 : ((bRun 0 1 3 2 0 && bRun 0 1 3 2 1) && (bRun 0 1 3 2 2 && bRun 0 1 3 2 3)) = true := by kernel_rfl
theorem bR1032 : ((bRun 1 0 3 2 0 && bRun 1 0 3 2 1) && (bRun 1 0 3 2 2 && bRun 1 0 3 2 3)) = true := by kernel_rfl
theorem bR1132 : ((bRun 1 1 3 2 0 && bRun 1 1 3 2 1) && (bRun 1 1 3 2 2 && bRun 1 1 3 2 3)) = true := by kernel_rfl
theorem bR2032 : ((bRun 2 0 3 2 0 && bRun 2 0 3 2 1) && (bRun 2 0 3 2 2 && bRun 2 0 3 2 3)) = true := by kernel_rfl
theorem bR2132 : ((bRun 2 1 3 2 0 && bRun 2 1 3 2 1) && (bRun 2 1 3 2 2 && bRun 2 1 3 2 3)) = true := by kernel_rfl
theorem bR3032 : ((bRun 3 0 3 2 0 && bRun 3 0 3 2 1) && (bRun 3 0 3 2 2 && bRun 3 0 3 2 3)) = true := by kernel_rfl
theorem bR3132 : ((bRun 3 1 3 2 0 && bRun 3 1 3 2 1) && (bRun 3 1 3 2 2 && bRun 3 1 3 2 3)) = true := by kernel_rfl
theorem bR4032 : ((bRun 4 0 3 2 0 && bRun 4 0 3 2 1) && (bRun 4 0 3 2 2 && bRun 4 0 3 2 3)) = true := by kernel_rfl
theorem bR4132 : ((bRun 4 1 3 2 0 && bRun 4 1 3 2 1) && (bRun 4 1 3 2 2 && bRun 4 1 3 2 3)) = true := by kernel_rfl
end Go.Rx

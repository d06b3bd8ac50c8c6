/- Closed runs of ScheBinds: some rows. -/
import Derived.Test.YtekbhhbnabdcbaaScheBindsP
set_option linter.unusedVariables false
set_option linter.unusedSimpArgs false
set_option linter.unusedSectionVars false
set_option maxRecDepth 100000
namespace Go.Rx
open Go.Proofs
theorem bR0021 : ((bRun 0 0 2 1 0 && bRun 0 0 2 1 1) && (bRun 0 0 2 1 2 && bRun 0 0 2 1 3)) = true := by kernel_rfl
theorem bR0121 : ((bRun 0 1 2 1 0 && bRun 0 1 2 1 1) && (bRun 0 1 2 1 2 && bRun 0 1 2 1 3)) = true := by kernel_rfl
theorem bR1021 : ((bRun 1 0 2 1 0 && bRun 1 0 2 1 1) && (bRun 1 0 2 1 2 && bRun 1 0 2 1 3)) = true := by kernel_rfl
theorem bR1121 : ((bRun 1 1 2 1 0 && bRun 1 1 2 1 1) && (bRun 1 1 2 1 2 && bRun 1 1 2 1 3)) = true := by kernel_rfl
theorem bR2021 : ((bRun 2 0 2 1 0 && bRun 2 0 2 1 1) && (bRun 2 0 2 1 2 && bRun 2 0 2 1 3)) = true := by kernel_rfl
theorem bR2121 : ((bRun 2 1 2 1 0 && bRun 2 1 2 1 1) && (bRun 2 1 2 1 2 && bRun 2 1 2 1 3)) = true := by kernel_rfl
theorem bR3021 : ((bRun 3 0 2 1 0 && bRun 3 0 2 1 1) && (bRun 3 0 2 1 2 && bRun 3 0 2 1 3)) = true := by kernel_rfl
theorem bR3121 : ((bRun 3 1 2 1 0 && bRun 3 1 2 1 1) && (bRun 3 1 2 1 2 && bRun 3 1 2 1 3)) = true := by kernel_rfl
theorem bR4021 : ((bRun 4 0 2 1 0 && bRun 4 0 2 1 1) && (bRun 4 0 2 1 2 && bRun 4 0 2 1 3)) = true := by kernel_rfl
theorem bR4121 : ((bRun 4 1 2 1 0 && bRun 4 1 2 1 1) && (bRun 4 1 2 1 2 && bRun 4 1 2 1 3)) = true := by kernel_rfl
end Go.Rx

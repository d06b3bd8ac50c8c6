/- Closed runs of ScheBinds: some rows. -/
import Derived.Test.YtekbhhbnabdcbaaScheBindsP
set_option linter.unusedVariables false
set_option linter.unusedSimpArgs false
set_option linter.unusedSectionVars false
set_option maxRecDepth 100000
namespace Go.Rx
open Go.Proofs
theorem bR0022 : ((bRun 0 0 2 2 0 && bRun 0 0 2 2 1) && (bRun 0 0 2 2 2 && bRun 0 0 2 2 3)) = true := by kernel_rfl
theorem bR0122 : ((bRun 0 1 2 2 0 && bRun 0 1 2 2 1) && (bRun 0 1 2 2 2 && bRun 0 1 2 2 3)) = true := by kernel_rfl
theorem bR1022 : ((bRun 1 0 2 2 0 && bRun 1 0 2 2 1) && (bRun 1 0 2 2 2 && bRun 1 0 2 2 3)) = true := by kernel_rfl
theorem bR1122 : ((bRun 1 1 2 2 0 && bRun 1 1 2 2 1) && (bRun 1 1 2 2 2 && bRun 1 1 2 2 3)) = true := by kernel_rfl
theorem bR2022 : ((bRun 2 0 2 2 0 && bRun 2 0 2 2 1) && (bRun 2 0 2 2 2 && bRun 2 0 2 2 3)) = true := by kernel_rfl
theorem bR2122 : ((bRun 2 1 2 2 0 && bRun 2 1 2 2 1) && (bRun 2 1 2 2 2 && bRun 2 1 2 2 3)) = true := by kernel_rfl
theorem bR3022 : ((bRun 3 0 2 2 0 && bRun 3 0 2 2 1) && (bRun 3 0 2 2 2 && bRun 3 0 2 2 3)) = true := by kernel_rfl
theorem bR3122 : ((bRun 3 1 2 2 0 && bRun 3 1 2 2 1) && (bRun 3 1 2 2 2 && bRun 3 1 2 2 3)) = true := by kernel_rfl
theorem bR4022 : ((bRun 4 0 2 2 0 && bRun 4 0 2 2 1) && (bRun 4 0 2 2 2 && bRun 4 0 2 2 3)) = true := by kernel_rfl
theorem bR4122 : ((bRun 4 1 2 2 0 && bRun 4 1 2 2 1) && (bRun 4 1 2 2 2 && bRun 4 1 2 2 3)) = true := by kernel_rfl
end Go.Rx

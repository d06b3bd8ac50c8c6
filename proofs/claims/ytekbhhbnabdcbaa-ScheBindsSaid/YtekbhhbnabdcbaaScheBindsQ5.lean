/- Closed runs of ScheBinds: some rows. -/
import Derived.Test.YtekbhhbnabdcbaaScheBindsP
set_option linter.unusedVariables false
set_option linter.unusedSimpArgs false
set_option linter.unusedSectionVars false
set_option maxRecDepth 100000
namespace Go.Rx
open Go.Proofs
theorem bR0011 : ((bRun 0 0 1 1 0 && bRun 0 0 1 1 1) && (bRun 0 0 1 1 2 && bRun 0 0 1 1 3)) = true := by kernel_rfl
theorem bR0111 : ((bRun 0 1 1 1 0 && bRun 0 1 1 1 1) && (bRun 0 1 1 1 2 && bRun 0 1 1 1 3)) = true := by kernel_rfl
theorem bR1011 : ((bRun 1 0 1 1 0 && bRun 1 0 1 1 1) && (bRun 1 0 1 1 2 && bRun 1 0 1 1 3)) = true := by kernel_rfl
theorem bR1111 : ((bRun 1 1 1 1 0 && bRun 1 1 1 1 1) && (bRun 1 1 1 1 2 && bRun 1 1 1 1 3)) = true := by kernel_rfl
theorem bR2011 : ((bRun 2 0 1 1 0 && bRun 2 0 1 1 1) && (bRun 2 0 1 1 2 && bRun 2 0 1 1 3)) = true := by kernel_rfl
theorem bR2111 : ((bRun 2 1 1 1 0 && bRun 2 1 1 1 1) && (bRun 2 1 1 1 2 && bRun 2 1 1 1 3)) = true := by kernel_rfl
theorem bR3011 : ((bRun 3 0 1 1 0 && bRun 3 0 1 1 1) && (bRun 3 0 1 1 2 && bRun 3 0 1 1 3)) = true := by kernel_rfl
theorem bR3111 : ((bRun 3 1 1 1 0 && bRun 3 1 1 1 1) && (bRun 3 1 1 1 2 && bRun 3 1 1 1 3)) = true := by kernel_rfl
theorem bR4011 : ((bRun 4 0 1 1 0 && bRun 4 0 1 1 1) && (bRun 4 0 1 1 2 && bRun 4 0 1 1 3)) = true := by kernel_rfl
theorem bR4111 : ((bRun 4 1 1 1 0 && bRun 4 1 1 1 1) && (bRun 4 1 1 1 2 && bRun 4 1 1 1 3)) = true := by kernel_rfl
end Go.Rx

/- Closed runs of ScheBounds: some texts. -/
import Derived.Test.YtnfnkdhanohaiaaScheBoundsP
set_option linter.unusedVariables false
set_option linter.unusedSimpArgs false
set_option linter.unusedSectionVars false
set_option maxRecDepth 100000
namespace Go.Rx
open Go.Proofs
theorem pR_t197 : pRun tx_t197 0 = true := by kernel_rfl
theorem pR_r197 : pRun tx_r197 0 = true := by kernel_rfl
theorem pR_s47 : pRun tx_s47 0 = true := by kernel_rfl
theorem pR_x99 : pRun tx_x99 0 = true := by kernel_rfl
end Go.Rx

/- Closed runs of ScheBounds: some texts. -/
import Derived.Test.YtnfnkdhanohaiaaScheBoundsP
set_option linter.unusedVariables false
set_option linter.unusedSimpArgs false
set_option linter.unusedSectionVars false
set_option maxRecDepth 100000
namespace Go.Rx
open Go.Proofs
theorem pR_t203 : pRun tx_t203 8 = true := by kernel_rfl
theorem pR_r203 : pRun tx_r203 8 = true := by kernel_rfl
theorem pR_s53 : pRun tx_s53 8 = true := by kernel_rfl
theorem pR_x105 : pRun tx_x105 8 = true := by kernel_rfl
end Go.Rx

/- Closed runs of ScheBounds: some texts. -/
import Derived.Test.YtnfnkdhanohaiaaScheBoundsP
set_option linter.unusedVariables false
set_option linter.unusedSimpArgs false
set_option linter.unusedSectionVars false
set_option maxRecDepth 100000
namespace Go.Rx
open Go.Proofs
theorem pR_t199 : pRun tx_t199 0 = true := by kernel_rfl
theorem pR_r199 : pRun tx_r199 0 = true := by kernel_rfl
theorem pR_s49 : pRun tx_s49 0 = true := by kernel_rfl
theorem pR_x101 : pRun tx_x101 8 = true := by kernel_rfl
end Go.Rx

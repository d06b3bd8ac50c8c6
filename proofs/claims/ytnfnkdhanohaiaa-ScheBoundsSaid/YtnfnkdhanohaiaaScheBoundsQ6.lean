/- Closed runs of ScheBounds: some texts. -/
import Derived.Test.YtnfnkdhanohaiaaScheBoundsP
set_option linter.unusedVariables false
set_option linter.unusedSimpArgs false
set_option linter.unusedSectionVars false
set_option maxRecDepth 100000
namespace Go.Rx
open Go.Proofs
theorem pR_t202 : pRun tx_t202 8 = true := by kernel_rfl
theorem pR_r202 : pRun tx_r202 8 = true := by kernel_rfl
theorem pR_s52 : pRun tx_s52 8 = true := by kernel_rfl
theorem pR_x104 : pRun tx_x104 8 = true := by kernel_rfl
end Go.Rx

/- Closed runs of ScheBounds: some texts. -/
import Derived.Test.YtnfnkdhanohaiaaScheBoundsP
set_option linter.unusedVariables false
set_option linter.unusedSimpArgs false
set_option linter.unusedSectionVars false
set_option maxRecDepth 100000
namespace Go.Rx
open Go.Proofs
theorem pR_t196 : pRun tx_t196 0 = true := by kernel_rfl
theorem pR_r196 : pRun tx_r196 0 = true := by kernel_rfl
theorem pR_s46 : pRun tx_s46 0 = true := by kernel_rfl
theorem pR_x98 : pRun tx_x98 0 = true := by kernel_rfl
end Go.Rx

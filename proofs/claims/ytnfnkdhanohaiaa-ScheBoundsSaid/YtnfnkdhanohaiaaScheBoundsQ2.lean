/- Closed runs of ScheBounds: some texts. -/
import Derived.Test.YtnfnkdhanohaiaaScheBoundsP
set_option linter.unusedVariables false
set_option linter.unusedSimpArgs false
set_option linter.unusedSectionVars false
set_option maxRecDepth 100000
namespace Go.Rx
open Go.Proofs
theorem pR_t198 : pRun tx_t198 0 = true := by kernel_rfl
theorem pR_r198 : pRun tx_r198 0 = true := by kernel_rfl
theorem pR_s48 : pRun tx_s48 0 = true := by kernel_rfl
theorem pR_x100 : pRun tx_x100 8 = true := by kernel_rfl
end Go.Rx

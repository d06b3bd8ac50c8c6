/- Closed runs of ScheBounds: some texts. -/
import Derived.Test.YtnfnkdhanohaiaaScheBoundsP
set_option linter.unusedVariables false
set_option linter.unusedSimpArgs false
set_option linter.unusedSectionVars false
set_option maxRecDepth 100000
namespace Go.Rx
open Go.Proofs
theorem pR_t201 : pRun tx_t201 8 = true := by kernel_rfl
theorem pR_r201 : pRun tx_r201 8 = true := by kernel_rfl
theorem pR_s51 : pRun tx_s51 8 = true := by kernel_rfl
theorem pR_x103 : pRun tx_x103 8 = true := by kernel_rfl
end Go.Rx

/- Closed runs of ScheBounds: some texts. -/
import Derived.Test.YtnfnkdhanohaiaaScheBoundsP
set_option linter.unusedVariables false
set_option linter.unusedSimpArgs false
set_option linter.unusedSectionVars false
set_option maxRecDepth 100000
namespace Go.Rx
open Go.Proofs
theorem pR_t200 : pRun tx_t200 0 = true := by kernel_rfl
theorem pR_r200 : pRun tx_r200 0 = true := by kernel_rfl
theorem pR_s50 : pRun tx_s50 0 = true := by kernel_rfl
theorem pR_x102 : pRun tx_x102 8 = true := by kernel_rfl
end Go.Rx

/- Closed runs of ScheBounds: all texts. -/
import Derived.Test.YtnfnkdhanohaiaaScheBoundsQ0
import Derived.Test.YtnfnkdhanohaiaaScheBoundsQ1
import Derived.Test.YtnfnkdhanohaiaaScheBoundsQ2
import Derived.Test.YtnfnkdhanohaiaaScheBoundsQ3
import Derived.Test.YtnfnkdhanohaiaaScheBoundsQ4
import Derived.Test.YtnfnkdhanohaiaaScheBoundsQ5
import Derived.Test.YtnfnkdhanohaiaaScheBoundsQ6
import Derived.Test.YtnfnkdhanohaiaaScheBoundsQ7
set_option linter.unusedVariables false
set_option linter.unusedSimpArgs false
set_option linter.unusedSectionVars false
set_option maxRecDepth 100000
namespace Go.Rx
open Go.Proofs
theorem tab32_ok : ∀ p ∈ tab32, pRun p.1 p.2 = true := all_cons pR_t196 (all_cons pR_t197 (all_cons pR_t198 (all_cons pR_t199 (all_cons pR_t200 (all_cons pR_t201 (all_cons pR_t202 (all_cons pR_t203 (all_cons pR_r196 (all_cons pR_r197 (all_cons pR_r198 (all_cons pR_r199 (all_cons pR_r200 (all_cons pR_r201 (all_cons pR_r202 (all_cons pR_r203 (all_cons pR_s46 (all_cons pR_s47 (all_cons pR_s48 (all_cons pR_s49 (all_cons pR_s50 (all_cons pR_s51 (all_cons pR_s52 (all_cons pR_s53 (all_cons pR_x98 (all_cons pR_x99 (all_cons pR_x100 (all_cons pR_x101 (all_cons pR_x102 (all_cons pR_x103 (all_cons pR_x104 (all_cons pR_x105 (all_nil))))))))))))))))))))))))))))))))
end Go.Rx

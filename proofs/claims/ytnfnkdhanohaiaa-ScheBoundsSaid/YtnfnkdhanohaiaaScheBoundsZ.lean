/- ScheBounds: the law, with the runs. -/
import Derived.Test.YtnfnkdhanohaiaaSBT
import Derived.Test.YtnfnkdhanohaiaaScheBoundsU
set_option linter.unusedVariables false
set_option linter.unusedSimpArgs false
set_option linter.unusedSectionVars false
namespace Go.Fbs
open Go.Proofs
theorem ok_entaillaw7_ScheBounds : SpecL Try.prog n_entaillaw7_ScheBounds F_entaillaw7_ScheBounds := okIf_entaillaw7_ScheBounds Rx.tab32_ok
end Go.Fbs

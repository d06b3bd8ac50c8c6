/- Closed runs: the run that the laws end in. -/
import Derived.Test.YtnfnkdhanohaiaaScheF
set_option linter.unusedVariables false
set_option linter.unusedSimpArgs false
set_option linter.unusedSectionVars false
set_option maxRecDepth 100000
namespace Go.Rx
open Go.Proofs
theorem awake : (funW tyT ftT 100000 100 6 [] ⟨0, .e⟩).isTrue = true := by kernel_rfl
theorem awakeCall : ∃ H1, CallR Try.prog 6 [] ⟨0, .e⟩ (.bool true) H1 := @run_okW Try.prog tyT 100000 ftT 100 6 [] tyOk mixed ftOk awake
end Go.Rx

/- Closed runs: the run that the laws end in. -/
import Derived.Test.YtekbhhbnabdcbaaScheF
set_option linter.unusedVariables false
set_option linter.unusedSimpArgs false
set_option linter.unusedSectionVars false
set_option maxRecDepth 100000
namespace Go.Rx
open Go.Proofs
theorem awake : (funW tyT ftT 100000 100 6 [] ⟨0, .e⟩).isTrue = true := by kernel_rfl
noncomputable def ftW : T FE := putT ftT 6 (.known true)
theorem known6 : FeOk Try.prog 6 (.known true) := @known_runW Try.prog tyT 100000 ftT 100 6 tyOk mixed ftOk awake
theorem ftWOk : FtOk Try.prog ftW := @ftOk_put Try.prog ftT ftOk 6 (.known true) known6
end Go.Rx

/- Closed runs: the run that the laws end in. -/
import Derived.Test.YtaiiifcjcmjdlaaScheF
set_option linter.unusedVariables false
set_option linter.unusedSimpArgs false
set_option linter.unusedSectionVars false
set_option maxRecDepth 100000
namespace Go.Rx
open Go.Proofs
theorem awake : (funX tyT ftT 100000 100 8 [] ⟨0, .e⟩).isTrue = true := by kernel_rfl
noncomputable def ftW : T FE := putT ftT 8 (.known true)
theorem known8 : FeOk Try.prog 8 (.known true) := @known_runX Try.prog tyT ftT 100000 100 8 tyOk mixed ftOk awake
theorem ftWOk : FtOk Try.prog ftW := @ftOk_put Try.prog ftT ftOk 8 (.known true) known8
end Go.Rx

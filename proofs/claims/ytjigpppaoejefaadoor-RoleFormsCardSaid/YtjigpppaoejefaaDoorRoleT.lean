/- Closed runs: the run that the laws end in. -/
import Derived.Test.YtjigpppaoejefaaDoorRoleF
set_option linter.unusedVariables false
set_option linter.unusedSimpArgs false
set_option linter.unusedSectionVars false
set_option maxRecDepth 100000
namespace Go.Rx
open Go.Proofs
theorem awake : (funW tyT ftT 100000 100 5 [] ⟨0, .e⟩).isTrue = true := by kernel_rfl
noncomputable def ftW : T FE := putT ftT 5 (.known true)
theorem known5 : FeOk Tryd.prog 5 (.known true) := @known_runW Tryd.prog tyT 100000 ftT 100 5 tyOk mixed ftOk awake
theorem ftWOk : FtOk Tryd.prog ftW := @ftOk_put Tryd.prog ftT ftOk 5 (.known true) known5
end Go.Rx

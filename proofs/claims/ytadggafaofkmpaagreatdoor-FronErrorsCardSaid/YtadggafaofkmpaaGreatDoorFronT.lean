/- Closed runs: the run that the laws end in. -/
import Derived.Test.YtadggafaofkmpaaGreatDoorFronF
set_option linter.unusedVariables false
set_option linter.unusedSimpArgs false
set_option linter.unusedSectionVars false
set_option maxRecDepth 100000
namespace Go.Rx
open Go.Proofs
theorem awake : (funW tyT ftT 100000 100 8 [] ⟨0, .e⟩).isTrue = true := by kernel_rfl
noncomputable def ftW : T FE := putT ftT 8 (.known true)
theorem known12 : FeOk Tryz.prog 8 (.known true) := @known_runW Tryz.prog tyT 100000 ftT 100 8 tyOk mixed ftOk awake
theorem ftWOk : FtOk Tryz.prog ftW := @ftOk_put Tryz.prog ftT ftOk 8 (.known true) known12
end Go.Rx

/- Closed runs: the run that the laws end in. -/
import Derived.Test.YtkbfgogimhfglaaGreatDoorMaskF
set_option linter.unusedVariables false
set_option linter.unusedSimpArgs false
set_option linter.unusedSectionVars false
set_option maxRecDepth 100000
namespace Go.Rx
open Go.Proofs
theorem awake : (funF tyT ftT 100000 100 11 [] ⟨0, .e⟩).isTrue = true := by kernel_rfl
noncomputable def ftW : T FE := putT ftT 11 (.known true)
theorem known7 : FeOk Tryz.prog 11 (.known true) := @known_run Tryz.prog tyT ftT 100000 100 11 tyOk mixed ftOk awake
theorem ftWOk : FtOk Tryz.prog ftW := @ftOk_put Tryz.prog ftT ftOk 11 (.known true) known7
end Go.Rx

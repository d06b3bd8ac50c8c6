import Derived.Test.YtkbfgogimhfglaaWellF
set_option linter.unusedVariables false
set_option linter.unusedSimpArgs false
set_option linter.unusedSectionVars false
namespace Go.Rx
open Go.Proofs
theorem awake : (funF tyT ftT 100000 100 9 [] ⟨0, .e⟩).isTrue = true := by kernel_rfl
noncomputable def ftW : T FE := putT ftT 9 (.known true)
end Go.Rx

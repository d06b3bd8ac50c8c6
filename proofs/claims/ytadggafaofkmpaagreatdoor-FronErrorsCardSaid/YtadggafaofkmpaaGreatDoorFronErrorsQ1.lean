/- Closed runs of FronErrors: some rows. -/
import Derived.Test.YtadggafaofkmpaaGreatDoorFronT
set_option linter.unusedVariables false
set_option linter.unusedSimpArgs false
set_option linter.unusedSectionVars false
set_option maxRecDepth 100000
namespace Go.Rx
open Go.Proofs
theorem FronErrorsRun1 : (funW tyT ftW 100000 100 3 [.sym (.node [(.and, 255, .node [(.rem, 18, .val (.ofNat 1))])])] ⟨0, .e⟩).isTrue = true := by kernel_rfl
theorem FronErrorsRun7 : (funW tyT ftW 100000 100 3 [.sym (.node [(.and, 255, .node [(.rem, 18, .val (.ofNat 7))])])] ⟨0, .e⟩).isTrue = true := by kernel_rfl
theorem FronErrorsRun13 : (funW tyT ftW 100000 100 3 [.sym (.node [(.and, 255, .node [(.rem, 18, .val (.ofNat 13))])])] ⟨0, .e⟩).isTrue = true := by kernel_rfl
end Go.Rx

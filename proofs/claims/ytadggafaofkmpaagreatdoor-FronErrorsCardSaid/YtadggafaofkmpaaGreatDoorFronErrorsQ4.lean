/- Closed runs of FronErrors: some rows. -/
import Derived.Test.YtadggafaofkmpaaGreatDoorFronT
set_option linter.unusedVariables false
set_option linter.unusedSimpArgs false
set_option linter.unusedSectionVars false
set_option maxRecDepth 100000
namespace Go.Rx
open Go.Proofs
theorem FronErrorsRun4 : (funW tyT ftW 100000 100 3 [.sym (.node [(.and, 255, .node [(.rem, 18, .val (.ofNat 4))])])] ⟨0, .e⟩).isTrue = true := by kernel_rfl
theorem FronErrorsRun10 : (funW tyT ftW 100000 100 3 [.sym (.node [(.and, 255, .node [(.rem, 18, .val (.ofNat 10))])])] ⟨0, .e⟩).isTrue = true := by kernel_rfl
theorem FronErrorsRun16 : (funW tyT ftW 100000 100 3 [.sym (.node [(.and, 255, .node [(.rem, 18, .val (.ofNat 16))])])] ⟨0, .e⟩).isTrue = true := by kernel_rfl
end Go.Rx

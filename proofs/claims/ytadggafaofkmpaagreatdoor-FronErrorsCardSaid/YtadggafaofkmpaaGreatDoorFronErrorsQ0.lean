/- Closed runs of FronErrors: some rows. -/
import Derived.Test.YtadggafaofkmpaaGreatDoorFronT
set_option linter.unusedVariables false
set_option linter.unusedSimpArgs false
set_option linter.unusedSectionVars false
set_option maxRecDepth 100000
namespace Go.Rx
open Go.Proofs
theorem FronErrorsRun0 : (funW tyT ftW 100000 100 3 [.sym (.node [(.and, 255, .node [(.rem, 18, .val (.ofNat 0))])])] ⟨0, .e⟩).isTrue = true := by kernel_rfl
theorem FronErrorsRun6 : (funW tyT ftW 100000 100 3 [.sym (.node [(.and, 255, .node [(.rem, 18, .val (.ofNat 6))])])] ⟨0, .e⟩).isTrue = true := by kernel_rfl
theorem FronErrorsRun12 : (funW tyT ftW 100000 100 3 [.sym (.node [(.and, 255, .node [(.rem, 18, .val (.ofNat 12))])])] ⟨0, .e⟩).isTrue = true := by kernel_rfl
end Go.Rx

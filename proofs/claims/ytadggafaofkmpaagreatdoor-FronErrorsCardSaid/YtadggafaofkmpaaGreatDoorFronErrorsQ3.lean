/- Closed runs of FronErrors: some rows. -/
import Derived.Test.YtadggafaofkmpaaGreatDoorFronT
set_option linter.unusedVariables false
set_option linter.unusedSimpArgs false
set_option linter.unusedSectionVars false
set_option maxRecDepth 100000
namespace Go.Rx
open Go.Proofs
theorem FronErrorsRun3 : (funW tyT ftW 100000 100 3 [.sym (.node [(.and, 255, .node [(.rem, 18, .val (.ofNat 3))])])] ⟨0, .e⟩).isTrue = true := by kernel_rfl
theorem FronErrorsRun9 : (funW tyT ftW 100000 100 3 [.sym (.node [(.and, 255, .node [(.rem, 18, .val (.ofNat 9))])])] ⟨0, .e⟩).isTrue = true := by kernel_rfl
theorem FronErrorsRun15 : (funW tyT ftW 100000 100 3 [.sym (.node [(.and, 255, .node [(.rem, 18, .val (.ofNat 15))])])] ⟨0, .e⟩).isTrue = true := by kernel_rfl
end Go.Rx

/- Closed runs of StatErrors: some rows. -/
import Derived.Test.YtkbfgogimhfglaaGreatStatT
set_option linter.unusedVariables false
set_option linter.unusedSimpArgs false
set_option linter.unusedSectionVars false
set_option maxRecDepth 100000
namespace Go.Rx
open Go.Proofs
theorem StatErrorsRun1 : (funF tyT ftW 100000 100 3 [.sym (.node [(.and, 255, .node [(.rem, 17, .val (.ofNat 1))])])] ⟨0, .e⟩).isTrue = true := by kernel_rfl
theorem StatErrorsRun3 : (funF tyT ftW 100000 100 3 [.sym (.node [(.and, 255, .node [(.rem, 17, .val (.ofNat 3))])])] ⟨0, .e⟩).isTrue = true := by kernel_rfl
theorem StatErrorsRun5 : (funF tyT ftW 100000 100 3 [.sym (.node [(.and, 255, .node [(.rem, 17, .val (.ofNat 5))])])] ⟨0, .e⟩).isTrue = true := by kernel_rfl
theorem StatErrorsRun7 : (funF tyT ftW 100000 100 3 [.sym (.node [(.and, 255, .node [(.rem, 17, .val (.ofNat 7))])])] ⟨0, .e⟩).isTrue = true := by kernel_rfl
theorem StatErrorsRun9 : (funF tyT ftW 100000 100 3 [.sym (.node [(.and, 255, .node [(.rem, 17, .val (.ofNat 9))])])] ⟨0, .e⟩).isTrue = true := by kernel_rfl
theorem StatErrorsRun11 : (funF tyT ftW 100000 100 3 [.sym (.node [(.and, 255, .node [(.rem, 17, .val (.ofNat 11))])])] ⟨0, .e⟩).isTrue = true := by kernel_rfl
theorem StatErrorsRun13 : (funF tyT ftW 100000 100 3 [.sym (.node [(.and, 255, .node [(.rem, 17, .val (.ofNat 13))])])] ⟨0, .e⟩).isTrue = true := by kernel_rfl
theorem StatErrorsRun15 : (funF tyT ftW 100000 100 3 [.sym (.node [(.and, 255, .node [(.rem, 17, .val (.ofNat 15))])])] ⟨0, .e⟩).isTrue = true := by kernel_rfl
end Go.Rx

/- Closed runs of StatErrors: some rows. -/
import Derived.Test.YtkbfgogimhfglaaGreatStatT
set_option linter.unusedVariables false
set_option linter.unusedSimpArgs false
set_option linter.unusedSectionVars false
set_option maxRecDepth 100000
namespace Go.Rx
open Go.Proofs
theorem StatErrorsRun0 : (funF tyT ftW 100000 100 3 [.sym (.node [(.and, 255, .node [(.rem, 17, .val (.ofNat 0))])])] ⟨0, .e⟩).isTrue = true := by kernel_rfl
theorem StatErrorsRun2 : (funF tyT ftW 100000 100 3 [.sym (.node [(.and, 255, .node [(.rem, 17, .val (.ofNat 2))])])] ⟨0, .e⟩).isTrue = true := by kernel_rfl
theorem StatErrorsRun4 : (funF tyT ftW 100000 100 3 [.sym (.node [(.and, 255, .node [(.rem, 17, .val (.ofNat 4))])])] ⟨0, .e⟩).isTrue = true := by kernel_rfl
theorem StatErrorsRun6 : (funF tyT ftW 100000 100 3 [.sym (.node [(.and, 255, .node [(.rem, 17, .val (.ofNat 6))])])] ⟨0, .e⟩).isTrue = true := by kernel_rfl
theorem StatErrorsRun8 : (funF tyT ftW 100000 100 3 [.sym (.node [(.and, 255, .node [(.rem, 17, .val (.ofNat 8))])])] ⟨0, .e⟩).isTrue = true := by kernel_rfl
theorem StatErrorsRun10 : (funF tyT ftW 100000 100 3 [.sym (.node [(.and, 255, .node [(.rem, 17, .val (.ofNat 10))])])] ⟨0, .e⟩).isTrue = true := by kernel_rfl
theorem StatErrorsRun12 : (funF tyT ftW 100000 100 3 [.sym (.node [(.and, 255, .node [(.rem, 17, .val (.ofNat 12))])])] ⟨0, .e⟩).isTrue = true := by kernel_rfl
theorem StatErrorsRun14 : (funF tyT ftW 100000 100 3 [.sym (.node [(.and, 255, .node [(.rem, 17, .val (.ofNat 14))])])] ⟨0, .e⟩).isTrue = true := by kernel_rfl
theorem StatErrorsRun16 : (funF tyT ftW 100000 100 3 [.sym (.node [(.and, 255, .node [(.rem, 17, .val (.ofNat 16))])])] ⟨0, .e⟩).isTrue = true := by kernel_rfl
end Go.Rx

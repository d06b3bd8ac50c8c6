import Derived.Test.YtkbfgogimhfglaaWellT
set_option linter.unusedVariables false
set_option linter.unusedSimpArgs false
set_option linter.unusedSectionVars false
namespace Go.Rx
open Go.Proofs
theorem wellRun0 : (funF tyT ftW 100000 100 3 [.sym (.node [(.and, 255, .node [(.rem, 23, .val (.ofNat 0))])])] ⟨0, .e⟩).isTrue = true := by kernel_rfl
theorem wellRun4 : (funF tyT ftW 100000 100 3 [.sym (.node [(.and, 255, .node [(.rem, 23, .val (.ofNat 4))])])] ⟨0, .e⟩).isTrue = true := by kernel_rfl
theorem wellRun8 : (funF tyT ftW 100000 100 3 [.sym (.node [(.and, 255, .node [(.rem, 23, .val (.ofNat 8))])])] ⟨0, .e⟩).isTrue = true := by kernel_rfl
theorem wellRun12 : (funF tyT ftW 100000 100 3 [.sym (.node [(.and, 255, .node [(.rem, 23, .val (.ofNat 12))])])] ⟨0, .e⟩).isTrue = true := by kernel_rfl
theorem wellRun16 : (funF tyT ftW 100000 100 3 [.sym (.node [(.and, 255, .node [(.rem, 23, .val (.ofNat 16))])])] ⟨0, .e⟩).isTrue = true := by kernel_rfl
theorem wellRun20 : (funF tyT ftW 100000 100 3 [.sym (.node [(.and, 255, .node [(.rem, 23, .val (.ofNat 20))])])] ⟨0, .e⟩).isTrue = true := by kernel_rfl
end Go.Rx

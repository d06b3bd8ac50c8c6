import Derived.Test.YtkbfgogimhfglaaWellT
set_option linter.unusedVariables false
set_option linter.unusedSimpArgs false
set_option linter.unusedSectionVars false
namespace Go.Rx
open Go.Proofs
theorem wellRun1 : (funF tyT ftW 100000 100 3 [.sym (.node [(.and, 255, .node [(.rem, 23, .val (.ofNat 1))])])] ⟨0, .e⟩).isTrue = true := by kernel_rfl
theorem wellRun5 : (funF tyT ftW 100000 100 3 [.sym (.node [(.and, 255, .node [(.rem, 23, .val (.ofNat 5))])])] ⟨0, .e⟩).isTrue = true := by kernel_rfl
theorem wellRun9 : (funF tyT ftW 100000 100 3 [.sym (.node [(.and, 255, .node [(.rem, 23, .val (.ofNat 9))])])] ⟨0, .e⟩).isTrue = true := by kernel_rfl
theorem wellRun13 : (funF tyT ftW 100000 100 3 [.sym (.node [(.and, 255, .node [(.rem, 23, .val (.ofNat 13))])])] ⟨0, .e⟩).isTrue = true := by kernel_rfl
theorem wellRun17 : (funF tyT ftW 100000 100 3 [.sym (.node [(.and, 255, .node [(.rem, 23, .val (.ofNat 17))])])] ⟨0, .e⟩).isTrue = true := by kernel_rfl
theorem wellRun21 : (funF tyT ftW 100000 100 3 [.sym (.node [(.and, 255, .node [(.rem, 23, .val (.ofNat 21))])])] ⟨0, .e⟩).isTrue = true := by kernel_rfl
end Go.Rx

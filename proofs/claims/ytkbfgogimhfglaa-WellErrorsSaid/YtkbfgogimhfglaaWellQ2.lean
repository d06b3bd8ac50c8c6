import Derived.Test.YtkbfgogimhfglaaWellT
set_option linter.unusedVariables false
set_option linter.unusedSimpArgs false
set_option linter.unusedSectionVars false
namespace Go.Rx
open Go.Proofs
theorem wellRun2 : (funF tyT ftW 100000 100 3 [.sym (.node [(.and, 255, .node [(.rem, 23, .val (.ofNat 2))])])] ⟨0, .e⟩).isTrue = true := by kernel_rfl
theorem wellRun6 : (funF tyT ftW 100000 100 3 [.sym (.node [(.and, 255, .node [(.rem, 23, .val (.ofNat 6))])])] ⟨0, .e⟩).isTrue = true := by kernel_rfl
theorem wellRun10 : (funF tyT ftW 100000 100 3 [.sym (.node [(.and, 255, .node [(.rem, 23, .val (.ofNat 10))])])] ⟨0, .e⟩).isTrue = true := by kernel_rfl
theorem wellRun14 : (funF tyT ftW 100000 100 3 [.sym (.node [(.and, 255, .node [(.rem, 23, .val (.ofNat 14))])])] ⟨0, .e⟩).isTrue = true := by kernel_rfl
theorem wellRun18 : (funF tyT ftW 100000 100 3 [.sym (.node [(.and, 255, .node [(.rem, 23, .val (.ofNat 18))])])] ⟨0, .e⟩).isTrue = true := by kernel_rfl
theorem wellRun22 : (funF tyT ftW 100000 100 3 [.sym (.node [(.and, 255, .node [(.rem, 23, .val (.ofNat 22))])])] ⟨0, .e⟩).isTrue = true := by kernel_rfl
end Go.Rx

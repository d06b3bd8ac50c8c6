import Derived.Test.YtkbfgogimhfglaaWellT
set_option linter.unusedVariables false
set_option linter.unusedSimpArgs false
set_option linter.unusedSectionVars false
namespace Go.Rx
open Go.Proofs
theorem wellRun3 : (funF tyT ftW 100000 100 3 [.sym (.node [(.and, 255, .node [(.rem, 23, .val (.ofNat 3))])])] ⟨0, .e⟩).isTrue = true := by kernel_rfl
theorem wellRun7 : (funF tyT ftW 100000 100 3 [.sym (.node [(.and, 255, .node [(.rem, 23, .val (.ofNat 7))])])] ⟨0, .e⟩).isTrue = true := by kernel_rfl
theorem wellRun11 : (funF tyT ftW 100000 100 3 [.sym (.node [(.and, 255, .node [(.rem, 23, .val (.ofNat 11))])])] ⟨0, .e⟩).isTrue = true := by kernel_rfl
theorem wellRun15 : (funF tyT ftW 100000 100 3 [.sym (.node [(.and, 255, .node [(.rem, 23, .val (.ofNat 15))])])] ⟨0, .e⟩).isTrue = true := by kernel_rfl
theorem wellRun19 : (funF tyT ftW 100000 100 3 [.sym (.node [(.and, 255, .node [(.rem, 23, .val (.ofNat 19))])])] ⟨0, .e⟩).isTrue = true := by kernel_rfl
end Go.Rx

/- Closed runs of JsonForms: some rows. -/
import Derived.Test.YtknpmfnhkiknkaaGreatDoorJsonT
set_option linter.unusedVariables false
set_option linter.unusedSimpArgs false
set_option linter.unusedSectionVars false
set_option maxRecDepth 100000
namespace Go.Rx
open Go.Proofs
theorem JsonFormsRun3 : (funW tyT ftW 100000 100 3 [.sym (.node [(.and, 255, .node [(.rem, 31, .val (.ofNat 3))])])] ⟨0, .e⟩).isTrue = true := by kernel_rfl
theorem JsonFormsRun7 : (funW tyT ftW 100000 100 3 [.sym (.node [(.and, 255, .node [(.rem, 31, .val (.ofNat 7))])])] ⟨0, .e⟩).isTrue = true := by kernel_rfl
theorem JsonFormsRun11 : (funW tyT ftW 100000 100 3 [.sym (.node [(.and, 255, .node [(.rem, 31, .val (.ofNat 11))])])] ⟨0, .e⟩).isTrue = true := by kernel_rfl
theorem JsonFormsRun15 : (funW tyT ftW 100000 100 3 [.sym (.node [(.and, 255, .node [(.rem, 31, .val (.ofNat 15))])])] ⟨0, .e⟩).isTrue = true := by kernel_rfl
theorem JsonFormsRun19 : (funW tyT ftW 100000 100 3 [.sym (.node [(.and, 255, .node [(.rem, 31, .val (.ofNat 19))])])] ⟨0, .e⟩).isTrue = true := by kernel_rfl
theorem JsonFormsRun23 : (funW tyT ftW 100000 100 3 [.sym (.node [(.and, 255, .node [(.rem, 31, .val (.ofNat 23))])])] ⟨0, .e⟩).isTrue = true := by kernel_rfl
theorem JsonFormsRun27 : (funW tyT ftW 100000 100 3 [.sym (.node [(.and, 255, .node [(.rem, 31, .val (.ofNat 27))])])] ⟨0, .e⟩).isTrue = true := by kernel_rfl
end Go.Rx

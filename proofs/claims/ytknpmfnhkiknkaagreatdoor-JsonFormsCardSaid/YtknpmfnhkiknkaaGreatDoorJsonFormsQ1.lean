/- Closed runs of JsonForms: some rows. -/
import Derived.Test.YtknpmfnhkiknkaaGreatDoorJsonT
set_option linter.unusedVariables false
set_option linter.unusedSimpArgs false
set_option linter.unusedSectionVars false
set_option maxRecDepth 100000
namespace Go.Rx
open Go.Proofs
theorem JsonFormsRun1 : (funW tyT ftW 100000 100 3 [.sym (.node [(.and, 255, .node [(.rem, 31, .val (.ofNat 1))])])] ⟨0, .e⟩).isTrue = true := by kernel_rfl
theorem JsonFormsRun5 : (funW tyT ftW 100000 100 3 [.sym (.node [(.and, 255, .node [(.rem, 31, .val (.ofNat 5))])])] ⟨0, .e⟩).isTrue = true := by kernel_rfl
theorem JsonFormsRun9 : (funW tyT ftW 100000 100 3 [.sym (.node [(.and, 255, .node [(.rem, 31, .val (.ofNat 9))])])] ⟨0, .e⟩).isTrue = true := by kernel_rfl
theorem JsonFormsRun13 : (funW tyT ftW 100000 100 3 [.sym (.node [(.and, 255, .node [(.rem, 31, .val (.ofNat 13))])])] ⟨0, .e⟩).isTrue = true := by kernel_rfl
theorem JsonFormsRun17 : (funW tyT ftW 100000 100 3 [.sym (.node [(.and, 255, .node [(.rem, 31, .val (.ofNat 17))])])] ⟨0, .e⟩).isTrue = true := by kernel_rfl
theorem JsonFormsRun21 : (funW tyT ftW 100000 100 3 [.sym (.node [(.and, 255, .node [(.rem, 31, .val (.ofNat 21))])])] ⟨0, .e⟩).isTrue = true := by kernel_rfl
theorem JsonFormsRun25 : (funW tyT ftW 100000 100 3 [.sym (.node [(.and, 255, .node [(.rem, 31, .val (.ofNat 25))])])] ⟨0, .e⟩).isTrue = true := by kernel_rfl
theorem JsonFormsRun29 : (funW tyT ftW 100000 100 3 [.sym (.node [(.and, 255, .node [(.rem, 31, .val (.ofNat 29))])])] ⟨0, .e⟩).isTrue = true := by kernel_rfl
end Go.Rx

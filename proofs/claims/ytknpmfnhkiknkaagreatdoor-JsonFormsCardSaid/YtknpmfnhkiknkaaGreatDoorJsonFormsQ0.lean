/- Closed runs of JsonForms: some rows. -/
import Derived.Test.YtknpmfnhkiknkaaGreatDoorJsonT
set_option linter.unusedVariables false
set_option linter.unusedSimpArgs false
set_option linter.unusedSectionVars false
set_option maxRecDepth 100000
namespace Go.Rx
open Go.Proofs
theorem JsonFormsRun0 : (funW tyT ftW 100000 100 3 [.sym (.node [(.and, 255, .node [(.rem, 31, .val (.ofNat 0))])])] ⟨0, .e⟩).isTrue = true := by kernel_rfl
theorem JsonFormsRun4 : (funW tyT ftW 100000 100 3 [.sym (.node [(.and, 255, .node [(.rem, 31, .val (.ofNat 4))])])] ⟨0, .e⟩).isTrue = true := by kernel_rfl
theorem JsonFormsRun8 : (funW tyT ftW 100000 100 3 [.sym (.node [(.and, 255, .node [(.rem, 31, .val (.ofNat 8))])])] ⟨0, .e⟩).isTrue = true := by kernel_rfl
theorem JsonFormsRun12 : (funW tyT ftW 100000 100 3 [.sym (.node [(.and, 255, .node [(.rem, 31, .val (.ofNat 12))])])] ⟨0, .e⟩).isTrue = true := by kernel_rfl
theorem JsonFormsRun16 : (funW tyT ftW 100000 100 3 [.sym (.node [(.and, 255, .node [(.rem, 31, .val (.ofNat 16))])])] ⟨0, .e⟩).isTrue = true := by kernel_rfl
theorem JsonFormsRun20 : (funW tyT ftW 100000 100 3 [.sym (.node [(.and, 255, .node [(.rem, 31, .val (.ofNat 20))])])] ⟨0, .e⟩).isTrue = true := by kernel_rfl
theorem JsonFormsRun24 : (funW tyT ftW 100000 100 3 [.sym (.node [(.and, 255, .node [(.rem, 31, .val (.ofNat 24))])])] ⟨0, .e⟩).isTrue = true := by kernel_rfl
theorem JsonFormsRun28 : (funW tyT ftW 100000 100 3 [.sym (.node [(.and, 255, .node [(.rem, 31, .val (.ofNat 28))])])] ⟨0, .e⟩).isTrue = true := by kernel_rfl
end Go.Rx

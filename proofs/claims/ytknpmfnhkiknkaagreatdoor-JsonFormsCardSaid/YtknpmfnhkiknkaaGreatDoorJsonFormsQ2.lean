/- Closed runs of JsonForms: some rows. -/
import Derived.Test.YtknpmfnhkiknkaaGreatDoorJsonT
set_option linter.unusedVariables false
set_option linter.unusedSimpArgs false
set_option linter.unusedSectionVars false
set_option maxRecDepth 100000
namespace Go.Rx
open Go.Proofs
theorem JsonFormsRun2 : (funW tyT ftW 100000 100 3 [.sym (.node [(.and, 255, .node [(.rem, 31, .val (.ofNat 2))])])] ⟨0, .e⟩).isTrue = true := by kernel_rfl
theorem JsonFormsRun6 : (funW tyT ftW 100000 100 3 [.sym (.node [(.and, 255, .node [(.rem, 31, .val (.ofNat 6))])])] ⟨0, .e⟩).isTrue = true := by kernel_rfl
theorem JsonFormsRun10 : (funW tyT ftW 100000 100 3 [.sym (.node [(.and, 255, .node [(.rem, 31, .val (.ofNat 10))])])] ⟨0, .e⟩).isTrue = true := by kernel_rfl
theorem JsonFormsRun14 : (funW tyT ftW 100000 100 3 [.sym (.node [(.and, 255, .node [(.rem, 31, .val (.ofNat 14))])])] ⟨0, .e⟩).isTrue = true := by kernel_rfl
theorem JsonFormsRun18 : (funW tyT ftW 100000 100 3 [.sym (.node [(.and, 255, .node [(.rem, 31, .val (.ofNat 18))])])] ⟨0, .e⟩).isTrue = true := by kernel_rfl
theorem JsonFormsRun22 : (funW tyT ftW 100000 100 3 [.sym (.node [(.and, 255, .node [(.rem, 31, .val (.ofNat 22))])])] ⟨0, .e⟩).isTrue = true := by kernel_rfl
theorem JsonFormsRun26 : (funW tyT ftW 100000 100 3 [.sym (.node [(.and, 255, .node [(.rem, 31, .val (.ofNat 26))])])] ⟨0, .e⟩).isTrue = true := by kernel_rfl
theorem JsonFormsRun30 : (funW tyT ftW 100000 100 3 [.sym (.node [(.and, 255, .node [(.rem, 31, .val (.ofNat 30))])])] ⟨0, .e⟩).isTrue = true := by kernel_rfl
end Go.Rx

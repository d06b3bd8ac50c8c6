/- Closed runs of StatForms: some rows. -/
import Derived.Test.YtkbfgogimhfglaaGreatStatT
set_option linter.unusedVariables false
set_option linter.unusedSimpArgs false
set_option linter.unusedSectionVars false
set_option maxRecDepth 100000
namespace Go.Rx
open Go.Proofs
theorem StatFormsRun2 : (funF tyT ftW 100000 100 4 [.sym (.node [(.and, 255, .node [(.rem, 23, .val (.ofNat 2))])])] ⟨0, .e⟩).isTrue = true := by kernel_rfl
theorem StatFormsRun5 : (funF tyT ftW 100000 100 4 [.sym (.node [(.and, 255, .node [(.rem, 23, .val (.ofNat 5))])])] ⟨0, .e⟩).isTrue = true := by kernel_rfl
theorem StatFormsRun8 : (funF tyT ftW 100000 100 4 [.sym (.node [(.and, 255, .node [(.rem, 23, .val (.ofNat 8))])])] ⟨0, .e⟩).isTrue = true := by kernel_rfl
theorem StatFormsRun11 : (funF tyT ftW 100000 100 4 [.sym (.node [(.and, 255, .node [(.rem, 23, .val (.ofNat 11))])])] ⟨0, .e⟩).isTrue = true := by kernel_rfl
theorem StatFormsRun14 : (funF tyT ftW 100000 100 4 [.sym (.node [(.and, 255, .node [(.rem, 23, .val (.ofNat 14))])])] ⟨0, .e⟩).isTrue = true := by kernel_rfl
theorem StatFormsRun17 : (funF tyT ftW 100000 100 4 [.sym (.node [(.and, 255, .node [(.rem, 23, .val (.ofNat 17))])])] ⟨0, .e⟩).isTrue = true := by kernel_rfl
theorem StatFormsRun20 : (funF tyT ftW 100000 100 4 [.sym (.node [(.and, 255, .node [(.rem, 23, .val (.ofNat 20))])])] ⟨0, .e⟩).isTrue = true := by kernel_rfl
end Go.Rx

/- Closed runs of StatForms: some rows. -/
import Derived.Test.YtkbfgogimhfglaaGreatStatT
set_option linter.unusedVariables false
set_option linter.unusedSimpArgs false
set_option linter.unusedSectionVars false
set_option maxRecDepth 100000
namespace Go.Rx
open Go.Proofs
theorem StatFormsRun1 : (funF tyT ftW 100000 100 4 [.sym (.node [(.and, 255, .node [(.rem, 23, .val (.ofNat 1))])])] ⟨0, .e⟩).isTrue = true := by kernel_rfl
theorem StatFormsRun4 : (funF tyT ftW 100000 100 4 [.sym (.node [(.and, 255, .node [(.rem, 23, .val (.ofNat 4))])])] ⟨0, .e⟩).isTrue = true := by kernel_rfl
theorem StatFormsRun7 : (funF tyT ftW 100000 100 4 [.sym (.node [(.and, 255, .node [(.rem, 23, .val (.ofNat 7))])])] ⟨0, .e⟩).isTrue = true := by kernel_rfl
theorem StatFormsRun10 : (funF tyT ftW 100000 100 4 [.sym (.node [(.and, 255, .node [(.rem, 23, .val (.ofNat 10))])])] ⟨0, .e⟩).isTrue = true := by kernel_rfl
theorem StatFormsRun13 : (funF tyT ftW 100000 100 4 [.sym (.node [(.and, 255, .node [(.rem, 23, .val (.ofNat 13))])])] ⟨0, .e⟩).isTrue = true := by kernel_rfl
theorem StatFormsRun16 : (funF tyT ftW 100000 100 4 [.sym (.node [(.and, 255, .node [(.rem, 23, .val (.ofNat 16))])])] ⟨0, .e⟩).isTrue = true := by kernel_rfl
theorem StatFormsRun19 : (funF tyT ftW 100000 100 4 [.sym (.node [(.and, 255, .node [(.rem, 23, .val (.ofNat 19))])])] ⟨0, .e⟩).isTrue = true := by kernel_rfl
theorem StatFormsRun22 : (funF tyT ftW 100000 100 4 [.sym (.node [(.and, 255, .node [(.rem, 23, .val (.ofNat 22))])])] ⟨0, .e⟩).isTrue = true := by kernel_rfl
end Go.Rx

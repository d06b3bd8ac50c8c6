/- Closed runs of StatForms: some rows. -/
import Derived.Test.YtkbfgogimhfglaaGreatStatT
set_option linter.unusedVariables false
set_option linter.unusedSimpArgs false
set_option linter.unusedSectionVars false
set_option maxRecDepth 100000
namespace Go.Rx
open Go.Proofs
theorem StatFormsRun0 : (funF tyT ftW 100000 100 4 [.sym (.node [(.and, 255, .node [(.rem, 23, .val (.ofNat 0))])])] ⟨0, .e⟩).isTrue = true := by kernel_rfl
theorem StatFormsRun3 : (funF tyT ftW 100000 100 4 [.sym (.node [(.and, 255, .node [(.rem, 23, .val (.ofNat 3))])])] ⟨0, .e⟩).isTrue = true := by kernel_rfl
theorem StatFormsRun6 : (funF tyT ftW 100000 100 4 [.sym (.node [(.and, 255, .node [(.rem, 23, .val (.ofNat 6))])])] ⟨0, .e⟩).isTrue = true := by kernel_rfl
theorem StatFormsRun9 : (funF tyT ftW 100000 100 4 [.sym (.node [(.and, 255, .node [(.rem, 23, .val (.ofNat 9))])])] ⟨0, .e⟩).isTrue = true := by kernel_rfl
theorem StatFormsRun12 : (funF tyT ftW 100000 100 4 [.sym (.node [(.and, 255, .node [(.rem, 23, .val (.ofNat 12))])])] ⟨0, .e⟩).isTrue = true := by kernel_rfl
theorem StatFormsRun15 : (funF tyT ftW 100000 100 4 [.sym (.node [(.and, 255, .node [(.rem, 23, .val (.ofNat 15))])])] ⟨0, .e⟩).isTrue = true := by kernel_rfl
theorem StatFormsRun18 : (funF tyT ftW 100000 100 4 [.sym (.node [(.and, 255, .node [(.rem, 23, .val (.ofNat 18))])])] ⟨0, .e⟩).isTrue = true := by kernel_rfl
theorem StatFormsRun21 : (funF tyT ftW 100000 100 4 [.sym (.node [(.and, 255, .node [(.rem, 23, .val (.ofNat 21))])])] ⟨0, .e⟩).isTrue = true := by kernel_rfl
end Go.Rx

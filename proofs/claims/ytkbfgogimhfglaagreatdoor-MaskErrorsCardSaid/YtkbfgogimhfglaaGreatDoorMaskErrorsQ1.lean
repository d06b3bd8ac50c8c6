/- Closed runs of MaskErrors: some rows. -/
import Derived.Test.YtkbfgogimhfglaaGreatDoorMaskT
set_option linter.unusedVariables false
set_option linter.unusedSimpArgs false
set_option linter.unusedSectionVars false
set_option maxRecDepth 100000
namespace Go.Rx
open Go.Proofs
theorem MaskErrorsRun1 : (funF tyT ftW 100000 100 4 [.sym (.node [(.and, 255, .node [(.rem, 21, .val (.ofNat 1))])])] ⟨0, .e⟩).isTrue = true := by kernel_rfl
theorem MaskErrorsRun4 : (funF tyT ftW 100000 100 4 [.sym (.node [(.and, 255, .node [(.rem, 21, .val (.ofNat 4))])])] ⟨0, .e⟩).isTrue = true := by kernel_rfl
theorem MaskErrorsRun7 : (funF tyT ftW 100000 100 4 [.sym (.node [(.and, 255, .node [(.rem, 21, .val (.ofNat 7))])])] ⟨0, .e⟩).isTrue = true := by kernel_rfl
theorem MaskErrorsRun10 : (funF tyT ftW 100000 100 4 [.sym (.node [(.and, 255, .node [(.rem, 21, .val (.ofNat 10))])])] ⟨0, .e⟩).isTrue = true := by kernel_rfl
theorem MaskErrorsRun13 : (funF tyT ftW 100000 100 4 [.sym (.node [(.and, 255, .node [(.rem, 21, .val (.ofNat 13))])])] ⟨0, .e⟩).isTrue = true := by kernel_rfl
theorem MaskErrorsRun16 : (funF tyT ftW 100000 100 4 [.sym (.node [(.and, 255, .node [(.rem, 21, .val (.ofNat 16))])])] ⟨0, .e⟩).isTrue = true := by kernel_rfl
theorem MaskErrorsRun19 : (funF tyT ftW 100000 100 4 [.sym (.node [(.and, 255, .node [(.rem, 21, .val (.ofNat 19))])])] ⟨0, .e⟩).isTrue = true := by kernel_rfl
end Go.Rx

/- Closed runs of MaskErrors: some rows. -/
import Derived.Test.YtkbfgogimhfglaaGreatDoorMaskT
set_option linter.unusedVariables false
set_option linter.unusedSimpArgs false
set_option linter.unusedSectionVars false
set_option maxRecDepth 100000
namespace Go.Rx
open Go.Proofs
theorem MaskErrorsRun2 : (funF tyT ftW 100000 100 4 [.sym (.node [(.and, 255, .node [(.rem, 21, .val (.ofNat 2))])])] ⟨0, .e⟩).isTrue = true := by kernel_rfl
theorem MaskErrorsRun5 : (funF tyT ftW 100000 100 4 [.sym (.node [(.and, 255, .node [(.rem, 21, .val (.ofNat 5))])])] ⟨0, .e⟩).isTrue = true := by kernel_rfl
theorem MaskErrorsRun8 : (funF tyT ftW 100000 100 4 [.sym (.node [(.and, 255, .node [(.rem, 21, .val (.ofNat 8))])])] ⟨0, .e⟩).isTrue = true := by kernel_rfl
theorem MaskErrorsRun11 : (funF tyT ftW 100000 100 4 [.sym (.node [(.and, 255, .node [(.rem, 21, .val (.ofNat 11))])])] ⟨0, .e⟩).isTrue = true := by kernel_rfl
theorem MaskErrorsRun14 : (funF tyT ftW 100000 100 4 [.sym (.node [(.and, 255, .node [(.rem, 21, .val (.ofNat 14))])])] ⟨0, .e⟩).isTrue = true := by kernel_rfl
theorem MaskErrorsRun17 : (funF tyT ftW 100000 100 4 [.sym (.node [(.and, 255, .node [(.rem, 21, .val (.ofNat 17))])])] ⟨0, .e⟩).isTrue = true := by kernel_rfl
theorem MaskErrorsRun20 : (funF tyT ftW 100000 100 4 [.sym (.node [(.and, 255, .node [(.rem, 21, .val (.ofNat 20))])])] ⟨0, .e⟩).isTrue = true := by kernel_rfl
end Go.Rx

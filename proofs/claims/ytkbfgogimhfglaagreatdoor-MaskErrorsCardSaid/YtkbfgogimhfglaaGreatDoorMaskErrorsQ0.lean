/- Closed runs of MaskErrors: some rows. -/
import Derived.Test.YtkbfgogimhfglaaGreatDoorMaskT
set_option linter.unusedVariables false
set_option linter.unusedSimpArgs false
set_option linter.unusedSectionVars false
set_option maxRecDepth 100000
namespace Go.Rx
open Go.Proofs
theorem MaskErrorsRun0 : (funF tyT ftW 100000 100 4 [.sym (.node [(.and, 255, .node [(.rem, 21, .val (.ofNat 0))])])] ⟨0, .e⟩).isTrue = true := by kernel_rfl
theorem MaskErrorsRun3 : (funF tyT ftW 100000 100 4 [.sym (.node [(.and, 255, .node [(.rem, 21, .val (.ofNat 3))])])] ⟨0, .e⟩).isTrue = true := by kernel_rfl
theorem MaskErrorsRun6 : (funF tyT ftW 100000 100 4 [.sym (.node [(.and, 255, .node [(.rem, 21, .val (.ofNat 6))])])] ⟨0, .e⟩).isTrue = true := by kernel_rfl
theorem MaskErrorsRun9 : (funF tyT ftW 100000 100 4 [.sym (.node [(.and, 255, .node [(.rem, 21, .val (.ofNat 9))])])] ⟨0, .e⟩).isTrue = true := by kernel_rfl
theorem MaskErrorsRun12 : (funF tyT ftW 100000 100 4 [.sym (.node [(.and, 255, .node [(.rem, 21, .val (.ofNat 12))])])] ⟨0, .e⟩).isTrue = true := by kernel_rfl
theorem MaskErrorsRun15 : (funF tyT ftW 100000 100 4 [.sym (.node [(.and, 255, .node [(.rem, 21, .val (.ofNat 15))])])] ⟨0, .e⟩).isTrue = true := by kernel_rfl
theorem MaskErrorsRun18 : (funF tyT ftW 100000 100 4 [.sym (.node [(.and, 255, .node [(.rem, 21, .val (.ofNat 18))])])] ⟨0, .e⟩).isTrue = true := by kernel_rfl
end Go.Rx

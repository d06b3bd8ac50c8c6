/- Closed runs of RoleForms: some rows. -/
import Derived.Test.YtjigpppaoejefaaDoorRoleT
set_option linter.unusedVariables false
set_option linter.unusedSimpArgs false
set_option linter.unusedSectionVars false
set_option maxRecDepth 100000
namespace Go.Rx
open Go.Proofs
theorem RoleFormsRun4 : (funW tyT ftW 100000 100 3 [.sym (.node [(.and, 255, .node [(.rem, 25, .val (.ofNat 4))])])] ⟨0, .e⟩).isTrue = true := by kernel_rfl
theorem RoleFormsRun9 : (funW tyT ftW 100000 100 3 [.sym (.node [(.and, 255, .node [(.rem, 25, .val (.ofNat 9))])])] ⟨0, .e⟩).isTrue = true := by kernel_rfl
theorem RoleFormsRun14 : (funW tyT ftW 100000 100 3 [.sym (.node [(.and, 255, .node [(.rem, 25, .val (.ofNat 14))])])] ⟨0, .e⟩).isTrue = true := by kernel_rfl
theorem RoleFormsRun19 : (funW tyT ftW 100000 100 3 [.sym (.node [(.and, 255, .node [(.rem, 25, .val (.ofNat 19))])])] ⟨0, .e⟩).isTrue = true := by kernel_rfl
theorem RoleFormsRun24 : (funW tyT ftW 100000 100 3 [.sym (.node [(.and, 255, .node [(.rem, 25, .val (.ofNat 24))])])] ⟨0, .e⟩).isTrue = true := by kernel_rfl
end Go.Rx

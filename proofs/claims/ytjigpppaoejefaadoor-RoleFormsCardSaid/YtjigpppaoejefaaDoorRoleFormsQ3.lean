/- Closed runs of RoleForms: some rows. -/
import Derived.Test.YtjigpppaoejefaaDoorRoleT
set_option linter.unusedVariables false
set_option linter.unusedSimpArgs false
set_option linter.unusedSectionVars false
set_option maxRecDepth 100000
namespace Go.Rx
open Go.Proofs
theorem RoleFormsRun3 : (funW tyT ftW 100000 100 3 [.sym (.node [(.and, 255, .node [(.rem, 25, .val (.ofNat 3))])])] ⟨0, .e⟩).isTrue = true := by kernel_rfl
theorem RoleFormsRun8 : (funW tyT ftW 100000 100 3 [.sym (.node [(.and, 255, .node [(.rem, 25, .val (.ofNat 8))])])] ⟨0, .e⟩).isTrue = true := by kernel_rfl
theorem RoleFormsRun13 : (funW tyT ftW 100000 100 3 [.sym (.node [(.and, 255, .node [(.rem, 25, .val (.ofNat 13))])])] ⟨0, .e⟩).isTrue = true := by kernel_rfl
theorem RoleFormsRun18 : (funW tyT ftW 100000 100 3 [.sym (.node [(.and, 255, .node [(.rem, 25, .val (.ofNat 18))])])] ⟨0, .e⟩).isTrue = true := by kernel_rfl
theorem RoleFormsRun23 : (funW tyT ftW 100000 100 3 [.sym (.node [(.and, 255, .node [(.rem, 25, .val (.ofNat 23))])])] ⟨0, .e⟩).isTrue = true := by kernel_rfl
end Go.Rx

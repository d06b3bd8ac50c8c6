/- Closed runs of RoleForms: some rows. -/
import Derived.Test.YtjigpppaoejefaaDoorRoleT
set_option linter.unusedVariables false
set_option linter.unusedSimpArgs false
set_option linter.unusedSectionVars false
set_option maxRecDepth 100000
namespace Go.Rx
open Go.Proofs
theorem RoleFormsRun2 : (funW tyT ftW 100000 100 3 [.sym (.node [(.and, 255, .node [(.rem, 25, .val (.ofNat 2))])])] ⟨0, .e⟩).isTrue = true := by kernel_rfl
theorem RoleFormsRun7 : (funW tyT ftW 100000 100 3 [.sym (.node [(.and, 255, .node [(.rem, 25, .val (.ofNat 7))])])] ⟨0, .e⟩).isTrue = true := by kernel_rfl
theorem RoleFormsRun12 : (funW tyT ftW 100000 100 3 [.sym (.node [(.and, 255, .node [(.rem, 25, .val (.ofNat 12))])])] ⟨0, .e⟩).isTrue = true := by kernel_rfl
theorem RoleFormsRun17 : (funW tyT ftW 100000 100 3 [.sym (.node [(.and, 255, .node [(.rem, 25, .val (.ofNat 17))])])] ⟨0, .e⟩).isTrue = true := by kernel_rfl
theorem RoleFormsRun22 : (funW tyT ftW 100000 100 3 [.sym (.node [(.and, 255, .node [(.rem, 25, .val (.ofNat 22))])])] ⟨0, .e⟩).isTrue = true := by kernel_rfl
end Go.Rx

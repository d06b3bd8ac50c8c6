/- Closed runs of RoleForms: some rows. -/
import Derived.Test.YtjigpppaoejefaaDoorRoleT
set_option linter.unusedVariables false
set_option linter.unusedSimpArgs false
set_option linter.unusedSectionVars false
set_option maxRecDepth 100000
namespace Go.Rx
open Go.Proofs
theorem RoleFormsRun1 : (funW tyT ftW 100000 100 3 [.sym (.node [(.and, 255, .node [(.rem, 25, .val (.ofNat 1))])])] ⟨0, .e⟩).isTrue = true := by kernel_rfl
theorem RoleFormsRun6 : (funW tyT ftW 100000 100 3 [.sym (.node [(.and, 255, .node [(.rem, 25, .val (.ofNat 6))])])] ⟨0, .e⟩).isTrue = true := by kernel_rfl
theorem RoleFormsRun11 : (funW tyT ftW 100000 100 3 [.sym (.node [(.and, 255, .node [(.rem, 25, .val (.ofNat 11))])])] ⟨0, .e⟩).isTrue = true := by kernel_rfl
theorem RoleFormsRun16 : (funW tyT ftW 100000 100 3 [.sym (.node [(.and, 255, .node [(.rem, 25, .val (.ofNat 16))])])] ⟨0, .e⟩).isTrue = true := by kernel_rfl
theorem RoleFormsRun21 : (funW tyT ftW 100000 100 3 [.sym (.node [(.and, 255, .node [(.rem, 25, .val (.ofNat 21))])])] ⟨0, .e⟩).isTrue = true := by kernel_rfl
end Go.Rx

/- Closed runs of JsonDeep: some texts. -/
import Derived.Test.YtcihohnnmhfjoaaGreatDoorJF
set_option linter.unusedVariables false
set_option linter.unusedSimpArgs false
set_option linter.unusedSectionVars false
set_option maxRecDepth 100000
namespace Go.Fbs
theorem pJ_true2 : pRunJ true 2 = true:=by kernel_rfl
theorem pJ_true6 : pRunJ true 6 = true:=by kernel_rfl
theorem pJ_true10 : pRunJ true 10 = true:=by kernel_rfl
theorem pJ_true14 : pRunJ true 14 = true:=by kernel_rfl
theorem pJ_true18 : pRunJ true 18 = true:=by kernel_rfl
theorem pJ_true22 : pRunJ true 22 = true:=by kernel_rfl
theorem pJ_true26 : pRunJ true 26 = true:=by kernel_rfl
theorem pJ_true30 : pRunJ true 30 = true:=by kernel_rfl
end Go.Fbs

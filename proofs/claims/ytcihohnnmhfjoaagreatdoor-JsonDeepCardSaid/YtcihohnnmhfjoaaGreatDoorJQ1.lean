/- Closed runs of JsonDeep: some texts. -/
import Derived.Test.YtcihohnnmhfjoaaGreatDoorJF
set_option linter.unusedVariables false
set_option linter.unusedSimpArgs false
set_option linter.unusedSectionVars false
set_option maxRecDepth 100000
namespace Go.Fbs
theorem pJ_true1 : pRunJ true 1 = true:=by kernel_rfl
theorem pJ_true5 : pRunJ true 5 = true:=by kernel_rfl
theorem pJ_true9 : pRunJ true 9 = true:=by kernel_rfl
theorem pJ_true13 : pRunJ true 13 = true:=by kernel_rfl
theorem pJ_true17 : pRunJ true 17 = true:=by kernel_rfl
theorem pJ_true21 : pRunJ true 21 = true:=by kernel_rfl
theorem pJ_true25 : pRunJ true 25 = true:=by kernel_rfl
theorem pJ_true29 : pRunJ true 29 = true:=by kernel_rfl
end Go.Fbs

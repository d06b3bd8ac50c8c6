/- Closed runs of JsonDeep: some texts. -/
import Derived.Test.YtcihohnnmhfjoaaGreatDoorJF
set_option linter.unusedVariables false
set_option linter.unusedSimpArgs false
set_option linter.unusedSectionVars false
set_option maxRecDepth 100000
namespace Go.Fbs
theorem pJ_true3 : pRunJ true 3 = true:=by kernel_rfl
theorem pJ_true7 : pRunJ true 7 = true:=by kernel_rfl
theorem pJ_true11 : pRunJ true 11 = true:=by kernel_rfl
theorem pJ_true15 : pRunJ true 15 = true:=by kernel_rfl
theorem pJ_true19 : pRunJ true 19 = true:=by kernel_rfl
theorem pJ_true23 : pRunJ true 23 = true:=by kernel_rfl
theorem pJ_true27 : pRunJ true 27 = true:=by kernel_rfl
theorem pJ_true31 : pRunJ true 31 = true:=by kernel_rfl
end Go.Fbs

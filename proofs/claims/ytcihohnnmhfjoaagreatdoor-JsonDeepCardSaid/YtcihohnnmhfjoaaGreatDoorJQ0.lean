/- Closed runs of JsonDeep: some texts. -/
import Derived.Test.YtcihohnnmhfjoaaGreatDoorJF
set_option linter.unusedVariables false
set_option linter.unusedSimpArgs false
set_option linter.unusedSectionVars false
set_option maxRecDepth 100000
namespace Go.Fbs
theorem pJ_false1 : pRunJ false 1 = true:=by kernel_rfl
theorem pJ_false5 : pRunJ false 5 = true:=by kernel_rfl
theorem pJ_false9 : pRunJ false 9 = true:=by kernel_rfl
theorem pJ_false13 : pRunJ false 13 = true:=by kernel_rfl
theorem pJ_false17 : pRunJ false 17 = true:=by kernel_rfl
theorem pJ_false21 : pRunJ false 21 = true:=by kernel_rfl
theorem pJ_false25 : pRunJ false 25 = true:=by kernel_rfl
theorem pJ_false29 : pRunJ false 29 = true:=by kernel_rfl
end Go.Fbs

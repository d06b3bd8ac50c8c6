/- Closed runs of JsonDeep: some texts. -/
import Derived.Test.YtcihohnnmhfjoaaGreatDoorJF
set_option linter.unusedVariables false
set_option linter.unusedSimpArgs false
set_option linter.unusedSectionVars false
set_option maxRecDepth 100000
namespace Go.Fbs
theorem pJ_false2 : pRunJ false 2 = true:=by kernel_rfl
theorem pJ_false6 : pRunJ false 6 = true:=by kernel_rfl
theorem pJ_false10 : pRunJ false 10 = true:=by kernel_rfl
theorem pJ_false14 : pRunJ false 14 = true:=by kernel_rfl
theorem pJ_false18 : pRunJ false 18 = true:=by kernel_rfl
theorem pJ_false22 : pRunJ false 22 = true:=by kernel_rfl
theorem pJ_false26 : pRunJ false 26 = true:=by kernel_rfl
theorem pJ_false30 : pRunJ false 30 = true:=by kernel_rfl
end Go.Fbs

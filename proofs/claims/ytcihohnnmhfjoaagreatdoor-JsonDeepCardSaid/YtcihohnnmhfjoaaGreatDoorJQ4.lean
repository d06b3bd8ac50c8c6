/- Closed runs of JsonDeep: some texts. -/
import Derived.Test.YtcihohnnmhfjoaaGreatDoorJF
set_option linter.unusedVariables false
set_option linter.unusedSimpArgs false
set_option linter.unusedSectionVars false
set_option maxRecDepth 100000
namespace Go.Fbs
theorem pJ_false3 : pRunJ false 3 = true:=by kernel_rfl
theorem pJ_false7 : pRunJ false 7 = true:=by kernel_rfl
theorem pJ_false11 : pRunJ false 11 = true:=by kernel_rfl
theorem pJ_false15 : pRunJ false 15 = true:=by kernel_rfl
theorem pJ_false19 : pRunJ false 19 = true:=by kernel_rfl
theorem pJ_false23 : pRunJ false 23 = true:=by kernel_rfl
theorem pJ_false27 : pRunJ false 27 = true:=by kernel_rfl
theorem pJ_false31 : pRunJ false 31 = true:=by kernel_rfl
end Go.Fbs

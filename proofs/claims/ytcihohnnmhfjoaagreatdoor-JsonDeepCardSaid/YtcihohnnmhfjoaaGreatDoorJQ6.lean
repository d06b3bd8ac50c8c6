/- Closed runs of JsonDeep: some texts. -/
import Derived.Test.YtcihohnnmhfjoaaGreatDoorJF
set_option linter.unusedVariables false
set_option linter.unusedSimpArgs false
set_option linter.unusedSectionVars false
set_option maxRecDepth 100000
namespace Go.Fbs
theorem pJ_false4 : pRunJ false 4 = true:=by kernel_rfl
theorem pJ_false8 : pRunJ false 8 = true:=by kernel_rfl
theorem pJ_false12 : pRunJ false 12 = true:=by kernel_rfl
theorem pJ_false16 : pRunJ false 16 = true:=by kernel_rfl
theorem pJ_false20 : pRunJ false 20 = true:=by kernel_rfl
theorem pJ_false24 : pRunJ false 24 = true:=by kernel_rfl
theorem pJ_false28 : pRunJ false 28 = true:=by kernel_rfl
theorem pJ_false32 : pRunJ false 32 = true:=by kernel_rfl
end Go.Fbs

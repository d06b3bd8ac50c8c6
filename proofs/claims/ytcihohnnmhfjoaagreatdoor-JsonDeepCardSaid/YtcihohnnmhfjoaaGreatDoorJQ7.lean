/- Closed runs of JsonDeep: some texts. -/
import Derived.Test.YtcihohnnmhfjoaaGreatDoorJF
set_option linter.unusedVariables false
set_option linter.unusedSimpArgs false
set_option linter.unusedSectionVars false
set_option maxRecDepth 100000
namespace Go.Fbs
theorem pJ_true4 : pRunJ true 4 = true:=by kernel_rfl
theorem pJ_true8 : pRunJ true 8 = true:=by kernel_rfl
theorem pJ_true12 : pRunJ true 12 = true:=by kernel_rfl
theorem pJ_true16 : pRunJ true 16 = true:=by kernel_rfl
theorem pJ_true20 : pRunJ true 20 = true:=by kernel_rfl
theorem pJ_true24 : pRunJ true 24 = true:=by kernel_rfl
theorem pJ_true28 : pRunJ true 28 = true:=by kernel_rfl
theorem pJ_true32 : pRunJ true 32 = true:=by kernel_rfl
end Go.Fbs

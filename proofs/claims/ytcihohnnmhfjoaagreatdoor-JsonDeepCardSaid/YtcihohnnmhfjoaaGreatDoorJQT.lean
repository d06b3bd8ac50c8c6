/- Closed runs of JsonDeep: values that no text is. -/
import Derived.Test.YtcihohnnmhfjoaaGreatDoorJF
set_option linter.unusedVariables false
set_option linter.unusedSimpArgs false
set_option linter.unusedSectionVars false
set_option maxRecDepth 100000
namespace Go.Fbs
theorem tJ0 : tRunJ 0 = true:=by kernel_rfl
theorem tJ1 : tRunJ 1 = true:=by kernel_rfl
theorem tJ2 : tRunJ 2 = true:=by kernel_rfl
theorem tJ3 : tRunJ 3 = true:=by kernel_rfl
theorem tJ4 : tRunJ 4 = true:=by kernel_rfl
theorem tJ5 : tRunJ 5 = true:=by kernel_rfl
theorem tJ6 : tRunJ 6 = true:=by kernel_rfl
theorem tJ7 : tRunJ 7 = true:=by kernel_rfl
theorem tJ8 : tRunJ 8 = true:=by kernel_rfl
theorem tJ9 : tRunJ 9 = true:=by kernel_rfl
end Go.Fbs

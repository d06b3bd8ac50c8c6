/- ScheForms: the law, and its run. -/
import Derived.Test.YtnmcilaebamncaaKV
import Derived.Test.YtnmcilaebamncaaFoT
import Derived.Test.YtnmcilaebamncaaR3
set_option linter.unusedVariables false
set_option linter.unusedSimpArgs false
set_option linter.unusedSectionVars false
set_option maxRecDepth 100000
namespace Go.Fbs
open Go.Proofs
theorem aCt:iJ Try.prog oI aAu:=by
 obtain ⟨H1,h⟩:=Rx.aXw
 have e:aAu=aP4:=by
  funext args
  cases args <;> rfl
 rw [e]
 exact aWp ⟨Try.f12,Rx.aT Try.f12,Try.func12,by kernel_rfl,by kernel_rfl⟩ h
theorem a6u:iJ Try.prog rY nV:=a4s aCt
end Go.Fbs

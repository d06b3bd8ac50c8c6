/- WellFits: the law, and its run. -/
import Derived.Test.YtnmcilaebamncaaLR
import Derived.Test.YtnmcilaebamncaaFoT
import Derived.Test.YtnmcilaebamncaaR3
set_option maxRecDepth 100000
namespace Go.Fbs
open Go.Proofs
theorem aCw:dD Try.prog nP aBw:=by
 obtain ⟨H1,h⟩:=Rx.b21
 have e:aBw=aQ7:=by
  funext args
  cases args <;> rfl
 rw [e]
 exact aXy ⟨Try.f11,Rx.aT Try.f11,Try.func11,by kernel_rfl,by kernel_rfl⟩ h
theorem a8e:dD Try.prog sX oI:=a6h aCw
end Go.Fbs

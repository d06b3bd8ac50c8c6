/- Common texts: values, words, what they answer; no statement of the seat. -/
import Derived.Calls
import Derived.Tactics
import Derived.Orders
import Derived.RowKit3
import Derived.Deep.MidRow
import Derived.Deep.AppendSrc
import Derived.Laws.StructEq
import Derived.Laws.AppendOwn
import Derived.WalkKit
import Derived.Laws.MakeOwn
import Derived.Laws.BytesString
import Derived.Laws.IdiomStrings
import Derived.Deep.Upon
import Derived.Maps.RangeRun
import Derived.Lib.UnsafeStr
import Derived.OrdersIn
import Derived.LoopNIn
import Derived.OwnWalkIn
import Derived.Test.YthakklikgmcgdaaGreatDoorR0
import Derived.LoopN
import Derived.Lib.Bytealg
import Derived.Room.MakeNoZero
import Derived.Carry
import Derived.ChangeMaps5
import Derived.OpenShut
import Derived.Test.YthakklikgmcgdaaGreatDoorS2
import Derived.Test.YthakklikgmcgdaaGreatDoorS3
set_option linter.unusedSimpArgs false
set_option linter.unusedVariables false
set_option linter.unusedSectionVars false
/- What a closed run yields,as words: its new memory is tX. -/
namespace Go.Fbs
def aQj (κ : Ctx) (n : Nat) (h : Heap) : Ctx:=⟨fun b=>if b < n then κ.hw b else match h[b]? with | some (.cells arr _ _)=>arr.size | _=>0,κ.box,κ.aN⟩
theorem aHw {κ:Ctx} {n:Nat} {h:Heap} {b:Nat} (hb:b < n):(aQj κ n h).hw b=κ.hw b:=if_pos hb
theorem aSn {κ : Ctx} {n : Nat} {h : Heap} {b : Nat} {arr : Array Value} {E : TypeId} {fz : Nat × Nat} (hb : n ≤ b) (hg : h[b]? = some (.cells arr E fz)) : (aQj κ n h).hw b = arr.size:=by
 show (if b < n then κ.hw b else match h[b]? with | some (.cells arr _ _)=>arr.size | _=>0) = _
 rw [if_neg (by omega),hg]
end Go.Fbs

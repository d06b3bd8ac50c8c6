import Derived.Test.YtnmcilaebamncaaHT
import Derived.Test.YtnmcilaebamncaaCS
namespace Go.Fbs
open Go.Proofs
def jK (c:Int):Bool:=(decide (97≤c) && decide (c≤122)) || (decide (48≤c) && decide (c≤57)) || decide (c=95)
def sW (l:List UInt8):Nat:=(l.takeWhile fun c=>jK c.toNat).length
end Go.Fbs

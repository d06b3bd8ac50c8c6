/- Tokens of a schema made of numbers. -/
import Derived.Test.YtnmcilaebamncaaKN
set_option maxRecDepth 100000
namespace Go.Fbs
open Go.Proofs
abbrev KT:=Int × List UInt8
end Go.Fbs

/- Parsing what is made of numbers. -/
import Derived.Test.YtnmcilaebamncaaKP
set_option maxRecDepth 100000
namespace Go.Fbs
open Go.Proofs
end Go.Fbs

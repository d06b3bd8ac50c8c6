/- Schemas read: a type: told. -/
import Derived.Test.YtnmcilaebamncaaKI
set_option maxRecDepth 100000
namespace Go.Fbs
open Go.Proofs
attribute [local irreducible] cN opt aMp uM aO8 aMq a3m aO9
end Go.Fbs

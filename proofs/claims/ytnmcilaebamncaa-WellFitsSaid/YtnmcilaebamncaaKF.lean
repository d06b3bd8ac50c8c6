/- Schemas read: terms, sums: told. -/
import Derived.Test.YtnmcilaebamncaaKE
set_option maxRecDepth 100000
namespace Go.Fbs
open Go.Proofs
end Go.Fbs

import Derived.Test.YtnmcilaebamncaaHS
import Derived.Test.YtnmcilaebamncaaS2
import Derived.Test.YtnmcilaebamncaaKShelf
set_option maxRecDepth 100000
namespace Go.Fbs
open Go.Proofs
end Go.Fbs

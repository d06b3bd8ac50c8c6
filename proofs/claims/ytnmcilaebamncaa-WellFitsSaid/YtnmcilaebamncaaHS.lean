import Derived.Test.YtnmcilaebamncaaHF
namespace Go.Fbs
open Go.Proofs
end Go.Fbs

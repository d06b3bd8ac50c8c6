import Derived.Test.YtpdnpfdbjoaemaaGreatDoorQY
import Derived.Test.YtpdnpfdbjoaemaaGreatDoorS3
import Derived.Shelf.Strings.Builder1
set_option linter.unusedSimpArgs false
set_option linter.unusedVariables false
set_option linter.unusedSectionVars false
set_option maxRecDepth 100000
namespace Go.Fbs
open Go.Proofs Go.RowKit
end Go.Fbs

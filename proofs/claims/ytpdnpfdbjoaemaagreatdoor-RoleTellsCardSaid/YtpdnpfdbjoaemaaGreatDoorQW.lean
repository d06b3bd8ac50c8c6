import Derived.Test.YtpdnpfdbjoaemaaGreatDoorQS
set_option linter.unusedSimpArgs false
set_option linter.unusedVariables false
set_option linter.unusedSectionVars false
set_option maxRecDepth 100000
namespace Go.Fbs
end Go.Fbs

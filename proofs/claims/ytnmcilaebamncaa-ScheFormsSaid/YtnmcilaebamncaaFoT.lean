/- Closed runs: the run that the law ends in. -/
import Derived.Test.YtnmcilaebamncaaFoF
set_option linter.unusedVariables false
set_option linter.unusedSimpArgs false
set_option linter.unusedSectionVars false
set_option maxRecDepth 100000
namespace Go.Rx
open Go.Proofs
theorem bCd:(aJ7 cG ftT 100000 100 12 [] ⟨0,.e⟩).isTrue=true:=by kernel_rfl
theorem aXw:∃ H1,a2u Try.prog 12 [] ⟨0,.e⟩ (.bool true) H1:=@b41 Try.prog cG ftT 100000 100 12 [] kJ mixed bEd bCd
end Go.Rx

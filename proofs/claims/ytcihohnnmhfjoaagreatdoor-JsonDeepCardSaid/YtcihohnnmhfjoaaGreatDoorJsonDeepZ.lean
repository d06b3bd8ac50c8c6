/- JsonDeep: the law, with its runs. -/
import Derived.Test.YtcihohnnmhfjoaaGreatDoorJE
import Derived.Test.YtcihohnnmhfjoaaGreatDoorJU
set_option linter.unusedVariables false
set_option linter.unusedSimpArgs false
set_option linter.unusedSectionVars false
namespace Go.Fbs
open Go.Proofs
theorem ok_entaillaw22_JsonDeep : SpecL Tryz.prog n_entaillaw22_JsonDeep F_entaillaw22_JsonDeep:=okIf_entaillaw22_JsonDeep (fun o _ h=>pJ_all o h) tJ_all
end Go.Fbs

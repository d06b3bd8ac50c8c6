/- Closed runs: the run that the laws end in. -/
import Derived.Test.YtcihohnnmhfjoaaGreatDoorJsonF
set_option linter.unusedVariables false
set_option linter.unusedSimpArgs false
set_option linter.unusedSectionVars false
set_option maxRecDepth 100000
namespace Go.Rx
open Go.Proofs
theorem awake : (funX tyT ftT 100000 100 8 [] ⟨0,.e⟩).isTrue = true:=by kernel_rfl
theorem awakeCall : ∃ H1,CallR Tryz.prog 8 [] ⟨0,.e⟩ (.bool true) H1:=@run_okX Tryz.prog tyT ftT 100000 100 8 [] tyOk mixed ftOk awake
end Go.Rx

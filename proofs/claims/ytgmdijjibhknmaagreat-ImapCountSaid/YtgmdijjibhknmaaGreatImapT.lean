/- Closed runs: awake answers true, in whatever memory; what lay there before stays. -/
import Derived.Test.YtgmdijjibhknmaaGreatImapF
set_option linter.unusedVariables false
set_option linter.unusedSimpArgs false
set_option linter.unusedSectionVars false
set_option maxRecDepth 100000
namespace Go.Rx
open Go.Proofs
theorem awake : (funW tyT ftT 100000 100 6 [] ⟨0, .e⟩).isTrue = true := by kernel_rfl
theorem awake_calls (w : World) : Calls Tryz.prog 6 #[] w (Stood w) := by
  obtain ⟨H1, h⟩ := @run_okW Tryz.prog tyT 100000 ftT 100 6 [] tyOk mixed ftOk awake
  exact calls_stood Tryz.func6 (c := bodyOf Tryz.f6) (by kernel_rfl) (by kernel_rfl) h w Reps.nil
end Go.Rx

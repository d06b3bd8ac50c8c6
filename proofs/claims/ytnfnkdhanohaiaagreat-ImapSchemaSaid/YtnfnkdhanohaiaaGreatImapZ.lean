/- ImapSchema: the run. -/
import Derived.Test.YtnfnkdhanohaiaaGreatImapT
set_option linter.unusedVariables false
set_option linter.unusedSimpArgs false
set_option linter.unusedSectionVars false
set_option maxRecDepth 100000
namespace Go.Rx
open Go.Proofs
theorem imapRun : (funW tyT ftW 100000 100 3 [] ⟨0, .e⟩).isTrue = true := by kernel_rfl
theorem ImapSchemaCall (Γ : Gm) : ∃ (vals : List RV) (H1 : HT), Reps Γ vals [] ∧ CallR Tryz.prog 3 vals ⟨0, .e⟩ (.bool true) H1 := by
  obtain ⟨H1, h⟩ := @run_okW Tryz.prog tyT 100000 ftW 100 3 [] tyOk mixed ftWOk imapRun
  exact ⟨[], H1, Reps.nil, h⟩
end Go.Rx

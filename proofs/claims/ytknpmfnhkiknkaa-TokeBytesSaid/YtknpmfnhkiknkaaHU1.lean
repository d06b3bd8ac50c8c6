import Derived.Test.YtknpmfnhkiknkaaHF
set_option linter.unusedVariables false
set_option linter.unusedSimpArgs false
set_option linter.unusedSectionVars false
namespace Go.Fbs
open Go.Proofs
/-! entail/entailref1.Find -/
def q_entailref1_Find : List (OK × Vars) := [(.loop 2, [(.s 7, .val none)])]
theorem e_entailref1_Find (p : PT) (Q : V → Prop) (a0 a1 a2 : V) : FunWp tyT p 21 q_entailref1_Find [.tmp 6] (cB Try.f5) [a0, a1, a2] Q = (loopP (fun r0 w0 => w0.length = 1 ∧ (opt (lenS a0) fun y4 => opt (binK .lss (gv w0 0) y4) fun y5 => iteB y5 (opt (indexS a0 (gv w0 0)) fun y6 => opt (binK .eql y6 a1) fun y7 => iteB y7 (Q (gv w0 0)) (opt (binK .add (gv w0 0) (.int .i64 1)) fun y8 => r0 [y8])) (Q (.int .i64 (-1))))) [a2]) := by kernel_rfl
theorem go_entailref1_Find {T : List (FuncId × Spec)} (h : TabOk Try.prog tyT T) {F : Spec} (hF : ∀ args v, F args = some v → args.length = 3 ∧ canos args = true ∧ v.cano = true ∧ FunWp tyT (tab T) 21 q_entailref1_Find [.tmp 6] (cB Try.f5) args (fun r => r = v)) : SpecL Try.prog n_entailref1_Find F :=
  specL_of tyOk mixed Try.func5 (by kernel_rfl) (by kernel_rfl) Try.ntmps5 (by rw [Try.results5]) 3 rfl q_entailref1_Find h hF

end Go.Fbs

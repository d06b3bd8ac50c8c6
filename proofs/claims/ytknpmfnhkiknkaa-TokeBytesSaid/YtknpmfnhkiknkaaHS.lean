import Derived.Test.YtknpmfnhkiknkaaHF
set_option linter.unusedVariables false
set_option linter.unusedSimpArgs false
set_option linter.unusedSectionVars false
namespace Go.Fbs
open Go.Proofs
/-! strings.HasPrefix -/
def q_strings_HasPrefix : List (OK × Vars) := []
theorem e_strings_HasPrefix (p : PT) (Q : V → Prop) (a0 a1 : V) : FunWp tyT p 8 q_strings_HasPrefix [.tmp 4] (cB Try.f9) [a0, a1] Q = (opt (p n_internal_stringslite_HasPrefix [a0, a1]) fun y2 => Q y2) := by kernel_rfl
theorem go_strings_HasPrefix {T : List (FuncId × Spec)} (h : TabOk Try.prog tyT T) {F : Spec} (hF : ∀ args v, F args = some v → args.length = 2 ∧ canos args = true ∧ v.cano = true ∧ FunWp tyT (tab T) 8 q_strings_HasPrefix [.tmp 4] (cB Try.f9) args (fun r => r = v)) : SpecL Try.prog n_strings_HasPrefix F :=
  specL_of tyOk mixed Try.func9 (by kernel_rfl) (by kernel_rfl) Try.ntmps9 (by rw [Try.results9]) 2 rfl q_strings_HasPrefix h hF

/-! strings.Index -/
def q_strings_Index : List (OK × Vars) := []
theorem e_strings_Index (p : PT) (Q : V → Prop) (a0 a1 : V) : FunWp tyT p 8 q_strings_Index [.tmp 4] (cB Try.f10) [a0, a1] Q = (opt (p n_internal_stringslite_Index [a0, a1]) fun y2 => Q y2) := by kernel_rfl
theorem go_strings_Index {T : List (FuncId × Spec)} (h : TabOk Try.prog tyT T) {F : Spec} (hF : ∀ args v, F args = some v → args.length = 2 ∧ canos args = true ∧ v.cano = true ∧ FunWp tyT (tab T) 8 q_strings_Index [.tmp 4] (cB Try.f10) args (fun r => r = v)) : SpecL Try.prog n_strings_Index F :=
  specL_of tyOk mixed Try.func10 (by kernel_rfl) (by kernel_rfl) Try.ntmps10 (by rw [Try.results10]) 2 rfl q_strings_Index h hF

/-! strings.Contains -/
def q_strings_Contains : List (OK × Vars) := []
theorem e_strings_Contains (p : PT) (Q : V → Prop) (a0 a1 : V) : FunWp tyT p 9 q_strings_Contains [.tmp 4] (cB Try.f11) [a0, a1] Q = (opt (p n_strings_Index [a0, a1]) fun y2 => opt (binK .geq y2 (.int .i64 0)) fun y3 => Q y3) := by kernel_rfl
theorem go_strings_Contains {T : List (FuncId × Spec)} (h : TabOk Try.prog tyT T) {F : Spec} (hF : ∀ args v, F args = some v → args.length = 2 ∧ canos args = true ∧ v.cano = true ∧ FunWp tyT (tab T) 9 q_strings_Contains [.tmp 4] (cB Try.f11) args (fun r => r = v)) : SpecL Try.prog n_strings_Contains F :=
  specL_of tyOk mixed Try.func11 (by kernel_rfl) (by kernel_rfl) Try.ntmps11 (by rw [Try.results11]) 2 rfl q_strings_Contains h hF

/-! internal/stringslite.HasPrefix -/
def q_internal_stringslite_HasPrefix : List (OK × Vars) := []
theorem e_internal_stringslite_HasPrefix (p : PT) (Q : V → Prop) (a0 a1 : V) : FunWp tyT p 18 q_internal_stringslite_HasPrefix [.tmp 4] (cB Try.f13) [a0, a1] Q = (opt (lenS a0) fun y2 => opt (lenS a1) fun y3 => opt (binK .geq y2 y3) fun y4 => opt (lenS a1) fun y5 => opt (guardV y4 true (sliceS a0 none (some y5))) fun y6 => opt (guardV y4 true (binK .eql y6 a1)) fun y7 => opt (pickV y4 y7 (.bool false)) fun y8 => Q y8) := by kernel_rfl
theorem go_internal_stringslite_HasPrefix {T : List (FuncId × Spec)} (h : TabOk Try.prog tyT T) {F : Spec} (hF : ∀ args v, F args = some v → args.length = 2 ∧ canos args = true ∧ v.cano = true ∧ FunWp tyT (tab T) 18 q_internal_stringslite_HasPrefix [.tmp 4] (cB Try.f13) args (fun r => r = v)) : SpecL Try.prog n_internal_stringslite_HasPrefix F :=
  specL_of tyOk mixed Try.func13 (by kernel_rfl) (by kernel_rfl) Try.ntmps13 (by rw [Try.results13]) 2 rfl q_internal_stringslite_HasPrefix h hF

end Go.Fbs

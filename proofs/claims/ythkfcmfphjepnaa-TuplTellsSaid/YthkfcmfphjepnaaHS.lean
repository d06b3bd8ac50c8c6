import Derived.Test.YthkfcmfphjepnaaHF
set_option linter.unusedVariables false
set_option linter.unusedSimpArgs false
set_option linter.unusedSectionVars false
namespace Go.Fbs
open Go.Proofs
/-! strings.Cut -/
def q_strings_Cut : List (OK × Vars) := []
theorem e_strings_Cut (p : PT) (Q : V → Prop) (a0 a1 : V) : FunWp tyT p 13 q_strings_Cut [.tmp 4, .tmp 5, .tmp 6] (cB Try.f48) [a0, a1] Q = (opt (p n_internal_stringslite_Cut [a0, a1]) fun y2 => opt (extractV y2 0) fun y3 => opt (extractV y2 1) fun y4 => opt (extractV y2 2) fun y5 => Q (.tup [y3, y4, y5])) := by kernel_rfl
theorem go_strings_Cut {T : List (FuncId × Spec)} (h : TabOk Try.prog T) {F : Spec} (hF : ∀ args v, F args = some v → args.length = 2 ∧ canos args = true ∧ v.cano = true ∧ FunWp tyT (tab T) 13 q_strings_Cut [.tmp 4, .tmp 5, .tmp 6] (cB Try.f48) args (fun r => r = v)) : SpecL Try.prog n_strings_Cut F :=
  specL_of tyOk mixed Try.func48 (by kernel_rfl) (by kernel_rfl) Try.ntmps48 (by rw [Try.results48]) 2 rfl q_strings_Cut h hF

/-! strings.HasPrefix -/
def q_strings_HasPrefix : List (OK × Vars) := []
theorem e_strings_HasPrefix (p : PT) (Q : V → Prop) (a0 a1 : V) : FunWp tyT p 8 q_strings_HasPrefix [.tmp 4] (cB Try.f55) [a0, a1] Q = (opt (p n_internal_stringslite_HasPrefix [a0, a1]) fun y2 => Q y2) := by kernel_rfl
theorem go_strings_HasPrefix {T : List (FuncId × Spec)} (h : TabOk Try.prog T) {F : Spec} (hF : ∀ args v, F args = some v → args.length = 2 ∧ canos args = true ∧ v.cano = true ∧ FunWp tyT (tab T) 8 q_strings_HasPrefix [.tmp 4] (cB Try.f55) args (fun r => r = v)) : SpecL Try.prog n_strings_HasPrefix F :=
  specL_of tyOk mixed Try.func55 (by kernel_rfl) (by kernel_rfl) Try.ntmps55 (by rw [Try.results55]) 2 rfl q_strings_HasPrefix h hF

/-! strings.Index -/
def q_strings_Index : List (OK × Vars) := []
theorem e_strings_Index (p : PT) (Q : V → Prop) (a0 a1 : V) : FunWp tyT p 8 q_strings_Index [.tmp 4] (cB Try.f56) [a0, a1] Q = (opt (p n_internal_stringslite_Index [a0, a1]) fun y2 => Q y2) := by kernel_rfl
theorem go_strings_Index {T : List (FuncId × Spec)} (h : TabOk Try.prog T) {F : Spec} (hF : ∀ args v, F args = some v → args.length = 2 ∧ canos args = true ∧ v.cano = true ∧ FunWp tyT (tab T) 8 q_strings_Index [.tmp 4] (cB Try.f56) args (fun r => r = v)) : SpecL Try.prog n_strings_Index F :=
  specL_of tyOk mixed Try.func56 (by kernel_rfl) (by kernel_rfl) Try.ntmps56 (by rw [Try.results56]) 2 rfl q_strings_Index h hF

/-! strings.Contains -/
def q_strings_Contains : List (OK × Vars) := []
theorem e_strings_Contains (p : PT) (Q : V → Prop) (a0 a1 : V) : FunWp tyT p 9 q_strings_Contains [.tmp 4] (cB Try.f57) [a0, a1] Q = (opt (p n_strings_Index [a0, a1]) fun y2 => opt (binK .geq y2 (.int .i64 0)) fun y3 => Q y3) := by kernel_rfl
theorem go_strings_Contains {T : List (FuncId × Spec)} (h : TabOk Try.prog T) {F : Spec} (hF : ∀ args v, F args = some v → args.length = 2 ∧ canos args = true ∧ v.cano = true ∧ FunWp tyT (tab T) 9 q_strings_Contains [.tmp 4] (cB Try.f57) args (fun r => r = v)) : SpecL Try.prog n_strings_Contains F :=
  specL_of tyOk mixed Try.func57 (by kernel_rfl) (by kernel_rfl) Try.ntmps57 (by rw [Try.results57]) 2 rfl q_strings_Contains h hF

/-! internal/stringslite.Cut -/
def q_internal_stringslite_Cut : List (OK × Vars) := []
theorem e_internal_stringslite_Cut (p : PT) (Q : V → Prop) (a0 a1 : V) : FunWp tyT p 23 q_internal_stringslite_Cut [.tmp 4, .tmp 5, .tmp 6] (cB Try.f59) [a0, a1] Q = (opt (p n_internal_stringslite_Index [a0, a1]) fun y2 => opt (binK .geq y2 (.int .i64 0)) fun y3 => iteB y3 (opt (sliceS a0 none (some y2)) fun y4 => opt (lenS a1) fun y5 => opt (binK .add y2 y5) fun y6 => opt (sliceS a0 (some y6) none) fun y7 => Q (.tup [y4, y7, (.bool true)])) (Q (.tup [a0, (.str []), (.bool false)]))) := by kernel_rfl
theorem go_internal_stringslite_Cut {T : List (FuncId × Spec)} (h : TabOk Try.prog T) {F : Spec} (hF : ∀ args v, F args = some v → args.length = 2 ∧ canos args = true ∧ v.cano = true ∧ FunWp tyT (tab T) 23 q_internal_stringslite_Cut [.tmp 4, .tmp 5, .tmp 6] (cB Try.f59) args (fun r => r = v)) : SpecL Try.prog n_internal_stringslite_Cut F :=
  specL_of tyOk mixed Try.func59 (by kernel_rfl) (by kernel_rfl) Try.ntmps59 (by rw [Try.results59]) 2 rfl q_internal_stringslite_Cut h hF

/-! cmp.Or[int] -/
def q_cmp_Or_int : List (OK × Vars) := [(.loop 3, [(.s 8, .val (some 0))])]
theorem e_cmp_Or_int (p : PT) (Q : V → Prop) (a0 : V) : FunWp tyT p 18 q_cmp_Or_int [.tmp 2] (cB Try.f60) [a0] Q = (opt (lenL a0) fun y1 => loopP (fun r0 w0 => w0.length = 1 ∧ (opt (binK .lss (gv w0 0) y1) fun y3 => iteB y3 (opt (idxLK false 1 a0 (gv w0 0)) fun y4 => opt (binK .neq y4 (.int .i64 0)) fun y5 => iteB y5 (Q y4) (opt (binK .add (gv w0 0) (.int .i64 1)) fun y6 => r0 [y6])) (Q (.int .i64 0)))) [(.int .i64 0)]) := by kernel_rfl
theorem go_cmp_Or_int {T : List (FuncId × Spec)} (h : TabOk Try.prog T) {F : Spec} (hF : ∀ args v, F args = some v → args.length = 1 ∧ canos args = true ∧ v.cano = true ∧ FunWp tyT (tab T) 18 q_cmp_Or_int [.tmp 2] (cB Try.f60) args (fun r => r = v)) : SpecL Try.prog n_cmp_Or_int F :=
  specL_of tyOk mixed Try.func60 (by kernel_rfl) (by kernel_rfl) Try.ntmps60 (by rw [Try.results60]) 1 rfl q_cmp_Or_int h hF

/-! strings.Compare -/
def q_strings_Compare : List (OK × Vars) := []
theorem e_strings_Compare (p : PT) (Q : V → Prop) (a0 a1 : V) : FunWp tyT p 8 q_strings_Compare [.tmp 4] (cB Try.f61) [a0, a1] Q = (opt (p n_internal_bytealg_CompareString [a0, a1]) fun y2 => Q y2) := by kernel_rfl
theorem go_strings_Compare {T : List (FuncId × Spec)} (h : TabOk Try.prog T) {F : Spec} (hF : ∀ args v, F args = some v → args.length = 2 ∧ canos args = true ∧ v.cano = true ∧ FunWp tyT (tab T) 8 q_strings_Compare [.tmp 4] (cB Try.f61) args (fun r => r = v)) : SpecL Try.prog n_strings_Compare F :=
  specL_of tyOk mixed Try.func61 (by kernel_rfl) (by kernel_rfl) Try.ntmps61 (by rw [Try.results61]) 2 rfl q_strings_Compare h hF

/-! internal/stringslite.HasPrefix -/
def q_internal_stringslite_HasPrefix : List (OK × Vars) := []
theorem e_internal_stringslite_HasPrefix (p : PT) (Q : V → Prop) (a0 a1 : V) : FunWp tyT p 18 q_internal_stringslite_HasPrefix [.tmp 4] (cB Try.f65) [a0, a1] Q = (opt (lenS a0) fun y2 => opt (lenS a1) fun y3 => opt (binK .geq y2 y3) fun y4 => opt (lenS a1) fun y5 => opt (guardV y4 true (sliceS a0 none (some y5))) fun y6 => opt (guardV y4 true (binK .eql y6 a1)) fun y7 => opt (pickV y4 y7 (.bool false)) fun y8 => Q y8) := by kernel_rfl
theorem go_internal_stringslite_HasPrefix {T : List (FuncId × Spec)} (h : TabOk Try.prog T) {F : Spec} (hF : ∀ args v, F args = some v → args.length = 2 ∧ canos args = true ∧ v.cano = true ∧ FunWp tyT (tab T) 18 q_internal_stringslite_HasPrefix [.tmp 4] (cB Try.f65) args (fun r => r = v)) : SpecL Try.prog n_internal_stringslite_HasPrefix F :=
  specL_of tyOk mixed Try.func65 (by kernel_rfl) (by kernel_rfl) Try.ntmps65 (by rw [Try.results65]) 2 rfl q_internal_stringslite_HasPrefix h hF

end Go.Fbs

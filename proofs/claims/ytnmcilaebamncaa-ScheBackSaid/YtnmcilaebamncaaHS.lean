import Derived.Test.YtnmcilaebamncaaHF
namespace Go.Fbs
open Go.Proofs
def q_strings_HasPrefix : List (OK × Vars):=[]
theorem e_strings_HasPrefix (p : PT) (Q : V → Prop) (a0 a1 : V) : FunWp tyT p 8 q_strings_HasPrefix [.tmp 4] (cB Try.f81) [a0,a1] Q = (opt (p n_internal_stringslite_HasPrefix [a0,a1]) fun y2=>Q y2):=by kernel_rfl
theorem go_strings_HasPrefix {T : List (FuncId × Spec)} (h : TabOk Try.prog tyT T) {F : Spec} (hF : ∀ args v,F args = some v → args.length = 2 ∧ canos args = true ∧ v.cano = true ∧ FunWp tyT (tab T) 8 q_strings_HasPrefix [.tmp 4] (cB Try.f81) args (fun r=>r = v)) : SpecL Try.prog n_strings_HasPrefix F :=
 specL_of tyOk mixed Try.func81 (by kernel_rfl) (by kernel_rfl) Try.ntmps81 (by rw [Try.results81]) 2 rfl q_strings_HasPrefix h hF
def q_strings_Index : List (OK × Vars):=[]
theorem e_strings_Index (p : PT) (Q : V → Prop) (a0 a1 : V) : FunWp tyT p 8 q_strings_Index [.tmp 4] (cB Try.f82) [a0,a1] Q = (opt (p n_internal_stringslite_Index [a0,a1]) fun y2=>Q y2):=by kernel_rfl
theorem go_strings_Index {T : List (FuncId × Spec)} (h : TabOk Try.prog tyT T) {F : Spec} (hF : ∀ args v,F args = some v → args.length = 2 ∧ canos args = true ∧ v.cano = true ∧ FunWp tyT (tab T) 8 q_strings_Index [.tmp 4] (cB Try.f82) args (fun r=>r = v)) : SpecL Try.prog n_strings_Index F :=
 specL_of tyOk mixed Try.func82 (by kernel_rfl) (by kernel_rfl) Try.ntmps82 (by rw [Try.results82]) 2 rfl q_strings_Index h hF
def q_strings_Contains : List (OK × Vars):=[]
theorem e_strings_Contains (p : PT) (Q : V → Prop) (a0 a1 : V) : FunWp tyT p 9 q_strings_Contains [.tmp 4] (cB Try.f83) [a0,a1] Q = (opt (p n_strings_Index [a0,a1]) fun y2=>opt (binK .geq y2 (.int .i64 0)) fun y3=>Q y3):=by kernel_rfl
theorem go_strings_Contains {T : List (FuncId × Spec)} (h : TabOk Try.prog tyT T) {F : Spec} (hF : ∀ args v,F args = some v → args.length = 2 ∧ canos args = true ∧ v.cano = true ∧ FunWp tyT (tab T) 9 q_strings_Contains [.tmp 4] (cB Try.f83) args (fun r=>r = v)) : SpecL Try.prog n_strings_Contains F :=
 specL_of tyOk mixed Try.func83 (by kernel_rfl) (by kernel_rfl) Try.ntmps83 (by rw [Try.results83]) 2 rfl q_strings_Contains h hF
def q_internal_stringslite_HasPrefix : List (OK × Vars):=[]
theorem e_internal_stringslite_HasPrefix (p : PT) (Q : V → Prop) (a0 a1 : V) : FunWp tyT p 18 q_internal_stringslite_HasPrefix [.tmp 4] (cB Try.f98) [a0,a1] Q = (opt (lenS a0) fun y2=>opt (lenS a1) fun y3=>opt (binK .geq y2 y3) fun y4=>opt (lenS a1) fun y5=>opt (guardV y4 true (sliceS a0 none (some y5))) fun y6=>opt (guardV y4 true (binK .eql y6 a1)) fun y7=>opt (pickV y4 y7 (.bool false)) fun y8=>Q y8):=by kernel_rfl
theorem go_internal_stringslite_HasPrefix {T : List (FuncId × Spec)} (h : TabOk Try.prog tyT T) {F : Spec} (hF : ∀ args v,F args = some v → args.length = 2 ∧ canos args = true ∧ v.cano = true ∧ FunWp tyT (tab T) 18 q_internal_stringslite_HasPrefix [.tmp 4] (cB Try.f98) args (fun r=>r = v)) : SpecL Try.prog n_internal_stringslite_HasPrefix F :=
 specL_of tyOk mixed Try.func98 (by kernel_rfl) (by kernel_rfl) Try.ntmps98 (by rw [Try.results98]) 2 rfl q_internal_stringslite_HasPrefix h hF
end Go.Fbs

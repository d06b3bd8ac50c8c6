import Derived.Test.YtpnflpbamlbpeaaGreatDoorVT
set_option linter.unusedSimpArgs false
set_option linter.unusedVariables false
set_option linter.unusedSectionVars false
namespace Go.Fbs
open Go.Proofs
def q_slices_EqualFunc_api_File_api_File_api_File_api_File : List (OK × Vars):=[(.loop 4,[(.s 17,.val (some 0))])]
theorem go_slices_EqualFunc_api_File_api_File_api_File_api_File {T : List (FuncId × Spec)} (h : TabOk Tryz.prog tyT T) {F : Spec} (hF : ∀ args v,F args = some v → args.length = 3 ∧ canos args = true ∧ v.cano = true ∧ FunWp tyT (tab T) 32 q_slices_EqualFunc_api_File_api_File_api_File_api_File [.tmp 6] (cB Tryz.f84) args (fun r=>r = v)) : SpecL Tryz.prog n_slices_EqualFunc_api_File_api_File_api_File_api_File F :=
 specL_of tyOk mixed Tryz.func84 (by kernel_rfl) (by kernel_rfl) Tryz.ntmps84 (by rw [Tryz.results84]) 3 rfl q_slices_EqualFunc_api_File_api_File_api_File_api_File h hF
def q_acls_same : List (OK × Vars):=[]
theorem go_acls_same {T : List (FuncId × Spec)} (h : TabOk Tryz.prog tyT T) {F : Spec} (hF : ∀ args v,F args = some v → args.length = 2 ∧ canos args = true ∧ v.cano = true ∧ FunWp tyT (tab T) 45 q_acls_same [.tmp 4] (cB Tryz.f85) args (fun r=>r = v)) : SpecL Tryz.prog n_acls_same F :=
 specL_of tyOk mixed Tryz.func85 (by kernel_rfl) (by kernel_rfl) Tryz.ntmps85 (by rw [Tryz.results85]) 2 rfl q_acls_same h hF
def q_slices_Equal_string_string : List (OK × Vars):=[(.loop 4,[(.s 13,.val (some 0))])]
theorem go_slices_Equal_string_string {T : List (FuncId × Spec)} (h : TabOk Tryz.prog tyT T) {F : Spec} (hF : ∀ args v,F args = some v → args.length = 2 ∧ canos args = true ∧ v.cano = true ∧ FunWp tyT (tab T) 26 q_slices_Equal_string_string [.tmp 4] (cB Tryz.f95) args (fun r=>r = v)) : SpecL Tryz.prog n_slices_Equal_string_string F :=
 specL_of tyOk mixed Tryz.func95 (by kernel_rfl) (by kernel_rfl) Tryz.ntmps95 (by rw [Tryz.results95]) 2 rfl q_slices_Equal_string_string h hF
def q_slices_Equal_api_Entry_api_Entry : List (OK × Vars):=[(.loop 4,[(.s 13,.val (some 0))])]
theorem go_slices_Equal_api_Entry_api_Entry {T : List (FuncId × Spec)} (h : TabOk Tryz.prog tyT T) {F : Spec} (hF : ∀ args v,F args = some v → args.length = 2 ∧ canos args = true ∧ v.cano = true ∧ FunWp tyT (tab T) 26 q_slices_Equal_api_Entry_api_Entry [.tmp 4] (cB Tryz.f107) args (fun r=>r = v)) : SpecL Tryz.prog n_slices_Equal_api_Entry_api_Entry F :=
 specL_of tyOk mixed Tryz.func107 (by kernel_rfl) (by kernel_rfl) Tryz.ntmps107 (by rw [Tryz.results107]) 2 rfl q_slices_Equal_api_Entry_api_Entry h hF
end Go.Fbs

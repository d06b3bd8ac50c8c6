import Derived.Test.YtknpmfnhkiknkaaK5
import Derived.Test.YtknpmfnhkiknkaaRows
set_option linter.unusedVariables false
set_option linter.unusedSimpArgs false
set_option linter.unusedSectionVars false
namespace Go.Fbs
open Go.Proofs
theorem mixed : Try.prog.follows .mixedOrders = true := by kernel_rfl
theorem ty_3 : TOk Try.prog ⟨3, (.int .i64), 1, false, 8, some [(.int .i64 0)], true⟩ := TOk.ofS Try.underlying3 (by kernel_rfl) (by kernel_rfl) (by kernel_rfl) (by kernel_rfl) rfl (fun _ => ⟨by kernel_rfl, by kernel_rfl⟩)
theorem ty_4 : TOk Try.prog ⟨4, .bool, 1, false, 1, some [(.bool false)], true⟩ := TOk.ofS Try.underlying4 (by kernel_rfl) (by kernel_rfl) (by kernel_rfl) (by kernel_rfl) rfl (fun _ => ⟨by kernel_rfl, by kernel_rfl⟩)
theorem ty_5 : TOk Try.prog ⟨5, (.int .u8), 1, false, 1, some [(.int .u8 0)], true⟩ := TOk.ofS Try.underlying5 (by kernel_rfl) (by kernel_rfl) (by kernel_rfl) (by kernel_rfl) rfl (fun _ => ⟨by kernel_rfl, by kernel_rfl⟩)
theorem ty_9 : TOk Try.prog ⟨9, .str, 1, false, 16, some [(.str [])], true⟩ := TOk.ofS Try.underlying9 (by kernel_rfl) (by kernel_rfl) (by kernel_rfl) (by kernel_rfl) rfl (fun _ => ⟨by kernel_rfl, by kernel_rfl⟩)
theorem ty_22 : TOk Try.prog ⟨22, (.sl 32), 1, false, 24, some [(.sl .full [])], false⟩ := TOk.ofS Try.underlying22 (by kernel_rfl) (by kernel_rfl) (by kernel_rfl) (by kernel_rfl) rfl noEq
theorem ty_23 : TOk Try.prog ⟨23, (.int .i64), 1, false, 8, some [(.int .i64 0)], true⟩ := TOk.ofS Try.underlying23 (by kernel_rfl) (by kernel_rfl) (by kernel_rfl) (by kernel_rfl) rfl (fun _ => ⟨by kernel_rfl, by kernel_rfl⟩)
theorem ty_26 : TOk Try.prog ⟨26, (.sl 5), 1, false, 24, some [(.sl .full [])], false⟩ := TOk.ofS Try.underlying26 (by kernel_rfl) (by kernel_rfl) (by kernel_rfl) (by kernel_rfl) rfl noEq
theorem ty_32 : TOk Try.prog ⟨32, (.st [(0, 3), (1, 3), (2, 9)]), 3, true, 32, some [(.int .i64 0), (.int .i64 0), (.str [])], true⟩ := TOk.ofA ⟨_, Try.underlying32, by kernel_rfl, by kernel_rfl⟩ (by kernel_rfl) (by kernel_rfl) (by kernel_rfl) (by kernel_rfl) (fun _ => ⟨by kernel_rfl, by kernel_rfl⟩)
abbrev n_main_main : FuncId := 0
abbrev n_gosem_cut : FuncId := 1
abbrev n_gosem_cut_init : FuncId := 2
abbrev n_entaillaw6_TokeBytes : FuncId := 3
abbrev n_toke_Tokens : FuncId := 4
abbrev n_entailref1_Find : FuncId := 5
abbrev n_entaillaw6_awake : FuncId := 6
abbrev n_toke_skip : FuncId := 7
abbrev n_toke_next : FuncId := 8
abbrev n_strings_HasPrefix : FuncId := 9
abbrev n_strings_Index : FuncId := 10
abbrev n_strings_Contains : FuncId := 11
abbrev n_toke_row : FuncId := 12
abbrev n_internal_stringslite_HasPrefix : FuncId := 13
abbrev n_internal_stringslite_Index : FuncId := 14
abbrev n_toke_letter : FuncId := 15
abbrev n_internal_stringslite_IndexByte : FuncId := 16
abbrev n_internal_bytealg_IndexString : FuncId := 17
abbrev n_internal_bytealg_Cutover : FuncId := 18
abbrev n_internal_bytealg_IndexRabinKarp_string : FuncId := 19
abbrev n_internal_bytealg_IndexByteString : FuncId := 20
abbrev n_internal_bytealg_hashStr_string : FuncId := 21
abbrev n_runtime_boundsError_Error : FuncId := 22
abbrev n_runtime_boundsError_RuntimeError : FuncId := 23
abbrev n_runtime_errorString_Error : FuncId := 24
abbrev n_runtime_errorString_RuntimeError : FuncId := 25
abbrev n_runtime_plainError_Error : FuncId := 26
abbrev n_runtime_plainError_RuntimeError : FuncId := 27
abbrev n_runtime_errorAddressString_Error : FuncId := 28
abbrev n_runtime_errorAddressString_RuntimeError : FuncId := 29
abbrev n_runtime_TypeAssertionError_Error : FuncId := 30
abbrev n_runtime_TypeAssertionError_RuntimeError : FuncId := 31
abbrev n_runtime_PanicNilError_Error : FuncId := 32
abbrev n_runtime_PanicNilError_RuntimeError : FuncId := 33
abbrev n_internal_abi_Type_Align : FuncId := 34
abbrev n_internal_runtime_maps_unhashableTypeError_Error : FuncId := 35
abbrev n_internal_runtime_maps_unhashableTypeError_RuntimeError : FuncId := 36
abbrev n_api_Errno_Error : FuncId := 37
abbrev n_internal_abi_Kind_String : FuncId := 38
def tyT : TT := ⟨[⟨3, (.int .i64), 1, false, 8, some [(.int .i64 0)], true⟩,
  ⟨4, .bool, 1, false, 1, some [(.bool false)], true⟩,
  ⟨5, (.int .u8), 1, false, 1, some [(.int .u8 0)], true⟩,
  ⟨9, .str, 1, false, 16, some [(.str [])], true⟩,
  ⟨22, (.sl 32), 1, false, 24, some [(.sl .full [])], false⟩,
  ⟨23, (.int .i64), 1, false, 8, some [(.int .i64 0)], true⟩,
  ⟨26, (.sl 5), 1, false, 24, some [(.sl .full [])], false⟩,
  ⟨32, (.st [(0, 3), (1, 3), (2, 9)]), 3, true, 32, some [(.int .i64 0), (.int .i64 0), (.str [])], true⟩], []⟩
theorem tyOk : ∀ t ti, tiOf tyT t = some ti → TOk Try.prog ti ∧ ti.t = t := TOk.tab (TOk.cons ty_3 (TOk.cons ty_4 (TOk.cons ty_5 (TOk.cons ty_9 (TOk.cons ty_22 (TOk.cons ty_23 (TOk.cons ty_26 (TOk.cons ty_32 (TOk.nil)))))))))
end Go.Fbs

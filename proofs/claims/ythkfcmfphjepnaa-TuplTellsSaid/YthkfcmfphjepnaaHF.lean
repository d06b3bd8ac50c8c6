import Derived.Test.YthkfcmfphjepnaaK4
import Derived.Test.YthkfcmfphjepnaaRows
set_option linter.unusedVariables false
set_option linter.unusedSimpArgs false
set_option linter.unusedSectionVars false
namespace Go.Fbs
open Go.Proofs
theorem mixed : Try.prog.follows .mixedOrders = true := by kernel_rfl
theorem ty_2 : TOk Try.prog ⟨2, (.int .i64), 1, false, 8, some [(.int .i64 0)], true⟩ := TOk.ofS Try.underlying2 (by kernel_rfl) (by kernel_rfl) (by kernel_rfl) (by kernel_rfl) rfl (fun _ => ⟨by kernel_rfl, by kernel_rfl⟩)
theorem ty_3 : TOk Try.prog ⟨3, (.int .i64), 1, false, 8, some [(.int .i64 0)], true⟩ := TOk.ofS Try.underlying3 (by kernel_rfl) (by kernel_rfl) (by kernel_rfl) (by kernel_rfl) rfl (fun _ => ⟨by kernel_rfl, by kernel_rfl⟩)
theorem ty_4 : TOk Try.prog ⟨4, .bool, 1, false, 1, some [(.bool false)], true⟩ := TOk.ofS Try.underlying4 (by kernel_rfl) (by kernel_rfl) (by kernel_rfl) (by kernel_rfl) rfl (fun _ => ⟨by kernel_rfl, by kernel_rfl⟩)
theorem ty_5 : TOk Try.prog ⟨5, (.int .u8), 1, false, 1, some [(.int .u8 0)], true⟩ := TOk.ofS Try.underlying5 (by kernel_rfl) (by kernel_rfl) (by kernel_rfl) (by kernel_rfl) rfl (fun _ => ⟨by kernel_rfl, by kernel_rfl⟩)
theorem ty_9 : TOk Try.prog ⟨9, .str, 1, false, 16, some [(.str [])], true⟩ := TOk.ofS Try.underlying9 (by kernel_rfl) (by kernel_rfl) (by kernel_rfl) (by kernel_rfl) rfl (fun _ => ⟨by kernel_rfl, by kernel_rfl⟩)
theorem ty_22 : TOk Try.prog ⟨22, (.sl 5), 1, false, 24, some [(.sl .full [])], false⟩ := TOk.ofS Try.underlying22 (by kernel_rfl) (by kernel_rfl) (by kernel_rfl) (by kernel_rfl) rfl noEq
theorem ty_23 : TOk Try.prog ⟨23, (.sl 9), 1, false, 24, some [(.sl .full [])], false⟩ := TOk.ofS Try.underlying23 (by kernel_rfl) (by kernel_rfl) (by kernel_rfl) (by kernel_rfl) rfl noEq
theorem ty_24 : TOk Try.prog ⟨24, (.sl 30), 1, false, 24, some [(.sl .full [])], false⟩ := TOk.ofS Try.underlying24 (by kernel_rfl) (by kernel_rfl) (by kernel_rfl) (by kernel_rfl) rfl noEq
theorem ty_25 : TOk Try.prog ⟨25, (.int .i64), 1, false, 8, some [(.int .i64 0)], true⟩ := TOk.ofS Try.underlying25 (by kernel_rfl) (by kernel_rfl) (by kernel_rfl) (by kernel_rfl) rfl (fun _ => ⟨by kernel_rfl, by kernel_rfl⟩)
theorem ty_28 : TOk Try.prog ⟨28, (.sl 3), 1, false, 24, some [(.sl .full [])], false⟩ := TOk.ofS Try.underlying28 (by kernel_rfl) (by kernel_rfl) (by kernel_rfl) (by kernel_rfl) rfl noEq
theorem ty_30 : TOk Try.prog ⟨30, (.st [(0, 3), (1, 3), (2, 9)]), 3, true, 32, some [(.int .i64 0), (.int .i64 0), (.str [])], true⟩ := TOk.ofA ⟨_, Try.underlying30, by kernel_rfl, by kernel_rfl⟩ (by kernel_rfl) (by kernel_rfl) (by kernel_rfl) (by kernel_rfl) (fun _ => ⟨by kernel_rfl, by kernel_rfl⟩)
theorem ty_41 : TOk Try.prog ⟨41, (.st [(0, 9), (1, 4)]), 2, true, 24, some [(.str []), (.bool false)], true⟩ := TOk.ofA ⟨_, Try.underlying41, by kernel_rfl, by kernel_rfl⟩ (by kernel_rfl) (by kernel_rfl) (by kernel_rfl) (by kernel_rfl) (fun _ => ⟨by kernel_rfl, by kernel_rfl⟩)
theorem ty_42 : TOk Try.prog ⟨42, (.sl 41), 1, false, 24, some [(.sl .full [])], false⟩ := TOk.ofS Try.underlying42 (by kernel_rfl) (by kernel_rfl) (by kernel_rfl) (by kernel_rfl) rfl noEq
theorem ty_44 : TOk Try.prog ⟨44, (.st [(0, 9), (1, 9)]), 2, true, 32, some [(.str []), (.str [])], true⟩ := TOk.ofA ⟨_, Try.underlying44, by kernel_rfl, by kernel_rfl⟩ (by kernel_rfl) (by kernel_rfl) (by kernel_rfl) (by kernel_rfl) (fun _ => ⟨by kernel_rfl, by kernel_rfl⟩)
theorem ty_46 : TOk Try.prog ⟨46, (.st [(0, 9), (1, 9), (2, 9)]), 3, true, 48, some [(.str []), (.str []), (.str [])], true⟩ := TOk.ofA ⟨_, Try.underlying46, by kernel_rfl, by kernel_rfl⟩ (by kernel_rfl) (by kernel_rfl) (by kernel_rfl) (by kernel_rfl) (fun _ => ⟨by kernel_rfl, by kernel_rfl⟩)
theorem ty_48 : TOk Try.prog ⟨48, (.st [(0, 44), (2, 9), (3, 46)]), 6, true, 96, some [(.str []), (.str []), (.str []), (.str []), (.str []), (.str [])], true⟩ := TOk.ofA ⟨_, Try.underlying48, by kernel_rfl, by kernel_rfl⟩ (by kernel_rfl) (by kernel_rfl) (by kernel_rfl) (by kernel_rfl) (fun _ => ⟨by kernel_rfl, by kernel_rfl⟩)
theorem ty_75 : TOk Try.prog ⟨75, (.arr 6 9), 6, true, 96, some [(.str []), (.str []), (.str []), (.str []), (.str []), (.str [])], false⟩ := TOk.ofA Try.underlying75 (by kernel_rfl) (by kernel_rfl) (by kernel_rfl) (by kernel_rfl) noEq
theorem ty_77 : TOk Try.prog ⟨77, (.int .u64), 1, false, 8, some [(.int .u64 0)], true⟩ := TOk.ofS Try.underlying77 (by kernel_rfl) (by kernel_rfl) (by kernel_rfl) (by kernel_rfl) rfl (fun _ => ⟨by kernel_rfl, by kernel_rfl⟩)
def tyT : List TI := [⟨2, (.int .i64), 1, false, 8, some [(.int .i64 0)], true⟩,
  ⟨3, (.int .i64), 1, false, 8, some [(.int .i64 0)], true⟩,
  ⟨4, .bool, 1, false, 1, some [(.bool false)], true⟩,
  ⟨5, (.int .u8), 1, false, 1, some [(.int .u8 0)], true⟩,
  ⟨9, .str, 1, false, 16, some [(.str [])], true⟩,
  ⟨22, (.sl 5), 1, false, 24, some [(.sl .full [])], false⟩,
  ⟨23, (.sl 9), 1, false, 24, some [(.sl .full [])], false⟩,
  ⟨24, (.sl 30), 1, false, 24, some [(.sl .full [])], false⟩,
  ⟨25, (.int .i64), 1, false, 8, some [(.int .i64 0)], true⟩,
  ⟨28, (.sl 3), 1, false, 24, some [(.sl .full [])], false⟩,
  ⟨30, (.st [(0, 3), (1, 3), (2, 9)]), 3, true, 32, some [(.int .i64 0), (.int .i64 0), (.str [])], true⟩,
  ⟨41, (.st [(0, 9), (1, 4)]), 2, true, 24, some [(.str []), (.bool false)], true⟩,
  ⟨42, (.sl 41), 1, false, 24, some [(.sl .full [])], false⟩,
  ⟨44, (.st [(0, 9), (1, 9)]), 2, true, 32, some [(.str []), (.str [])], true⟩,
  ⟨46, (.st [(0, 9), (1, 9), (2, 9)]), 3, true, 48, some [(.str []), (.str []), (.str [])], true⟩,
  ⟨48, (.st [(0, 44), (2, 9), (3, 46)]), 6, true, 96, some [(.str []), (.str []), (.str []), (.str []), (.str []), (.str [])], true⟩,
  ⟨75, (.arr 6 9), 6, true, 96, some [(.str []), (.str []), (.str []), (.str []), (.str []), (.str [])], false⟩,
  ⟨77, (.int .u64), 1, false, 8, some [(.int .u64 0)], true⟩]
theorem tyOk : ∀ t ti, tiOf tyT t = some ti → TOk Try.prog ti ∧ ti.t = t := TOk.tab (TOk.cons ty_2 (TOk.cons ty_3 (TOk.cons ty_4 (TOk.cons ty_5 (TOk.cons ty_9 (TOk.cons ty_22 (TOk.cons ty_23 (TOk.cons ty_24 (TOk.cons ty_25 (TOk.cons ty_28 (TOk.cons ty_30 (TOk.cons ty_41 (TOk.cons ty_42 (TOk.cons ty_44 (TOk.cons ty_46 (TOk.cons ty_48 (TOk.cons ty_75 (TOk.cons ty_77 (TOk.nil)))))))))))))))))))
abbrev n_main_main : FuncId := 0
abbrev n_gosem_cut : FuncId := 1
abbrev n_gosem_cut_init : FuncId := 2
abbrev n_entaillaw6_TokeLong : FuncId := 3
abbrev n_entaillaw6_TokeTells : FuncId := 4
abbrev n_entaillaw6_TokeParts : FuncId := 5
abbrev n_entaillaw6_TokeBytes : FuncId := 6
abbrev n_entaillaw2_TuplForms : FuncId := 7
abbrev n_entaillaw2_TuplParts : FuncId := 8
abbrev n_entaillaw2_TuplTells : FuncId := 9
abbrev n_entaillaw2_TuplBack : FuncId := 10
abbrev n_entaillaw2_TuplOrder : FuncId := 11
abbrev n_entaillaw1_AtomSplits : FuncId := 12
abbrev n_entaillaw1_AtomTells : FuncId := 13
abbrev n_entaillaw1_AtomBack : FuncId := 14
abbrev n_entaillaw1_AtomBounds : FuncId := 15
abbrev n_toke_Tokens : FuncId := 16
abbrev n_entaillaw6_awake : FuncId := 17
abbrev n_entailref6_Tokens : FuncId := 18
abbrev n_entaillaw6_Same : FuncId := 19
abbrev n_entaillaw6_Tame : FuncId := 20
abbrev n_entailref1_Find : FuncId := 21
abbrev n_tupl_Parse : FuncId := 22
abbrev n_tupl_Text : FuncId := 23
abbrev n_entaillaw2_awake : FuncId := 24
abbrev n_entaillaw1_Nm : FuncId := 25
abbrev n_tupl_Less : FuncId := 26
abbrev n_entaillaw2_Short : FuncId := 27
abbrev n_entailref1_Parse : FuncId := 28
abbrev n_tupl_Ok : FuncId := 29
abbrev n_entailref1_Ok : FuncId := 30
abbrev n_entailref1_Text : FuncId := 31
abbrev n_entailref1_Less : FuncId := 32
abbrev n_entaillaw2_Tame : FuncId := 33
abbrev n_atom_Split : FuncId := 34
abbrev n_entaillaw1_awake : FuncId := 35
abbrev n_entailref1_Split : FuncId := 36
abbrev n_atom_Name : FuncId := 37
abbrev n_entailref1_Name : FuncId := 38
abbrev n_atom_ID : FuncId := 39
abbrev n_entailref1_ID : FuncId := 40
abbrev n_atom_Join : FuncId := 41
abbrev n_entailref1_Join : FuncId := 42
abbrev n_entaillaw1_Tame : FuncId := 43
abbrev n_entailref1_Glue : FuncId := 44
abbrev n_toke_skip : FuncId := 45
abbrev n_toke_next : FuncId := 46
abbrev n_entailref6_part : FuncId := 47
abbrev n_strings_Cut : FuncId := 48
abbrev n_tupl_Compare : FuncId := 49
abbrev n_entailref1_six : FuncId := 50
abbrev n_atom_first : FuncId := 51
abbrev n_atom_plain : FuncId := 52
abbrev n_entailref1_alnum : FuncId := 53
abbrev n_strings_Join : FuncId := 54
abbrev n_strings_HasPrefix : FuncId := 55
abbrev n_strings_Index : FuncId := 56
abbrev n_strings_Contains : FuncId := 57
abbrev n_toke_row : FuncId := 58
abbrev n_internal_stringslite_Cut : FuncId := 59
abbrev n_cmp_Or_int : FuncId := 60
abbrev n_strings_Compare : FuncId := 61
abbrev n_strings_Builder_Grow : FuncId := 62
abbrev n_strings_Builder_WriteString : FuncId := 63
abbrev n_strings_Builder_String : FuncId := 64
abbrev n_internal_stringslite_HasPrefix : FuncId := 65
abbrev n_internal_stringslite_Index : FuncId := 66
abbrev n_toke_letter : FuncId := 67
abbrev n_internal_bytealg_CompareString : FuncId := 68
abbrev n_strings_Builder_copyCheck : FuncId := 69
abbrev n_strings_Builder_grow : FuncId := 70
abbrev n_internal_stringslite_IndexByte : FuncId := 71
abbrev n_internal_bytealg_IndexString : FuncId := 72
abbrev n_internal_bytealg_Cutover : FuncId := 73
abbrev n_internal_bytealg_IndexRabinKarp_string : FuncId := 74
abbrev n_internal_bytealg_abigen_runtime_cmpstring : FuncId := 75
abbrev n_internal_abi_NoEscape : FuncId := 76
abbrev n_internal_bytealg_MakeNoZero : FuncId := 77
abbrev n_internal_bytealg_IndexByteString : FuncId := 78
abbrev n_internal_bytealg_hashStr_string : FuncId := 79
abbrev n_runtime_boundsError_Error : FuncId := 80
abbrev n_runtime_boundsError_RuntimeError : FuncId := 81
abbrev n_runtime_errorString_Error : FuncId := 82
abbrev n_runtime_errorString_RuntimeError : FuncId := 83
abbrev n_runtime_plainError_Error : FuncId := 84
abbrev n_runtime_plainError_RuntimeError : FuncId := 85
abbrev n_runtime_errorAddressString_Error : FuncId := 86
abbrev n_runtime_errorAddressString_RuntimeError : FuncId := 87
abbrev n_runtime_TypeAssertionError_Error : FuncId := 88
abbrev n_runtime_TypeAssertionError_RuntimeError : FuncId := 89
abbrev n_runtime_PanicNilError_Error : FuncId := 90
abbrev n_runtime_PanicNilError_RuntimeError : FuncId := 91
abbrev n_internal_abi_Type_Align : FuncId := 92
abbrev n_internal_runtime_maps_unhashableTypeError_Error : FuncId := 93
abbrev n_internal_runtime_maps_unhashableTypeError_RuntimeError : FuncId := 94
abbrev n_api_Errno_Error : FuncId := 95
abbrev n_strings_Builder_Reset : FuncId := 96
abbrev n_internal_abi_Kind_String : FuncId := 97
end Go.Fbs

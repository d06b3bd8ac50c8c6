import Derived.Test.YtnfnkdhanohaiaaS2
import Derived.Test.YtnfnkdhanohaiaaRows
set_option linter.unusedVariables false
set_option linter.unusedSimpArgs false
set_option linter.unusedSectionVars false
namespace Go.Fbs
open Go.Proofs
theorem mixed : Try.prog.follows .mixedOrders = true := by kernel_rfl
theorem ty_3 : TOk Try.prog ⟨3, (.int .i64), 1, false, 8, some [(.int .i64 0)], true⟩ := TOk.ofS Try.underlying3 (by kernel_rfl) (by kernel_rfl) (by kernel_rfl) (by kernel_rfl) rfl (fun _ => ⟨by kernel_rfl, by kernel_rfl⟩)
theorem ty_4 : TOk Try.prog ⟨4, .bool, 1, false, 1, some [(.bool false)], true⟩ := TOk.ofS Try.underlying4 (by kernel_rfl) (by kernel_rfl) (by kernel_rfl) (by kernel_rfl) rfl (fun _ => ⟨by kernel_rfl, by kernel_rfl⟩)
theorem ty_5 : TOk Try.prog ⟨5, (.int .u8), 1, false, 1, some [(.int .u8 0)], true⟩ := TOk.ofS Try.underlying5 (by kernel_rfl) (by kernel_rfl) (by kernel_rfl) (by kernel_rfl) rfl (fun _ => ⟨by kernel_rfl, by kernel_rfl⟩)
theorem ty_9 : TOk Try.prog ⟨9, .str, 1, false, 16, some [(.str [])], true⟩ := TOk.ofS Try.underlying9 (by kernel_rfl) (by kernel_rfl) (by kernel_rfl) (by kernel_rfl) rfl (fun _ => ⟨by kernel_rfl, by kernel_rfl⟩)
theorem ty_22 : TOk Try.prog ⟨22, (.sl 5), 1, false, 24, some [(.sl .full [])], false⟩ := TOk.ofS Try.underlying22 (by kernel_rfl) (by kernel_rfl) (by kernel_rfl) (by kernel_rfl) rfl noEq
theorem ty_24 : TOk Try.prog ⟨24, (.sl 39), 1, false, 24, some [(.sl .full [])], false⟩ := TOk.ofS Try.underlying24 (by kernel_rfl) (by kernel_rfl) (by kernel_rfl) (by kernel_rfl) rfl noEq
theorem ty_25 : TOk Try.prog ⟨25, (.int .i64), 1, false, 8, some [(.int .i64 0)], true⟩ := TOk.ofS Try.underlying25 (by kernel_rfl) (by kernel_rfl) (by kernel_rfl) (by kernel_rfl) rfl (fun _ => ⟨by kernel_rfl, by kernel_rfl⟩)
theorem ty_30 : TOk Try.prog ⟨30, (.sl 50), 1, false, 24, some [(.sl .full [])], false⟩ := TOk.ofS Try.underlying30 (by kernel_rfl) (by kernel_rfl) (by kernel_rfl) (by kernel_rfl) rfl noEq
theorem ty_33 : TOk Try.prog ⟨33, .other, 1, false, 8, some [.nilp], false⟩ := TOk.ofS trivial (by kernel_rfl) (by kernel_rfl) (by kernel_rfl) (by kernel_rfl) rfl noEq
theorem ty_34 : TOk Try.prog ⟨34, (.sl 89), 1, false, 24, some [(.sl .full [])], false⟩ := TOk.ofS Try.underlying34 (by kernel_rfl) (by kernel_rfl) (by kernel_rfl) (by kernel_rfl) rfl noEq
theorem ty_36 : TOk Try.prog ⟨36, (.st [(0, 30), (1, 3), (2, 3), (3, 25), (4, 3), (5, 34)]), 6, true, 80, some [(.sl .full []), (.int .i64 0), (.int .i64 0), (.int .i64 0), (.int .i64 0), (.sl .full [])], true⟩ := TOk.ofA ⟨_, Try.underlying36, by kernel_rfl, by kernel_rfl⟩ (by kernel_rfl) (by kernel_rfl) (by kernel_rfl) (by kernel_rfl) (fun _ => ⟨by kernel_rfl, by kernel_rfl⟩)
theorem ty_37 : TOk Try.prog ⟨37, (.sl 46), 1, false, 24, some [(.sl .full [])], false⟩ := TOk.ofS Try.underlying37 (by kernel_rfl) (by kernel_rfl) (by kernel_rfl) (by kernel_rfl) rfl noEq
theorem ty_39 : TOk Try.prog ⟨39, (.st [(0, 9), (1, 37)]), 2, true, 40, some [(.str []), (.sl .full [])], true⟩ := TOk.ofA ⟨_, Try.underlying39, by kernel_rfl, by kernel_rfl⟩ (by kernel_rfl) (by kernel_rfl) (by kernel_rfl) (by kernel_rfl) (fun _ => ⟨by kernel_rfl, by kernel_rfl⟩)
theorem ty_44 : TOk Try.prog ⟨44, (.sl 83), 1, false, 24, some [(.sl .full [])], false⟩ := TOk.ofS Try.underlying44 (by kernel_rfl) (by kernel_rfl) (by kernel_rfl) (by kernel_rfl) rfl noEq
theorem ty_46 : TOk Try.prog ⟨46, (.st [(0, 9), (1, 44), (2, 34)]), 3, true, 64, some [(.str []), (.sl .full []), (.sl .full [])], true⟩ := TOk.ofA ⟨_, Try.underlying46, by kernel_rfl, by kernel_rfl⟩ (by kernel_rfl) (by kernel_rfl) (by kernel_rfl) (by kernel_rfl) (fun _ => ⟨by kernel_rfl, by kernel_rfl⟩)
theorem ty_50 : TOk Try.prog ⟨50, (.st [(0, 3), (1, 3), (2, 9)]), 3, true, 32, some [(.int .i64 0), (.int .i64 0), (.str [])], true⟩ := TOk.ofA ⟨_, Try.underlying50, by kernel_rfl, by kernel_rfl⟩ (by kernel_rfl) (by kernel_rfl) (by kernel_rfl) (by kernel_rfl) (fun _ => ⟨by kernel_rfl, by kernel_rfl⟩)
theorem ty_56 : TOk Try.prog ⟨56, .other, 1, false, 8, some [.nilp], false⟩ := TOk.ofS trivial (by kernel_rfl) (by kernel_rfl) (by kernel_rfl) (by kernel_rfl) rfl noEq
theorem ty_59 : TOk Try.prog ⟨59, .other, 1, false, 8, some [.nilp], false⟩ := TOk.ofS trivial (by kernel_rfl) (by kernel_rfl) (by kernel_rfl) (by kernel_rfl) rfl noEq
theorem ty_60 : TOk Try.prog ⟨60, .other, 1, false, 8, some [.nilp], false⟩ := TOk.ofS trivial (by kernel_rfl) (by kernel_rfl) (by kernel_rfl) (by kernel_rfl) rfl noEq
theorem ty_62 : TOk Try.prog ⟨62, (.st [(0, 60), (1, 22)]), 2, true, 32, some [.nilp, (.sl .full [])], true⟩ := TOk.ofA ⟨_, Try.underlying62, by kernel_rfl, by kernel_rfl⟩ (by kernel_rfl) (by kernel_rfl) (by kernel_rfl) (by kernel_rfl) (fun _ => ⟨by kernel_rfl, by kernel_rfl⟩)
theorem ty_72 : TOk Try.prog ⟨72, .other, 1, false, 8, none, false⟩ := TOk.ofN trivial (by kernel_rfl) (by kernel_rfl) (by kernel_rfl) noEq
theorem ty_73 : TOk Try.prog ⟨73, .other, 1, false, 8, none, false⟩ := TOk.ofN trivial (by kernel_rfl) (by kernel_rfl) (by kernel_rfl) noEq
theorem ty_79 : TOk Try.prog ⟨79, .other, 1, false, 8, some [.nilp], false⟩ := TOk.ofS trivial (by kernel_rfl) (by kernel_rfl) (by kernel_rfl) (by kernel_rfl) rfl noEq
theorem ty_81 : TOk Try.prog ⟨81, (.sl 9), 1, false, 24, some [(.sl .full [])], false⟩ := TOk.ofS Try.underlying81 (by kernel_rfl) (by kernel_rfl) (by kernel_rfl) (by kernel_rfl) rfl noEq
theorem ty_83 : TOk Try.prog ⟨83, (.st [(0, 9), (1, 9), (2, 9)]), 3, true, 48, some [(.str []), (.str []), (.str [])], true⟩ := TOk.ofA ⟨_, Try.underlying83, by kernel_rfl, by kernel_rfl⟩ (by kernel_rfl) (by kernel_rfl) (by kernel_rfl) (by kernel_rfl) (fun _ => ⟨by kernel_rfl, by kernel_rfl⟩)
theorem ty_89 : TOk Try.prog ⟨89, (.st [(0, 3), (1, 9), (2, 9)]), 3, true, 40, some [(.int .i64 0), (.str []), (.str [])], true⟩ := TOk.ofA ⟨_, Try.underlying89, by kernel_rfl, by kernel_rfl⟩ (by kernel_rfl) (by kernel_rfl) (by kernel_rfl) (by kernel_rfl) (fun _ => ⟨by kernel_rfl, by kernel_rfl⟩)
theorem ty_94 : TOk Try.prog ⟨94, (.sl 96), 1, false, 24, some [(.sl .full [])], false⟩ := TOk.ofS Try.underlying94 (by kernel_rfl) (by kernel_rfl) (by kernel_rfl) (by kernel_rfl) rfl noEq
theorem ty_96 : TOk Try.prog ⟨96, (.st [(0, 9), (1, 3)]), 2, true, 24, some [(.str []), (.int .i64 0)], true⟩ := TOk.ofA ⟨_, Try.underlying96, by kernel_rfl, by kernel_rfl⟩ (by kernel_rfl) (by kernel_rfl) (by kernel_rfl) (by kernel_rfl) (fun _ => ⟨by kernel_rfl, by kernel_rfl⟩)
abbrev n_main_main : FuncId := 0
abbrev n_gosem_cut : FuncId := 1
abbrev n_gosem_cut_init : FuncId := 2
abbrev n_entaillaw7_ScheBounds : FuncId := 3
abbrev n_entaillaw7_ScheBounds_1 : FuncId := 4
abbrev n_sche_Parse : FuncId := 5
abbrev n_entaillaw7_awake : FuncId := 6
abbrev n_toke_Tokens : FuncId := 7
abbrev n_sche_parser_one : FuncId := 8
abbrev n_sche_Text : FuncId := 9
abbrev n_sche_Same : FuncId := 10
abbrev n_toke_skip : FuncId := 11
abbrev n_toke_next : FuncId := 12
abbrev n_sche_parser_some : FuncId := 13
abbrev n_sche_parser_word : FuncId := 14
abbrev n_sche_parser_fail : FuncId := 15
abbrev n_sche_parser_name : FuncId := 16
abbrev n_sche_parser_may : FuncId := 17
abbrev n_sche_parser_relation : FuncId := 18
abbrev n_strings_Builder_WriteString : FuncId := 19
abbrev n_sche_relText : FuncId := 20
abbrev n_strings_Builder_Len : FuncId := 21
abbrev n_strings_Builder_String : FuncId := 22
abbrev n_slices_EqualFunc_api_Type_api_Type_api_Type_api_Type : FuncId := 23
abbrev n_sche_Same_1 : FuncId := 24
abbrev n_slices_EqualFunc_api_Rel_api_Rel_api_Rel_api_Rel : FuncId := 25
abbrev n_sche_sameRel : FuncId := 26
abbrev n_strings_HasPrefix : FuncId := 27
abbrev n_strings_Index : FuncId := 28
abbrev n_strings_Contains : FuncId := 29
abbrev n_toke_row : FuncId := 30
abbrev n_sche_parser_here : FuncId := 31
abbrev n_sche_named : FuncId := 32
abbrev n_sche_parser_is : FuncId := 33
abbrev n_sche_parser_sign : FuncId := 34
abbrev n_sche_parser_sum : FuncId := 35
abbrev n_sche_parser_subjects : FuncId := 36
abbrev n_strings_Builder_copyCheck : FuncId := 37
abbrev n_sche_told : FuncId := 38
abbrev n_strings_Join : FuncId := 39
abbrev n_slices_Equal_api_Sub_api_Sub : FuncId := 40
abbrev n_slices_Equal_api_Step_api_Step : FuncId := 41
abbrev n_internal_stringslite_HasPrefix : FuncId := 42
abbrev n_internal_stringslite_Index : FuncId := 43
abbrev n_toke_letter : FuncId := 44
abbrev n_sche_parser_term : FuncId := 45
abbrev n_sche_parser_put : FuncId := 46
abbrev n_internal_abi_NoEscape : FuncId := 47
abbrev n_sche_joint : FuncId := 48
abbrev n_strings_Builder_Grow : FuncId := 49
abbrev n_internal_stringslite_IndexByte : FuncId := 50
abbrev n_internal_bytealg_IndexString : FuncId := 51
abbrev n_internal_bytealg_Cutover : FuncId := 52
abbrev n_internal_bytealg_IndexRabinKarp_string : FuncId := 53
abbrev n_sche_parser_factor : FuncId := 54
abbrev n_sche_piece_held : FuncId := 55
abbrev n_strings_Builder_grow : FuncId := 56
abbrev n_internal_bytealg_IndexByteString : FuncId := 57
abbrev n_internal_bytealg_hashStr_string : FuncId := 58
abbrev n_internal_bytealg_MakeNoZero : FuncId := 59
abbrev n_runtime_boundsError_Error : FuncId := 60
abbrev n_runtime_boundsError_RuntimeError : FuncId := 61
abbrev n_runtime_errorString_Error : FuncId := 62
abbrev n_runtime_errorString_RuntimeError : FuncId := 63
abbrev n_runtime_plainError_Error : FuncId := 64
abbrev n_runtime_plainError_RuntimeError : FuncId := 65
abbrev n_runtime_errorAddressString_Error : FuncId := 66
abbrev n_runtime_errorAddressString_RuntimeError : FuncId := 67
abbrev n_runtime_TypeAssertionError_Error : FuncId := 68
abbrev n_runtime_TypeAssertionError_RuntimeError : FuncId := 69
abbrev n_runtime_PanicNilError_Error : FuncId := 70
abbrev n_runtime_PanicNilError_RuntimeError : FuncId := 71
abbrev n_internal_abi_Type_Align : FuncId := 72
abbrev n_internal_runtime_maps_unhashableTypeError_Error : FuncId := 73
abbrev n_internal_runtime_maps_unhashableTypeError_RuntimeError : FuncId := 74
abbrev n_api_Errno_Error : FuncId := 75
abbrev n_strings_Builder_Reset : FuncId := 76
abbrev n_internal_abi_Kind_String : FuncId := 77
def tyT : TT := ⟨[⟨3, (.int .i64), 1, false, 8, some [(.int .i64 0)], true⟩,
  ⟨4, .bool, 1, false, 1, some [(.bool false)], true⟩,
  ⟨5, (.int .u8), 1, false, 1, some [(.int .u8 0)], true⟩,
  ⟨9, .str, 1, false, 16, some [(.str [])], true⟩,
  ⟨22, (.sl 5), 1, false, 24, some [(.sl .full [])], false⟩,
  ⟨24, (.sl 39), 1, false, 24, some [(.sl .full [])], false⟩,
  ⟨25, (.int .i64), 1, false, 8, some [(.int .i64 0)], true⟩,
  ⟨30, (.sl 50), 1, false, 24, some [(.sl .full [])], false⟩,
  ⟨33, .other, 1, false, 8, some [.nilp], false⟩,
  ⟨34, (.sl 89), 1, false, 24, some [(.sl .full [])], false⟩,
  ⟨36, (.st [(0, 30), (1, 3), (2, 3), (3, 25), (4, 3), (5, 34)]), 6, true, 80, some [(.sl .full []), (.int .i64 0), (.int .i64 0), (.int .i64 0), (.int .i64 0), (.sl .full [])], true⟩,
  ⟨37, (.sl 46), 1, false, 24, some [(.sl .full [])], false⟩,
  ⟨39, (.st [(0, 9), (1, 37)]), 2, true, 40, some [(.str []), (.sl .full [])], true⟩,
  ⟨44, (.sl 83), 1, false, 24, some [(.sl .full [])], false⟩,
  ⟨46, (.st [(0, 9), (1, 44), (2, 34)]), 3, true, 64, some [(.str []), (.sl .full []), (.sl .full [])], true⟩,
  ⟨50, (.st [(0, 3), (1, 3), (2, 9)]), 3, true, 32, some [(.int .i64 0), (.int .i64 0), (.str [])], true⟩,
  ⟨56, .other, 1, false, 8, some [.nilp], false⟩,
  ⟨59, .other, 1, false, 8, some [.nilp], false⟩,
  ⟨60, .other, 1, false, 8, some [.nilp], false⟩,
  ⟨62, (.st [(0, 60), (1, 22)]), 2, true, 32, some [.nilp, (.sl .full [])], true⟩,
  ⟨72, .other, 1, false, 8, none, false⟩,
  ⟨73, .other, 1, false, 8, none, false⟩,
  ⟨79, .other, 1, false, 8, some [.nilp], false⟩,
  ⟨81, (.sl 9), 1, false, 24, some [(.sl .full [])], false⟩,
  ⟨83, (.st [(0, 9), (1, 9), (2, 9)]), 3, true, 48, some [(.str []), (.str []), (.str [])], true⟩,
  ⟨89, (.st [(0, 3), (1, 9), (2, 9)]), 3, true, 40, some [(.int .i64 0), (.str []), (.str [])], true⟩,
  ⟨94, (.sl 96), 1, false, 24, some [(.sl .full [])], false⟩,
  ⟨96, (.st [(0, 9), (1, 3)]), 2, true, 24, some [(.str []), (.int .i64 0)], true⟩], []⟩
theorem tyOk : ∀ t ti, tiOf tyT t = some ti → TOk Try.prog ti ∧ ti.t = t := TOk.tab (TOk.cons ty_3 (TOk.cons ty_4 (TOk.cons ty_5 (TOk.cons ty_9 (TOk.cons ty_22 (TOk.cons ty_24 (TOk.cons ty_25 (TOk.cons ty_30 (TOk.cons ty_33 (TOk.cons ty_34 (TOk.cons ty_36 (TOk.cons ty_37 (TOk.cons ty_39 (TOk.cons ty_44 (TOk.cons ty_46 (TOk.cons ty_50 (TOk.cons ty_56 (TOk.cons ty_59 (TOk.cons ty_60 (TOk.cons ty_62 (TOk.cons ty_72 (TOk.cons ty_73 (TOk.cons ty_79 (TOk.cons ty_81 (TOk.cons ty_83 (TOk.cons ty_89 (TOk.cons ty_94 (TOk.cons ty_96 (TOk.nil)))))))))))))))))))))))))))))
end Go.Fbs

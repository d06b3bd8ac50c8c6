import Derived.Test.YthkfcmfphjepnaaFbsT
import Derived.Test.YthkfcmfphjepnaaRows
set_option linter.unusedVariables false
set_option linter.unusedSimpArgs false
namespace Go.Fbs
open Go.Proofs
def Eff : FuncId → Bool := fun _ => false
theorem mixed : Try.prog.follows .mixedOrders = true := by kernel_rfl
theorem l_conv_3_5 (x : V) : convQ Try.prog 3 5 x = convI .u8 x := convI_K Try.underlying3 Try.underlying5 x
theorem ze_5 : zeroT Try.prog 5 = some (.int .u8 0) := by kernel_rfl
theorem sz_5 : szT Try.prog 5 = some 1 := by kernel_rfl
theorem l_buildSlice_22 (n : Nat) (ps : List (Nat × V)) : buildSliceQ Try.prog 22 n ps = buildSliceK 1 n ps := buildSlice_K Try.underlying22 sz_5 ze_5 rfl (Nat.le_of_ble_eq_true rfl) n ps
theorem l_conv_22_9 (x : V) : convQ Try.prog 22 9 x = convBS x := convBS_K Try.underlying22 Try.underlying5 Try.underlying9 x
theorem ze_9 : zeroT Try.prog 9 = some (.str []) := by kernel_rfl
theorem sz_9 : szT Try.prog 9 = some 1 := by kernel_rfl
theorem l_buildSlice_23 (n : Nat) (ps : List (Nat × V)) : buildSliceQ Try.prog 23 n ps = buildSliceK 1 n ps := buildSlice_K Try.underlying23 sz_9 ze_9 rfl (Nat.le_of_ble_eq_true rfl) n ps
theorem l_indexAddr_23 (x i : V) : indexAddrV Try.prog 23 x i = indexAddrL 1 x i := indexAddrL_K Try.underlying23 sz_9 x i
theorem ag_9 : aggT Try.prog 9 = some false := by kernel_rfl
theorem l_load_9 (H : List LO) (x : V) : loadV Try.prog 9 H x = loadK false 1 H x := load_K ag_9 sz_9 H x
theorem ze_3 : zeroT Try.prog 3 = some (.int .i64 0) := by kernel_rfl
theorem sz_3 : szT Try.prog 3 = some 1 := by kernel_rfl
theorem l_buildSlice_28 (n : Nat) (ps : List (Nat × V)) : buildSliceQ Try.prog 28 n ps = buildSliceK 1 n ps := buildSlice_K Try.underlying28 sz_3 ze_3 rfl (Nat.le_of_ble_eq_true rfl) n ps
theorem l_indexAddr_28 (x i : V) : indexAddrV Try.prog 28 x i = indexAddrL 1 x i := indexAddrL_K Try.underlying28 sz_3 x i
theorem ag_3 : aggT Try.prog 3 = some false := by kernel_rfl
theorem l_load_3 (H : List LO) (x : V) : loadV Try.prog 3 H x = loadK false 1 H x := load_K ag_3 sz_3 H x
theorem l_len_24 (x : V) : builtinQ Try.prog .len [24] [x] = lenL x := lenL_K Try.underlying24 x
theorem sz_30 : szT Try.prog 30 = some 3 := by kernel_rfl
theorem l_indexAddr_24 (x i : V) : indexAddrV Try.prog 24 x i = indexAddrL 3 x i := indexAddrL_K Try.underlying24 sz_30 x i
theorem l_fieldAddr_30_2 (x : V) : fieldAddrV Try.prog 30 x 2 = fieldAddrK 2 x := fieldAddr_K (fd := (Field.mk "Text" 9 2 false "" "" 16)) Try.underlying30 rfl sz_9 rfl x
theorem l_fieldAddr_30_1 (x : V) : fieldAddrV Try.prog 30 x 1 = fieldAddrK 1 x := fieldAddr_K (fd := (Field.mk "At" 3 1 false "" "" 8)) Try.underlying30 rfl sz_3 rfl x
theorem l_len_9 (x : V) : builtinQ Try.prog .len [9] [x] = lenS x := lenS_K Try.underlying9 x
theorem ag_30 : aggT Try.prog 30 = some true := by kernel_rfl
theorem l_load_30 (H : List LO) (x : V) : loadV Try.prog 30 H x = loadK true 3 H x := load_K ag_30 sz_30 H x
theorem ze_30 : zeroT Try.prog 30 = some (.agg [(.int .i64 0), (.int .i64 0), (.str [])]) := by kernel_rfl
theorem l_zero_30 : (zeroT Try.prog 30).map V.cells = some [(.int .i64 0), (.int .i64 0), (.str [])] := by rw [ze_30]; rfl
theorem l_store_30 (x y : V) (m : Hp) : storeV Try.prog 30 x y m = storeK 3 x y m := store_K sz_30 x y m
theorem l_slice_9 (x : V) (lo hi : Option V) : sliceV Try.prog 9 x lo hi = sliceS x lo hi := sliceS_K Try.underlying9 x lo hi
theorem l_fieldAddr_30_0 (x : V) : fieldAddrV Try.prog 30 x 0 = fieldAddrK 0 x := fieldAddr_K (fd := (Field.mk "Kind" 3 0 false "" "" 0)) Try.underlying30 rfl sz_3 rfl x
theorem l_len_28 (x : V) : builtinQ Try.prog .len [28] [x] = lenL x := lenL_K Try.underlying28 x
theorem by_5 : bytesT Try.prog 5 = some 1 := by kernel_rfl
theorem l_makeSlice_22 (l c : V) (m : Hp) : makeSliceV Try.prog 22 l c m = makeSliceK 1 (.int .u8 0) 1 l c m := makeSlice_K Try.underlying22 sz_5 ze_5 by_5 rfl (Nat.le_of_ble_eq_true rfl) l c m
theorem l_len_22 (x : V) : builtinQ Try.prog .len [22] [x] = lenL x := lenL_K Try.underlying22 x
theorem l_indexAddr_22 (x i : V) : indexAddrV Try.prog 22 x i = indexAddrL 1 x i := indexAddrL_K Try.underlying22 sz_5 x i
theorem l_store_5 (x y : V) (m : Hp) : storeV Try.prog 5 x y m = storeK 1 x y m := store_K sz_5 x y m
theorem ze_41 : zeroT Try.prog 41 = some (.agg [(.str []), (.bool false)]) := by kernel_rfl
theorem l_build_41 (ps : List (Nat × V)) : buildQ Try.prog 41 ps = buildK [(0, 1), (1, 1)] [(.str []), (.bool false)] ps := build_K Try.underlying41 ze_41 rfl (by kernel_rfl) ps
theorem sz_41 : szT Try.prog 41 = some 2 := by kernel_rfl
theorem l_buildSlice_42 (n : Nat) (ps : List (Nat × V)) : buildSliceQ Try.prog 42 n ps = buildSliceK 2 n ps := buildSlice_K Try.underlying42 sz_41 ze_41 rfl (Nat.le_of_ble_eq_true rfl) n ps
theorem l_len_42 (x : V) : builtinQ Try.prog .len [42] [x] = lenL x := lenL_K Try.underlying42 x
theorem l_indexAddr_42 (x i : V) : indexAddrV Try.prog 42 x i = indexAddrL 2 x i := indexAddrL_K Try.underlying42 sz_41 x i
theorem ag_41 : aggT Try.prog 41 = some true := by kernel_rfl
theorem l_load_41 (H : List LO) (x : V) : loadV Try.prog 41 H x = loadK true 2 H x := load_K ag_41 sz_41 H x
theorem l_zero_41 : (zeroT Try.prog 41).map V.cells = some [(.str []), (.bool false)] := by rw [ze_41]; rfl
theorem l_store_41 (x y : V) (m : Hp) : storeV Try.prog 41 x y m = storeK 2 x y m := store_K sz_41 x y m
theorem l_fieldAddr_41_0 (x : V) : fieldAddrV Try.prog 41 x 0 = fieldAddrK 0 x := fieldAddr_K (fd := (Field.mk "s" 9 0 false "" "entail/entaillaw2" 0)) Try.underlying41 rfl sz_9 rfl x
theorem ze_48 : zeroT Try.prog 48 = some (.agg [(.str []), (.str []), (.str []), (.str []), (.str []), (.str [])]) := by kernel_rfl
theorem l_zero_48 : (zeroT Try.prog 48).map V.cells = some [(.str []), (.str []), (.str []), (.str []), (.str []), (.str [])] := by rw [ze_48]; rfl
theorem sz_48 : szT Try.prog 48 = some 6 := by kernel_rfl
theorem l_store_48 (x y : V) (m : Hp) : storeV Try.prog 48 x y m = storeK 6 x y m := store_K sz_48 x y m
theorem sz_4 : szT Try.prog 4 = some 1 := by kernel_rfl
theorem l_fieldAddr_41_1 (x : V) : fieldAddrV Try.prog 41 x 1 = fieldAddrK 1 x := fieldAddr_K (fd := (Field.mk "ok" 4 1 false "" "entail/entaillaw2" 16)) Try.underlying41 rfl sz_4 rfl x
theorem ag_4 : aggT Try.prog 4 = some false := by kernel_rfl
theorem l_load_4 (H : List LO) (x : V) : loadV Try.prog 4 H x = loadK false 1 H x := load_K ag_4 sz_4 H x
theorem ag_48 : aggT Try.prog 48 = some true := by kernel_rfl
theorem l_load_48 (H : List LO) (x : V) : loadV Try.prog 48 H x = loadK true 6 H x := load_K ag_48 sz_48 H x
theorem l_build_48 (ps : List (Nat × V)) : buildQ Try.prog 48 ps = buildK [(0, 2), (2, 1), (3, 3)] [(.str []), (.str []), (.str []), (.str []), (.str []), (.str [])] ps := build_K Try.underlying48 ze_48 rfl (by kernel_rfl) ps
theorem ze_44 : zeroT Try.prog 44 = some (.agg [(.str []), (.str [])]) := by kernel_rfl
theorem l_build_44 (ps : List (Nat × V)) : buildQ Try.prog 44 ps = buildK [(0, 1), (1, 1)] [(.str []), (.str [])] ps := build_K Try.underlying44 ze_44 rfl (by kernel_rfl) ps
theorem ze_46 : zeroT Try.prog 46 = some (.agg [(.str []), (.str []), (.str [])]) := by kernel_rfl
theorem l_build_46 (ps : List (Nat × V)) : buildQ Try.prog 46 ps = buildK [(0, 1), (1, 1), (2, 1)] [(.str []), (.str []), (.str [])] ps := build_K Try.underlying46 ze_46 rfl (by kernel_rfl) ps
theorem sz_44 : szT Try.prog 44 = some 2 := by kernel_rfl
theorem l_fieldAddr_48_0 (x : V) : fieldAddrV Try.prog 48 x 0 = fieldAddrK 0 x := fieldAddr_K (fd := (Field.mk "Obj" 44 0 false "" "" 0)) Try.underlying48 rfl sz_44 rfl x
theorem l_fieldAddr_44_0 (x : V) : fieldAddrV Try.prog 44 x 0 = fieldAddrK 0 x := fieldAddr_K (fd := (Field.mk "Type" 9 0 false "" "" 0)) Try.underlying44 rfl sz_9 rfl x
theorem l_store_9 (x y : V) (m : Hp) : storeV Try.prog 9 x y m = storeK 1 x y m := store_K sz_9 x y m
theorem l_fieldAddr_44_1 (x : V) : fieldAddrV Try.prog 44 x 1 = fieldAddrK 1 x := fieldAddr_K (fd := (Field.mk "ID" 9 1 false "" "" 16)) Try.underlying44 rfl sz_9 rfl x
theorem l_fieldAddr_48_1 (x : V) : fieldAddrV Try.prog 48 x 1 = fieldAddrK 2 x := fieldAddr_K (fd := (Field.mk "Rel" 9 2 false "" "" 32)) Try.underlying48 rfl sz_9 rfl x
theorem sz_46 : szT Try.prog 46 = some 3 := by kernel_rfl
theorem l_fieldAddr_48_2 (x : V) : fieldAddrV Try.prog 48 x 2 = fieldAddrK 3 x := fieldAddr_K (fd := (Field.mk "Sub" 46 3 false "" "" 48)) Try.underlying48 rfl sz_46 rfl x
theorem l_fieldAddr_46_0 (x : V) : fieldAddrV Try.prog 46 x 0 = fieldAddrK 0 x := fieldAddr_K (fd := (Field.mk "Type" 9 0 false "" "" 0)) Try.underlying46 rfl sz_9 rfl x
theorem l_fieldAddr_46_1 (x : V) : fieldAddrV Try.prog 46 x 1 = fieldAddrK 1 x := fieldAddr_K (fd := (Field.mk "ID" 9 1 false "" "" 16)) Try.underlying46 rfl sz_9 rfl x
theorem l_fieldAddr_46_2 (x : V) : fieldAddrV Try.prog 46 x 2 = fieldAddrK 2 x := fieldAddr_K (fd := (Field.mk "Rel" 9 2 false "" "" 32)) Try.underlying46 rfl sz_9 rfl x
theorem l_len_23 (x : V) : builtinQ Try.prog .len [23] [x] = lenL x := lenL_K Try.underlying23 x
theorem l_store_3 (x y : V) (m : Hp) : storeV Try.prog 3 x y m = storeK 1 x y m := store_K sz_3 x y m
theorem l_buildSlice_24 (n : Nat) (ps : List (Nat × V)) : buildSliceQ Try.prog 24 n ps = buildSliceK 3 n ps := buildSlice_K Try.underlying24 sz_30 ze_30 rfl (Nat.le_of_ble_eq_true rfl) n ps
theorem by_30 : bytesT Try.prog 30 = some 32 := by kernel_rfl
theorem l_append_24_24 (x y : V) (m : Hp) : builtinE Try.prog .append [24, 24] [x, y] m = appendK 3 32 x y m := append_K Try.underlying24 Try.underlying24 sz_30 ze_30 by_30 rfl (Nat.le_of_ble_eq_true rfl) x y m
theorem l_build_30 (ps : List (Nat × V)) : buildQ Try.prog 30 ps = buildK [(0, 1), (1, 1), (2, 1)] [(.int .i64 0), (.int .i64 0), (.str [])] ps := build_K Try.underlying30 ze_30 rfl (by kernel_rfl) ps
theorem l_index_9 (x i : V) : indexV Try.prog 9 x i = indexS x i := indexS_K Try.underlying9 x i
theorem ze_75 : zeroT Try.prog 75 = some (.agg [(.str []), (.str []), (.str []), (.str []), (.str []), (.str [])]) := by kernel_rfl
theorem l_zero_75 : (zeroT Try.prog 75).map V.cells = some [(.str []), (.str []), (.str []), (.str []), (.str []), (.str [])] := by rw [ze_75]; rfl
theorem sz_75 : szT Try.prog 75 = some 6 := by kernel_rfl
theorem l_store_75 (x y : V) (m : Hp) : storeV Try.prog 75 x y m = storeK 6 x y m := store_K sz_75 x y m
theorem l_indexAddr_75 (x i : V) : indexAddrV Try.prog 75 x i = indexAddrA 6 1 x i := indexAddrA_K Try.underlying75 sz_9 x i
theorem ag_75 : aggT Try.prog 75 = some true := by kernel_rfl
theorem l_load_75 (H : List LO) (x : V) : loadV Try.prog 75 H x = loadK true 6 H x := load_K ag_75 sz_75 H x
theorem l_build_75 (ps : List (Nat × V)) : buildQ Try.prog 75 ps = buildAK 1 [(.str []), (.str []), (.str []), (.str []), (.str []), (.str [])] ps := buildA_K Try.underlying75 ze_75 rfl sz_9 ps
abbrev n_main_main : FuncId := 0
abbrev n_gosem_cut : FuncId := 1
abbrev n_gosem_cut_init : FuncId := 2
abbrev n_entaillaw6_TokeLong : FuncId := 3
abbrev n_entaillaw6_TokeTells : FuncId := 4
abbrev n_entaillaw6_TokeParts : FuncId := 5
abbrev n_entaillaw6_TokeBytes : FuncId := 6
abbrev n_entaillaw2_TuplForms : FuncId := 7
abbrev n_entaillaw2_TuplParts : FuncId := 8
abbrev n_entaillaw2_TuplTells : FuncId := 9
abbrev n_entaillaw2_TuplBack : FuncId := 10
abbrev n_entaillaw2_TuplOrder : FuncId := 11
abbrev n_entaillaw1_AtomSplits : FuncId := 12
abbrev n_entaillaw1_AtomTells : FuncId := 13
abbrev n_entaillaw1_AtomBack : FuncId := 14
abbrev n_entaillaw1_AtomBounds : FuncId := 15
abbrev n_toke_Tokens : FuncId := 16
abbrev n_entaillaw6_awake : FuncId := 17
abbrev n_entailref6_Tokens : FuncId := 18
abbrev n_entaillaw6_Same : FuncId := 19
abbrev n_entaillaw6_Tame : FuncId := 20
abbrev n_entailref1_Find : FuncId := 21
abbrev n_tupl_Parse : FuncId := 22
abbrev n_tupl_Text : FuncId := 23
abbrev n_entaillaw2_awake : FuncId := 24
abbrev n_entaillaw1_Nm : FuncId := 25
abbrev n_tupl_Less : FuncId := 26
abbrev n_entaillaw2_Short : FuncId := 27
abbrev n_entailref1_Parse : FuncId := 28
abbrev n_tupl_Ok : FuncId := 29
abbrev n_entailref1_Ok : FuncId := 30
abbrev n_entailref1_Text : FuncId := 31
abbrev n_entailref1_Less : FuncId := 32
abbrev n_entaillaw2_Tame : FuncId := 33
abbrev n_atom_Split : FuncId := 34
abbrev n_entaillaw1_awake : FuncId := 35
abbrev n_entailref1_Split : FuncId := 36
abbrev n_atom_Name : FuncId := 37
abbrev n_entailref1_Name : FuncId := 38
abbrev n_atom_ID : FuncId := 39
abbrev n_entailref1_ID : FuncId := 40
abbrev n_atom_Join : FuncId := 41
abbrev n_entailref1_Join : FuncId := 42
abbrev n_entaillaw1_Tame : FuncId := 43
abbrev n_entailref1_Glue : FuncId := 44
abbrev n_toke_skip : FuncId := 45
abbrev n_toke_next : FuncId := 46
abbrev n_entailref6_part : FuncId := 47
abbrev n_strings_Cut : FuncId := 48
abbrev n_tupl_Compare : FuncId := 49
abbrev n_entailref1_six : FuncId := 50
abbrev n_atom_first : FuncId := 51
abbrev n_atom_plain : FuncId := 52
abbrev n_entailref1_alnum : FuncId := 53
abbrev n_strings_Join : FuncId := 54
abbrev n_strings_HasPrefix : FuncId := 55
abbrev n_strings_Index : FuncId := 56
abbrev n_strings_Contains : FuncId := 57
abbrev n_toke_row : FuncId := 58
abbrev n_internal_stringslite_Cut : FuncId := 59
abbrev n_cmp_Or_int : FuncId := 60
abbrev n_strings_Compare : FuncId := 61
abbrev n_strings_Builder_Grow : FuncId := 62
abbrev n_strings_Builder_WriteString : FuncId := 63
abbrev n_strings_Builder_String : FuncId := 64
abbrev n_internal_stringslite_HasPrefix : FuncId := 65
abbrev n_internal_stringslite_Index : FuncId := 66
abbrev n_toke_letter : FuncId := 67
abbrev n_internal_bytealg_CompareString : FuncId := 68
abbrev n_strings_Builder_copyCheck : FuncId := 69
abbrev n_strings_Builder_grow : FuncId := 70
abbrev n_internal_stringslite_IndexByte : FuncId := 71
abbrev n_internal_bytealg_IndexString : FuncId := 72
abbrev n_internal_bytealg_Cutover : FuncId := 73
abbrev n_internal_bytealg_IndexRabinKarp_string : FuncId := 74
abbrev n_internal_bytealg_abigen_runtime_cmpstring : FuncId := 75
abbrev n_internal_abi_NoEscape : FuncId := 76
abbrev n_internal_bytealg_MakeNoZero : FuncId := 77
abbrev n_internal_bytealg_IndexByteString : FuncId := 78
abbrev n_internal_bytealg_hashStr_string : FuncId := 79
abbrev n_runtime_boundsError_Error : FuncId := 80
abbrev n_runtime_boundsError_RuntimeError : FuncId := 81
abbrev n_runtime_errorString_Error : FuncId := 82
abbrev n_runtime_errorString_RuntimeError : FuncId := 83
abbrev n_runtime_plainError_Error : FuncId := 84
abbrev n_runtime_plainError_RuntimeError : FuncId := 85
abbrev n_runtime_errorAddressString_Error : FuncId := 86
abbrev n_runtime_errorAddressString_RuntimeError : FuncId := 87
abbrev n_runtime_TypeAssertionError_Error : FuncId := 88
abbrev n_runtime_TypeAssertionError_RuntimeError : FuncId := 89
abbrev n_runtime_PanicNilError_Error : FuncId := 90
abbrev n_runtime_PanicNilError_RuntimeError : FuncId := 91
abbrev n_internal_abi_Type_Align : FuncId := 92
abbrev n_internal_runtime_maps_unhashableTypeError_Error : FuncId := 93
abbrev n_internal_runtime_maps_unhashableTypeError_RuntimeError : FuncId := 94
abbrev n_api_Errno_Error : FuncId := 95
abbrev n_strings_Builder_Reset : FuncId := 96
abbrev n_internal_abi_Kind_String : FuncId := 97
end Go.Fbs

import Derived.Test.YtpdnpfdbjoaemaaGreatDoorS2
import Derived.Test.YtpdnpfdbjoaemaaGreatDoorRows
set_option linter.unusedSimpArgs false
set_option linter.unusedVariables false
set_option linter.unusedSectionVars false
namespace Go.Fbs
open Go.Proofs
theorem mixed : Tryz.prog.follows .mixedOrders = true:=by kernel_rfl
theorem ty_2 : TOk Tryz.prog ⟨2,(.int .i64),1,false,8,some [(.int .i64 0)],true⟩:=TOk.ofS Tryz.underlying2 (by kernel_rfl) (by kernel_rfl) (by kernel_rfl) (by kernel_rfl) rfl (fun _=>⟨by kernel_rfl,by kernel_rfl⟩)
theorem ty_3 : TOk Tryz.prog ⟨3,(.int .i64),1,false,8,some [(.int .i64 0)],true⟩:=TOk.ofS Tryz.underlying3 (by kernel_rfl) (by kernel_rfl) (by kernel_rfl) (by kernel_rfl) rfl (fun _=>⟨by kernel_rfl,by kernel_rfl⟩)
theorem ty_4 : TOk Tryz.prog ⟨4,.bool,1,false,1,some [(.bool false)],true⟩:=TOk.ofS Tryz.underlying4 (by kernel_rfl) (by kernel_rfl) (by kernel_rfl) (by kernel_rfl) rfl (fun _=>⟨by kernel_rfl,by kernel_rfl⟩)
theorem ty_5 : TOk Tryz.prog ⟨5,(.int .u8),1,false,1,some [(.int .u8 0)],true⟩:=TOk.ofS Tryz.underlying5 (by kernel_rfl) (by kernel_rfl) (by kernel_rfl) (by kernel_rfl) rfl (fun _=>⟨by kernel_rfl,by kernel_rfl⟩)
theorem ty_9 : TOk Tryz.prog ⟨9,.str,1,false,16,some [(.str [])],true⟩:=TOk.ofS Tryz.underlying9 (by kernel_rfl) (by kernel_rfl) (by kernel_rfl) (by kernel_rfl) rfl (fun _=>⟨by kernel_rfl,by kernel_rfl⟩)
theorem ty_21 : TOk Tryz.prog ⟨21,(.int .i32),1,false,4,some [(.int .i32 0)],true⟩:=TOk.ofS Tryz.underlying21 (by kernel_rfl) (by kernel_rfl) (by kernel_rfl) (by kernel_rfl) rfl (fun _=>⟨by kernel_rfl,by kernel_rfl⟩)
theorem ty_22 : TOk Tryz.prog ⟨22,(.sl 2),1,false,24,some [(.sl .full [])],false⟩:=TOk.ofS Tryz.underlying22 (by kernel_rfl) (by kernel_rfl) (by kernel_rfl) (by kernel_rfl) rfl noEq
theorem ty_23 : TOk Tryz.prog ⟨23,(.sl 28),1,false,24,some [(.sl .full [])],false⟩:=TOk.ofS Tryz.underlying23 (by kernel_rfl) (by kernel_rfl) (by kernel_rfl) (by kernel_rfl) rfl noEq
theorem ty_25 : TOk Tryz.prog ⟨25,(.st [(0,3),(1,23)]),2,true,32,some [(.int .i64 0),(.sl .full [])],true⟩:=TOk.ofA ⟨_,Tryz.underlying25,by kernel_rfl,by kernel_rfl⟩ (by kernel_rfl) (by kernel_rfl) (by kernel_rfl) (by kernel_rfl) (fun _=>⟨by kernel_rfl,by kernel_rfl⟩)
theorem ty_28 : TOk Tryz.prog ⟨28,(.st [(0,9),(1,3)]),2,true,24,some [(.str []),(.int .i64 0)],true⟩:=TOk.ofA ⟨_,Tryz.underlying28,by kernel_rfl,by kernel_rfl⟩ (by kernel_rfl) (by kernel_rfl) (by kernel_rfl) (by kernel_rfl) (fun _=>⟨by kernel_rfl,by kernel_rfl⟩)
theorem ty_29 : TOk Tryz.prog ⟨29,(.sl 9),1,false,24,some [(.sl .full [])],false⟩:=TOk.ofS Tryz.underlying29 (by kernel_rfl) (by kernel_rfl) (by kernel_rfl) (by kernel_rfl) rfl noEq
theorem ty_31 : TOk Tryz.prog ⟨31,(.st [(0,3),(1,9),(2,9),(3,9),(4,3),(5,29),(6,3)]),7,true,96,some [(.int .i64 0),(.str []),(.str []),(.str []),(.int .i64 0),(.sl .full []),(.int .i64 0)],true⟩:=TOk.ofA ⟨_,Tryz.underlying31,by kernel_rfl,by kernel_rfl⟩ (by kernel_rfl) (by kernel_rfl) (by kernel_rfl) (by kernel_rfl) (fun _=>⟨by kernel_rfl,by kernel_rfl⟩)
theorem ty_32 : TOk Tryz.prog ⟨32,(.int .i64),1,false,8,some [(.int .i64 0)],true⟩:=TOk.ofS Tryz.underlying32 (by kernel_rfl) (by kernel_rfl) (by kernel_rfl) (by kernel_rfl) rfl (fun _=>⟨by kernel_rfl,by kernel_rfl⟩)
theorem ty_38 : TOk Tryz.prog ⟨38,(.sl 31),1,false,24,some [(.sl .full [])],false⟩:=TOk.ofS Tryz.underlying38 (by kernel_rfl) (by kernel_rfl) (by kernel_rfl) (by kernel_rfl) rfl noEq
theorem ty_45 : TOk Tryz.prog ⟨45,(.sl 5),1,false,24,some [(.sl .full [])],false⟩:=TOk.ofS Tryz.underlying45 (by kernel_rfl) (by kernel_rfl) (by kernel_rfl) (by kernel_rfl) rfl noEq
theorem ty_49 : TOk Tryz.prog ⟨49,(.int .u64),1,false,8,some [(.int .u64 0)],true⟩:=TOk.ofS Tryz.underlying49 (by kernel_rfl) (by kernel_rfl) (by kernel_rfl) (by kernel_rfl) rfl (fun _=>⟨by kernel_rfl,by kernel_rfl⟩)
theorem ty_53 : TOk Tryz.prog ⟨53,(.st [(0,3),(1,3),(2,4),(3,3),(4,3)]),5,true,40,some [(.int .i64 0),(.int .i64 0),(.bool false),(.int .i64 0),(.int .i64 0)],true⟩:=TOk.ofA ⟨_,Tryz.underlying53,by kernel_rfl,by kernel_rfl⟩ (by kernel_rfl) (by kernel_rfl) (by kernel_rfl) (by kernel_rfl) (fun _=>⟨by kernel_rfl,by kernel_rfl⟩)
theorem ty_58 : TOk Tryz.prog ⟨58,.other,1,false,8,some [.nilp],false⟩:=TOk.ofS trivial (by kernel_rfl) (by kernel_rfl) (by kernel_rfl) (by kernel_rfl) rfl noEq
theorem ty_61 : TOk Tryz.prog ⟨61,(.sl 25),1,false,24,some [(.sl .full [])],false⟩:=TOk.ofS Tryz.underlying61 (by kernel_rfl) (by kernel_rfl) (by kernel_rfl) (by kernel_rfl) rfl noEq
theorem ty_67 : TOk Tryz.prog ⟨67,.other,1,false,8,some [.nilp],false⟩:=TOk.ofS trivial (by kernel_rfl) (by kernel_rfl) (by kernel_rfl) (by kernel_rfl) rfl noEq
theorem ty_69 : TOk Tryz.prog ⟨69,(.st [(0,67),(1,45)]),2,true,32,some [.nilp,(.sl .full [])],true⟩:=TOk.ofA ⟨_,Tryz.underlying69,by kernel_rfl,by kernel_rfl⟩ (by kernel_rfl) (by kernel_rfl) (by kernel_rfl) (by kernel_rfl) (fun _=>⟨by kernel_rfl,by kernel_rfl⟩)
theorem ty_71 : TOk Tryz.prog ⟨71,.other,1,false,16,none,false⟩:=TOk.ofN trivial (by kernel_rfl) (by kernel_rfl) (by kernel_rfl) noEq
theorem ty_78 : TOk Tryz.prog ⟨78,.other,1,false,8,none,false⟩:=TOk.ofN trivial (by kernel_rfl) (by kernel_rfl) (by kernel_rfl) noEq
theorem ty_90 : TOk Tryz.prog ⟨90,.other,1,false,8,some [.nilp],false⟩:=TOk.ofS trivial (by kernel_rfl) (by kernel_rfl) (by kernel_rfl) (by kernel_rfl) rfl noEq
theorem ty_95 : TOk Tryz.prog ⟨95,.other,1,false,8,some [.nilp],false⟩:=TOk.ofS trivial (by kernel_rfl) (by kernel_rfl) (by kernel_rfl) (by kernel_rfl) rfl noEq
theorem ty_97 : TOk Tryz.prog ⟨97,(.arr 9 9),9,true,144,some [(.str []),(.str []),(.str []),(.str []),(.str []),(.str []),(.str []),(.str []),(.str [])],false⟩:=TOk.ofA Tryz.underlying97 (by kernel_rfl) (by kernel_rfl) (by kernel_rfl) (by kernel_rfl) noEq
theorem ty_101 : TOk Tryz.prog ⟨101,(.arr 256 4),256,true,256,some [(.bool false),(.bool false),(.bool false),(.bool false),(.bool false),(.bool false),(.bool false),(.bool false),(.bool false),(.bool false),(.bool false),(.bool false),(.bool false),(.bool false),(.bool false),(.bool false),(.bool false),(.bool false),(.bool false),(.bool false),(.bool false),(.bool false),(.bool false),(.bool false),(.bool false),(.bool false),(.bool false),(.bool false),(.bool false),(.bool false),(.bool false),(.bool false),(.bool false),(.bool false),(.bool false),(.bool false),(.bool false),(.bool false),(.bool false),(.bool false),(.bool false),(.bool false),(.bool false),(.bool false),(.bool false),(.bool false),(.bool false),(.bool false),(.bool false),(.bool false),(.bool false),(.bool false),(.bool false),(.bool false),(.bool false),(.bool false),(.bool false),(.bool false),(.bool false),(.bool false),(.bool false),(.bool false),(.bool false),(.bool false),(.bool false),(.bool false),(.bool false),(.bool false),(.bool false),(.bool false),(.bool false),(.bool false),(.bool false),(.bool false),(.bool false),(.bool false),(.bool false),(.bool false),(.bool false),(.bool false),(.bool false),(.bool false),(.bool false),(.bool false),(.bool false),(.bool false),(.bool false),(.bool false),(.bool false),(.bool false),(.bool false),(.bool false),(.bool false),(.bool false),(.bool false),(.bool false),(.bool false),(.bool false),(.bool false),(.bool false),(.bool false),(.bool false),(.bool false),(.bool false),(.bool false),(.bool false),(.bool false),(.bool false),(.bool false),(.bool false),(.bool false),(.bool false),(.bool false),(.bool false),(.bool false),(.bool false),(.bool false),(.bool false),(.bool false),(.bool false),(.bool false),(.bool false),(.bool false),(.bool false),(.bool false),(.bool false),(.bool false),(.bool false),(.bool false),(.bool false),(.bool false),(.bool false),(.bool false),(.bool false),(.bool false),(.bool false),(.bool false),(.bool false),(.bool false),(.bool false),(.bool false),(.bool false),(.bool false),(.bool false),(.bool false),(.bool false),(.bool false),(.bool false),(.bool false),(.bool false),(.bool false),(.bool false),(.bool false),(.bool false),(.bool false),(.bool false),(.bool false),(.bool false),(.bool false),(.bool false),(.bool false),(.bool false),(.bool false),(.bool false),(.bool false),(.bool false),(.bool false),(.bool false),(.bool false),(.bool false),(.bool false),(.bool false),(.bool false),(.bool false),(.bool false),(.bool false),(.bool false),(.bool false),(.bool false),(.bool false),(.bool false),(.bool false),(.bool false),(.bool false),(.bool false),(.bool false),(.bool false),(.bool false),(.bool false),(.bool false),(.bool false),(.bool false),(.bool false),(.bool false),(.bool false),(.bool false),(.bool false),(.bool false),(.bool false),(.bool false),(.bool false),(.bool false),(.bool false),(.bool false),(.bool false),(.bool false),(.bool false),(.bool false),(.bool false),(.bool false),(.bool false),(.bool false),(.bool false),(.bool false),(.bool false),(.bool false),(.bool false),(.bool false),(.bool false),(.bool false),(.bool false),(.bool false),(.bool false),(.bool false),(.bool false),(.bool false),(.bool false),(.bool false),(.bool false),(.bool false),(.bool false),(.bool false),(.bool false),(.bool false),(.bool false),(.bool false),(.bool false),(.bool false),(.bool false),(.bool false),(.bool false),(.bool false),(.bool false),(.bool false),(.bool false),(.bool false),(.bool false),(.bool false),(.bool false),(.bool false),(.bool false),(.bool false),(.bool false),(.bool false),(.bool false),(.bool false)],false⟩:=TOk.ofA Tryz.underlying101 (by kernel_rfl) (by kernel_rfl) (by kernel_rfl) (by kernel_rfl) noEq
theorem ty_105 : TOk Tryz.prog ⟨105,.other,1,false,8,some [.nilp],false⟩:=TOk.ofS trivial (by kernel_rfl) (by kernel_rfl) (by kernel_rfl) (by kernel_rfl) rfl noEq
abbrev n_entaillaw13_RoleTells : FuncId:=3
abbrev n_entaillaw13_awake : FuncId:=5
abbrev n_role_Fact : FuncId:=6
abbrev n_entailref13_Fact : FuncId:=7
abbrev n_entaillaw13_SameAt : FuncId:=8
abbrev n_role_Parse : FuncId:=9
abbrev n_entailref13_Parse : FuncId:=10
abbrev n_entaillaw12_Tame : FuncId:=11
abbrev n_entaillaw13_File : FuncId:=12
abbrev n_role_Text : FuncId:=13
abbrev n_entailref13_SameFacts : FuncId:=14
abbrev n_entailref1_Name : FuncId:=15
abbrev n_role_formOf : FuncId:=16
abbrev n_role_form_fill : FuncId:=17
abbrev n_entailref13_words : FuncId:=18
abbrev n_entailref13_number : FuncId:=19
abbrev n_line_Lines : FuncId:=20
abbrev n_entailref1_Lines : FuncId:=21
abbrev n_entaillaw13_Line : FuncId:=22
abbrev n_strings_Builder_WriteString : FuncId:=23
abbrev n_role_told : FuncId:=24
abbrev n_strings_Builder_Len : FuncId:=25
abbrev n_strings_Builder_String : FuncId:=26
abbrev n_slices_EqualFunc_api_Fact_api_Fact_api_Fact_api_Fact : FuncId:=27
abbrev n_role_same : FuncId:=28
abbrev n_entailref1_SameTexts : FuncId:=29
abbrev n_entailref1_alnum : FuncId:=30
abbrev n_role_number : FuncId:=31
abbrev n_atom_Name : FuncId:=32
abbrev n_line_bare : FuncId:=35
abbrev n_line_wrong : FuncId:=36
abbrev n_line_words : FuncId:=37
abbrev n_entailref1_words : FuncId:=38
abbrev n_entaillaw1_Nm : FuncId:=39
abbrev n_strings_Builder_copyCheck : FuncId:=40
abbrev n_role_keyword : FuncId:=41
abbrev n_strconv_Itoa : FuncId:=42
abbrev n_line_Join : FuncId:=43
abbrev n_slices_Equal_string_string : FuncId:=44
abbrev n_strings_Trim : FuncId:=45
abbrev n_strconv_Atoi : FuncId:=46
abbrev n_atom_first : FuncId:=47
abbrev n_atom_plain : FuncId:=48
abbrev n_strings_TrimSuffix : FuncId:=53
abbrev n_strings_Contains : FuncId:=54
abbrev n_strings_IndexByte : FuncId:=55
abbrev n_strings_Join : FuncId:=58
abbrev x_role_form_fill : FuncId:=1000000
def s_x_role_form_fill : Sig:=⟨2,[.v,.b 0 [.pl,.pl,.pl,.pl,.pl,.gr 3 false,.pl],.v],[]⟩
abbrev x_strings_Builder_copyCheck : FuncId:=1000001
def s_x_strings_Builder_copyCheck : Sig:=⟨0,[.b 0 [.self 69,.gr 1 false]],[]⟩
abbrev x_strings_Builder_WriteString : FuncId:=1000002
def s_x_strings_Builder_WriteString : Sig:=⟨2,[.b 0 [.self 69,.gr 1 false],.v],[]⟩
abbrev x_strings_Builder_String : FuncId:=1000004
def s_x_strings_Builder_String : Sig:=⟨1,[.b 0 [.self 69,.gr 1 false]],[]⟩
abbrev x_strings_Builder_Len : FuncId:=1000005
def s_x_strings_Builder_Len : Sig:=⟨1,[.b 0 [.self 69,.gr 1 false]],[]⟩
def tyT : TT:=⟨[⟨2,(.int .i64),1,false,8,some [(.int .i64 0)],true⟩,
 ⟨3,(.int .i64),1,false,8,some [(.int .i64 0)],true⟩,
 ⟨4,.bool,1,false,1,some [(.bool false)],true⟩,
 ⟨5,(.int .u8),1,false,1,some [(.int .u8 0)],true⟩,
 ⟨9,.str,1,false,16,some [(.str [])],true⟩,
 ⟨21,(.int .i32),1,false,4,some [(.int .i32 0)],true⟩,
 ⟨22,(.sl 2),1,false,24,some [(.sl .full [])],false⟩,
 ⟨23,(.sl 28),1,false,24,some [(.sl .full [])],false⟩,
 ⟨25,(.st [(0,3),(1,23)]),2,true,32,some [(.int .i64 0),(.sl .full [])],true⟩,
 ⟨28,(.st [(0,9),(1,3)]),2,true,24,some [(.str []),(.int .i64 0)],true⟩,
 ⟨29,(.sl 9),1,false,24,some [(.sl .full [])],false⟩,
 ⟨31,(.st [(0,3),(1,9),(2,9),(3,9),(4,3),(5,29),(6,3)]),7,true,96,some [(.int .i64 0),(.str []),(.str []),(.str []),(.int .i64 0),(.sl .full []),(.int .i64 0)],true⟩,
 ⟨32,(.int .i64),1,false,8,some [(.int .i64 0)],true⟩,
 ⟨38,(.sl 31),1,false,24,some [(.sl .full [])],false⟩,
 ⟨45,(.sl 5),1,false,24,some [(.sl .full [])],false⟩,
 ⟨49,(.int .u64),1,false,8,some [(.int .u64 0)],true⟩,
 ⟨53,(.st [(0,3),(1,3),(2,4),(3,3),(4,3)]),5,true,40,some [(.int .i64 0),(.int .i64 0),(.bool false),(.int .i64 0),(.int .i64 0)],true⟩,
 ⟨58,.other,1,false,8,some [.nilp],false⟩,
 ⟨61,(.sl 25),1,false,24,some [(.sl .full [])],false⟩,
 ⟨67,.other,1,false,8,some [.nilp],false⟩,
 ⟨69,(.st [(0,67),(1,45)]),2,true,32,some [.nilp,(.sl .full [])],true⟩,
 ⟨71,.other,1,false,16,none,false⟩,
 ⟨78,.other,1,false,8,none,false⟩,
 ⟨90,.other,1,false,8,some [.nilp],false⟩,
 ⟨95,.other,1,false,8,some [.nilp],false⟩,
 ⟨97,(.arr 9 9),9,true,144,some [(.str []),(.str []),(.str []),(.str []),(.str []),(.str []),(.str []),(.str []),(.str [])],false⟩,
 ⟨101,(.arr 256 4),256,true,256,some [(.bool false),(.bool false),(.bool false),(.bool false),(.bool false),(.bool false),(.bool false),(.bool false),(.bool false),(.bool false),(.bool false),(.bool false),(.bool false),(.bool false),(.bool false),(.bool false),(.bool false),(.bool false),(.bool false),(.bool false),(.bool false),(.bool false),(.bool false),(.bool false),(.bool false),(.bool false),(.bool false),(.bool false),(.bool false),(.bool false),(.bool false),(.bool false),(.bool false),(.bool false),(.bool false),(.bool false),(.bool false),(.bool false),(.bool false),(.bool false),(.bool false),(.bool false),(.bool false),(.bool false),(.bool false),(.bool false),(.bool false),(.bool false),(.bool false),(.bool false),(.bool false),(.bool false),(.bool false),(.bool false),(.bool false),(.bool false),(.bool false),(.bool false),(.bool false),(.bool false),(.bool false),(.bool false),(.bool false),(.bool false),(.bool false),(.bool false),(.bool false),(.bool false),(.bool false),(.bool false),(.bool false),(.bool false),(.bool false),(.bool false),(.bool false),(.bool false),(.bool false),(.bool false),(.bool false),(.bool false),(.bool false),(.bool false),(.bool false),(.bool false),(.bool false),(.bool false),(.bool false),(.bool false),(.bool false),(.bool false),(.bool false),(.bool false),(.bool false),(.bool false),(.bool false),(.bool false),(.bool false),(.bool false),(.bool false),(.bool false),(.bool false),(.bool false),(.bool false),(.bool false),(.bool false),(.bool false),(.bool false),(.bool false),(.bool false),(.bool false),(.bool false),(.bool false),(.bool false),(.bool false),(.bool false),(.bool false),(.bool false),(.bool false),(.bool false),(.bool false),(.bool false),(.bool false),(.bool false),(.bool false),(.bool false),(.bool false),(.bool false),(.bool false),(.bool false),(.bool false),(.bool false),(.bool false),(.bool false),(.bool false),(.bool false),(.bool false),(.bool false),(.bool false),(.bool false),(.bool false),(.bool false),(.bool false),(.bool false),(.bool false),(.bool false),(.bool false),(.bool false),(.bool false),(.bool false),(.bool false),(.bool false),(.bool false),(.bool false),(.bool false),(.bool false),(.bool false),(.bool false),(.bool false),(.bool false),(.bool false),(.bool false),(.bool false),(.bool false),(.bool false),(.bool false),(.bool false),(.bool false),(.bool false),(.bool false),(.bool false),(.bool false),(.bool false),(.bool false),(.bool false),(.bool false),(.bool false),(.bool false),(.bool false),(.bool false),(.bool false),(.bool false),(.bool false),(.bool false),(.bool false),(.bool false),(.bool false),(.bool false),(.bool false),(.bool false),(.bool false),(.bool false),(.bool false),(.bool false),(.bool false),(.bool false),(.bool false),(.bool false),(.bool false),(.bool false),(.bool false),(.bool false),(.bool false),(.bool false),(.bool false),(.bool false),(.bool false),(.bool false),(.bool false),(.bool false),(.bool false),(.bool false),(.bool false),(.bool false),(.bool false),(.bool false),(.bool false),(.bool false),(.bool false),(.bool false),(.bool false),(.bool false),(.bool false),(.bool false),(.bool false),(.bool false),(.bool false),(.bool false),(.bool false),(.bool false),(.bool false),(.bool false),(.bool false),(.bool false),(.bool false),(.bool false),(.bool false),(.bool false),(.bool false),(.bool false),(.bool false),(.bool false),(.bool false),(.bool false),(.bool false),(.bool false),(.bool false),(.bool false),(.bool false),(.bool false),(.bool false),(.bool false),(.bool false),(.bool false),(.bool false),(.bool false),(.bool false)],false⟩,
 ⟨105,.other,1,false,8,some [.nilp],false⟩],[(1000000,(17,s_x_role_form_fill)),(1000001,(40,s_x_strings_Builder_copyCheck)),(1000002,(23,s_x_strings_Builder_WriteString)),(1000004,(26,s_x_strings_Builder_String)),(1000005,(25,s_x_strings_Builder_Len))],[]⟩
theorem tyOk : ∀ t ti,tiOf tyT t = some ti → TOk Tryz.prog ti ∧ ti.t = t:=TOk.tab (TOk.cons ty_2 (TOk.cons ty_3 (TOk.cons ty_4 (TOk.cons ty_5 (TOk.cons ty_9 (TOk.cons ty_21 (TOk.cons ty_22 (TOk.cons ty_23 (TOk.cons ty_25 (TOk.cons ty_28 (TOk.cons ty_29 (TOk.cons ty_31 (TOk.cons ty_32 (TOk.cons ty_38 (TOk.cons ty_45 (TOk.cons ty_49 (TOk.cons ty_53 (TOk.cons ty_58 (TOk.cons ty_61 (TOk.cons ty_67 (TOk.cons ty_69 (TOk.cons ty_71 (TOk.cons ty_78 (TOk.cons ty_90 (TOk.cons ty_95 (TOk.cons ty_97 (TOk.cons ty_101 (TOk.cons ty_105 (TOk.nil)))))))))))))))))))))))))))))
end Go.Fbs

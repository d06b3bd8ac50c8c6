import Derived.Test.YtpdnpfdbjoaemaaDoorS2
import Derived.Test.YtpdnpfdbjoaemaaDoorRows
namespace Go.Fbs
open Go.Proofs
theorem mixed : Tryd.prog.follows .mixedOrders = true:=by kernel_rfl
theorem ty_3 : TOk Tryd.prog ⟨3,(.int .i64),1,false,8,some [(.int .i64 0)],true⟩:=TOk.ofS Tryd.underlying3 (by kernel_rfl) (by kernel_rfl) (by kernel_rfl) (by kernel_rfl) rfl (fun _=>⟨by kernel_rfl,by kernel_rfl⟩)
theorem ty_4 : TOk Tryd.prog ⟨4,.bool,1,false,1,some [(.bool false)],true⟩:=TOk.ofS Tryd.underlying4 (by kernel_rfl) (by kernel_rfl) (by kernel_rfl) (by kernel_rfl) rfl (fun _=>⟨by kernel_rfl,by kernel_rfl⟩)
theorem ty_5 : TOk Tryd.prog ⟨5,(.int .u8),1,false,1,some [(.int .u8 0)],true⟩:=TOk.ofS Tryd.underlying5 (by kernel_rfl) (by kernel_rfl) (by kernel_rfl) (by kernel_rfl) rfl (fun _=>⟨by kernel_rfl,by kernel_rfl⟩)
theorem ty_9 : TOk Tryd.prog ⟨9,.str,1,false,16,some [(.str [])],true⟩:=TOk.ofS Tryd.underlying9 (by kernel_rfl) (by kernel_rfl) (by kernel_rfl) (by kernel_rfl) rfl (fun _=>⟨by kernel_rfl,by kernel_rfl⟩)
theorem ty_21 : TOk Tryd.prog ⟨21,(.int .i32),1,false,4,some [(.int .i32 0)],true⟩:=TOk.ofS Tryd.underlying21 (by kernel_rfl) (by kernel_rfl) (by kernel_rfl) (by kernel_rfl) rfl (fun _=>⟨by kernel_rfl,by kernel_rfl⟩)
theorem ty_22 : TOk Tryd.prog ⟨22,(.sl 36),1,false,24,some [(.sl .full [])],false⟩:=TOk.ofS Tryd.underlying22 (by kernel_rfl) (by kernel_rfl) (by kernel_rfl) (by kernel_rfl) rfl noEq
theorem ty_23 : TOk Tryd.prog ⟨23,(.int .i64),1,false,8,some [(.int .i64 0)],true⟩:=TOk.ofS Tryd.underlying23 (by kernel_rfl) (by kernel_rfl) (by kernel_rfl) (by kernel_rfl) rfl (fun _=>⟨by kernel_rfl,by kernel_rfl⟩)
theorem ty_28 : TOk Tryd.prog ⟨28,(.sl 33),1,false,24,some [(.sl .full [])],false⟩:=TOk.ofS Tryd.underlying28 (by kernel_rfl) (by kernel_rfl) (by kernel_rfl) (by kernel_rfl) rfl noEq
theorem ty_31 : TOk Tryd.prog ⟨31,(.sl 49),1,false,24,some [(.sl .full [])],false⟩:=TOk.ofS Tryd.underlying31 (by kernel_rfl) (by kernel_rfl) (by kernel_rfl) (by kernel_rfl) rfl noEq
theorem ty_33 : TOk Tryd.prog ⟨33,(.st [(0,3),(1,31)]),2,true,32,some [(.int .i64 0),(.sl .full [])],true⟩:=TOk.ofA ⟨_,Tryd.underlying33,by kernel_rfl,by kernel_rfl⟩ (by kernel_rfl) (by kernel_rfl) (by kernel_rfl) (by kernel_rfl) (fun _=>⟨by kernel_rfl,by kernel_rfl⟩)
theorem ty_34 : TOk Tryd.prog ⟨34,(.sl 9),1,false,24,some [(.sl .full [])],false⟩:=TOk.ofS Tryd.underlying34 (by kernel_rfl) (by kernel_rfl) (by kernel_rfl) (by kernel_rfl) rfl noEq
theorem ty_36 : TOk Tryd.prog ⟨36,(.st [(0,3),(1,9),(2,9),(3,9),(4,3),(5,34),(6,3)]),7,true,96,some [(.int .i64 0),(.str []),(.str []),(.str []),(.int .i64 0),(.sl .full []),(.int .i64 0)],true⟩:=TOk.ofA ⟨_,Tryd.underlying36,by kernel_rfl,by kernel_rfl⟩ (by kernel_rfl) (by kernel_rfl) (by kernel_rfl) (by kernel_rfl) (fun _=>⟨by kernel_rfl,by kernel_rfl⟩)
theorem ty_49 : TOk Tryd.prog ⟨49,(.st [(0,9),(1,3)]),2,true,24,some [(.str []),(.int .i64 0)],true⟩:=TOk.ofA ⟨_,Tryd.underlying49,by kernel_rfl,by kernel_rfl⟩ (by kernel_rfl) (by kernel_rfl) (by kernel_rfl) (by kernel_rfl) (fun _=>⟨by kernel_rfl,by kernel_rfl⟩)
theorem ty_51 : TOk Tryd.prog ⟨51,(.st [(0,3),(1,3),(2,4),(3,3),(4,3)]),5,true,40,some [(.int .i64 0),(.int .i64 0),(.bool false),(.int .i64 0),(.int .i64 0)],true⟩:=TOk.ofA ⟨_,Tryd.underlying51,by kernel_rfl,by kernel_rfl⟩ (by kernel_rfl) (by kernel_rfl) (by kernel_rfl) (by kernel_rfl) (fun _=>⟨by kernel_rfl,by kernel_rfl⟩)
theorem ty_56 : TOk Tryd.prog ⟨56,.other,1,false,8,some [.nilp],false⟩:=TOk.ofS trivial (by kernel_rfl) (by kernel_rfl) (by kernel_rfl) (by kernel_rfl) rfl noEq
theorem ty_57 : TOk Tryd.prog ⟨57,.other,1,false,8,some [.nilp],false⟩:=TOk.ofS trivial (by kernel_rfl) (by kernel_rfl) (by kernel_rfl) (by kernel_rfl) rfl noEq
theorem ty_58 : TOk Tryd.prog ⟨58,(.sl 5),1,false,24,some [(.sl .full [])],false⟩:=TOk.ofS Tryd.underlying58 (by kernel_rfl) (by kernel_rfl) (by kernel_rfl) (by kernel_rfl) rfl noEq
theorem ty_60 : TOk Tryd.prog ⟨60,(.st [(0,57),(1,58)]),2,true,32,some [.nilp,(.sl .full [])],true⟩:=TOk.ofA ⟨_,Tryd.underlying60,by kernel_rfl,by kernel_rfl⟩ (by kernel_rfl) (by kernel_rfl) (by kernel_rfl) (by kernel_rfl) (fun _=>⟨by kernel_rfl,by kernel_rfl⟩)
theorem ty_62 : TOk Tryd.prog ⟨62,.other,1,false,16,none,false⟩:=TOk.ofN trivial (by kernel_rfl) (by kernel_rfl) (by kernel_rfl) noEq
theorem ty_69 : TOk Tryd.prog ⟨69,.other,1,false,8,none,false⟩:=TOk.ofN trivial (by kernel_rfl) (by kernel_rfl) (by kernel_rfl) noEq
theorem ty_79 : TOk Tryd.prog ⟨79,.other,1,false,8,some [.nilp],false⟩:=TOk.ofS trivial (by kernel_rfl) (by kernel_rfl) (by kernel_rfl) (by kernel_rfl) rfl noEq
theorem ty_84 : TOk Tryd.prog ⟨84,.other,1,false,8,some [.nilp],false⟩:=TOk.ofS trivial (by kernel_rfl) (by kernel_rfl) (by kernel_rfl) (by kernel_rfl) rfl noEq
theorem ty_86 : TOk Tryd.prog ⟨86,(.arr 9 9),9,true,144,some [(.str []),(.str []),(.str []),(.str []),(.str []),(.str []),(.str []),(.str []),(.str [])],false⟩:=TOk.ofA Tryd.underlying86 (by kernel_rfl) (by kernel_rfl) (by kernel_rfl) (by kernel_rfl) noEq
theorem ty_92 : TOk Tryd.prog ⟨92,(.arr 256 4),256,true,256,some [(.bool false),(.bool false),(.bool false),(.bool false),(.bool false),(.bool false),(.bool false),(.bool false),(.bool false),(.bool false),(.bool false),(.bool false),(.bool false),(.bool false),(.bool false),(.bool false),(.bool false),(.bool false),(.bool false),(.bool false),(.bool false),(.bool false),(.bool false),(.bool false),(.bool false),(.bool false),(.bool false),(.bool false),(.bool false),(.bool false),(.bool false),(.bool false),(.bool false),(.bool false),(.bool false),(.bool false),(.bool false),(.bool false),(.bool false),(.bool false),(.bool false),(.bool false),(.bool false),(.bool false),(.bool false),(.bool false),(.bool false),(.bool false),(.bool false),(.bool false),(.bool false),(.bool false),(.bool false),(.bool false),(.bool false),(.bool false),(.bool false),(.bool false),(.bool false),(.bool false),(.bool false),(.bool false),(.bool false),(.bool false),(.bool false),(.bool false),(.bool false),(.bool false),(.bool false),(.bool false),(.bool false),(.bool false),(.bool false),(.bool false),(.bool false),(.bool false),(.bool false),(.bool false),(.bool false),(.bool false),(.bool false),(.bool false),(.bool false),(.bool false),(.bool false),(.bool false),(.bool false),(.bool false),(.bool false),(.bool false),(.bool false),(.bool false),(.bool false),(.bool false),(.bool false),(.bool false),(.bool false),(.bool false),(.bool false),(.bool false),(.bool false),(.bool false),(.bool false),(.bool false),(.bool false),(.bool false),(.bool false),(.bool false),(.bool false),(.bool false),(.bool false),(.bool false),(.bool false),(.bool false),(.bool false),(.bool false),(.bool false),(.bool false),(.bool false),(.bool false),(.bool false),(.bool false),(.bool false),(.bool false),(.bool false),(.bool false),(.bool false),(.bool false),(.bool false),(.bool false),(.bool false),(.bool false),(.bool false),(.bool false),(.bool false),(.bool false),(.bool false),(.bool false),(.bool false),(.bool false),(.bool false),(.bool false),(.bool false),(.bool false),(.bool false),(.bool false),(.bool false),(.bool false),(.bool false),(.bool false),(.bool false),(.bool false),(.bool false),(.bool false),(.bool false),(.bool false),(.bool false),(.bool false),(.bool false),(.bool false),(.bool false),(.bool false),(.bool false),(.bool false),(.bool false),(.bool false),(.bool false),(.bool false),(.bool false),(.bool false),(.bool false),(.bool false),(.bool false),(.bool false),(.bool false),(.bool false),(.bool false),(.bool false),(.bool false),(.bool false),(.bool false),(.bool false),(.bool false),(.bool false),(.bool false),(.bool false),(.bool false),(.bool false),(.bool false),(.bool false),(.bool false),(.bool false),(.bool false),(.bool false),(.bool false),(.bool false),(.bool false),(.bool false),(.bool false),(.bool false),(.bool false),(.bool false),(.bool false),(.bool false),(.bool false),(.bool false),(.bool false),(.bool false),(.bool false),(.bool false),(.bool false),(.bool false),(.bool false),(.bool false),(.bool false),(.bool false),(.bool false),(.bool false),(.bool false),(.bool false),(.bool false),(.bool false),(.bool false),(.bool false),(.bool false),(.bool false),(.bool false),(.bool false),(.bool false),(.bool false),(.bool false),(.bool false),(.bool false),(.bool false),(.bool false),(.bool false),(.bool false),(.bool false),(.bool false),(.bool false),(.bool false),(.bool false),(.bool false),(.bool false),(.bool false),(.bool false),(.bool false),(.bool false),(.bool false),(.bool false),(.bool false),(.bool false),(.bool false),(.bool false),(.bool false),(.bool false)],false⟩:=TOk.ofA Tryd.underlying92 (by kernel_rfl) (by kernel_rfl) (by kernel_rfl) (by kernel_rfl) noEq
theorem ty_96 : TOk Tryd.prog ⟨96,.other,1,false,8,some [.nilp],false⟩:=TOk.ofS trivial (by kernel_rfl) (by kernel_rfl) (by kernel_rfl) (by kernel_rfl) rfl noEq
abbrev n_entaillaw13_RoleBounds : FuncId:=3
abbrev n_role_Parse : FuncId:=4
abbrev n_entaillaw13_awake : FuncId:=5
abbrev n_line_Lines : FuncId:=6
abbrev n_role_Fact : FuncId:=7
abbrev n_role_Text : FuncId:=8
abbrev n_line_bare : FuncId:=11
abbrev n_line_wrong : FuncId:=12
abbrev n_line_words : FuncId:=13
abbrev n_role_formOf : FuncId:=14
abbrev n_role_form_fill : FuncId:=15
abbrev n_strings_Builder_WriteString : FuncId:=16
abbrev n_role_told : FuncId:=17
abbrev n_strings_Builder_Len : FuncId:=18
abbrev n_strings_Builder_String : FuncId:=19
abbrev n_slices_EqualFunc_api_Fact_api_Fact_api_Fact_api_Fact : FuncId:=20
abbrev n_role_same : FuncId:=21
abbrev n_strings_TrimSuffix : FuncId:=26
abbrev n_strings_Contains : FuncId:=27
abbrev n_strings_IndexByte : FuncId:=28
abbrev n_role_number : FuncId:=29
abbrev n_atom_Name : FuncId:=30
abbrev n_strings_Builder_copyCheck : FuncId:=31
abbrev n_role_keyword : FuncId:=32
abbrev n_strconv_Itoa : FuncId:=33
abbrev n_line_Join : FuncId:=34
abbrev n_slices_Equal_string_string : FuncId:=35
abbrev n_strings_Trim : FuncId:=41
abbrev n_strconv_Atoi : FuncId:=42
abbrev n_atom_first : FuncId:=43
abbrev n_atom_plain : FuncId:=44
abbrev n_strings_Join : FuncId:=47
abbrev x_role_form_fill : FuncId:=1000000
def s_x_role_form_fill : Sig:=⟨2,[.v,.b 0 [.pl,.pl,.pl,.pl,.pl,.gr 3 false,.pl],.v],[]⟩
abbrev x_strings_Builder_copyCheck : FuncId:=1000001
def s_x_strings_Builder_copyCheck : Sig:=⟨0,[.b 0 [.self 60,.gr 1 false]],[]⟩
abbrev x_strings_Builder_WriteString : FuncId:=1000002
def s_x_strings_Builder_WriteString : Sig:=⟨2,[.b 0 [.self 60,.gr 1 false],.v],[]⟩
abbrev x_strings_Builder_String : FuncId:=1000004
def s_x_strings_Builder_String : Sig:=⟨1,[.b 0 [.self 60,.gr 1 false]],[]⟩
abbrev x_strings_Builder_Len : FuncId:=1000005
def s_x_strings_Builder_Len : Sig:=⟨1,[.b 0 [.self 60,.gr 1 false]],[]⟩
def tyT : TT:=⟨[⟨3,(.int .i64),1,false,8,some [(.int .i64 0)],true⟩,
 ⟨4,.bool,1,false,1,some [(.bool false)],true⟩,
 ⟨5,(.int .u8),1,false,1,some [(.int .u8 0)],true⟩,
 ⟨9,.str,1,false,16,some [(.str [])],true⟩,
 ⟨21,(.int .i32),1,false,4,some [(.int .i32 0)],true⟩,
 ⟨22,(.sl 36),1,false,24,some [(.sl .full [])],false⟩,
 ⟨23,(.int .i64),1,false,8,some [(.int .i64 0)],true⟩,
 ⟨28,(.sl 33),1,false,24,some [(.sl .full [])],false⟩,
 ⟨31,(.sl 49),1,false,24,some [(.sl .full [])],false⟩,
 ⟨33,(.st [(0,3),(1,31)]),2,true,32,some [(.int .i64 0),(.sl .full [])],true⟩,
 ⟨34,(.sl 9),1,false,24,some [(.sl .full [])],false⟩,
 ⟨36,(.st [(0,3),(1,9),(2,9),(3,9),(4,3),(5,34),(6,3)]),7,true,96,some [(.int .i64 0),(.str []),(.str []),(.str []),(.int .i64 0),(.sl .full []),(.int .i64 0)],true⟩,
 ⟨49,(.st [(0,9),(1,3)]),2,true,24,some [(.str []),(.int .i64 0)],true⟩,
 ⟨51,(.st [(0,3),(1,3),(2,4),(3,3),(4,3)]),5,true,40,some [(.int .i64 0),(.int .i64 0),(.bool false),(.int .i64 0),(.int .i64 0)],true⟩,
 ⟨56,.other,1,false,8,some [.nilp],false⟩,
 ⟨57,.other,1,false,8,some [.nilp],false⟩,
 ⟨58,(.sl 5),1,false,24,some [(.sl .full [])],false⟩,
 ⟨60,(.st [(0,57),(1,58)]),2,true,32,some [.nilp,(.sl .full [])],true⟩,
 ⟨62,.other,1,false,16,none,false⟩,
 ⟨69,.other,1,false,8,none,false⟩,
 ⟨79,.other,1,false,8,some [.nilp],false⟩,
 ⟨84,.other,1,false,8,some [.nilp],false⟩,
 ⟨86,(.arr 9 9),9,true,144,some [(.str []),(.str []),(.str []),(.str []),(.str []),(.str []),(.str []),(.str []),(.str [])],false⟩,
 ⟨92,(.arr 256 4),256,true,256,some [(.bool false),(.bool false),(.bool false),(.bool false),(.bool false),(.bool false),(.bool false),(.bool false),(.bool false),(.bool false),(.bool false),(.bool false),(.bool false),(.bool false),(.bool false),(.bool false),(.bool false),(.bool false),(.bool false),(.bool false),(.bool false),(.bool false),(.bool false),(.bool false),(.bool false),(.bool false),(.bool false),(.bool false),(.bool false),(.bool false),(.bool false),(.bool false),(.bool false),(.bool false),(.bool false),(.bool false),(.bool false),(.bool false),(.bool false),(.bool false),(.bool false),(.bool false),(.bool false),(.bool false),(.bool false),(.bool false),(.bool false),(.bool false),(.bool false),(.bool false),(.bool false),(.bool false),(.bool false),(.bool false),(.bool false),(.bool false),(.bool false),(.bool false),(.bool false),(.bool false),(.bool false),(.bool false),(.bool false),(.bool false),(.bool false),(.bool false),(.bool false),(.bool false),(.bool false),(.bool false),(.bool false),(.bool false),(.bool false),(.bool false),(.bool false),(.bool false),(.bool false),(.bool false),(.bool false),(.bool false),(.bool false),(.bool false),(.bool false),(.bool false),(.bool false),(.bool false),(.bool false),(.bool false),(.bool false),(.bool false),(.bool false),(.bool false),(.bool false),(.bool false),(.bool false),(.bool false),(.bool false),(.bool false),(.bool false),(.bool false),(.bool false),(.bool false),(.bool false),(.bool false),(.bool false),(.bool false),(.bool false),(.bool false),(.bool false),(.bool false),(.bool false),(.bool false),(.bool false),(.bool false),(.bool false),(.bool false),(.bool false),(.bool false),(.bool false),(.bool false),(.bool false),(.bool false),(.bool false),(.bool false),(.bool false),(.bool false),(.bool false),(.bool false),(.bool false),(.bool false),(.bool false),(.bool false),(.bool false),(.bool false),(.bool false),(.bool false),(.bool false),(.bool false),(.bool false),(.bool false),(.bool false),(.bool false),(.bool false),(.bool false),(.bool false),(.bool false),(.bool false),(.bool false),(.bool false),(.bool false),(.bool false),(.bool false),(.bool false),(.bool false),(.bool false),(.bool false),(.bool false),(.bool false),(.bool false),(.bool false),(.bool false),(.bool false),(.bool false),(.bool false),(.bool false),(.bool false),(.bool false),(.bool false),(.bool false),(.bool false),(.bool false),(.bool false),(.bool false),(.bool false),(.bool false),(.bool false),(.bool false),(.bool false),(.bool false),(.bool false),(.bool false),(.bool false),(.bool false),(.bool false),(.bool false),(.bool false),(.bool false),(.bool false),(.bool false),(.bool false),(.bool false),(.bool false),(.bool false),(.bool false),(.bool false),(.bool false),(.bool false),(.bool false),(.bool false),(.bool false),(.bool false),(.bool false),(.bool false),(.bool false),(.bool false),(.bool false),(.bool false),(.bool false),(.bool false),(.bool false),(.bool false),(.bool false),(.bool false),(.bool false),(.bool false),(.bool false),(.bool false),(.bool false),(.bool false),(.bool false),(.bool false),(.bool false),(.bool false),(.bool false),(.bool false),(.bool false),(.bool false),(.bool false),(.bool false),(.bool false),(.bool false),(.bool false),(.bool false),(.bool false),(.bool false),(.bool false),(.bool false),(.bool false),(.bool false),(.bool false),(.bool false),(.bool false),(.bool false),(.bool false),(.bool false),(.bool false),(.bool false),(.bool false),(.bool false),(.bool false),(.bool false),(.bool false),(.bool false),(.bool false),(.bool false),(.bool false)],false⟩,
 ⟨96,.other,1,false,8,some [.nilp],false⟩],[(1000000,(15,s_x_role_form_fill)),(1000001,(31,s_x_strings_Builder_copyCheck)),(1000002,(16,s_x_strings_Builder_WriteString)),(1000004,(19,s_x_strings_Builder_String)),(1000005,(18,s_x_strings_Builder_Len))],[]⟩
theorem tyOk : ∀ t ti,tiOf tyT t = some ti → TOk Tryd.prog ti ∧ ti.t = t:=TOk.tab (TOk.cons ty_3 (TOk.cons ty_4 (TOk.cons ty_5 (TOk.cons ty_9 (TOk.cons ty_21 (TOk.cons ty_22 (TOk.cons ty_23 (TOk.cons ty_28 (TOk.cons ty_31 (TOk.cons ty_33 (TOk.cons ty_34 (TOk.cons ty_36 (TOk.cons ty_49 (TOk.cons ty_51 (TOk.cons ty_56 (TOk.cons ty_57 (TOk.cons ty_58 (TOk.cons ty_60 (TOk.cons ty_62 (TOk.cons ty_69 (TOk.cons ty_79 (TOk.cons ty_84 (TOk.cons ty_86 (TOk.cons ty_92 (TOk.cons ty_96 (TOk.nil))))))))))))))))))))))))))
end Go.Fbs

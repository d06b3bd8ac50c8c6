import Derived.Test.YthakklikgmcgdaaGreatDoorS2
import Derived.Test.YthakklikgmcgdaaGreatDoorRows
set_option linter.unusedSimpArgs false
set_option linter.unusedVariables false
set_option linter.unusedSectionVars false
namespace Go.Fbs
open Go.Proofs
theorem mixed : Tryz.prog.follows .mixedOrders = true:=by kernel_rfl
theorem ty_1 : TOk Tryz.prog ⟨1,.other,1,false,8,none,false⟩:=TOk.ofN trivial (by kernel_rfl) (by kernel_rfl) (by kernel_rfl) noEq
theorem ty_2 : TOk Tryz.prog ⟨2,(.int .i64),1,false,8,some [(.int .i64 0)],true⟩:=TOk.ofS Tryz.underlying2 (by kernel_rfl) (by kernel_rfl) (by kernel_rfl) (by kernel_rfl) rfl (fun _=>⟨by kernel_rfl,by kernel_rfl⟩)
theorem ty_3 : TOk Tryz.prog ⟨3,(.int .i64),1,false,8,some [(.int .i64 0)],true⟩:=TOk.ofS Tryz.underlying3 (by kernel_rfl) (by kernel_rfl) (by kernel_rfl) (by kernel_rfl) rfl (fun _=>⟨by kernel_rfl,by kernel_rfl⟩)
theorem ty_4 : TOk Tryz.prog ⟨4,.bool,1,false,1,some [(.bool false)],true⟩:=TOk.ofS Tryz.underlying4 (by kernel_rfl) (by kernel_rfl) (by kernel_rfl) (by kernel_rfl) rfl (fun _=>⟨by kernel_rfl,by kernel_rfl⟩)
theorem ty_5 : TOk Tryz.prog ⟨5,(.int .u8),1,false,1,some [(.int .u8 0)],true⟩:=TOk.ofS Tryz.underlying5 (by kernel_rfl) (by kernel_rfl) (by kernel_rfl) (by kernel_rfl) rfl (fun _=>⟨by kernel_rfl,by kernel_rfl⟩)
theorem ty_9 : TOk Tryz.prog ⟨9,.str,1,false,16,some [(.str [])],true⟩:=TOk.ofS Tryz.underlying9 (by kernel_rfl) (by kernel_rfl) (by kernel_rfl) (by kernel_rfl) rfl (fun _=>⟨by kernel_rfl,by kernel_rfl⟩)
theorem ty_23 : TOk Tryz.prog ⟨23,(.sl 9),1,false,24,some [(.sl .full [])],false⟩:=TOk.ofS Tryz.underlying23 (by kernel_rfl) (by kernel_rfl) (by kernel_rfl) (by kernel_rfl) rfl noEq
theorem ty_24 : TOk Tryz.prog ⟨24,(.int .u64),1,false,8,some [(.int .u64 0)],true⟩:=TOk.ofS Tryz.underlying24 (by kernel_rfl) (by kernel_rfl) (by kernel_rfl) (by kernel_rfl) rfl (fun _=>⟨by kernel_rfl,by kernel_rfl⟩)
theorem ty_25 : TOk Tryz.prog ⟨25,(.sl 27),1,false,24,some [(.sl .full [])],false⟩:=TOk.ofS Tryz.underlying25 (by kernel_rfl) (by kernel_rfl) (by kernel_rfl) (by kernel_rfl) rfl noEq
theorem ty_27 : TOk Tryz.prog ⟨27,(.st [(0,3),(1,9),(2,23),(3,25)]),4,true,72,some [(.int .i64 0),(.str []),(.sl .full []),(.sl .full [])],true⟩:=TOk.ofA ⟨_,Tryz.underlying27,by kernel_rfl,by kernel_rfl⟩ (by kernel_rfl) (by kernel_rfl) (by kernel_rfl) (by kernel_rfl) (fun _=>⟨by kernel_rfl,by kernel_rfl⟩)
theorem ty_28 : TOk Tryz.prog ⟨28,(.int .i64),1,false,8,some [(.int .i64 0)],true⟩:=TOk.ofS Tryz.underlying28 (by kernel_rfl) (by kernel_rfl) (by kernel_rfl) (by kernel_rfl) rfl (fun _=>⟨by kernel_rfl,by kernel_rfl⟩)
theorem ty_35 : TOk Tryz.prog ⟨35,(.sl 2),1,false,24,some [(.sl .full [])],false⟩:=TOk.ofS Tryz.underlying35 (by kernel_rfl) (by kernel_rfl) (by kernel_rfl) (by kernel_rfl) rfl noEq
theorem ty_43 : TOk Tryz.prog ⟨43,(.sl 5),1,false,24,some [(.sl .full [])],false⟩:=TOk.ofS Tryz.underlying43 (by kernel_rfl) (by kernel_rfl) (by kernel_rfl) (by kernel_rfl) rfl noEq
theorem ty_48 : TOk Tryz.prog ⟨48,.other,1,false,8,some [.nilp],false⟩:=TOk.ofS trivial (by kernel_rfl) (by kernel_rfl) (by kernel_rfl) (by kernel_rfl) rfl noEq
theorem ty_50 : TOk Tryz.prog ⟨50,(.st [(0,9),(1,3),(2,3),(3,28),(4,3)]),5,true,48,some [(.str []),(.int .i64 0),(.int .i64 0),(.int .i64 0),(.int .i64 0)],true⟩:=TOk.ofA ⟨_,Tryz.underlying50,by kernel_rfl,by kernel_rfl⟩ (by kernel_rfl) (by kernel_rfl) (by kernel_rfl) (by kernel_rfl) (fun _=>⟨by kernel_rfl,by kernel_rfl⟩)
theorem ty_53 : TOk Tryz.prog ⟨53,.other,1,false,8,some [.nilp],false⟩:=TOk.ofS trivial (by kernel_rfl) (by kernel_rfl) (by kernel_rfl) (by kernel_rfl) rfl noEq
theorem ty_55 : TOk Tryz.prog ⟨55,(.st [(0,53),(1,43)]),2,true,32,some [.nilp,(.sl .full [])],true⟩:=TOk.ofA ⟨_,Tryz.underlying55,by kernel_rfl,by kernel_rfl⟩ (by kernel_rfl) (by kernel_rfl) (by kernel_rfl) (by kernel_rfl) (fun _=>⟨by kernel_rfl,by kernel_rfl⟩)
theorem ty_58 : TOk Tryz.prog ⟨58,.other,1,false,8,some [.nilp],false⟩:=TOk.ofS trivial (by kernel_rfl) (by kernel_rfl) (by kernel_rfl) (by kernel_rfl) rfl noEq
theorem ty_60 : TOk Tryz.prog ⟨60,(.st [(0,9),(1,3),(2,3),(3,3),(4,3)]),5,true,48,some [(.str []),(.int .i64 0),(.int .i64 0),(.int .i64 0),(.int .i64 0)],true⟩:=TOk.ofA ⟨_,Tryz.underlying60,by kernel_rfl,by kernel_rfl⟩ (by kernel_rfl) (by kernel_rfl) (by kernel_rfl) (by kernel_rfl) (fun _=>⟨by kernel_rfl,by kernel_rfl⟩)
theorem ty_74 : TOk Tryz.prog ⟨74,.other,1,false,8,none,false⟩:=TOk.ofN trivial (by kernel_rfl) (by kernel_rfl) (by kernel_rfl) noEq
theorem ty_83 : TOk Tryz.prog ⟨83,(.arr 256 4),256,true,256,some [(.bool false),(.bool false),(.bool false),(.bool false),(.bool false),(.bool false),(.bool false),(.bool false),(.bool false),(.bool false),(.bool false),(.bool false),(.bool false),(.bool false),(.bool false),(.bool false),(.bool false),(.bool false),(.bool false),(.bool false),(.bool false),(.bool false),(.bool false),(.bool false),(.bool false),(.bool false),(.bool false),(.bool false),(.bool false),(.bool false),(.bool false),(.bool false),(.bool false),(.bool false),(.bool false),(.bool false),(.bool false),(.bool false),(.bool false),(.bool false),(.bool false),(.bool false),(.bool false),(.bool false),(.bool false),(.bool false),(.bool false),(.bool false),(.bool false),(.bool false),(.bool false),(.bool false),(.bool false),(.bool false),(.bool false),(.bool false),(.bool false),(.bool false),(.bool false),(.bool false),(.bool false),(.bool false),(.bool false),(.bool false),(.bool false),(.bool false),(.bool false),(.bool false),(.bool false),(.bool false),(.bool false),(.bool false),(.bool false),(.bool false),(.bool false),(.bool false),(.bool false),(.bool false),(.bool false),(.bool false),(.bool false),(.bool false),(.bool false),(.bool false),(.bool false),(.bool false),(.bool false),(.bool false),(.bool false),(.bool false),(.bool false),(.bool false),(.bool false),(.bool false),(.bool false),(.bool false),(.bool false),(.bool false),(.bool false),(.bool false),(.bool false),(.bool false),(.bool false),(.bool false),(.bool false),(.bool false),(.bool false),(.bool false),(.bool false),(.bool false),(.bool false),(.bool false),(.bool false),(.bool false),(.bool false),(.bool false),(.bool false),(.bool false),(.bool false),(.bool false),(.bool false),(.bool false),(.bool false),(.bool false),(.bool false),(.bool false),(.bool false),(.bool false),(.bool false),(.bool false),(.bool false),(.bool false),(.bool false),(.bool false),(.bool false),(.bool false),(.bool false),(.bool false),(.bool false),(.bool false),(.bool false),(.bool false),(.bool false),(.bool false),(.bool false),(.bool false),(.bool false),(.bool false),(.bool false),(.bool false),(.bool false),(.bool false),(.bool false),(.bool false),(.bool false),(.bool false),(.bool false),(.bool false),(.bool false),(.bool false),(.bool false),(.bool false),(.bool false),(.bool false),(.bool false),(.bool false),(.bool false),(.bool false),(.bool false),(.bool false),(.bool false),(.bool false),(.bool false),(.bool false),(.bool false),(.bool false),(.bool false),(.bool false),(.bool false),(.bool false),(.bool false),(.bool false),(.bool false),(.bool false),(.bool false),(.bool false),(.bool false),(.bool false),(.bool false),(.bool false),(.bool false),(.bool false),(.bool false),(.bool false),(.bool false),(.bool false),(.bool false),(.bool false),(.bool false),(.bool false),(.bool false),(.bool false),(.bool false),(.bool false),(.bool false),(.bool false),(.bool false),(.bool false),(.bool false),(.bool false),(.bool false),(.bool false),(.bool false),(.bool false),(.bool false),(.bool false),(.bool false),(.bool false),(.bool false),(.bool false),(.bool false),(.bool false),(.bool false),(.bool false),(.bool false),(.bool false),(.bool false),(.bool false),(.bool false),(.bool false),(.bool false),(.bool false),(.bool false),(.bool false),(.bool false),(.bool false),(.bool false),(.bool false),(.bool false),(.bool false),(.bool false),(.bool false),(.bool false),(.bool false),(.bool false),(.bool false),(.bool false),(.bool false),(.bool false),(.bool false),(.bool false),(.bool false),(.bool false),(.bool false),(.bool false),(.bool false)],false⟩:=TOk.ofA Tryz.underlying83 (by kernel_rfl) (by kernel_rfl) (by kernel_rfl) (by kernel_rfl) noEq
theorem ty_87 : TOk Tryz.prog ⟨87,.other,1,false,8,some [.nilp],false⟩:=TOk.ofS trivial (by kernel_rfl) (by kernel_rfl) (by kernel_rfl) (by kernel_rfl) rfl noEq
theorem ty_88 : TOk Tryz.prog ⟨88,.other,1,false,8,none,false⟩:=TOk.ofN trivial (by kernel_rfl) (by kernel_rfl) (by kernel_rfl) noEq
abbrev n_entaillaw22_JsonBack : FuncId:=5
abbrev n_json_Parse : FuncId:=7
abbrev n_json_Text : FuncId:=8
abbrev n_entaillaw22_awake : FuncId:=9
abbrev n_entailref22_SameJson : FuncId:=11
abbrev n_entaillaw22_Tame : FuncId:=12
abbrev n_entaillaw22_Made : FuncId:=13
abbrev n_entailref22_Text : FuncId:=14
abbrev n_json_Get : FuncId:=15
abbrev n_json_parser_skip : FuncId:=16
abbrev n_json_parser_value : FuncId:=17
abbrev n_json_parser_fail : FuncId:=18
abbrev n_json_Same : FuncId:=21
abbrev n_entailref1_SameTexts : FuncId:=25
abbrev n_entaillaw22_Text : FuncId:=26
abbrev n_entailref22_quote : FuncId:=27
abbrev n_entailref1_Glue : FuncId:=28
abbrev n_strings_TrimLeft : FuncId:=29
abbrev n_json_parser_here : FuncId:=30
abbrev n_json_parser_list : FuncId:=32
abbrev n_json_parser_text : FuncId:=33
abbrev n_json_parser_word : FuncId:=34
abbrev n_json_parser_number : FuncId:=35
abbrev n_json_parser_need : FuncId:=55
abbrev n_json_escape : FuncId:=57
abbrev n_json_parser_run : FuncId:=58
abbrev n_json_short : FuncId:=66
abbrev n_strings_Trim : FuncId:=67
abbrev n_strings_ToLower : FuncId:=68
abbrev n_strconv_ParseInt : FuncId:=69
abbrev n_strings_IndexByte : FuncId:=74
abbrev x_json_parser_skip : FuncId:=1000000
def s_x_json_parser_skip : Sig:=⟨0,[.b 0 [.pl,.pl,.pl,.pl,.pl]],[]⟩
abbrev x_json_parser_here : FuncId:=1000001
def s_x_json_parser_here : Sig:=⟨1,[.b 0 [.pl,.pl,.pl,.pl,.pl]],[]⟩
abbrev x_json_parser_fail : FuncId:=1000002
def s_x_json_parser_fail : Sig:=⟨0,[.b 0 [.pl,.pl,.pl,.pl,.pl],.v,.v],[]⟩
abbrev x_json_parser_run : FuncId:=1000003
def s_x_json_parser_run : Sig:=⟨0,[.b 0 [.pl,.pl,.pl,.pl,.pl]],[]⟩
abbrev x_json_parser_number : FuncId:=1000004
def s_x_json_parser_number : Sig:=⟨1,[.b 0 [.pl,.pl,.pl,.pl,.pl]],[]⟩
abbrev x_json_parser_list : FuncId:=1000005
def s_x_json_parser_list : Sig:=⟨1,[.b 0 [.pl,.pl,.pl,.pl,.pl]],[]⟩
abbrev x_json_parser_object : FuncId:=1000006
def s_x_json_parser_object : Sig:=⟨1,[.b 0 [.pl,.pl,.pl,.pl,.pl]],[]⟩
abbrev x_json_parser_value : FuncId:=1000007
def s_x_json_parser_value : Sig:=⟨1,[.b 0 [.pl,.pl,.pl,.pl,.pl]],[]⟩
abbrev x_json_parser_need : FuncId:=1000008
def s_x_json_parser_need : Sig:=⟨1,[.b 0 [.pl,.pl,.pl,.pl,.pl],.v],[]⟩
abbrev x_json_parser_word : FuncId:=1000009
def s_x_json_parser_word : Sig:=⟨1,[.b 0 [.pl,.pl,.pl,.pl,.pl],.v,.v],[]⟩
abbrev x_json_parser_text : FuncId:=1000010
def s_x_json_parser_text : Sig:=⟨1,[.b 0 [.pl,.pl,.pl,.pl,.pl]],[]⟩
def s_x_strings_Builder_copyCheck : Sig:=⟨0,[.b 0 [.self 55,.gr 1 false]],[]⟩
def s_x_strings_Builder_WriteString : Sig:=⟨2,[.b 0 [.self 55,.gr 1 false],.v],[]⟩
def s_x_strings_Builder_WriteByte : Sig:=⟨1,[.b 0 [.self 55,.gr 1 false],.v],[]⟩
def s_x_strings_Builder_String : Sig:=⟨1,[.b 0 [.self 55,.gr 1 false]],[]⟩
def s_x_strings_Builder_Len : Sig:=⟨1,[.b 0 [.self 55,.gr 1 false]],[]⟩
def s_x_json_quoted : Sig:=⟨0,[.b 0 [.self 55,.gr 1 false],.v],[]⟩
def s_x_json_told : Sig:=⟨0,[.b 0 [.self 55,.gr 1 false],.v,.v],[]⟩
def tyT : TT:=⟨[⟨1,.other,1,false,8,none,false⟩,
 ⟨2,(.int .i64),1,false,8,some [(.int .i64 0)],true⟩,
 ⟨3,(.int .i64),1,false,8,some [(.int .i64 0)],true⟩,
 ⟨4,.bool,1,false,1,some [(.bool false)],true⟩,
 ⟨5,(.int .u8),1,false,1,some [(.int .u8 0)],true⟩,
 ⟨9,.str,1,false,16,some [(.str [])],true⟩,
 ⟨23,(.sl 9),1,false,24,some [(.sl .full [])],false⟩,
 ⟨24,(.int .u64),1,false,8,some [(.int .u64 0)],true⟩,
 ⟨25,(.sl 27),1,false,24,some [(.sl .full [])],false⟩,
 ⟨27,(.st [(0,3),(1,9),(2,23),(3,25)]),4,true,72,some [(.int .i64 0),(.str []),(.sl .full []),(.sl .full [])],true⟩,
 ⟨28,(.int .i64),1,false,8,some [(.int .i64 0)],true⟩,
 ⟨35,(.sl 2),1,false,24,some [(.sl .full [])],false⟩,
 ⟨43,(.sl 5),1,false,24,some [(.sl .full [])],false⟩,
 ⟨48,.other,1,false,8,some [.nilp],false⟩,
 ⟨50,(.st [(0,9),(1,3),(2,3),(3,28),(4,3)]),5,true,48,some [(.str []),(.int .i64 0),(.int .i64 0),(.int .i64 0),(.int .i64 0)],true⟩,
 ⟨53,.other,1,false,8,some [.nilp],false⟩,
 ⟨55,(.st [(0,53),(1,43)]),2,true,32,some [.nilp,(.sl .full [])],true⟩,
 ⟨58,.other,1,false,8,some [.nilp],false⟩,
 ⟨60,(.st [(0,9),(1,3),(2,3),(3,3),(4,3)]),5,true,48,some [(.str []),(.int .i64 0),(.int .i64 0),(.int .i64 0),(.int .i64 0)],true⟩,
 ⟨74,.other,1,false,8,none,false⟩,
 ⟨83,(.arr 256 4),256,true,256,some [(.bool false),(.bool false),(.bool false),(.bool false),(.bool false),(.bool false),(.bool false),(.bool false),(.bool false),(.bool false),(.bool false),(.bool false),(.bool false),(.bool false),(.bool false),(.bool false),(.bool false),(.bool false),(.bool false),(.bool false),(.bool false),(.bool false),(.bool false),(.bool false),(.bool false),(.bool false),(.bool false),(.bool false),(.bool false),(.bool false),(.bool false),(.bool false),(.bool false),(.bool false),(.bool false),(.bool false),(.bool false),(.bool false),(.bool false),(.bool false),(.bool false),(.bool false),(.bool false),(.bool false),(.bool false),(.bool false),(.bool false),(.bool false),(.bool false),(.bool false),(.bool false),(.bool false),(.bool false),(.bool false),(.bool false),(.bool false),(.bool false),(.bool false),(.bool false),(.bool false),(.bool false),(.bool false),(.bool false),(.bool false),(.bool false),(.bool false),(.bool false),(.bool false),(.bool false),(.bool false),(.bool false),(.bool false),(.bool false),(.bool false),(.bool false),(.bool false),(.bool false),(.bool false),(.bool false),(.bool false),(.bool false),(.bool false),(.bool false),(.bool false),(.bool false),(.bool false),(.bool false),(.bool false),(.bool false),(.bool false),(.bool false),(.bool false),(.bool false),(.bool false),(.bool false),(.bool false),(.bool false),(.bool false),(.bool false),(.bool false),(.bool false),(.bool false),(.bool false),(.bool false),(.bool false),(.bool false),(.bool false),(.bool false),(.bool false),(.bool false),(.bool false),(.bool false),(.bool false),(.bool false),(.bool false),(.bool false),(.bool false),(.bool false),(.bool false),(.bool false),(.bool false),(.bool false),(.bool false),(.bool false),(.bool false),(.bool false),(.bool false),(.bool false),(.bool false),(.bool false),(.bool false),(.bool false),(.bool false),(.bool false),(.bool false),(.bool false),(.bool false),(.bool false),(.bool false),(.bool false),(.bool false),(.bool false),(.bool false),(.bool false),(.bool false),(.bool false),(.bool false),(.bool false),(.bool false),(.bool false),(.bool false),(.bool false),(.bool false),(.bool false),(.bool false),(.bool false),(.bool false),(.bool false),(.bool false),(.bool false),(.bool false),(.bool false),(.bool false),(.bool false),(.bool false),(.bool false),(.bool false),(.bool false),(.bool false),(.bool false),(.bool false),(.bool false),(.bool false),(.bool false),(.bool false),(.bool false),(.bool false),(.bool false),(.bool false),(.bool false),(.bool false),(.bool false),(.bool false),(.bool false),(.bool false),(.bool false),(.bool false),(.bool false),(.bool false),(.bool false),(.bool false),(.bool false),(.bool false),(.bool false),(.bool false),(.bool false),(.bool false),(.bool false),(.bool false),(.bool false),(.bool false),(.bool false),(.bool false),(.bool false),(.bool false),(.bool false),(.bool false),(.bool false),(.bool false),(.bool false),(.bool false),(.bool false),(.bool false),(.bool false),(.bool false),(.bool false),(.bool false),(.bool false),(.bool false),(.bool false),(.bool false),(.bool false),(.bool false),(.bool false),(.bool false),(.bool false),(.bool false),(.bool false),(.bool false),(.bool false),(.bool false),(.bool false),(.bool false),(.bool false),(.bool false),(.bool false),(.bool false),(.bool false),(.bool false),(.bool false),(.bool false),(.bool false),(.bool false),(.bool false),(.bool false),(.bool false),(.bool false),(.bool false),(.bool false),(.bool false),(.bool false),(.bool false),(.bool false),(.bool false),(.bool false),(.bool false)],false⟩,
 ⟨87,.other,1,false,8,some [.nilp],false⟩,
 ⟨88,.other,1,false,8,none,false⟩],[(1000000,(16,s_x_json_parser_skip)),(1000001,(30,s_x_json_parser_here)),(1000002,(18,s_x_json_parser_fail)),(1000003,(58,s_x_json_parser_run)),(1000004,(35,s_x_json_parser_number)),(1000005,(32,s_x_json_parser_list)),(1000006,(31,s_x_json_parser_object)),(1000007,(17,s_x_json_parser_value)),(1000008,(55,s_x_json_parser_need)),(1000009,(34,s_x_json_parser_word)),(1000010,(33,s_x_json_parser_text)),(1000011,(59,s_x_strings_Builder_copyCheck)),(1000012,(37,s_x_strings_Builder_WriteString)),(1000013,(42,s_x_strings_Builder_WriteByte)),(1000014,(20,s_x_strings_Builder_String)),(1000015,(36,s_x_strings_Builder_Len)),(1000016,(38,s_x_json_quoted)),(1000017,(19,s_x_json_told))],[]⟩
theorem tyOk : ∀ t ti,tiOf tyT t = some ti → TOk Tryz.prog ti ∧ ti.t = t:=TOk.tab (TOk.cons ty_1 (TOk.cons ty_2 (TOk.cons ty_3 (TOk.cons ty_4 (TOk.cons ty_5 (TOk.cons ty_9 (TOk.cons ty_23 (TOk.cons ty_24 (TOk.cons ty_25 (TOk.cons ty_27 (TOk.cons ty_28 (TOk.cons ty_35 (TOk.cons ty_43 (TOk.cons ty_48 (TOk.cons ty_50 (TOk.cons ty_53 (TOk.cons ty_55 (TOk.cons ty_58 (TOk.cons ty_60 (TOk.cons ty_74 (TOk.cons ty_83 (TOk.cons ty_87 (TOk.cons ty_88 (TOk.nil))))))))))))))))))))))))
end Go.Fbs

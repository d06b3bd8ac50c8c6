import Derived.Test.YtnmcilaebamncaaS2
import Derived.Test.YtnmcilaebamncaaRows
namespace Go.Fbs
open Go.Proofs
theorem mixed : Try.prog.follows .mixedOrders = true:=by kernel_rfl
theorem ty_2 : TOk Try.prog ⟨2,(.int .i64),1,false,8,some [(.int .i64 0)],true⟩:=TOk.ofS Try.underlying2 (by kernel_rfl) (by kernel_rfl) (by kernel_rfl) (by kernel_rfl) rfl (fun _=>⟨by kernel_rfl,by kernel_rfl⟩)
theorem ty_3 : TOk Try.prog ⟨3,(.int .i64),1,false,8,some [(.int .i64 0)],true⟩:=TOk.ofS Try.underlying3 (by kernel_rfl) (by kernel_rfl) (by kernel_rfl) (by kernel_rfl) rfl (fun _=>⟨by kernel_rfl,by kernel_rfl⟩)
theorem ty_4 : TOk Try.prog ⟨4,.bool,1,false,1,some [(.bool false)],true⟩:=TOk.ofS Try.underlying4 (by kernel_rfl) (by kernel_rfl) (by kernel_rfl) (by kernel_rfl) rfl (fun _=>⟨by kernel_rfl,by kernel_rfl⟩)
theorem ty_5 : TOk Try.prog ⟨5,(.int .u8),1,false,1,some [(.int .u8 0)],true⟩:=TOk.ofS Try.underlying5 (by kernel_rfl) (by kernel_rfl) (by kernel_rfl) (by kernel_rfl) rfl (fun _=>⟨by kernel_rfl,by kernel_rfl⟩)
theorem ty_9 : TOk Try.prog ⟨9,.str,1,false,16,some [(.str [])],true⟩:=TOk.ofS Try.underlying9 (by kernel_rfl) (by kernel_rfl) (by kernel_rfl) (by kernel_rfl) rfl (fun _=>⟨by kernel_rfl,by kernel_rfl⟩)
theorem ty_22 : TOk Try.prog ⟨22,(.sl 2),1,false,24,some [(.sl .full [])],false⟩:=TOk.ofS Try.underlying22 (by kernel_rfl) (by kernel_rfl) (by kernel_rfl) (by kernel_rfl) rfl noEq
theorem ty_23 : TOk Try.prog ⟨23,(.sl 35),1,false,24,some [(.sl .full [])],false⟩:=TOk.ofS Try.underlying23 (by kernel_rfl) (by kernel_rfl) (by kernel_rfl) (by kernel_rfl) rfl noEq
theorem ty_27 : TOk Try.prog ⟨27,(.st [(0,9),(1,9)]),2,true,32,some [(.str []),(.str [])],true⟩:=TOk.ofA ⟨_,Try.underlying27,by kernel_rfl,by kernel_rfl⟩ (by kernel_rfl) (by kernel_rfl) (by kernel_rfl) (by kernel_rfl) (fun _=>⟨by kernel_rfl,by kernel_rfl⟩)
theorem ty_29 : TOk Try.prog ⟨29,(.st [(0,9),(1,9),(2,9)]),3,true,48,some [(.str []),(.str []),(.str [])],true⟩:=TOk.ofA ⟨_,Try.underlying29,by kernel_rfl,by kernel_rfl⟩ (by kernel_rfl) (by kernel_rfl) (by kernel_rfl) (by kernel_rfl) (fun _=>⟨by kernel_rfl,by kernel_rfl⟩)
theorem ty_31 : TOk Try.prog ⟨31,(.st [(0,27),(2,9),(3,29)]),6,true,96,some [(.str []),(.str []),(.str []),(.str []),(.str []),(.str [])],true⟩:=TOk.ofA ⟨_,Try.underlying31,by kernel_rfl,by kernel_rfl⟩ (by kernel_rfl) (by kernel_rfl) (by kernel_rfl) (by kernel_rfl) (fun _=>⟨by kernel_rfl,by kernel_rfl⟩)
theorem ty_33 : TOk Try.prog ⟨33,(.sl 39),1,false,24,some [(.sl .full [])],false⟩:=TOk.ofS Try.underlying33 (by kernel_rfl) (by kernel_rfl) (by kernel_rfl) (by kernel_rfl) rfl noEq
theorem ty_35 : TOk Try.prog ⟨35,(.st [(0,9),(1,33)]),2,true,40,some [(.str []),(.sl .full [])],true⟩:=TOk.ofA ⟨_,Try.underlying35,by kernel_rfl,by kernel_rfl⟩ (by kernel_rfl) (by kernel_rfl) (by kernel_rfl) (by kernel_rfl) (fun _=>⟨by kernel_rfl,by kernel_rfl⟩)
theorem ty_36 : TOk Try.prog ⟨36,(.sl 29),1,false,24,some [(.sl .full [])],false⟩:=TOk.ofS Try.underlying36 (by kernel_rfl) (by kernel_rfl) (by kernel_rfl) (by kernel_rfl) rfl noEq
theorem ty_37 : TOk Try.prog ⟨37,(.sl 125),1,false,24,some [(.sl .full [])],false⟩:=TOk.ofS Try.underlying37 (by kernel_rfl) (by kernel_rfl) (by kernel_rfl) (by kernel_rfl) rfl noEq
theorem ty_39 : TOk Try.prog ⟨39,(.st [(0,9),(1,36),(2,37)]),3,true,64,some [(.str []),(.sl .full []),(.sl .full [])],true⟩:=TOk.ofA ⟨_,Try.underlying39,by kernel_rfl,by kernel_rfl⟩ (by kernel_rfl) (by kernel_rfl) (by kernel_rfl) (by kernel_rfl) (fun _=>⟨by kernel_rfl,by kernel_rfl⟩)
theorem ty_44 : TOk Try.prog ⟨44,(.int .i64),1,false,8,some [(.int .i64 0)],true⟩:=TOk.ofS Try.underlying44 (by kernel_rfl) (by kernel_rfl) (by kernel_rfl) (by kernel_rfl) rfl (fun _=>⟨by kernel_rfl,by kernel_rfl⟩)
theorem ty_51 : TOk Try.prog ⟨51,(.st [(0,9),(1,3),(2,44)]),3,true,32,some [(.str []),(.int .i64 0),(.int .i64 0)],true⟩:=TOk.ofA ⟨_,Try.underlying51,by kernel_rfl,by kernel_rfl⟩ (by kernel_rfl) (by kernel_rfl) (by kernel_rfl) (by kernel_rfl) (fun _=>⟨by kernel_rfl,by kernel_rfl⟩)
theorem ty_52 : TOk Try.prog ⟨52,(.sl 51),1,false,24,some [(.sl .full [])],false⟩:=TOk.ofS Try.underlying52 (by kernel_rfl) (by kernel_rfl) (by kernel_rfl) (by kernel_rfl) rfl noEq
theorem ty_57 : TOk Try.prog ⟨57,(.sl 9),1,false,24,some [(.sl .full [])],false⟩:=TOk.ofS Try.underlying57 (by kernel_rfl) (by kernel_rfl) (by kernel_rfl) (by kernel_rfl) rfl noEq
theorem ty_59 : TOk Try.prog ⟨59,(.int .u64),1,false,8,some [(.int .u64 0)],true⟩:=TOk.ofS Try.underlying59 (by kernel_rfl) (by kernel_rfl) (by kernel_rfl) (by kernel_rfl) rfl (fun _=>⟨by kernel_rfl,by kernel_rfl⟩)
theorem ty_61 : TOk Try.prog ⟨61,.other,1,false,8,none,false⟩:=TOk.ofN trivial (by kernel_rfl) (by kernel_rfl) (by kernel_rfl) noEq
theorem ty_63 : TOk Try.prog ⟨63,.other,1,false,8,none,false⟩:=TOk.ofN trivial (by kernel_rfl) (by kernel_rfl) (by kernel_rfl) noEq
theorem ty_69 : TOk Try.prog ⟨69,(.sl 97),1,false,24,some [(.sl .full [])],false⟩:=TOk.ofS Try.underlying69 (by kernel_rfl) (by kernel_rfl) (by kernel_rfl) (by kernel_rfl) rfl noEq
theorem ty_72 : TOk Try.prog ⟨72,.other,1,false,8,some [.nilp],false⟩:=TOk.ofS trivial (by kernel_rfl) (by kernel_rfl) (by kernel_rfl) (by kernel_rfl) rfl noEq
theorem ty_74 : TOk Try.prog ⟨74,(.st [(0,69),(1,3),(2,3),(3,44),(4,3),(5,37)]),6,true,80,some [(.sl .full []),(.int .i64 0),(.int .i64 0),(.int .i64 0),(.int .i64 0),(.sl .full [])],true⟩:=TOk.ofA ⟨_,Try.underlying74,by kernel_rfl,by kernel_rfl⟩ (by kernel_rfl) (by kernel_rfl) (by kernel_rfl) (by kernel_rfl) (fun _=>⟨by kernel_rfl,by kernel_rfl⟩)
theorem ty_77 : TOk Try.prog ⟨77,.other,1,false,8,some [.nilp],false⟩:=TOk.ofS trivial (by kernel_rfl) (by kernel_rfl) (by kernel_rfl) (by kernel_rfl) rfl noEq
theorem ty_78 : TOk Try.prog ⟨78,(.sl 5),1,false,24,some [(.sl .full [])],false⟩:=TOk.ofS Try.underlying78 (by kernel_rfl) (by kernel_rfl) (by kernel_rfl) (by kernel_rfl) rfl noEq
theorem ty_80 : TOk Try.prog ⟨80,(.st [(0,77),(1,78)]),2,true,32,some [.nilp,(.sl .full [])],true⟩:=TOk.ofA ⟨_,Try.underlying80,by kernel_rfl,by kernel_rfl⟩ (by kernel_rfl) (by kernel_rfl) (by kernel_rfl) (by kernel_rfl) (fun _=>⟨by kernel_rfl,by kernel_rfl⟩)
theorem ty_92 : TOk Try.prog ⟨92,.other,1,false,8,some [.nilp],false⟩:=TOk.ofS trivial (by kernel_rfl) (by kernel_rfl) (by kernel_rfl) (by kernel_rfl) rfl noEq
theorem ty_94 : TOk Try.prog ⟨94,(.st [(0,69),(1,3),(2,3),(3,3),(4,3),(5,3),(6,37),(7,3)]),8,true,96,some [(.sl .full []),(.int .i64 0),(.int .i64 0),(.int .i64 0),(.int .i64 0),(.int .i64 0),(.sl .full []),(.int .i64 0)],true⟩:=TOk.ofA ⟨_,Try.underlying94,by kernel_rfl,by kernel_rfl⟩ (by kernel_rfl) (by kernel_rfl) (by kernel_rfl) (by kernel_rfl) (fun _=>⟨by kernel_rfl,by kernel_rfl⟩)
theorem ty_97 : TOk Try.prog ⟨97,(.st [(0,3),(1,3),(2,9)]),3,true,32,some [(.int .i64 0),(.int .i64 0),(.str [])],true⟩:=TOk.ofA ⟨_,Try.underlying97,by kernel_rfl,by kernel_rfl⟩ (by kernel_rfl) (by kernel_rfl) (by kernel_rfl) (by kernel_rfl) (fun _=>⟨by kernel_rfl,by kernel_rfl⟩)
theorem ty_102 : TOk Try.prog ⟨102,.other,1,false,8,some [.nilp],false⟩:=TOk.ofS trivial (by kernel_rfl) (by kernel_rfl) (by kernel_rfl) (by kernel_rfl) rfl noEq
theorem ty_110 : TOk Try.prog ⟨110,.other,1,false,8,none,false⟩:=TOk.ofN trivial (by kernel_rfl) (by kernel_rfl) (by kernel_rfl) noEq
theorem ty_111 : TOk Try.prog ⟨111,.other,1,false,8,none,false⟩:=TOk.ofN trivial (by kernel_rfl) (by kernel_rfl) (by kernel_rfl) noEq
theorem ty_118 : TOk Try.prog ⟨118,.other,1,false,8,some [.nilp],false⟩:=TOk.ofS trivial (by kernel_rfl) (by kernel_rfl) (by kernel_rfl) (by kernel_rfl) rfl noEq
theorem ty_120 : TOk Try.prog ⟨120,.other,1,false,8,some [.nilp],false⟩:=TOk.ofS trivial (by kernel_rfl) (by kernel_rfl) (by kernel_rfl) (by kernel_rfl) rfl noEq
theorem ty_123 : TOk Try.prog ⟨123,.other,1,false,8,some [.nilp],false⟩:=TOk.ofS trivial (by kernel_rfl) (by kernel_rfl) (by kernel_rfl) (by kernel_rfl) rfl noEq
theorem ty_125 : TOk Try.prog ⟨125,(.st [(0,3),(1,9),(2,9)]),3,true,40,some [(.int .i64 0),(.str []),(.str [])],true⟩:=TOk.ofA ⟨_,Try.underlying125,by kernel_rfl,by kernel_rfl⟩ (by kernel_rfl) (by kernel_rfl) (by kernel_rfl) (by kernel_rfl) (fun _=>⟨by kernel_rfl,by kernel_rfl⟩)
theorem ty_127 : TOk Try.prog ⟨127,.other,1,false,8,none,false⟩:=TOk.ofN trivial (by kernel_rfl) (by kernel_rfl) (by kernel_rfl) noEq
theorem ty_128 : TOk Try.prog ⟨128,.other,1,false,8,none,false⟩:=TOk.ofN trivial (by kernel_rfl) (by kernel_rfl) (by kernel_rfl) noEq
theorem ty_129 : TOk Try.prog ⟨129,.other,1,false,8,none,false⟩:=TOk.ofN trivial (by kernel_rfl) (by kernel_rfl) (by kernel_rfl) noEq
theorem ty_131 : TOk Try.prog ⟨131,(.st [(0,127),(1,128),(2,129)]),3,true,24,none,true⟩:=TOk.ofN ⟨_,Try.underlying131,by kernel_rfl,by kernel_rfl⟩ (by kernel_rfl) (by kernel_rfl) (by kernel_rfl) (fun _=>⟨by kernel_rfl,by kernel_rfl⟩)
theorem ty_132 : TOk Try.prog ⟨132,(.sl 135),1,false,24,some [(.sl .full [])],false⟩:=TOk.ofS Try.underlying132 (by kernel_rfl) (by kernel_rfl) (by kernel_rfl) (by kernel_rfl) rfl noEq
theorem ty_135 : TOk Try.prog ⟨135,(.st [(0,9),(1,9)]),2,true,32,some [(.str []),(.str [])],true⟩:=TOk.ofA ⟨_,Try.underlying135,by kernel_rfl,by kernel_rfl⟩ (by kernel_rfl) (by kernel_rfl) (by kernel_rfl) (by kernel_rfl) (fun _=>⟨by kernel_rfl,by kernel_rfl⟩)
theorem ty_142 : TOk Try.prog ⟨142,.other,1,false,8,some [.nilp],false⟩:=TOk.ofS trivial (by kernel_rfl) (by kernel_rfl) (by kernel_rfl) (by kernel_rfl) rfl noEq
theorem ty_143 : TOk Try.prog ⟨143,.other,1,false,8,some [.nilp],false⟩:=TOk.ofS trivial (by kernel_rfl) (by kernel_rfl) (by kernel_rfl) (by kernel_rfl) rfl noEq
theorem ty_145 : TOk Try.prog ⟨145,(.sl 147),1,false,24,some [(.sl .full [])],false⟩:=TOk.ofS Try.underlying145 (by kernel_rfl) (by kernel_rfl) (by kernel_rfl) (by kernel_rfl) rfl noEq
theorem ty_147 : TOk Try.prog ⟨147,(.st [(0,9),(1,3)]),2,true,24,some [(.str []),(.int .i64 0)],true⟩:=TOk.ofA ⟨_,Try.underlying147,by kernel_rfl,by kernel_rfl⟩ (by kernel_rfl) (by kernel_rfl) (by kernel_rfl) (by kernel_rfl) (fun _=>⟨by kernel_rfl,by kernel_rfl⟩)
theorem ty_152 : TOk Try.prog ⟨152,(.sl 155),1,false,24,some [(.sl .full [])],false⟩:=TOk.ofS Try.underlying152 (by kernel_rfl) (by kernel_rfl) (by kernel_rfl) (by kernel_rfl) rfl noEq
theorem ty_155 : TOk Try.prog ⟨155,(.st [(0,135),(2,3)]),3,true,40,some [(.str []),(.str []),(.int .i64 0)],true⟩:=TOk.ofA ⟨_,Try.underlying155,by kernel_rfl,by kernel_rfl⟩ (by kernel_rfl) (by kernel_rfl) (by kernel_rfl) (by kernel_rfl) (fun _=>⟨by kernel_rfl,by kernel_rfl⟩)
theorem ty_162 : TOk Try.prog ⟨162,(.sl 152),1,false,24,some [(.sl .full [])],false⟩:=TOk.ofS Try.underlying162 (by kernel_rfl) (by kernel_rfl) (by kernel_rfl) (by kernel_rfl) rfl noEq
abbrev n_entaillaw7_ScheBack : FuncId:=4
abbrev n_entaillaw7_Made : FuncId:=7
abbrev n_entaillaw7_awake : FuncId:=12
abbrev n_sche_Parse : FuncId:=13
abbrev n_sche_Text : FuncId:=14
abbrev n_entailref6_Same : FuncId:=15
abbrev n_entaillaw7_Made_1 : FuncId:=17
abbrev n_entaillaw7_Made_2 : FuncId:=18
abbrev n_entaillaw7_Made_3 : FuncId:=19
abbrev n_sche_Same : FuncId:=31
abbrev n_toke_Tokens : FuncId:=32
abbrev n_sche_parser_one : FuncId:=33
abbrev n_strings_Builder_WriteString : FuncId:=34
abbrev n_sche_relText : FuncId:=35
abbrev n_strings_Builder_Len : FuncId:=36
abbrev n_strings_Builder_String : FuncId:=37
abbrev n_entailref6_SameSubs : FuncId:=38
abbrev n_entailref6_SameSteps : FuncId:=39
abbrev n_slices_EqualFunc_api_Type_api_Type_api_Type_api_Type : FuncId:=53
abbrev n_sche_Same_1 : FuncId:=54
abbrev n_slices_EqualFunc_api_Rel_api_Rel_api_Rel_api_Rel : FuncId:=55
abbrev n_sche_sameRel : FuncId:=56
abbrev n_toke_skip : FuncId:=57
abbrev n_toke_next : FuncId:=58
abbrev n_sche_parser_some : FuncId:=59
abbrev n_sche_parser_word : FuncId:=60
abbrev n_sche_parser_fail : FuncId:=61
abbrev n_sche_parser_name : FuncId:=62
abbrev n_sche_parser_may : FuncId:=63
abbrev n_sche_parser_relation : FuncId:=64
abbrev n_strings_Builder_copyCheck : FuncId:=65
abbrev n_sche_told : FuncId:=66
abbrev n_strings_Join : FuncId:=67
abbrev n_slices_Equal_api_Sub_api_Sub : FuncId:=79
abbrev n_slices_Equal_api_Step_api_Step : FuncId:=80
abbrev n_strings_HasPrefix : FuncId:=81
abbrev n_strings_Index : FuncId:=82
abbrev n_strings_Contains : FuncId:=83
abbrev n_toke_row : FuncId:=84
abbrev n_sche_parser_here : FuncId:=85
abbrev n_sche_named : FuncId:=86
abbrev n_sche_parser_is : FuncId:=87
abbrev n_sche_parser_sign : FuncId:=88
abbrev n_sche_parser_sum : FuncId:=89
abbrev n_sche_parser_subjects : FuncId:=90
abbrev n_sche_joint : FuncId:=92
abbrev n_internal_stringslite_HasPrefix : FuncId:=98
abbrev n_internal_stringslite_Index : FuncId:=99
abbrev n_toke_letter : FuncId:=100
abbrev n_sche_parser_term : FuncId:=101
abbrev n_sche_parser_put : FuncId:=102
abbrev n_sche_piece_held : FuncId:=103
abbrev n_sche_parser_factor : FuncId:=111
abbrev x_sche_parser_here : FuncId:=1000000
def s_x_sche_parser_here : Sig:=⟨1,[.b 0 [.pl,.pl,.pl,.pl,.pl,.gr 5 false]],[]⟩
abbrev x_sche_parser_fail : FuncId:=1000001
def s_x_sche_parser_fail : Sig:=⟨1,[.b 0 [.pl,.pl,.pl,.pl,.pl,.gr 5 false],.v],[]⟩
abbrev x_sche_parser_is : FuncId:=1000002
def s_x_sche_parser_is : Sig:=⟨1,[.b 0 [.pl,.pl,.pl,.pl,.pl,.gr 5 false],.v],[]⟩
abbrev x_sche_parser_word : FuncId:=1000003
def s_x_sche_parser_word : Sig:=⟨1,[.b 0 [.pl,.pl,.pl,.pl,.pl,.gr 5 false]],[]⟩
abbrev x_sche_parser_some : FuncId:=1000004
def s_x_sche_parser_some : Sig:=⟨1,[.b 0 [.pl,.pl,.pl,.pl,.pl,.gr 5 false],.v,.v],[]⟩
abbrev x_sche_parser_name_0 : FuncId:=1000005
def s_x_sche_parser_name_0 : Sig:=⟨1,[.b 0 [.pl,.pl,.pl,.pl,.pl,.gr 5 false],.b 0 [.pl,.gr 5 false,.pl]],[]⟩
abbrev x_sche_parser_name_1 : FuncId:=1000006
def s_x_sche_parser_name_1 : Sig:=⟨1,[.b 0 [.pl,.pl,.pl,.pl,.pl,.gr 5 false],.b 0 [.pl,.gr 5 false]],[]⟩
abbrev x_sche_parser_name_2 : FuncId:=1000007
def s_x_sche_parser_name_2 : Sig:=⟨1,[.b 0 [.pl,.pl,.pl,.pl,.pl,.gr 5 false],.b 0 [.pl,.pl,.pl]],[]⟩
abbrev x_sche_parser_name_3 : FuncId:=1000008
def s_x_sche_parser_name_3 : Sig:=⟨1,[.b 0 [.pl,.pl,.pl,.pl,.pl,.gr 5 false],.b 1 [.pl,.pl,.pl]],[]⟩
abbrev x_sche_parser_name_4 : FuncId:=1000009
def s_x_sche_parser_name_4 : Sig:=⟨1,[.b 0 [.pl,.pl,.pl,.pl,.pl,.gr 5 false],.b 2 [.pl,.pl,.pl]],[]⟩
abbrev x_sche_parser_sign : FuncId:=1000010
def s_x_sche_parser_sign : Sig:=⟨1,[.b 0 [.pl,.pl,.pl,.pl,.pl,.gr 5 false],.v],[]⟩
abbrev x_sche_parser_may : FuncId:=1000011
def s_x_sche_parser_may : Sig:=⟨1,[.b 0 [.pl,.pl,.pl,.pl,.pl,.gr 5 false],.v],[]⟩
abbrev x_sche_parser_subjects : FuncId:=1000012
def s_x_sche_parser_subjects : Sig:=⟨1,[.b 0 [.pl,.pl,.pl,.pl,.pl,.gr 5 false],.b 0 [.pl,.gr 5 false,.pl]],[]⟩
abbrev x_sche_parser_put : FuncId:=1000013
def s_x_sche_parser_put : Sig:=⟨1,[.b 0 [.pl,.pl,.pl,.pl,.pl,.gr 5 false],.v,.v],[]⟩
abbrev x_sche_parser_factor : FuncId:=1000014
def s_x_sche_parser_factor : Sig:=⟨1,[.b 0 [.pl,.pl,.pl,.pl,.pl,.gr 5 false]],[]⟩
abbrev x_sche_parser_term : FuncId:=1000015
def s_x_sche_parser_term : Sig:=⟨1,[.b 0 [.pl,.pl,.pl,.pl,.pl,.gr 5 false]],[]⟩
abbrev x_sche_parser_sum : FuncId:=1000016
def s_x_sche_parser_sum : Sig:=⟨1,[.b 0 [.pl,.pl,.pl,.pl,.pl,.gr 5 false]],[]⟩
abbrev x_sche_parser_relation : FuncId:=1000017
def s_x_sche_parser_relation : Sig:=⟨1,[.b 0 [.pl,.pl,.pl,.pl,.pl,.gr 5 false],.b 0 [.pl,.gr 5 false]],[]⟩
abbrev x_sche_parser_one : FuncId:=1000018
def s_x_sche_parser_one : Sig:=⟨2,[.b 0 [.pl,.pl,.pl,.pl,.pl,.gr 5 false],.v],[]⟩
abbrev x_entaillaw7_Made_1 : FuncId:=1000019
def s_x_entaillaw7_Made_1 : Sig:=⟨1,[.v,.b 0 [.pl]],[]⟩
abbrev x_strings_Builder_copyCheck : FuncId:=1000020
def s_x_strings_Builder_copyCheck : Sig:=⟨0,[.b 0 [.self 80,.gr 1 false]],[]⟩
abbrev x_strings_Builder_WriteString : FuncId:=1000021
def s_x_strings_Builder_WriteString : Sig:=⟨2,[.b 0 [.self 80,.gr 1 false],.v],[]⟩
abbrev x_strings_Builder_String : FuncId:=1000022
def s_x_strings_Builder_String : Sig:=⟨1,[.b 0 [.self 80,.gr 1 false]],[]⟩
abbrev x_strings_Builder_Len : FuncId:=1000023
def s_x_strings_Builder_Len : Sig:=⟨1,[.b 0 [.self 80,.gr 1 false]],[]⟩
def s_x_entailref6_reader_here : Sig:=⟨1,[.b 0 [.pl,.pl,.pl,.pl,.pl,.pl,.gr 5 false,.pl]],[]⟩
def s_x_entailref6_reader_fail : Sig:=⟨0,[.b 0 [.pl,.pl,.pl,.pl,.pl,.pl,.gr 5 false,.pl],.v],[]⟩
def s_x_entailref6_reader_is : Sig:=⟨1,[.b 0 [.pl,.pl,.pl,.pl,.pl,.pl,.gr 5 false,.pl],.v],[]⟩
def s_x_entailref6_reader_want : Sig:=⟨0,[.b 0 [.pl,.pl,.pl,.pl,.pl,.pl,.gr 5 false,.pl],.v],[]⟩
def s_x_entailref6_reader_name : Sig:=⟨1,[.b 0 [.pl,.pl,.pl,.pl,.pl,.pl,.gr 5 false,.pl]],[]⟩
def s_x_entailref6_reader_put : Sig:=⟨0,[.b 0 [.pl,.pl,.pl,.pl,.pl,.pl,.gr 5 false,.pl],.v,.v],[]⟩
def s_x_entailref6_reader_factor : Sig:=⟨0,[.b 0 [.pl,.pl,.pl,.pl,.pl,.pl,.gr 5 false,.pl]],[]⟩
def s_x_entailref6_reader_term : Sig:=⟨0,[.b 0 [.pl,.pl,.pl,.pl,.pl,.pl,.gr 5 false,.pl]],[]⟩
def s_x_entailref6_reader_expr : Sig:=⟨0,[.b 0 [.pl,.pl,.pl,.pl,.pl,.pl,.gr 5 false,.pl]],[]⟩
def s_x_entailref6_reader_rel : Sig:=⟨1,[.b 0 [.pl,.pl,.pl,.pl,.pl,.pl,.gr 5 false,.pl]],[]⟩
def s_x_well_Fits_1 : Sig:=⟨1,[.v,.b 0 [.pl,.pl,.pl,.pl,.pl,.pl]],[]⟩
def s_x_well_Fits_2 : Sig:=⟨1,[.v,.b 0 [.pl,.pl,.pl,.pl,.pl,.pl]],[]⟩
def s_x_slices_IndexFunc_api_Type_api_Type : Sig:=⟨1,[.v,.b 0 [.pl,.pl,.pl,.pl,.pl,.pl]],[.one,.clo 22 1]⟩
def s_x_slices_IndexFunc_api_Rel_api_Rel : Sig:=⟨1,[.v,.b 0 [.pl,.pl,.pl,.pl,.pl,.pl]],[.one,.clo 25 1]⟩
def tyT : TT:=⟨[⟨2,(.int .i64),1,false,8,some [(.int .i64 0)],true⟩,
 ⟨3,(.int .i64),1,false,8,some [(.int .i64 0)],true⟩,
 ⟨4,.bool,1,false,1,some [(.bool false)],true⟩,
 ⟨5,(.int .u8),1,false,1,some [(.int .u8 0)],true⟩,
 ⟨9,.str,1,false,16,some [(.str [])],true⟩,
 ⟨22,(.sl 2),1,false,24,some [(.sl .full [])],false⟩,
 ⟨23,(.sl 35),1,false,24,some [(.sl .full [])],false⟩,
 ⟨27,(.st [(0,9),(1,9)]),2,true,32,some [(.str []),(.str [])],true⟩,
 ⟨29,(.st [(0,9),(1,9),(2,9)]),3,true,48,some [(.str []),(.str []),(.str [])],true⟩,
 ⟨31,(.st [(0,27),(2,9),(3,29)]),6,true,96,some [(.str []),(.str []),(.str []),(.str []),(.str []),(.str [])],true⟩,
 ⟨33,(.sl 39),1,false,24,some [(.sl .full [])],false⟩,
 ⟨35,(.st [(0,9),(1,33)]),2,true,40,some [(.str []),(.sl .full [])],true⟩,
 ⟨36,(.sl 29),1,false,24,some [(.sl .full [])],false⟩,
 ⟨37,(.sl 125),1,false,24,some [(.sl .full [])],false⟩,
 ⟨39,(.st [(0,9),(1,36),(2,37)]),3,true,64,some [(.str []),(.sl .full []),(.sl .full [])],true⟩,
 ⟨44,(.int .i64),1,false,8,some [(.int .i64 0)],true⟩,
 ⟨51,(.st [(0,9),(1,3),(2,44)]),3,true,32,some [(.str []),(.int .i64 0),(.int .i64 0)],true⟩,
 ⟨52,(.sl 51),1,false,24,some [(.sl .full [])],false⟩,
 ⟨57,(.sl 9),1,false,24,some [(.sl .full [])],false⟩,
 ⟨59,(.int .u64),1,false,8,some [(.int .u64 0)],true⟩,
 ⟨61,.other,1,false,8,none,false⟩,
 ⟨63,.other,1,false,8,none,false⟩,
 ⟨69,(.sl 97),1,false,24,some [(.sl .full [])],false⟩,
 ⟨72,.other,1,false,8,some [.nilp],false⟩,
 ⟨74,(.st [(0,69),(1,3),(2,3),(3,44),(4,3),(5,37)]),6,true,80,some [(.sl .full []),(.int .i64 0),(.int .i64 0),(.int .i64 0),(.int .i64 0),(.sl .full [])],true⟩,
 ⟨77,.other,1,false,8,some [.nilp],false⟩,
 ⟨78,(.sl 5),1,false,24,some [(.sl .full [])],false⟩,
 ⟨80,(.st [(0,77),(1,78)]),2,true,32,some [.nilp,(.sl .full [])],true⟩,
 ⟨92,.other,1,false,8,some [.nilp],false⟩,
 ⟨94,(.st [(0,69),(1,3),(2,3),(3,3),(4,3),(5,3),(6,37),(7,3)]),8,true,96,some [(.sl .full []),(.int .i64 0),(.int .i64 0),(.int .i64 0),(.int .i64 0),(.int .i64 0),(.sl .full []),(.int .i64 0)],true⟩,
 ⟨97,(.st [(0,3),(1,3),(2,9)]),3,true,32,some [(.int .i64 0),(.int .i64 0),(.str [])],true⟩,
 ⟨102,.other,1,false,8,some [.nilp],false⟩,
 ⟨110,.other,1,false,8,none,false⟩,
 ⟨111,.other,1,false,8,none,false⟩,
 ⟨118,.other,1,false,8,some [.nilp],false⟩,
 ⟨120,.other,1,false,8,some [.nilp],false⟩,
 ⟨123,.other,1,false,8,some [.nilp],false⟩,
 ⟨125,(.st [(0,3),(1,9),(2,9)]),3,true,40,some [(.int .i64 0),(.str []),(.str [])],true⟩,
 ⟨127,.other,1,false,8,none,false⟩,
 ⟨128,.other,1,false,8,none,false⟩,
 ⟨129,.other,1,false,8,none,false⟩,
 ⟨131,(.st [(0,127),(1,128),(2,129)]),3,true,24,none,true⟩,
 ⟨132,(.sl 135),1,false,24,some [(.sl .full [])],false⟩,
 ⟨135,(.st [(0,9),(1,9)]),2,true,32,some [(.str []),(.str [])],true⟩,
 ⟨142,.other,1,false,8,some [.nilp],false⟩,
 ⟨143,.other,1,false,8,some [.nilp],false⟩,
 ⟨145,(.sl 147),1,false,24,some [(.sl .full [])],false⟩,
 ⟨147,(.st [(0,9),(1,3)]),2,true,24,some [(.str []),(.int .i64 0)],true⟩,
 ⟨152,(.sl 155),1,false,24,some [(.sl .full [])],false⟩,
 ⟨155,(.st [(0,135),(2,3)]),3,true,40,some [(.str []),(.str []),(.int .i64 0)],true⟩,
 ⟨162,(.sl 152),1,false,24,some [(.sl .full [])],false⟩],[(1000000,(85,s_x_sche_parser_here)),(1000001,(61,s_x_sche_parser_fail)),(1000002,(87,s_x_sche_parser_is)),(1000003,(60,s_x_sche_parser_word)),(1000004,(59,s_x_sche_parser_some)),(1000005,(62,s_x_sche_parser_name_0)),(1000006,(62,s_x_sche_parser_name_1)),(1000007,(62,s_x_sche_parser_name_2)),(1000008,(62,s_x_sche_parser_name_3)),(1000009,(62,s_x_sche_parser_name_4)),(1000010,(88,s_x_sche_parser_sign)),(1000011,(63,s_x_sche_parser_may)),(1000012,(90,s_x_sche_parser_subjects)),(1000013,(102,s_x_sche_parser_put)),(1000014,(111,s_x_sche_parser_factor)),(1000015,(101,s_x_sche_parser_term)),(1000016,(89,s_x_sche_parser_sum)),(1000017,(64,s_x_sche_parser_relation)),(1000018,(33,s_x_sche_parser_one)),(1000019,(17,s_x_entaillaw7_Made_1)),(1000020,(65,s_x_strings_Builder_copyCheck)),(1000021,(34,s_x_strings_Builder_WriteString)),(1000022,(37,s_x_strings_Builder_String)),(1000023,(36,s_x_strings_Builder_Len)),(1000024,(70,s_x_entailref6_reader_here)),(1000025,(41,s_x_entailref6_reader_fail)),(1000026,(43,s_x_entailref6_reader_is)),(1000027,(45,s_x_entailref6_reader_want)),(1000028,(42,s_x_entailref6_reader_name)),(1000029,(95,s_x_entailref6_reader_put)),(1000030,(105,s_x_entailref6_reader_factor)),(1000031,(94,s_x_entailref6_reader_term)),(1000032,(72,s_x_entailref6_reader_expr)),(1000033,(44,s_x_entailref6_reader_rel)),(1000034,(22,s_x_well_Fits_1)),(1000035,(25,s_x_well_Fits_2)),(1000036,(21,s_x_slices_IndexFunc_api_Type_api_Type)),(1000037,(24,s_x_slices_IndexFunc_api_Rel_api_Rel))],[]⟩
theorem tyOk : ∀ t ti,tiOf tyT t = some ti → TOk Try.prog ti ∧ ti.t = t:=TOk.tab (TOk.cons ty_2 (TOk.cons ty_3 (TOk.cons ty_4 (TOk.cons ty_5 (TOk.cons ty_9 (TOk.cons ty_22 (TOk.cons ty_23 (TOk.cons ty_27 (TOk.cons ty_29 (TOk.cons ty_31 (TOk.cons ty_33 (TOk.cons ty_35 (TOk.cons ty_36 (TOk.cons ty_37 (TOk.cons ty_39 (TOk.cons ty_44 (TOk.cons ty_51 (TOk.cons ty_52 (TOk.cons ty_57 (TOk.cons ty_59 (TOk.cons ty_61 (TOk.cons ty_63 (TOk.cons ty_69 (TOk.cons ty_72 (TOk.cons ty_74 (TOk.cons ty_77 (TOk.cons ty_78 (TOk.cons ty_80 (TOk.cons ty_92 (TOk.cons ty_94 (TOk.cons ty_97 (TOk.cons ty_102 (TOk.cons ty_110 (TOk.cons ty_111 (TOk.cons ty_118 (TOk.cons ty_120 (TOk.cons ty_123 (TOk.cons ty_125 (TOk.cons ty_127 (TOk.cons ty_128 (TOk.cons ty_129 (TOk.cons ty_131 (TOk.cons ty_132 (TOk.cons ty_135 (TOk.cons ty_142 (TOk.cons ty_143 (TOk.cons ty_145 (TOk.cons ty_147 (TOk.cons ty_152 (TOk.cons ty_155 (TOk.cons ty_162 (TOk.nil))))))))))))))))))))))))))))))))))))))))))))))))))))
end Go.Fbs

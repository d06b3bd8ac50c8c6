import Derived.Test.YtcihohnnmhfjoaaGreatDoorS2
import Derived.Test.YtcihohnnmhfjoaaGreatDoorRows
set_option linter.unusedVariables false
set_option linter.unusedSimpArgs false
set_option linter.unusedSectionVars false
namespace Go.Fbs
open Go.Proofs
theorem mixed : Tryz.prog.follows .mixedOrders = true:=by kernel_rfl
theorem ty_1 : TOk Tryz.prog ⟨1,.other,1,false,8,none,false⟩:=TOk.ofN trivial (by kernel_rfl) (by kernel_rfl) (by kernel_rfl) noEq
theorem ty_2 : TOk Tryz.prog ⟨2,(.int .i64),1,false,8,some [(.int .i64 0)],true⟩:=TOk.ofS Tryz.underlying2 (by kernel_rfl) (by kernel_rfl) (by kernel_rfl) (by kernel_rfl) rfl (fun _=>⟨by kernel_rfl,by kernel_rfl⟩)
theorem ty_3 : TOk Tryz.prog ⟨3,(.int .i64),1,false,8,some [(.int .i64 0)],true⟩:=TOk.ofS Tryz.underlying3 (by kernel_rfl) (by kernel_rfl) (by kernel_rfl) (by kernel_rfl) rfl (fun _=>⟨by kernel_rfl,by kernel_rfl⟩)
theorem ty_4 : TOk Tryz.prog ⟨4,.bool,1,false,1,some [(.bool false)],true⟩:=TOk.ofS Tryz.underlying4 (by kernel_rfl) (by kernel_rfl) (by kernel_rfl) (by kernel_rfl) rfl (fun _=>⟨by kernel_rfl,by kernel_rfl⟩)
theorem ty_5 : TOk Tryz.prog ⟨5,(.int .u8),1,false,1,some [(.int .u8 0)],true⟩:=TOk.ofS Tryz.underlying5 (by kernel_rfl) (by kernel_rfl) (by kernel_rfl) (by kernel_rfl) rfl (fun _=>⟨by kernel_rfl,by kernel_rfl⟩)
theorem ty_9 : TOk Tryz.prog ⟨9,.str,1,false,16,some [(.str [])],true⟩:=TOk.ofS Tryz.underlying9 (by kernel_rfl) (by kernel_rfl) (by kernel_rfl) (by kernel_rfl) rfl (fun _=>⟨by kernel_rfl,by kernel_rfl⟩)
theorem ty_23 : TOk Tryz.prog ⟨23,(.sl 9),1,false,24,some [(.sl .full [])],false⟩:=TOk.ofS Tryz.underlying23 (by kernel_rfl) (by kernel_rfl) (by kernel_rfl) (by kernel_rfl) rfl noEq
theorem ty_24 : TOk Tryz.prog ⟨24,(.int .u64),1,false,8,some [(.int .u64 0)],true⟩:=TOk.ofS Tryz.underlying24 (by kernel_rfl) (by kernel_rfl) (by kernel_rfl) (by kernel_rfl) rfl (fun _=>⟨by kernel_rfl,by kernel_rfl⟩)
theorem ty_25 : TOk Tryz.prog ⟨25,(.sl 27),1,false,24,some [(.sl .full [])],false⟩:=TOk.ofS Tryz.underlying25 (by kernel_rfl) (by kernel_rfl) (by kernel_rfl) (by kernel_rfl) rfl noEq
theorem ty_27 : TOk Tryz.prog ⟨27,(.st [(0,3),(1,9),(2,23),(3,25)]),4,true,72,some [(.int .i64 0),(.str []),(.sl .full []),(.sl .full [])],true⟩:=TOk.ofA ⟨_,Tryz.underlying27,by kernel_rfl,by kernel_rfl⟩ (by kernel_rfl) (by kernel_rfl) (by kernel_rfl) (by kernel_rfl) (fun _=>⟨by kernel_rfl,by kernel_rfl⟩)
theorem ty_28 : TOk Tryz.prog ⟨28,(.int .i64),1,false,8,some [(.int .i64 0)],true⟩:=TOk.ofS Tryz.underlying28 (by kernel_rfl) (by kernel_rfl) (by kernel_rfl) (by kernel_rfl) rfl (fun _=>⟨by kernel_rfl,by kernel_rfl⟩)
theorem ty_35 : TOk Tryz.prog ⟨35,(.sl 5),1,false,24,some [(.sl .full [])],false⟩:=TOk.ofS Tryz.underlying35 (by kernel_rfl) (by kernel_rfl) (by kernel_rfl) (by kernel_rfl) rfl noEq
theorem ty_37 : TOk Tryz.prog ⟨37,.other,1,false,8,some [.nilp],false⟩:=TOk.ofS trivial (by kernel_rfl) (by kernel_rfl) (by kernel_rfl) (by kernel_rfl) rfl noEq
theorem ty_39 : TOk Tryz.prog ⟨39,(.st [(0,9),(1,3),(2,3),(3,28),(4,3)]),5,true,48,some [(.str []),(.int .i64 0),(.int .i64 0),(.int .i64 0),(.int .i64 0)],true⟩:=TOk.ofA ⟨_,Tryz.underlying39,by kernel_rfl,by kernel_rfl⟩ (by kernel_rfl) (by kernel_rfl) (by kernel_rfl) (by kernel_rfl) (fun _=>⟨by kernel_rfl,by kernel_rfl⟩)
theorem ty_42 : TOk Tryz.prog ⟨42,.other,1,false,8,some [.nilp],false⟩:=TOk.ofS trivial (by kernel_rfl) (by kernel_rfl) (by kernel_rfl) (by kernel_rfl) rfl noEq
theorem ty_44 : TOk Tryz.prog ⟨44,(.st [(0,42),(1,35)]),2,true,32,some [.nilp,(.sl .full [])],true⟩:=TOk.ofA ⟨_,Tryz.underlying44,by kernel_rfl,by kernel_rfl⟩ (by kernel_rfl) (by kernel_rfl) (by kernel_rfl) (by kernel_rfl) (fun _=>⟨by kernel_rfl,by kernel_rfl⟩)
theorem ty_60 : TOk Tryz.prog ⟨60,.other,1,false,8,none,false⟩:=TOk.ofN trivial (by kernel_rfl) (by kernel_rfl) (by kernel_rfl) noEq
theorem ty_70 : TOk Tryz.prog ⟨70,.other,1,false,8,none,false⟩:=TOk.ofN trivial (by kernel_rfl) (by kernel_rfl) (by kernel_rfl) noEq
abbrev n_entaillaw22_JsonDeep : FuncId:=4
abbrev n_json_Parse : FuncId:=6
abbrev n_json_Text : FuncId:=7
abbrev n_entaillaw22_awake : FuncId:=8
abbrev n_json_parser_skip : FuncId:=9
abbrev n_json_parser_value : FuncId:=10
abbrev n_strings_TrimLeft : FuncId:=16
abbrev n_json_parser_here : FuncId:=17
abbrev n_json_parser_number : FuncId:=22
abbrev n_json_parser_run : FuncId:=39
abbrev x_json_parser_skip : FuncId:=1000000
def s_x_json_parser_skip : Sig:=⟨0,[.b 0 [.pl,.pl,.pl,.pl,.pl]]⟩
abbrev x_json_parser_here : FuncId:=1000001
def s_x_json_parser_here : Sig:=⟨1,[.b 0 [.pl,.pl,.pl,.pl,.pl]]⟩
abbrev x_json_parser_fail : FuncId:=1000002
def s_x_json_parser_fail : Sig:=⟨0,[.b 0 [.pl,.pl,.pl,.pl,.pl],.v,.v]⟩
abbrev x_json_parser_run : FuncId:=1000003
def s_x_json_parser_run : Sig:=⟨0,[.b 0 [.pl,.pl,.pl,.pl,.pl]]⟩
abbrev x_json_parser_number : FuncId:=1000004
def s_x_json_parser_number : Sig:=⟨1,[.b 0 [.pl,.pl,.pl,.pl,.pl]]⟩
abbrev x_json_parser_list : FuncId:=1000005
def s_x_json_parser_list : Sig:=⟨1,[.b 0 [.pl,.pl,.pl,.pl,.pl]]⟩
abbrev x_json_parser_object : FuncId:=1000006
def s_x_json_parser_object : Sig:=⟨1,[.b 0 [.pl,.pl,.pl,.pl,.pl]]⟩
abbrev x_json_parser_value : FuncId:=1000007
def s_x_json_parser_value : Sig:=⟨1,[.b 0 [.pl,.pl,.pl,.pl,.pl]]⟩
def s_x_json_parser_need : Sig:=⟨1,[.b 0 [.pl,.pl,.pl,.pl,.pl],.v]⟩
abbrev x_json_parser_word : FuncId:=1000009
def s_x_json_parser_word : Sig:=⟨1,[.b 0 [.pl,.pl,.pl,.pl,.pl],.v,.v]⟩
abbrev x_json_parser_text : FuncId:=1000010
def s_x_json_parser_text : Sig:=⟨1,[.b 0 [.pl,.pl,.pl,.pl,.pl]]⟩
def tyT : TT:=⟨[⟨1,.other,1,false,8,none,false⟩,
 ⟨2,(.int .i64),1,false,8,some [(.int .i64 0)],true⟩,
 ⟨3,(.int .i64),1,false,8,some [(.int .i64 0)],true⟩,
 ⟨4,.bool,1,false,1,some [(.bool false)],true⟩,
 ⟨5,(.int .u8),1,false,1,some [(.int .u8 0)],true⟩,
 ⟨9,.str,1,false,16,some [(.str [])],true⟩,
 ⟨23,(.sl 9),1,false,24,some [(.sl .full [])],false⟩,
 ⟨24,(.int .u64),1,false,8,some [(.int .u64 0)],true⟩,
 ⟨25,(.sl 27),1,false,24,some [(.sl .full [])],false⟩,
 ⟨27,(.st [(0,3),(1,9),(2,23),(3,25)]),4,true,72,some [(.int .i64 0),(.str []),(.sl .full []),(.sl .full [])],true⟩,
 ⟨28,(.int .i64),1,false,8,some [(.int .i64 0)],true⟩,
 ⟨35,(.sl 5),1,false,24,some [(.sl .full [])],false⟩,
 ⟨37,.other,1,false,8,some [.nilp],false⟩,
 ⟨39,(.st [(0,9),(1,3),(2,3),(3,28),(4,3)]),5,true,48,some [(.str []),(.int .i64 0),(.int .i64 0),(.int .i64 0),(.int .i64 0)],true⟩,
 ⟨42,.other,1,false,8,some [.nilp],false⟩,
 ⟨44,(.st [(0,42),(1,35)]),2,true,32,some [.nilp,(.sl .full [])],true⟩,
 ⟨60,.other,1,false,8,none,false⟩,
 ⟨70,.other,1,false,8,none,false⟩],[(1000000,(9,s_x_json_parser_skip)),(1000001,(17,s_x_json_parser_here)),(1000002,(11,s_x_json_parser_fail)),(1000003,(39,s_x_json_parser_run)),(1000004,(22,s_x_json_parser_number)),(1000005,(19,s_x_json_parser_list)),(1000006,(18,s_x_json_parser_object)),(1000007,(10,s_x_json_parser_value)),(1000008,(36,s_x_json_parser_need)),(1000009,(21,s_x_json_parser_word)),(1000010,(20,s_x_json_parser_text))]⟩
theorem tyOk : ∀ t ti,tiOf tyT t = some ti → TOk Tryz.prog ti ∧ ti.t = t:=TOk.tab (TOk.cons ty_1 (TOk.cons ty_2 (TOk.cons ty_3 (TOk.cons ty_4 (TOk.cons ty_5 (TOk.cons ty_9 (TOk.cons ty_23 (TOk.cons ty_24 (TOk.cons ty_25 (TOk.cons ty_27 (TOk.cons ty_28 (TOk.cons ty_35 (TOk.cons ty_37 (TOk.cons ty_39 (TOk.cons ty_42 (TOk.cons ty_44 (TOk.cons ty_60 (TOk.cons ty_70 (TOk.nil)))))))))))))))))))
end Go.Fbs

import Derived.Test.YtpnflpbamlbpeaaGreatDoorS2
import Derived.Test.YtpnflpbamlbpeaaGreatDoorRows
set_option linter.unusedSimpArgs false
set_option linter.unusedVariables false
set_option linter.unusedSectionVars false
namespace Go.Fbs
open Go.Proofs
theorem mixed : Tryz.prog.follows .mixedOrders = true:=by kernel_rfl
theorem ty_2 : TOk Tryz.prog ⟨2,(.int .i64),1,false,8,some [(.int .i64 0)],true⟩:=TOk.ofS Tryz.underlying2 (by kernel_rfl) (by kernel_rfl) (by kernel_rfl) (by kernel_rfl) rfl (fun _=>⟨by kernel_rfl,by kernel_rfl⟩)
theorem ty_3 : TOk Tryz.prog ⟨3,(.int .i64),1,false,8,some [(.int .i64 0)],true⟩:=TOk.ofS Tryz.underlying3 (by kernel_rfl) (by kernel_rfl) (by kernel_rfl) (by kernel_rfl) rfl (fun _=>⟨by kernel_rfl,by kernel_rfl⟩)
theorem ty_4 : TOk Tryz.prog ⟨4,.bool,1,false,1,some [(.bool false)],true⟩:=TOk.ofS Tryz.underlying4 (by kernel_rfl) (by kernel_rfl) (by kernel_rfl) (by kernel_rfl) rfl (fun _=>⟨by kernel_rfl,by kernel_rfl⟩)
theorem ty_5 : TOk Tryz.prog ⟨5,(.int .u8),1,false,1,some [(.int .u8 0)],true⟩:=TOk.ofS Tryz.underlying5 (by kernel_rfl) (by kernel_rfl) (by kernel_rfl) (by kernel_rfl) rfl (fun _=>⟨by kernel_rfl,by kernel_rfl⟩)
theorem ty_9 : TOk Tryz.prog ⟨9,.str,1,false,16,some [(.str [])],true⟩:=TOk.ofS Tryz.underlying9 (by kernel_rfl) (by kernel_rfl) (by kernel_rfl) (by kernel_rfl) rfl (fun _=>⟨by kernel_rfl,by kernel_rfl⟩)
theorem ty_22 : TOk Tryz.prog ⟨22,(.sl 28),1,false,24,some [(.sl .full [])],false⟩:=TOk.ofS Tryz.underlying22 (by kernel_rfl) (by kernel_rfl) (by kernel_rfl) (by kernel_rfl) rfl noEq
theorem ty_28 : TOk Tryz.prog ⟨28,(.st [(0,3),(1,4),(2,9),(3,3)]),4,true,40,some [(.int .i64 0),(.bool false),(.str []),(.int .i64 0)],true⟩:=TOk.ofA ⟨_,Tryz.underlying28,by kernel_rfl,by kernel_rfl⟩ (by kernel_rfl) (by kernel_rfl) (by kernel_rfl) (by kernel_rfl) (fun _=>⟨by kernel_rfl,by kernel_rfl⟩)
theorem ty_32 : TOk Tryz.prog ⟨32,(.sl 2),1,false,24,some [(.sl .full [])],false⟩:=TOk.ofS Tryz.underlying32 (by kernel_rfl) (by kernel_rfl) (by kernel_rfl) (by kernel_rfl) rfl noEq
theorem ty_33 : TOk Tryz.prog ⟨33,(.sl 37),1,false,24,some [(.sl .full [])],false⟩:=TOk.ofS Tryz.underlying33 (by kernel_rfl) (by kernel_rfl) (by kernel_rfl) (by kernel_rfl) rfl noEq
theorem ty_35 : TOk Tryz.prog ⟨35,(.sl 9),1,false,24,some [(.sl .full [])],false⟩:=TOk.ofS Tryz.underlying35 (by kernel_rfl) (by kernel_rfl) (by kernel_rfl) (by kernel_rfl) rfl noEq
theorem ty_37 : TOk Tryz.prog ⟨37,(.st [(0,3),(1,9),(2,35),(3,9),(4,9),(5,22),(6,3)]),7,true,112,some [(.int .i64 0),(.str []),(.sl .full []),(.str []),(.str []),(.sl .full []),(.int .i64 0)],true⟩:=TOk.ofA ⟨_,Tryz.underlying37,by kernel_rfl,by kernel_rfl⟩ (by kernel_rfl) (by kernel_rfl) (by kernel_rfl) (by kernel_rfl) (fun _=>⟨by kernel_rfl,by kernel_rfl⟩)
theorem ty_39 : TOk Tryz.prog ⟨39,(.int .i64),1,false,8,some [(.int .i64 0)],true⟩:=TOk.ofS Tryz.underlying39 (by kernel_rfl) (by kernel_rfl) (by kernel_rfl) (by kernel_rfl) rfl (fun _=>⟨by kernel_rfl,by kernel_rfl⟩)
theorem ty_47 : TOk Tryz.prog ⟨47,(.int .u64),1,false,8,some [(.int .u64 0)],true⟩:=TOk.ofS Tryz.underlying47 (by kernel_rfl) (by kernel_rfl) (by kernel_rfl) (by kernel_rfl) rfl (fun _=>⟨by kernel_rfl,by kernel_rfl⟩)
theorem ty_51 : TOk Tryz.prog ⟨51,.other,1,false,8,none,false⟩:=TOk.ofN trivial (by kernel_rfl) (by kernel_rfl) (by kernel_rfl) noEq
theorem ty_52 : TOk Tryz.prog ⟨52,.other,1,false,8,none,false⟩:=TOk.ofN trivial (by kernel_rfl) (by kernel_rfl) (by kernel_rfl) noEq
theorem ty_65 : TOk Tryz.prog ⟨65,.other,1,false,8,none,false⟩:=TOk.ofN trivial (by kernel_rfl) (by kernel_rfl) (by kernel_rfl) noEq
theorem ty_67 : TOk Tryz.prog ⟨67,.other,1,false,8,none,false⟩:=TOk.ofN trivial (by kernel_rfl) (by kernel_rfl) (by kernel_rfl) noEq
theorem ty_68 : TOk Tryz.prog ⟨68,.other,1,false,8,none,false⟩:=TOk.ofN trivial (by kernel_rfl) (by kernel_rfl) (by kernel_rfl) noEq
theorem ty_70 : TOk Tryz.prog ⟨70,(.st [(0,68),(1,68),(2,68)]),3,true,24,none,true⟩:=TOk.ofN ⟨_,Tryz.underlying70,by kernel_rfl,by kernel_rfl⟩ (by kernel_rfl) (by kernel_rfl) (by kernel_rfl) (fun _=>⟨by kernel_rfl,by kernel_rfl⟩)
theorem ty_73 : TOk Tryz.prog ⟨73,.other,1,false,8,none,false⟩:=TOk.ofN trivial (by kernel_rfl) (by kernel_rfl) (by kernel_rfl) noEq
theorem ty_76 : TOk Tryz.prog ⟨76,.other,1,false,8,none,false⟩:=TOk.ofN trivial (by kernel_rfl) (by kernel_rfl) (by kernel_rfl) noEq
theorem ty_80 : TOk Tryz.prog ⟨80,(.sl 3),1,false,24,some [(.sl .full [])],false⟩:=TOk.ofS Tryz.underlying80 (by kernel_rfl) (by kernel_rfl) (by kernel_rfl) (by kernel_rfl) rfl noEq
theorem ty_82 : TOk Tryz.prog ⟨82,(.sl 87),1,false,24,some [(.sl .full [])],false⟩:=TOk.ofS Tryz.underlying82 (by kernel_rfl) (by kernel_rfl) (by kernel_rfl) (by kernel_rfl) rfl noEq
theorem ty_85 : TOk Tryz.prog ⟨85,(.sl 112),1,false,24,some [(.sl .full [])],false⟩:=TOk.ofS Tryz.underlying85 (by kernel_rfl) (by kernel_rfl) (by kernel_rfl) (by kernel_rfl) rfl noEq
theorem ty_87 : TOk Tryz.prog ⟨87,(.st [(0,3),(1,85)]),2,true,32,some [(.int .i64 0),(.sl .full [])],true⟩:=TOk.ofA ⟨_,Tryz.underlying87,by kernel_rfl,by kernel_rfl⟩ (by kernel_rfl) (by kernel_rfl) (by kernel_rfl) (by kernel_rfl) (fun _=>⟨by kernel_rfl,by kernel_rfl⟩)
theorem ty_112 : TOk Tryz.prog ⟨112,(.st [(0,9),(1,3)]),2,true,24,some [(.str []),(.int .i64 0)],true⟩:=TOk.ofA ⟨_,Tryz.underlying112,by kernel_rfl,by kernel_rfl⟩ (by kernel_rfl) (by kernel_rfl) (by kernel_rfl) (by kernel_rfl) (fun _=>⟨by kernel_rfl,by kernel_rfl⟩)
abbrev n_entaillaw18_MaskMask : FuncId:=3
abbrev n_entailref17_Entries : FuncId:=5
abbrev n_entaillaw17_Acl : FuncId:=6
abbrev n_mask_Acl : FuncId:=7
abbrev n_entailref17_SameAcl : FuncId:=8
abbrev n_entaillaw18_awake : FuncId:=9
abbrev n_mask_Normal : FuncId:=11
abbrev n_mask_Valid : FuncId:=12
abbrev n_entailref1_Find : FuncId:=14
abbrev n_entailref17_entry : FuncId:=15
abbrev n_entaillaw17_Acl_1 : FuncId:=16
abbrev n_mask_good : FuncId:=20
abbrev n_mask_whole : FuncId:=21
abbrev n_entailref17_Parse : FuncId:=23
abbrev n_mask_Same : FuncId:=24
abbrev n_entailref1_Name : FuncId:=42
abbrev n_atom_Name : FuncId:=46
abbrev n_mask_Find : FuncId:=47
abbrev n_entailref1_Lines : FuncId:=48
abbrev n_entailref17_Fact : FuncId:=49
abbrev n_acls_Same : FuncId:=50
abbrev n_entailref1_alnum : FuncId:=69
abbrev n_atom_first : FuncId:=80
abbrev n_atom_plain : FuncId:=81
abbrev n_entailref1_words : FuncId:=82
abbrev n_entailref17_Path : FuncId:=83
abbrev n_slices_EqualFunc_api_File_api_File_api_File_api_File : FuncId:=84
abbrev n_acls_same : FuncId:=85
abbrev n_slices_Equal_string_string : FuncId:=95
abbrev n_slices_Equal_api_Entry_api_Entry : FuncId:=107
def tyT : TT:=⟨[⟨2,(.int .i64),1,false,8,some [(.int .i64 0)],true⟩,
 ⟨3,(.int .i64),1,false,8,some [(.int .i64 0)],true⟩,
 ⟨4,.bool,1,false,1,some [(.bool false)],true⟩,
 ⟨5,(.int .u8),1,false,1,some [(.int .u8 0)],true⟩,
 ⟨9,.str,1,false,16,some [(.str [])],true⟩,
 ⟨22,(.sl 28),1,false,24,some [(.sl .full [])],false⟩,
 ⟨28,(.st [(0,3),(1,4),(2,9),(3,3)]),4,true,40,some [(.int .i64 0),(.bool false),(.str []),(.int .i64 0)],true⟩,
 ⟨32,(.sl 2),1,false,24,some [(.sl .full [])],false⟩,
 ⟨33,(.sl 37),1,false,24,some [(.sl .full [])],false⟩,
 ⟨35,(.sl 9),1,false,24,some [(.sl .full [])],false⟩,
 ⟨37,(.st [(0,3),(1,9),(2,35),(3,9),(4,9),(5,22),(6,3)]),7,true,112,some [(.int .i64 0),(.str []),(.sl .full []),(.str []),(.str []),(.sl .full []),(.int .i64 0)],true⟩,
 ⟨39,(.int .i64),1,false,8,some [(.int .i64 0)],true⟩,
 ⟨47,(.int .u64),1,false,8,some [(.int .u64 0)],true⟩,
 ⟨51,.other,1,false,8,none,false⟩,
 ⟨52,.other,1,false,8,none,false⟩,
 ⟨65,.other,1,false,8,none,false⟩,
 ⟨67,.other,1,false,8,none,false⟩,
 ⟨68,.other,1,false,8,none,false⟩,
 ⟨70,(.st [(0,68),(1,68),(2,68)]),3,true,24,none,true⟩,
 ⟨73,.other,1,false,8,none,false⟩,
 ⟨76,.other,1,false,8,none,false⟩,
 ⟨80,(.sl 3),1,false,24,some [(.sl .full [])],false⟩,
 ⟨82,(.sl 87),1,false,24,some [(.sl .full [])],false⟩,
 ⟨85,(.sl 112),1,false,24,some [(.sl .full [])],false⟩,
 ⟨87,(.st [(0,3),(1,85)]),2,true,32,some [(.int .i64 0),(.sl .full [])],true⟩,
 ⟨112,(.st [(0,9),(1,3)]),2,true,24,some [(.str []),(.int .i64 0)],true⟩],[],[]⟩
theorem tyOk : ∀ t ti,tiOf tyT t = some ti → TOk Tryz.prog ti ∧ ti.t = t:=TOk.tab (TOk.cons ty_2 (TOk.cons ty_3 (TOk.cons ty_4 (TOk.cons ty_5 (TOk.cons ty_9 (TOk.cons ty_22 (TOk.cons ty_28 (TOk.cons ty_32 (TOk.cons ty_33 (TOk.cons ty_35 (TOk.cons ty_37 (TOk.cons ty_39 (TOk.cons ty_47 (TOk.cons ty_51 (TOk.cons ty_52 (TOk.cons ty_65 (TOk.cons ty_67 (TOk.cons ty_68 (TOk.cons ty_70 (TOk.cons ty_73 (TOk.cons ty_76 (TOk.cons ty_80 (TOk.cons ty_82 (TOk.cons ty_85 (TOk.cons ty_87 (TOk.cons ty_112 (TOk.nil)))))))))))))))))))))))))))
end Go.Fbs

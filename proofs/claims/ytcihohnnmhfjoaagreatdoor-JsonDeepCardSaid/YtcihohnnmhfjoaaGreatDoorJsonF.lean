/- Closed runs: the types, the functions. -/
import Derived.Test.YtcihohnnmhfjoaaGreatDoorR3
import Derived.Test.YtcihohnnmhfjoaaGreatDoorRows
set_option linter.unusedVariables false
set_option linter.unusedSimpArgs false
set_option linter.unusedSectionVars false
set_option maxRecDepth 100000
namespace Go.Rx
open Go.Proofs
theorem mixed : Tryz.prog.follows .mixedOrders = true:=by kernel_rfl
theorem ty_2 : RTOk Tryz.prog ⟨2,(.int .i64),1,false,8,(some [(.int .i64 0)]),(some [.i])⟩:=RTOk.q Tryz.underlying2 (by kernel_rfl) (by kernel_rfl) (by kernel_rfl) (zS (by kernel_rfl) rfl rfl) (fun _=>rfl) (by kernel_rfl) (by kernel_rfl) rfl
theorem ty_3 : RTOk Tryz.prog ⟨3,(.int .i64),1,false,8,(some [(.int .i64 0)]),(some [.i])⟩:=RTOk.q Tryz.underlying3 (by kernel_rfl) (by kernel_rfl) (by kernel_rfl) (zS (by kernel_rfl) rfl rfl) (fun _=>rfl) (by kernel_rfl) (by kernel_rfl) rfl
theorem ty_4 : RTOk Tryz.prog ⟨4,.bool,1,false,1,(some [(.bool false)]),(some [.b])⟩:=RTOk.q Tryz.underlying4 (by kernel_rfl) (by kernel_rfl) (by kernel_rfl) (zS (by kernel_rfl) rfl rfl) (fun _=>rfl) (by kernel_rfl) (by kernel_rfl) rfl
theorem ty_5 : RTOk Tryz.prog ⟨5,(.int .u8),1,false,1,(some [(.int .u8 0)]),(some [.i])⟩:=RTOk.q Tryz.underlying5 (by kernel_rfl) (by kernel_rfl) (by kernel_rfl) (zS (by kernel_rfl) rfl rfl) (fun _=>rfl) (by kernel_rfl) (by kernel_rfl) rfl
theorem ty_9 : RTOk Tryz.prog ⟨9,.str,1,false,16,(some [(.str ⟨0,0⟩)]),(some [.s])⟩:=RTOk.q Tryz.underlying9 (by kernel_rfl) (by kernel_rfl) (by kernel_rfl) (zS (by kernel_rfl) rfl rfl) (fun _=>rfl) (by kernel_rfl) (by kernel_rfl) rfl
theorem ty_21 : RTOk Tryz.prog ⟨21,(.int .i32),1,false,4,(some [(.int .i32 0)]),(some [.i])⟩:=RTOk.q Tryz.underlying21 (by kernel_rfl) (by kernel_rfl) (by kernel_rfl) (zS (by kernel_rfl) rfl rfl) (fun _=>rfl) (by kernel_rfl) (by kernel_rfl) rfl
theorem ty_23 : RTOk Tryz.prog ⟨23,(.sl 9),1,false,24,(some [.slnil]),(some [.sl])⟩:=RTOk.q Tryz.underlying23 (by kernel_rfl) (by kernel_rfl) (by kernel_rfl) (zS (by kernel_rfl) rfl rfl) (fun _=>rfl) (by kernel_rfl) (by kernel_rfl) rfl
theorem ty_24 : RTOk Tryz.prog ⟨24,(.int .u64),1,false,8,(some [(.int .u64 0)]),(some [.i])⟩:=RTOk.q Tryz.underlying24 (by kernel_rfl) (by kernel_rfl) (by kernel_rfl) (zS (by kernel_rfl) rfl rfl) (fun _=>rfl) (by kernel_rfl) (by kernel_rfl) rfl
theorem ty_25 : RTOk Tryz.prog ⟨25,(.sl 27),1,false,24,(some [.slnil]),(some [.sl])⟩:=RTOk.q Tryz.underlying25 (by kernel_rfl) (by kernel_rfl) (by kernel_rfl) (zS (by kernel_rfl) rfl rfl) (fun _=>rfl) (by kernel_rfl) (by kernel_rfl) rfl
theorem ty_27 : RTOk Tryz.prog ⟨27,(.st [(0,3),(1,9),(2,23),(3,25)]),4,true,72,(some [(.int .i64 0),(.str ⟨0,0⟩),.slnil,.slnil]),(some [.i,.s,.sl,.sl])⟩:=RTOk.q ⟨_,Tryz.underlying27,by kernel_rfl,by kernel_rfl⟩ (by kernel_rfl) (by kernel_rfl) (by kernel_rfl) (zA (by kernel_rfl) rfl rfl) (fun h=>by simp at h) (by kernel_rfl) (by kernel_rfl) rfl
theorem ty_28 : RTOk Tryz.prog ⟨28,(.int .i64),1,false,8,(some [(.int .i64 0)]),(some [.i])⟩:=RTOk.q Tryz.underlying28 (by kernel_rfl) (by kernel_rfl) (by kernel_rfl) (zS (by kernel_rfl) rfl rfl) (fun _=>rfl) (by kernel_rfl) (by kernel_rfl) rfl
theorem ty_35 : RTOk Tryz.prog ⟨35,(.sl 5),1,false,24,(some [.slnil]),(some [.sl])⟩:=RTOk.q Tryz.underlying35 (by kernel_rfl) (by kernel_rfl) (by kernel_rfl) (zS (by kernel_rfl) rfl rfl) (fun _=>rfl) (by kernel_rfl) (by kernel_rfl) rfl
theorem ty_37 : RTOk Tryz.prog ⟨37,(.ptr 39),1,false,8,(some [.nilp]),(some [.p])⟩:=RTOk.q Tryz.underlying37 (by kernel_rfl) (by kernel_rfl) (by kernel_rfl) (zS (by kernel_rfl) rfl rfl) (fun _=>rfl) (by kernel_rfl) (by kernel_rfl) rfl
theorem ty_39 : RTOk Tryz.prog ⟨39,(.st [(0,9),(1,3),(2,3),(3,28),(4,3)]),5,true,48,(some [(.str ⟨0,0⟩),(.int .i64 0),(.int .i64 0),(.int .i64 0),(.int .i64 0)]),(some [.s,.i,.i,.i,.i])⟩:=RTOk.q ⟨_,Tryz.underlying39,by kernel_rfl,by kernel_rfl⟩ (by kernel_rfl) (by kernel_rfl) (by kernel_rfl) (zA (by kernel_rfl) rfl rfl) (fun h=>by simp at h) (by kernel_rfl) (by kernel_rfl) rfl
theorem ty_42 : RTOk Tryz.prog ⟨42,(.ptr 44),1,false,8,(some [.nilp]),(some [.p])⟩:=RTOk.q Tryz.underlying42 (by kernel_rfl) (by kernel_rfl) (by kernel_rfl) (zS (by kernel_rfl) rfl rfl) (fun _=>rfl) (by kernel_rfl) (by kernel_rfl) rfl
theorem ty_44 : RTOk Tryz.prog ⟨44,(.st [(0,42),(1,35)]),2,true,32,(some [.nilp,.slnil]),(some [.p,.sl])⟩:=RTOk.q ⟨_,Tryz.underlying44,by kernel_rfl,by kernel_rfl⟩ (by kernel_rfl) (by kernel_rfl) (by kernel_rfl) (zA (by kernel_rfl) rfl rfl) (fun h=>by simp at h) (by kernel_rfl) (by kernel_rfl) rfl
theorem ty_55 : RTOk Tryz.prog ⟨55,.iface,1,false,16,(some [.nili]),none⟩:=RTOk.n ⟨_,Tryz.underlying55⟩ (by kernel_rfl) (by kernel_rfl) (by kernel_rfl) (zS (by kernel_rfl) rfl rfl) (fun _=>rfl)
theorem ty_62 : RTOk Tryz.prog ⟨62,(.ptr 5),1,false,8,(some [.nilp]),(some [.p])⟩:=RTOk.q Tryz.underlying62 (by kernel_rfl) (by kernel_rfl) (by kernel_rfl) (zS (by kernel_rfl) rfl rfl) (fun _=>rfl) (by kernel_rfl) (by kernel_rfl) rfl
theorem ty_65 : RTOk Tryz.prog ⟨65,(.arr 256 4),256,true,256,(some [(.bool false),(.bool false),(.bool false),(.bool false),(.bool false),(.bool false),(.bool false),(.bool false),(.bool false),(.bool false),(.bool false),(.bool false),(.bool false),(.bool false),(.bool false),(.bool false),(.bool false),(.bool false),(.bool false),(.bool false),(.bool false),(.bool false),(.bool false),(.bool false),(.bool false),(.bool false),(.bool false),(.bool false),(.bool false),(.bool false),(.bool false),(.bool false),(.bool false),(.bool false),(.bool false),(.bool false),(.bool false),(.bool false),(.bool false),(.bool false),(.bool false),(.bool false),(.bool false),(.bool false),(.bool false),(.bool false),(.bool false),(.bool false),(.bool false),(.bool false),(.bool false),(.bool false),(.bool false),(.bool false),(.bool false),(.bool false),(.bool false),(.bool false),(.bool false),(.bool false),(.bool false),(.bool false),(.bool false),(.bool false),(.bool false),(.bool false),(.bool false),(.bool false),(.bool false),(.bool false),(.bool false),(.bool false),(.bool false),(.bool false),(.bool false),(.bool false),(.bool false),(.bool false),(.bool false),(.bool false),(.bool false),(.bool false),(.bool false),(.bool false),(.bool false),(.bool false),(.bool false),(.bool false),(.bool false),(.bool false),(.bool false),(.bool false),(.bool false),(.bool false),(.bool false),(.bool false),(.bool false),(.bool false),(.bool false),(.bool false),(.bool false),(.bool false),(.bool false),(.bool false),(.bool false),(.bool false),(.bool false),(.bool false),(.bool false),(.bool false),(.bool false),(.bool false),(.bool false),(.bool false),(.bool false),(.bool false),(.bool false),(.bool false),(.bool false),(.bool false),(.bool false),(.bool false),(.bool false),(.bool false),(.bool false),(.bool false),(.bool false),(.bool false),(.bool false),(.bool false),(.bool false),(.bool false),(.bool false),(.bool false),(.bool false),(.bool false),(.bool false),(.bool false),(.bool false),(.bool false),(.bool false),(.bool false),(.bool false),(.bool false),(.bool false),(.bool false),(.bool false),(.bool false),(.bool false),(.bool false),(.bool false),(.bool false),(.bool false),(.bool false),(.bool false),(.bool false),(.bool false),(.bool false),(.bool false),(.bool false),(.bool false),(.bool false),(.bool false),(.bool false),(.bool false),(.bool false),(.bool false),(.bool false),(.bool false),(.bool false),(.bool false),(.bool false),(.bool false),(.bool false),(.bool false),(.bool false),(.bool false),(.bool false),(.bool false),(.bool false),(.bool false),(.bool false),(.bool false),(.bool false),(.bool false),(.bool false),(.bool false),(.bool false),(.bool false),(.bool false),(.bool false),(.bool false),(.bool false),(.bool false),(.bool false),(.bool false),(.bool false),(.bool false),(.bool false),(.bool false),(.bool false),(.bool false),(.bool false),(.bool false),(.bool false),(.bool false),(.bool false),(.bool false),(.bool false),(.bool false),(.bool false),(.bool false),(.bool false),(.bool false),(.bool false),(.bool false),(.bool false),(.bool false),(.bool false),(.bool false),(.bool false),(.bool false),(.bool false),(.bool false),(.bool false),(.bool false),(.bool false),(.bool false),(.bool false),(.bool false),(.bool false),(.bool false),(.bool false),(.bool false),(.bool false),(.bool false),(.bool false),(.bool false),(.bool false),(.bool false),(.bool false),(.bool false),(.bool false),(.bool false),(.bool false),(.bool false),(.bool false),(.bool false),(.bool false),(.bool false),(.bool false),(.bool false),(.bool false),(.bool false),(.bool false),(.bool false)]),none⟩:=RTOk.n Tryz.underlying65 (by kernel_rfl) (by kernel_rfl) (by kernel_rfl) (zA (by kernel_rfl) rfl rfl) (fun h=>by simp at h)
theorem ty_70 : RTOk Tryz.prog ⟨70,(.map 9 3),1,false,8,(some [.mapnil]),(some [.m])⟩:=RTOk.q Tryz.underlying70 (by kernel_rfl) (by kernel_rfl) (by kernel_rfl) (zS (by kernel_rfl) rfl rfl) (fun _=>rfl) (by kernel_rfl) (by kernel_rfl) rfl
theorem ty_83 : RTOk Tryz.prog ⟨83,.uptr,1,false,8,(some [.nilp]),none⟩:=RTOk.n Tryz.underlying83 (by kernel_rfl) (by kernel_rfl) (by kernel_rfl) (zS (by kernel_rfl) rfl rfl) (fun _=>rfl)
theorem ty_90 : RTOk Tryz.prog ⟨90,(.arr 256 5),256,true,256,(some [(.int .u8 0),(.int .u8 0),(.int .u8 0),(.int .u8 0),(.int .u8 0),(.int .u8 0),(.int .u8 0),(.int .u8 0),(.int .u8 0),(.int .u8 0),(.int .u8 0),(.int .u8 0),(.int .u8 0),(.int .u8 0),(.int .u8 0),(.int .u8 0),(.int .u8 0),(.int .u8 0),(.int .u8 0),(.int .u8 0),(.int .u8 0),(.int .u8 0),(.int .u8 0),(.int .u8 0),(.int .u8 0),(.int .u8 0),(.int .u8 0),(.int .u8 0),(.int .u8 0),(.int .u8 0),(.int .u8 0),(.int .u8 0),(.int .u8 0),(.int .u8 0),(.int .u8 0),(.int .u8 0),(.int .u8 0),(.int .u8 0),(.int .u8 0),(.int .u8 0),(.int .u8 0),(.int .u8 0),(.int .u8 0),(.int .u8 0),(.int .u8 0),(.int .u8 0),(.int .u8 0),(.int .u8 0),(.int .u8 0),(.int .u8 0),(.int .u8 0),(.int .u8 0),(.int .u8 0),(.int .u8 0),(.int .u8 0),(.int .u8 0),(.int .u8 0),(.int .u8 0),(.int .u8 0),(.int .u8 0),(.int .u8 0),(.int .u8 0),(.int .u8 0),(.int .u8 0),(.int .u8 0),(.int .u8 0),(.int .u8 0),(.int .u8 0),(.int .u8 0),(.int .u8 0),(.int .u8 0),(.int .u8 0),(.int .u8 0),(.int .u8 0),(.int .u8 0),(.int .u8 0),(.int .u8 0),(.int .u8 0),(.int .u8 0),(.int .u8 0),(.int .u8 0),(.int .u8 0),(.int .u8 0),(.int .u8 0),(.int .u8 0),(.int .u8 0),(.int .u8 0),(.int .u8 0),(.int .u8 0),(.int .u8 0),(.int .u8 0),(.int .u8 0),(.int .u8 0),(.int .u8 0),(.int .u8 0),(.int .u8 0),(.int .u8 0),(.int .u8 0),(.int .u8 0),(.int .u8 0),(.int .u8 0),(.int .u8 0),(.int .u8 0),(.int .u8 0),(.int .u8 0),(.int .u8 0),(.int .u8 0),(.int .u8 0),(.int .u8 0),(.int .u8 0),(.int .u8 0),(.int .u8 0),(.int .u8 0),(.int .u8 0),(.int .u8 0),(.int .u8 0),(.int .u8 0),(.int .u8 0),(.int .u8 0),(.int .u8 0),(.int .u8 0),(.int .u8 0),(.int .u8 0),(.int .u8 0),(.int .u8 0),(.int .u8 0),(.int .u8 0),(.int .u8 0),(.int .u8 0),(.int .u8 0),(.int .u8 0),(.int .u8 0),(.int .u8 0),(.int .u8 0),(.int .u8 0),(.int .u8 0),(.int .u8 0),(.int .u8 0),(.int .u8 0),(.int .u8 0),(.int .u8 0),(.int .u8 0),(.int .u8 0),(.int .u8 0),(.int .u8 0),(.int .u8 0),(.int .u8 0),(.int .u8 0),(.int .u8 0),(.int .u8 0),(.int .u8 0),(.int .u8 0),(.int .u8 0),(.int .u8 0),(.int .u8 0),(.int .u8 0),(.int .u8 0),(.int .u8 0),(.int .u8 0),(.int .u8 0),(.int .u8 0),(.int .u8 0),(.int .u8 0),(.int .u8 0),(.int .u8 0),(.int .u8 0),(.int .u8 0),(.int .u8 0),(.int .u8 0),(.int .u8 0),(.int .u8 0),(.int .u8 0),(.int .u8 0),(.int .u8 0),(.int .u8 0),(.int .u8 0),(.int .u8 0),(.int .u8 0),(.int .u8 0),(.int .u8 0),(.int .u8 0),(.int .u8 0),(.int .u8 0),(.int .u8 0),(.int .u8 0),(.int .u8 0),(.int .u8 0),(.int .u8 0),(.int .u8 0),(.int .u8 0),(.int .u8 0),(.int .u8 0),(.int .u8 0),(.int .u8 0),(.int .u8 0),(.int .u8 0),(.int .u8 0),(.int .u8 0),(.int .u8 0),(.int .u8 0),(.int .u8 0),(.int .u8 0),(.int .u8 0),(.int .u8 0),(.int .u8 0),(.int .u8 0),(.int .u8 0),(.int .u8 0),(.int .u8 0),(.int .u8 0),(.int .u8 0),(.int .u8 0),(.int .u8 0),(.int .u8 0),(.int .u8 0),(.int .u8 0),(.int .u8 0),(.int .u8 0),(.int .u8 0),(.int .u8 0),(.int .u8 0),(.int .u8 0),(.int .u8 0),(.int .u8 0),(.int .u8 0),(.int .u8 0),(.int .u8 0),(.int .u8 0),(.int .u8 0),(.int .u8 0),(.int .u8 0),(.int .u8 0),(.int .u8 0),(.int .u8 0),(.int .u8 0),(.int .u8 0),(.int .u8 0),(.int .u8 0),(.int .u8 0),(.int .u8 0),(.int .u8 0),(.int .u8 0),(.int .u8 0),(.int .u8 0),(.int .u8 0),(.int .u8 0),(.int .u8 0),(.int .u8 0),(.int .u8 0),(.int .u8 0),(.int .u8 0),(.int .u8 0),(.int .u8 0),(.int .u8 0),(.int .u8 0),(.int .u8 0)]),none⟩:=RTOk.n Tryz.underlying90 (by kernel_rfl) (by kernel_rfl) (by kernel_rfl) (zA (by kernel_rfl) rfl rfl) (fun h=>by simp at h)
theorem ty_92 : RTOk Tryz.prog ⟨92,(.st [(0,5),(1,5)]),2,true,2,(some [(.int .u8 0),(.int .u8 0)]),(some [.i,.i])⟩:=RTOk.q ⟨_,Tryz.underlying92,by kernel_rfl,by kernel_rfl⟩ (by kernel_rfl) (by kernel_rfl) (by kernel_rfl) (zA (by kernel_rfl) rfl rfl) (fun h=>by simp at h) (by kernel_rfl) (by kernel_rfl) rfl
theorem ty_93 : RTOk Tryz.prog ⟨93,(.arr 16 92),32,true,32,(some [(.int .u8 0),(.int .u8 0),(.int .u8 0),(.int .u8 0),(.int .u8 0),(.int .u8 0),(.int .u8 0),(.int .u8 0),(.int .u8 0),(.int .u8 0),(.int .u8 0),(.int .u8 0),(.int .u8 0),(.int .u8 0),(.int .u8 0),(.int .u8 0),(.int .u8 0),(.int .u8 0),(.int .u8 0),(.int .u8 0),(.int .u8 0),(.int .u8 0),(.int .u8 0),(.int .u8 0),(.int .u8 0),(.int .u8 0),(.int .u8 0),(.int .u8 0),(.int .u8 0),(.int .u8 0),(.int .u8 0),(.int .u8 0)]),none⟩:=RTOk.n Tryz.underlying93 (by kernel_rfl) (by kernel_rfl) (by kernel_rfl) (zA (by kernel_rfl) rfl rfl) (fun h=>by simp at h)
theorem ty_101 : RTOk Tryz.prog ⟨101,(.int .u64),1,false,8,(some [(.int .u64 0)]),(some [.i])⟩:=RTOk.q Tryz.underlying101 (by kernel_rfl) (by kernel_rfl) (by kernel_rfl) (zS (by kernel_rfl) rfl rfl) (fun _=>rfl) (by kernel_rfl) (by kernel_rfl) rfl
theorem ty_111 : RTOk Tryz.prog ⟨111,(.sl 128),1,false,24,(some [.slnil]),(some [.sl])⟩:=RTOk.q Tryz.underlying111 (by kernel_rfl) (by kernel_rfl) (by kernel_rfl) (zS (by kernel_rfl) rfl rfl) (fun _=>rfl) (by kernel_rfl) (by kernel_rfl) rfl
theorem ty_115 : RTOk Tryz.prog ⟨115,(.st [(0,9),(1,9),(2,55)]),3,true,48,(some [(.str ⟨0,0⟩),(.str ⟨0,0⟩),.nili]),none⟩:=RTOk.n ⟨_,Tryz.underlying115,by kernel_rfl,by kernel_rfl⟩ (by kernel_rfl) (by kernel_rfl) (by kernel_rfl) (zA (by kernel_rfl) rfl rfl) (fun h=>by simp at h)
theorem ty_118 : RTOk Tryz.prog ⟨118,(.int .u32),1,false,4,(some [(.int .u32 0)]),(some [.i])⟩:=RTOk.q Tryz.underlying118 (by kernel_rfl) (by kernel_rfl) (by kernel_rfl) (zS (by kernel_rfl) rfl rfl) (fun _=>rfl) (by kernel_rfl) (by kernel_rfl) rfl
theorem ty_119 : RTOk Tryz.prog ⟨119,(.ptr 128),1,false,8,(some [.nilp]),(some [.p])⟩:=RTOk.q Tryz.underlying119 (by kernel_rfl) (by kernel_rfl) (by kernel_rfl) (zS (by kernel_rfl) rfl rfl) (fun _=>rfl) (by kernel_rfl) (by kernel_rfl) rfl
theorem ty_124 : RTOk Tryz.prog ⟨124,(.st [(0,9)]),1,true,16,(some [(.str ⟨0,0⟩)]),(some [.s])⟩:=RTOk.q ⟨_,Tryz.underlying124,by kernel_rfl,by kernel_rfl⟩ (by kernel_rfl) (by kernel_rfl) (by kernel_rfl) (zA (by kernel_rfl) rfl rfl) (fun h=>by simp at h) (by kernel_rfl) (by kernel_rfl) rfl
theorem ty_126 : RTOk Tryz.prog ⟨126,(.arr 3 21),3,true,12,(some [(.int .i32 0),(.int .i32 0),(.int .i32 0)]),none⟩:=RTOk.n Tryz.underlying126 (by kernel_rfl) (by kernel_rfl) (by kernel_rfl) (zA (by kernel_rfl) rfl rfl) (fun h=>by simp at h)
theorem ty_128 : RTOk Tryz.prog ⟨128,(.st [(0,118),(1,118),(2,126)]),5,true,20,(some [(.int .u32 0),(.int .u32 0),(.int .i32 0),(.int .i32 0),(.int .i32 0)]),none⟩:=RTOk.n ⟨_,Tryz.underlying128,by kernel_rfl,by kernel_rfl⟩ (by kernel_rfl) (by kernel_rfl) (by kernel_rfl) (zA (by kernel_rfl) rfl rfl) (fun h=>by simp at h)
theorem ty_130 : RTOk Tryz.prog ⟨130,(.arr 24 5),24,true,24,(some [(.int .u8 0),(.int .u8 0),(.int .u8 0),(.int .u8 0),(.int .u8 0),(.int .u8 0),(.int .u8 0),(.int .u8 0),(.int .u8 0),(.int .u8 0),(.int .u8 0),(.int .u8 0),(.int .u8 0),(.int .u8 0),(.int .u8 0),(.int .u8 0),(.int .u8 0),(.int .u8 0),(.int .u8 0),(.int .u8 0),(.int .u8 0),(.int .u8 0),(.int .u8 0),(.int .u8 0)]),none⟩:=RTOk.n Tryz.underlying130 (by kernel_rfl) (by kernel_rfl) (by kernel_rfl) (zA (by kernel_rfl) rfl rfl) (fun h=>by simp at h)
theorem ty_136 : RTOk Tryz.prog ⟨136,(.arr 20 101),20,true,160,(some [(.int .u64 0),(.int .u64 0),(.int .u64 0),(.int .u64 0),(.int .u64 0),(.int .u64 0),(.int .u64 0),(.int .u64 0),(.int .u64 0),(.int .u64 0),(.int .u64 0),(.int .u64 0),(.int .u64 0),(.int .u64 0),(.int .u64 0),(.int .u64 0),(.int .u64 0),(.int .u64 0),(.int .u64 0),(.int .u64 0)]),none⟩:=RTOk.n Tryz.underlying136 (by kernel_rfl) (by kernel_rfl) (by kernel_rfl) (zA (by kernel_rfl) rfl rfl) (fun h=>by simp at h)
theorem ty_137 : RTOk Tryz.prog ⟨137,(.arr 65 5),65,true,65,(some [(.int .u8 0),(.int .u8 0),(.int .u8 0),(.int .u8 0),(.int .u8 0),(.int .u8 0),(.int .u8 0),(.int .u8 0),(.int .u8 0),(.int .u8 0),(.int .u8 0),(.int .u8 0),(.int .u8 0),(.int .u8 0),(.int .u8 0),(.int .u8 0),(.int .u8 0),(.int .u8 0),(.int .u8 0),(.int .u8 0),(.int .u8 0),(.int .u8 0),(.int .u8 0),(.int .u8 0),(.int .u8 0),(.int .u8 0),(.int .u8 0),(.int .u8 0),(.int .u8 0),(.int .u8 0),(.int .u8 0),(.int .u8 0),(.int .u8 0),(.int .u8 0),(.int .u8 0),(.int .u8 0),(.int .u8 0),(.int .u8 0),(.int .u8 0),(.int .u8 0),(.int .u8 0),(.int .u8 0),(.int .u8 0),(.int .u8 0),(.int .u8 0),(.int .u8 0),(.int .u8 0),(.int .u8 0),(.int .u8 0),(.int .u8 0),(.int .u8 0),(.int .u8 0),(.int .u8 0),(.int .u8 0),(.int .u8 0),(.int .u8 0),(.int .u8 0),(.int .u8 0),(.int .u8 0),(.int .u8 0),(.int .u8 0),(.int .u8 0),(.int .u8 0),(.int .u8 0),(.int .u8 0)]),none⟩:=RTOk.n Tryz.underlying137 (by kernel_rfl) (by kernel_rfl) (by kernel_rfl) (zA (by kernel_rfl) rfl rfl) (fun h=>by simp at h)
theorem ty_141 : RTOk Tryz.prog ⟨141,(.arr 32 5),32,true,32,(some [(.int .u8 0),(.int .u8 0),(.int .u8 0),(.int .u8 0),(.int .u8 0),(.int .u8 0),(.int .u8 0),(.int .u8 0),(.int .u8 0),(.int .u8 0),(.int .u8 0),(.int .u8 0),(.int .u8 0),(.int .u8 0),(.int .u8 0),(.int .u8 0),(.int .u8 0),(.int .u8 0),(.int .u8 0),(.int .u8 0),(.int .u8 0),(.int .u8 0),(.int .u8 0),(.int .u8 0),(.int .u8 0),(.int .u8 0),(.int .u8 0),(.int .u8 0),(.int .u8 0),(.int .u8 0),(.int .u8 0),(.int .u8 0)]),none⟩:=RTOk.n Tryz.underlying141 (by kernel_rfl) (by kernel_rfl) (by kernel_rfl) (zA (by kernel_rfl) rfl rfl) (fun h=>by simp at h)
theorem ty_142 : RTOk Tryz.prog ⟨142,(.arr 64 5),64,true,64,(some [(.int .u8 0),(.int .u8 0),(.int .u8 0),(.int .u8 0),(.int .u8 0),(.int .u8 0),(.int .u8 0),(.int .u8 0),(.int .u8 0),(.int .u8 0),(.int .u8 0),(.int .u8 0),(.int .u8 0),(.int .u8 0),(.int .u8 0),(.int .u8 0),(.int .u8 0),(.int .u8 0),(.int .u8 0),(.int .u8 0),(.int .u8 0),(.int .u8 0),(.int .u8 0),(.int .u8 0),(.int .u8 0),(.int .u8 0),(.int .u8 0),(.int .u8 0),(.int .u8 0),(.int .u8 0),(.int .u8 0),(.int .u8 0),(.int .u8 0),(.int .u8 0),(.int .u8 0),(.int .u8 0),(.int .u8 0),(.int .u8 0),(.int .u8 0),(.int .u8 0),(.int .u8 0),(.int .u8 0),(.int .u8 0),(.int .u8 0),(.int .u8 0),(.int .u8 0),(.int .u8 0),(.int .u8 0),(.int .u8 0),(.int .u8 0),(.int .u8 0),(.int .u8 0),(.int .u8 0),(.int .u8 0),(.int .u8 0),(.int .u8 0),(.int .u8 0),(.int .u8 0),(.int .u8 0),(.int .u8 0),(.int .u8 0),(.int .u8 0),(.int .u8 0),(.int .u8 0)]),none⟩:=RTOk.n Tryz.underlying142 (by kernel_rfl) (by kernel_rfl) (by kernel_rfl) (zA (by kernel_rfl) rfl rfl) (fun h=>by simp at h)
def tyL : List RTI:=[⟨2,(.int .i64),1,false,8,(some [(.int .i64 0)]),(some [.i])⟩,
 ⟨3,(.int .i64),1,false,8,(some [(.int .i64 0)]),(some [.i])⟩,
 ⟨4,.bool,1,false,1,(some [(.bool false)]),(some [.b])⟩,
 ⟨5,(.int .u8),1,false,1,(some [(.int .u8 0)]),(some [.i])⟩,
 ⟨9,.str,1,false,16,(some [(.str ⟨0,0⟩)]),(some [.s])⟩,
 ⟨21,(.int .i32),1,false,4,(some [(.int .i32 0)]),(some [.i])⟩,
 ⟨23,(.sl 9),1,false,24,(some [.slnil]),(some [.sl])⟩,
 ⟨24,(.int .u64),1,false,8,(some [(.int .u64 0)]),(some [.i])⟩,
 ⟨25,(.sl 27),1,false,24,(some [.slnil]),(some [.sl])⟩,
 ⟨27,(.st [(0,3),(1,9),(2,23),(3,25)]),4,true,72,(some [(.int .i64 0),(.str ⟨0,0⟩),.slnil,.slnil]),(some [.i,.s,.sl,.sl])⟩,
 ⟨28,(.int .i64),1,false,8,(some [(.int .i64 0)]),(some [.i])⟩,
 ⟨35,(.sl 5),1,false,24,(some [.slnil]),(some [.sl])⟩,
 ⟨37,(.ptr 39),1,false,8,(some [.nilp]),(some [.p])⟩,
 ⟨39,(.st [(0,9),(1,3),(2,3),(3,28),(4,3)]),5,true,48,(some [(.str ⟨0,0⟩),(.int .i64 0),(.int .i64 0),(.int .i64 0),(.int .i64 0)]),(some [.s,.i,.i,.i,.i])⟩,
 ⟨42,(.ptr 44),1,false,8,(some [.nilp]),(some [.p])⟩,
 ⟨44,(.st [(0,42),(1,35)]),2,true,32,(some [.nilp,.slnil]),(some [.p,.sl])⟩,
 ⟨55,.iface,1,false,16,(some [.nili]),none⟩,
 ⟨62,(.ptr 5),1,false,8,(some [.nilp]),(some [.p])⟩,
 ⟨65,(.arr 256 4),256,true,256,(some [(.bool false),(.bool false),(.bool false),(.bool false),(.bool false),(.bool false),(.bool false),(.bool false),(.bool false),(.bool false),(.bool false),(.bool false),(.bool false),(.bool false),(.bool false),(.bool false),(.bool false),(.bool false),(.bool false),(.bool false),(.bool false),(.bool false),(.bool false),(.bool false),(.bool false),(.bool false),(.bool false),(.bool false),(.bool false),(.bool false),(.bool false),(.bool false),(.bool false),(.bool false),(.bool false),(.bool false),(.bool false),(.bool false),(.bool false),(.bool false),(.bool false),(.bool false),(.bool false),(.bool false),(.bool false),(.bool false),(.bool false),(.bool false),(.bool false),(.bool false),(.bool false),(.bool false),(.bool false),(.bool false),(.bool false),(.bool false),(.bool false),(.bool false),(.bool false),(.bool false),(.bool false),(.bool false),(.bool false),(.bool false),(.bool false),(.bool false),(.bool false),(.bool false),(.bool false),(.bool false),(.bool false),(.bool false),(.bool false),(.bool false),(.bool false),(.bool false),(.bool false),(.bool false),(.bool false),(.bool false),(.bool false),(.bool false),(.bool false),(.bool false),(.bool false),(.bool false),(.bool false),(.bool false),(.bool false),(.bool false),(.bool false),(.bool false),(.bool false),(.bool false),(.bool false),(.bool false),(.bool false),(.bool false),(.bool false),(.bool false),(.bool false),(.bool false),(.bool false),(.bool false),(.bool false),(.bool false),(.bool false),(.bool false),(.bool false),(.bool false),(.bool false),(.bool false),(.bool false),(.bool false),(.bool false),(.bool false),(.bool false),(.bool false),(.bool false),(.bool false),(.bool false),(.bool false),(.bool false),(.bool false),(.bool false),(.bool false),(.bool false),(.bool false),(.bool false),(.bool false),(.bool false),(.bool false),(.bool false),(.bool false),(.bool false),(.bool false),(.bool false),(.bool false),(.bool false),(.bool false),(.bool false),(.bool false),(.bool false),(.bool false),(.bool false),(.bool false),(.bool false),(.bool false),(.bool false),(.bool false),(.bool false),(.bool false),(.bool false),(.bool false),(.bool false),(.bool false),(.bool false),(.bool false),(.bool false),(.bool false),(.bool false),(.bool false),(.bool false),(.bool false),(.bool false),(.bool false),(.bool false),(.bool false),(.bool false),(.bool false),(.bool false),(.bool false),(.bool false),(.bool false),(.bool false),(.bool false),(.bool false),(.bool false),(.bool false),(.bool false),(.bool false),(.bool false),(.bool false),(.bool false),(.bool false),(.bool false),(.bool false),(.bool false),(.bool false),(.bool false),(.bool false),(.bool false),(.bool false),(.bool false),(.bool false),(.bool false),(.bool false),(.bool false),(.bool false),(.bool false),(.bool false),(.bool false),(.bool false),(.bool false),(.bool false),(.bool false),(.bool false),(.bool false),(.bool false),(.bool false),(.bool false),(.bool false),(.bool false),(.bool false),(.bool false),(.bool false),(.bool false),(.bool false),(.bool false),(.bool false),(.bool false),(.bool false),(.bool false),(.bool false),(.bool false),(.bool false),(.bool false),(.bool false),(.bool false),(.bool false),(.bool false),(.bool false),(.bool false),(.bool false),(.bool false),(.bool false),(.bool false),(.bool false),(.bool false),(.bool false),(.bool false),(.bool false),(.bool false),(.bool false),(.bool false),(.bool false),(.bool false),(.bool false),(.bool false),(.bool false),(.bool false),(.bool false),(.bool false),(.bool false),(.bool false),(.bool false)]),none⟩,
 ⟨70,(.map 9 3),1,false,8,(some [.mapnil]),(some [.m])⟩,
 ⟨83,.uptr,1,false,8,(some [.nilp]),none⟩,
 ⟨90,(.arr 256 5),256,true,256,(some [(.int .u8 0),(.int .u8 0),(.int .u8 0),(.int .u8 0),(.int .u8 0),(.int .u8 0),(.int .u8 0),(.int .u8 0),(.int .u8 0),(.int .u8 0),(.int .u8 0),(.int .u8 0),(.int .u8 0),(.int .u8 0),(.int .u8 0),(.int .u8 0),(.int .u8 0),(.int .u8 0),(.int .u8 0),(.int .u8 0),(.int .u8 0),(.int .u8 0),(.int .u8 0),(.int .u8 0),(.int .u8 0),(.int .u8 0),(.int .u8 0),(.int .u8 0),(.int .u8 0),(.int .u8 0),(.int .u8 0),(.int .u8 0),(.int .u8 0),(.int .u8 0),(.int .u8 0),(.int .u8 0),(.int .u8 0),(.int .u8 0),(.int .u8 0),(.int .u8 0),(.int .u8 0),(.int .u8 0),(.int .u8 0),(.int .u8 0),(.int .u8 0),(.int .u8 0),(.int .u8 0),(.int .u8 0),(.int .u8 0),(.int .u8 0),(.int .u8 0),(.int .u8 0),(.int .u8 0),(.int .u8 0),(.int .u8 0),(.int .u8 0),(.int .u8 0),(.int .u8 0),(.int .u8 0),(.int .u8 0),(.int .u8 0),(.int .u8 0),(.int .u8 0),(.int .u8 0),(.int .u8 0),(.int .u8 0),(.int .u8 0),(.int .u8 0),(.int .u8 0),(.int .u8 0),(.int .u8 0),(.int .u8 0),(.int .u8 0),(.int .u8 0),(.int .u8 0),(.int .u8 0),(.int .u8 0),(.int .u8 0),(.int .u8 0),(.int .u8 0),(.int .u8 0),(.int .u8 0),(.int .u8 0),(.int .u8 0),(.int .u8 0),(.int .u8 0),(.int .u8 0),(.int .u8 0),(.int .u8 0),(.int .u8 0),(.int .u8 0),(.int .u8 0),(.int .u8 0),(.int .u8 0),(.int .u8 0),(.int .u8 0),(.int .u8 0),(.int .u8 0),(.int .u8 0),(.int .u8 0),(.int .u8 0),(.int .u8 0),(.int .u8 0),(.int .u8 0),(.int .u8 0),(.int .u8 0),(.int .u8 0),(.int .u8 0),(.int .u8 0),(.int .u8 0),(.int .u8 0),(.int .u8 0),(.int .u8 0),(.int .u8 0),(.int .u8 0),(.int .u8 0),(.int .u8 0),(.int .u8 0),(.int .u8 0),(.int .u8 0),(.int .u8 0),(.int .u8 0),(.int .u8 0),(.int .u8 0),(.int .u8 0),(.int .u8 0),(.int .u8 0),(.int .u8 0),(.int .u8 0),(.int .u8 0),(.int .u8 0),(.int .u8 0),(.int .u8 0),(.int .u8 0),(.int .u8 0),(.int .u8 0),(.int .u8 0),(.int .u8 0),(.int .u8 0),(.int .u8 0),(.int .u8 0),(.int .u8 0),(.int .u8 0),(.int .u8 0),(.int .u8 0),(.int .u8 0),(.int .u8 0),(.int .u8 0),(.int .u8 0),(.int .u8 0),(.int .u8 0),(.int .u8 0),(.int .u8 0),(.int .u8 0),(.int .u8 0),(.int .u8 0),(.int .u8 0),(.int .u8 0),(.int .u8 0),(.int .u8 0),(.int .u8 0),(.int .u8 0),(.int .u8 0),(.int .u8 0),(.int .u8 0),(.int .u8 0),(.int .u8 0),(.int .u8 0),(.int .u8 0),(.int .u8 0),(.int .u8 0),(.int .u8 0),(.int .u8 0),(.int .u8 0),(.int .u8 0),(.int .u8 0),(.int .u8 0),(.int .u8 0),(.int .u8 0),(.int .u8 0),(.int .u8 0),(.int .u8 0),(.int .u8 0),(.int .u8 0),(.int .u8 0),(.int .u8 0),(.int .u8 0),(.int .u8 0),(.int .u8 0),(.int .u8 0),(.int .u8 0),(.int .u8 0),(.int .u8 0),(.int .u8 0),(.int .u8 0),(.int .u8 0),(.int .u8 0),(.int .u8 0),(.int .u8 0),(.int .u8 0),(.int .u8 0),(.int .u8 0),(.int .u8 0),(.int .u8 0),(.int .u8 0),(.int .u8 0),(.int .u8 0),(.int .u8 0),(.int .u8 0),(.int .u8 0),(.int .u8 0),(.int .u8 0),(.int .u8 0),(.int .u8 0),(.int .u8 0),(.int .u8 0),(.int .u8 0),(.int .u8 0),(.int .u8 0),(.int .u8 0),(.int .u8 0),(.int .u8 0),(.int .u8 0),(.int .u8 0),(.int .u8 0),(.int .u8 0),(.int .u8 0),(.int .u8 0),(.int .u8 0),(.int .u8 0),(.int .u8 0),(.int .u8 0),(.int .u8 0),(.int .u8 0),(.int .u8 0),(.int .u8 0),(.int .u8 0),(.int .u8 0),(.int .u8 0),(.int .u8 0),(.int .u8 0),(.int .u8 0),(.int .u8 0),(.int .u8 0),(.int .u8 0),(.int .u8 0),(.int .u8 0),(.int .u8 0),(.int .u8 0),(.int .u8 0),(.int .u8 0),(.int .u8 0),(.int .u8 0),(.int .u8 0),(.int .u8 0),(.int .u8 0)]),none⟩,
 ⟨92,(.st [(0,5),(1,5)]),2,true,2,(some [(.int .u8 0),(.int .u8 0)]),(some [.i,.i])⟩,
 ⟨93,(.arr 16 92),32,true,32,(some [(.int .u8 0),(.int .u8 0),(.int .u8 0),(.int .u8 0),(.int .u8 0),(.int .u8 0),(.int .u8 0),(.int .u8 0),(.int .u8 0),(.int .u8 0),(.int .u8 0),(.int .u8 0),(.int .u8 0),(.int .u8 0),(.int .u8 0),(.int .u8 0),(.int .u8 0),(.int .u8 0),(.int .u8 0),(.int .u8 0),(.int .u8 0),(.int .u8 0),(.int .u8 0),(.int .u8 0),(.int .u8 0),(.int .u8 0),(.int .u8 0),(.int .u8 0),(.int .u8 0),(.int .u8 0),(.int .u8 0),(.int .u8 0)]),none⟩,
 ⟨101,(.int .u64),1,false,8,(some [(.int .u64 0)]),(some [.i])⟩,
 ⟨111,(.sl 128),1,false,24,(some [.slnil]),(some [.sl])⟩,
 ⟨115,(.st [(0,9),(1,9),(2,55)]),3,true,48,(some [(.str ⟨0,0⟩),(.str ⟨0,0⟩),.nili]),none⟩,
 ⟨118,(.int .u32),1,false,4,(some [(.int .u32 0)]),(some [.i])⟩,
 ⟨119,(.ptr 128),1,false,8,(some [.nilp]),(some [.p])⟩,
 ⟨124,(.st [(0,9)]),1,true,16,(some [(.str ⟨0,0⟩)]),(some [.s])⟩,
 ⟨126,(.arr 3 21),3,true,12,(some [(.int .i32 0),(.int .i32 0),(.int .i32 0)]),none⟩,
 ⟨128,(.st [(0,118),(1,118),(2,126)]),5,true,20,(some [(.int .u32 0),(.int .u32 0),(.int .i32 0),(.int .i32 0),(.int .i32 0)]),none⟩,
 ⟨130,(.arr 24 5),24,true,24,(some [(.int .u8 0),(.int .u8 0),(.int .u8 0),(.int .u8 0),(.int .u8 0),(.int .u8 0),(.int .u8 0),(.int .u8 0),(.int .u8 0),(.int .u8 0),(.int .u8 0),(.int .u8 0),(.int .u8 0),(.int .u8 0),(.int .u8 0),(.int .u8 0),(.int .u8 0),(.int .u8 0),(.int .u8 0),(.int .u8 0),(.int .u8 0),(.int .u8 0),(.int .u8 0),(.int .u8 0)]),none⟩,
 ⟨136,(.arr 20 101),20,true,160,(some [(.int .u64 0),(.int .u64 0),(.int .u64 0),(.int .u64 0),(.int .u64 0),(.int .u64 0),(.int .u64 0),(.int .u64 0),(.int .u64 0),(.int .u64 0),(.int .u64 0),(.int .u64 0),(.int .u64 0),(.int .u64 0),(.int .u64 0),(.int .u64 0),(.int .u64 0),(.int .u64 0),(.int .u64 0),(.int .u64 0)]),none⟩,
 ⟨137,(.arr 65 5),65,true,65,(some [(.int .u8 0),(.int .u8 0),(.int .u8 0),(.int .u8 0),(.int .u8 0),(.int .u8 0),(.int .u8 0),(.int .u8 0),(.int .u8 0),(.int .u8 0),(.int .u8 0),(.int .u8 0),(.int .u8 0),(.int .u8 0),(.int .u8 0),(.int .u8 0),(.int .u8 0),(.int .u8 0),(.int .u8 0),(.int .u8 0),(.int .u8 0),(.int .u8 0),(.int .u8 0),(.int .u8 0),(.int .u8 0),(.int .u8 0),(.int .u8 0),(.int .u8 0),(.int .u8 0),(.int .u8 0),(.int .u8 0),(.int .u8 0),(.int .u8 0),(.int .u8 0),(.int .u8 0),(.int .u8 0),(.int .u8 0),(.int .u8 0),(.int .u8 0),(.int .u8 0),(.int .u8 0),(.int .u8 0),(.int .u8 0),(.int .u8 0),(.int .u8 0),(.int .u8 0),(.int .u8 0),(.int .u8 0),(.int .u8 0),(.int .u8 0),(.int .u8 0),(.int .u8 0),(.int .u8 0),(.int .u8 0),(.int .u8 0),(.int .u8 0),(.int .u8 0),(.int .u8 0),(.int .u8 0),(.int .u8 0),(.int .u8 0),(.int .u8 0),(.int .u8 0),(.int .u8 0),(.int .u8 0)]),none⟩,
 ⟨141,(.arr 32 5),32,true,32,(some [(.int .u8 0),(.int .u8 0),(.int .u8 0),(.int .u8 0),(.int .u8 0),(.int .u8 0),(.int .u8 0),(.int .u8 0),(.int .u8 0),(.int .u8 0),(.int .u8 0),(.int .u8 0),(.int .u8 0),(.int .u8 0),(.int .u8 0),(.int .u8 0),(.int .u8 0),(.int .u8 0),(.int .u8 0),(.int .u8 0),(.int .u8 0),(.int .u8 0),(.int .u8 0),(.int .u8 0),(.int .u8 0),(.int .u8 0),(.int .u8 0),(.int .u8 0),(.int .u8 0),(.int .u8 0),(.int .u8 0),(.int .u8 0)]),none⟩,
 ⟨142,(.arr 64 5),64,true,64,(some [(.int .u8 0),(.int .u8 0),(.int .u8 0),(.int .u8 0),(.int .u8 0),(.int .u8 0),(.int .u8 0),(.int .u8 0),(.int .u8 0),(.int .u8 0),(.int .u8 0),(.int .u8 0),(.int .u8 0),(.int .u8 0),(.int .u8 0),(.int .u8 0),(.int .u8 0),(.int .u8 0),(.int .u8 0),(.int .u8 0),(.int .u8 0),(.int .u8 0),(.int .u8 0),(.int .u8 0),(.int .u8 0),(.int .u8 0),(.int .u8 0),(.int .u8 0),(.int .u8 0),(.int .u8 0),(.int .u8 0),(.int .u8 0),(.int .u8 0),(.int .u8 0),(.int .u8 0),(.int .u8 0),(.int .u8 0),(.int .u8 0),(.int .u8 0),(.int .u8 0),(.int .u8 0),(.int .u8 0),(.int .u8 0),(.int .u8 0),(.int .u8 0),(.int .u8 0),(.int .u8 0),(.int .u8 0),(.int .u8 0),(.int .u8 0),(.int .u8 0),(.int .u8 0),(.int .u8 0),(.int .u8 0),(.int .u8 0),(.int .u8 0),(.int .u8 0),(.int .u8 0),(.int .u8 0),(.int .u8 0),(.int .u8 0),(.int .u8 0),(.int .u8 0),(.int .u8 0)]),none⟩]
theorem tyLOk : ∀ ti ∈ tyL,RTOk Tryz.prog ti:=all_cons ty_2 (all_cons ty_3 (all_cons ty_4 (all_cons ty_5 (all_cons ty_9 (all_cons ty_21 (all_cons ty_23 (all_cons ty_24 (all_cons ty_25 (all_cons ty_27 (all_cons ty_28 (all_cons ty_35 (all_cons ty_37 (all_cons ty_39 (all_cons ty_42 (all_cons ty_44 (all_cons ty_55 (all_cons ty_62 (all_cons ty_65 (all_cons ty_70 (all_cons ty_83 (all_cons ty_90 (all_cons ty_92 (all_cons ty_93 (all_cons ty_101 (all_cons ty_111 (all_cons ty_115 (all_cons ty_118 (all_cons ty_119 (all_cons ty_124 (all_cons ty_126 (all_cons ty_128 (all_cons ty_130 (all_cons ty_136 (all_cons ty_137 (all_cons ty_141 (all_cons ty_142 (all_nil)))))))))))))))))))))))))))))))))))))
noncomputable def tyT : T RTI:=ofList (tyL.map fun ti=>(ti.t,ti))
theorem tyOk : TtOk Tryz.prog tyT:=ttOk_of tyLOk
theorem fe_6 : FeOk Tryz.prog 6 (FE.code 53 [.cell 2 27,.tmp 3,.tmp 4] (bodyOf Tryz.f6)):=⟨_,Tryz.func6,by kernel_rfl,Tryz.ntmps6,by rw [Tryz.results6],by kernel_rfl⟩
theorem fe_7 : FeOk Tryz.prog 7 (FE.code 25 [.tmp 2,.tmp 3] (bodyOf Tryz.f7)):=⟨_,Tryz.func7,by kernel_rfl,Tryz.ntmps7,by rw [Tryz.results7],by kernel_rfl⟩
theorem fe_8 : FeOk Tryz.prog 8 (FE.code 77 [.tmp 0] (bodyOf Tryz.f8)):=⟨_,Tryz.func8,by kernel_rfl,Tryz.ntmps8,by rw [Tryz.results8],by kernel_rfl⟩
theorem fe_9 : FeOk Tryz.prog 9 (FE.code 22 [] (bodyOf Tryz.f9)):=⟨_,Tryz.func9,by kernel_rfl,Tryz.ntmps9,by rw [Tryz.results9],by kernel_rfl⟩
theorem fe_10 : FeOk Tryz.prog 10 (FE.code 34 [.cell 2 27] (bodyOf Tryz.f10)):=⟨_,Tryz.func10,by kernel_rfl,Tryz.ntmps10,by rw [Tryz.results10],by kernel_rfl⟩
theorem fe_11 : FeOk Tryz.prog 11 (FE.code 19 [] (bodyOf Tryz.f11)):=⟨_,Tryz.func11,by kernel_rfl,Tryz.ntmps11,by rw [Tryz.results11],by kernel_rfl⟩
theorem fe_12 : FeOk Tryz.prog 12 (FE.code 59 [] (bodyOf Tryz.f12)):=⟨_,Tryz.func12,by kernel_rfl,Tryz.ntmps12,by rw [Tryz.results12],by kernel_rfl⟩
theorem fe_13 : FeOk Tryz.prog 13 (FE.code 14 [.tmp 2] (bodyOf Tryz.f13)):=⟨_,Tryz.func13,by kernel_rfl,Tryz.ntmps13,by rw [Tryz.results13],by kernel_rfl⟩
theorem fe_14 : FeOk Tryz.prog 14 (FE.code 74 [.tmp 4] (bodyOf Tryz.f14)):=⟨_,Tryz.func14,by kernel_rfl,Tryz.ntmps14,by rw [Tryz.results14],by kernel_rfl⟩
theorem fe_15 : FeOk Tryz.prog 15 (FE.code 38 [.cell 4 27,.tmp 5] (bodyOf Tryz.f15)):=⟨_,Tryz.func15,by kernel_rfl,Tryz.ntmps15,by rw [Tryz.results15],by kernel_rfl⟩
theorem fe_16 : FeOk Tryz.prog 16 (FE.code 37 [.tmp 4] (bodyOf Tryz.f16)):=⟨_,Tryz.func16,by kernel_rfl,Tryz.ntmps16,by rw [Tryz.results16],by kernel_rfl⟩
theorem fe_17 : FeOk Tryz.prog 17 (FE.code 22 [.tmp 2] (bodyOf Tryz.f17)):=⟨_,Tryz.func17,by kernel_rfl,Tryz.ntmps17,by rw [Tryz.results17],by kernel_rfl⟩
theorem fe_18 : FeOk Tryz.prog 18 (FE.code 11 [.cell 2 27] (bodyOf Tryz.f18)):=⟨_,Tryz.func18,by kernel_rfl,Tryz.ntmps18,by rw [Tryz.results18],by kernel_rfl⟩
theorem fe_19 : FeOk Tryz.prog 19 (FE.code 9 [.cell 2 27] (bodyOf Tryz.f19)):=⟨_,Tryz.func19,by kernel_rfl,Tryz.ntmps19,by rw [Tryz.results19],by kernel_rfl⟩
theorem fe_20 : FeOk Tryz.prog 20 (FE.code 89 [.tmp 2] (bodyOf Tryz.f20)):=⟨_,Tryz.func20,by kernel_rfl,Tryz.ntmps20,by rw [Tryz.results20],by kernel_rfl⟩
theorem fe_21 : FeOk Tryz.prog 21 (FE.code 22 [.cell 6 27] (bodyOf Tryz.f21)):=⟨_,Tryz.func21,by kernel_rfl,Tryz.ntmps21,by rw [Tryz.results21],by kernel_rfl⟩
theorem fe_22 : FeOk Tryz.prog 22 (FE.code 101 [.cell 2 27] (bodyOf Tryz.f22)):=⟨_,Tryz.func22,by kernel_rfl,Tryz.ntmps22,by rw [Tryz.results22],by kernel_rfl⟩
theorem fe_23 : FeOk Tryz.prog 23 (FE.code 8 [.tmp 2] (bodyOf Tryz.f23)):=⟨_,Tryz.func23,by kernel_rfl,Tryz.ntmps23,by rw [Tryz.results23],by kernel_rfl⟩
theorem fe_24 : FeOk Tryz.prog 24 (FE.code 19 [.tmp 4,.tmp 5] (bodyOf Tryz.f24)):=⟨_,Tryz.func24,by kernel_rfl,Tryz.ntmps24,by rw [Tryz.results24],by kernel_rfl⟩
theorem fe_25 : FeOk Tryz.prog 25 (FE.code 60 [] (bodyOf Tryz.f25)):=⟨_,Tryz.func25,by kernel_rfl,Tryz.ntmps25,by rw [Tryz.results25],by kernel_rfl⟩
theorem fe_26 : FeOk Tryz.prog 26 (FE.code 29 [] (bodyOf Tryz.f26)):=⟨_,Tryz.func26,by kernel_rfl,Tryz.ntmps26,by rw [Tryz.results26],by kernel_rfl⟩
theorem fe_27 : FeOk Tryz.prog 27 (FE.code 14 [] (bodyOf Tryz.f27)):=⟨_,Tryz.func27,by kernel_rfl,Tryz.ntmps27,by rw [Tryz.results27],by kernel_rfl⟩
theorem fe_28 : FeOk Tryz.prog 28 (FE.code 23 [] (bodyOf Tryz.f28)):=⟨_,Tryz.func28,by kernel_rfl,Tryz.ntmps28,by rw [Tryz.results28],by kernel_rfl⟩
theorem fe_29 : FeOk Tryz.prog 29 (FE.code 17 [.tmp 4] (bodyOf Tryz.f29)):=⟨_,Tryz.func29,by kernel_rfl,Tryz.ntmps29,by rw [Tryz.results29],by kernel_rfl⟩
theorem fe_30 : FeOk Tryz.prog 30 (FE.code 17 [.tmp 4] (bodyOf Tryz.f30)):=⟨_,Tryz.func30,by kernel_rfl,Tryz.ntmps30,by rw [Tryz.results30],by kernel_rfl⟩
theorem fe_31 : FeOk Tryz.prog 31 (FE.code 21 [.cell 2 65,.tmp 3] (bodyOf Tryz.f31)):=⟨_,Tryz.func31,by kernel_rfl,Tryz.ntmps31,by rw [Tryz.results31],by kernel_rfl⟩
theorem fe_32 : FeOk Tryz.prog 32 (FE.code 16 [.tmp 4] (bodyOf Tryz.f32)):=⟨_,Tryz.func32,by kernel_rfl,Tryz.ntmps32,by rw [Tryz.results32],by kernel_rfl⟩
theorem fe_33 : FeOk Tryz.prog 33 (FE.code 23 [.tmp 4] (bodyOf Tryz.f33)):=⟨_,Tryz.func33,by kernel_rfl,Tryz.ntmps33,by rw [Tryz.results33],by kernel_rfl⟩
theorem fe_34 : FeOk Tryz.prog 34 (FE.code 55 [] (bodyOf Tryz.f34)):=⟨_,Tryz.func34,by kernel_rfl,Tryz.ntmps34,by rw [Tryz.results34],by kernel_rfl⟩
theorem fe_35 : FeOk Tryz.prog 35 (FE.code 48 [] (bodyOf Tryz.f35)):=⟨_,Tryz.func35,by kernel_rfl,Tryz.ntmps35,by rw [Tryz.results35],by kernel_rfl⟩
theorem fe_36 : FeOk Tryz.prog 36 (FE.code 29 [.tmp 4] (bodyOf Tryz.f36)):=⟨_,Tryz.func36,by kernel_rfl,Tryz.ntmps36,by rw [Tryz.results36],by kernel_rfl⟩
theorem fe_37 : FeOk Tryz.prog 37 (FE.code 11 [] (bodyOf Tryz.f37)):=⟨_,Tryz.func37,by kernel_rfl,Tryz.ntmps37,by rw [Tryz.results37],by kernel_rfl⟩
theorem fe_38 : FeOk Tryz.prog 38 (FE.code 44 [.tmp 2,.tmp 3] (bodyOf Tryz.f38)):=⟨_,Tryz.func38,by kernel_rfl,Tryz.ntmps38,by rw [Tryz.results38],by kernel_rfl⟩
theorem fe_39 : FeOk Tryz.prog 39 (FE.code 41 [] (bodyOf Tryz.f39)):=⟨_,Tryz.func39,by kernel_rfl,Tryz.ntmps39,by rw [Tryz.results39],by kernel_rfl⟩
theorem fe_40 : FeOk Tryz.prog 40 (FE.code 20 [] (bodyOf Tryz.f40)):=⟨_,Tryz.func40,by kernel_rfl,Tryz.ntmps40,by rw [Tryz.results40],by kernel_rfl⟩
theorem fe_41 : FeOk Tryz.prog 41 (FE.code 10 [.tmp 4] (bodyOf Tryz.f41)):=⟨_,Tryz.func41,by kernel_rfl,Tryz.ntmps41,by rw [Tryz.results41],by kernel_rfl⟩
theorem fe_42 : FeOk Tryz.prog 42 (FE.code 19 [.tmp 2,.tmp 3] (bodyOf Tryz.f42)):=⟨_,Tryz.func42,by kernel_rfl,Tryz.ntmps42,by rw [Tryz.results42],by kernel_rfl⟩
theorem fe_43 : FeOk Tryz.prog 43 (FE.code 9 [.tmp 4] (bodyOf Tryz.f43)):=⟨_,Tryz.func43,by kernel_rfl,Tryz.ntmps43,by rw [Tryz.results43],by kernel_rfl⟩
theorem fe_44 : FeOk Tryz.prog 44 (FE.code 37 [] (bodyOf Tryz.f44)):=⟨_,Tryz.func44,by kernel_rfl,Tryz.ntmps44,by rw [Tryz.results44],by kernel_rfl⟩
theorem fe_45 : FeOk Tryz.prog 45 (FE.code 11 [.tmp 2,.tmp 3] (bodyOf Tryz.f45)):=⟨_,Tryz.func45,by kernel_rfl,Tryz.ntmps45,by rw [Tryz.results45],by kernel_rfl⟩
theorem fe_46 : FeOk Tryz.prog 46 (FE.code 43 [.tmp 4] (bodyOf Tryz.f46)):=⟨_,Tryz.func46,by kernel_rfl,Tryz.ntmps46,by rw [Tryz.results46],by kernel_rfl⟩
theorem fe_47 : FeOk Tryz.prog 47 (FE.code 78 [.tmp 2] (bodyOf Tryz.f47)):=⟨_,Tryz.func47,by kernel_rfl,Tryz.ntmps47,by rw [Tryz.results47],by kernel_rfl⟩
theorem fe_48 : FeOk Tryz.prog 48 (FE.code 25 [.tmp 6,.tmp 7] (bodyOf Tryz.f48)):=⟨_,Tryz.func48,by kernel_rfl,Tryz.ntmps48,by rw [Tryz.results48],by kernel_rfl⟩
theorem fe_49 : FeOk Tryz.prog 49 (FE.pure sameX):=same_ok Tryz.func49 (by kernel_rfl) (by kernel_rfl) (by kernel_rfl) (by kernel_rfl)
theorem fe_50 : FeOk Tryz.prog 50 (FE.code 117 [.tmp 2,.tmp 3] (bodyOf Tryz.f50)):=⟨_,Tryz.func50,by kernel_rfl,Tryz.ntmps50,by rw [Tryz.results50],by kernel_rfl⟩
theorem fe_51 : FeOk Tryz.prog 51 (FE.code 187 [.tmp 4] (bodyOf Tryz.f51)):=⟨_,Tryz.func51,by kernel_rfl,Tryz.ntmps51,by rw [Tryz.results51],by kernel_rfl⟩
theorem fe_52 : FeOk Tryz.prog 52 (FE.code 8 [.tmp 4] (bodyOf Tryz.f52)):=⟨_,Tryz.func52,by kernel_rfl,Tryz.ntmps52,by rw [Tryz.results52],by kernel_rfl⟩
theorem fe_53 : FeOk Tryz.prog 53 (FE.code 23 [.tmp 4] (bodyOf Tryz.f53)):=⟨_,Tryz.func53,by kernel_rfl,Tryz.ntmps53,by rw [Tryz.results53],by kernel_rfl⟩
theorem fe_54 : FeOk Tryz.prog 54 (FE.code 22 [.tmp 4] (bodyOf Tryz.f54)):=⟨_,Tryz.func54,by kernel_rfl,Tryz.ntmps54,by rw [Tryz.results54],by kernel_rfl⟩
theorem fe_55 : FeOk Tryz.prog 55 (FE.code 34 [.tmp 4] (bodyOf Tryz.f55)):=⟨_,Tryz.func55,by kernel_rfl,Tryz.ntmps55,by rw [Tryz.results55],by kernel_rfl⟩
theorem fe_56 : FeOk Tryz.prog 56 (FE.code 25 [] (bodyOf Tryz.f56)):=⟨_,Tryz.func56,by kernel_rfl,Tryz.ntmps56,by rw [Tryz.results56],by kernel_rfl⟩
theorem fe_57 : FeOk Tryz.prog 57 (FE.code 85 [.tmp 4] (bodyOf Tryz.f57)):=⟨_,Tryz.func57,by kernel_rfl,Tryz.ntmps57,by rw [Tryz.results57],by kernel_rfl⟩
theorem fe_58 : FeOk Tryz.prog 58 (FE.code 16 [.tmp 2] (bodyOf Tryz.f58)):=⟨_,Tryz.func58,by kernel_rfl,Tryz.ntmps58,by rw [Tryz.results58],by kernel_rfl⟩
theorem fe_59 : FeOk Tryz.prog 59 (FE.code 73 [.tmp 6,.tmp 7] (bodyOf Tryz.f59)):=⟨_,Tryz.func59,by kernel_rfl,Tryz.ntmps59,by rw [Tryz.results59],by kernel_rfl⟩
theorem fe_60 : FeOk Tryz.prog 60 (FE.code 43 [.tmp 10] (bodyOf Tryz.f60)):=⟨_,Tryz.func60,by kernel_rfl,Tryz.ntmps60,by rw [Tryz.results60],by kernel_rfl⟩
theorem fe_61 : FeOk Tryz.prog 61 (FE.code 17 [.tmp 2] (bodyOf Tryz.f61)):=⟨_,Tryz.func61,by kernel_rfl,Tryz.ntmps61,by rw [Tryz.results61],by kernel_rfl⟩
theorem fe_62 : FeOk Tryz.prog 62 (FE.code 6 [.tmp 2] (bodyOf Tryz.f62)):=⟨_,Tryz.func62,by kernel_rfl,Tryz.ntmps62,by rw [Tryz.results62],by kernel_rfl⟩
theorem fe_64 : FeOk Tryz.prog 64 (FE.code 8 [.tmp 4] (bodyOf Tryz.f64)):=⟨_,Tryz.func64,by kernel_rfl,Tryz.ntmps64,by rw [Tryz.results64],by kernel_rfl⟩
theorem fe_65 : FeOk Tryz.prog 65 (FE.code 51 [.tmp 2,.tmp 3] (bodyOf Tryz.f65)):=⟨_,Tryz.func65,by kernel_rfl,Tryz.ntmps65,by rw [Tryz.results65],by kernel_rfl⟩
theorem fe_66 : FeOk Tryz.prog 66 (FE.code 30 [] (bodyOf Tryz.f66)):=⟨_,Tryz.func66,by kernel_rfl,Tryz.ntmps66,by rw [Tryz.results66],by kernel_rfl⟩
theorem fe_67 : FeOk Tryz.prog 67 (FE.code 25 [.tmp 2] (bodyOf Tryz.f67)):=⟨_,Tryz.func67,by kernel_rfl,Tryz.ntmps67,by rw [Tryz.results67],by kernel_rfl⟩
theorem fe_68 : FeOk Tryz.prog 68 (FE.code 30 [.tmp 4,.tmp 5] (bodyOf Tryz.f68)):=⟨_,Tryz.func68,by kernel_rfl,Tryz.ntmps68,by rw [Tryz.results68],by kernel_rfl⟩
theorem fe_69 : FeOk Tryz.prog 69 (FE.code 8 [.tmp 2] (bodyOf Tryz.f69)):=⟨_,Tryz.func69,by kernel_rfl,Tryz.ntmps69,by rw [Tryz.results69],by kernel_rfl⟩
theorem fe_70 : FeOk Tryz.prog 70 (FE.code 13 [.tmp 4] (bodyOf Tryz.f70)):=⟨_,Tryz.func70,by kernel_rfl,Tryz.ntmps70,by rw [Tryz.results70],by kernel_rfl⟩
theorem fe_71 : FeOk Tryz.prog 71 (FE.code 172 [.tmp 6,.tmp 7] (bodyOf Tryz.f71)):=⟨_,Tryz.func71,by kernel_rfl,Tryz.ntmps71,by rw [Tryz.results71],by kernel_rfl⟩
theorem fe_72 : FeOk Tryz.prog 72 (FE.code 11 [.tmp 4] (bodyOf Tryz.f72)):=⟨_,Tryz.func72,by kernel_rfl,Tryz.ntmps72,by rw [Tryz.results72],by kernel_rfl⟩
theorem fe_73 : FeOk Tryz.prog 73 (FE.code 11 [.tmp 4] (bodyOf Tryz.f73)):=⟨_,Tryz.func73,by kernel_rfl,Tryz.ntmps73,by rw [Tryz.results73],by kernel_rfl⟩
theorem fe_74 : FeOk Tryz.prog 74 (FE.code 16 [.tmp 6] (bodyOf Tryz.f74)):=⟨_,Tryz.func74,by kernel_rfl,Tryz.ntmps74,by rw [Tryz.results74],by kernel_rfl⟩
theorem fe_75 : FeOk Tryz.prog 75 (FE.code 16 [.tmp 6] (bodyOf Tryz.f75)):=⟨_,Tryz.func75,by kernel_rfl,Tryz.ntmps75,by rw [Tryz.results75],by kernel_rfl⟩
theorem fe_76 : FeOk Tryz.prog 76 (FE.pure idxX):=idx_ok Tryz.func76 (by kernel_rfl) (by kernel_rfl) (by kernel_rfl) (by kernel_rfl)
theorem fe_77 : FeOk Tryz.prog 77 (FE.code 6 [.tmp 2] (bodyOf Tryz.f77)):=⟨_,Tryz.func77,by kernel_rfl,Tryz.ntmps77,by rw [Tryz.results77],by kernel_rfl⟩
theorem fe_78 : FeOk Tryz.prog 78 (FE.room 5):=@room_ok Tryz.prog 78 Tryz.f78 35 5 Tryz.func78 (by kernel_rfl) (by kernel_rfl) (by kernel_rfl) Tryz.f78.params (by kernel_rfl) Tryz.underlying35
theorem fe_79 : FeOk Tryz.prog 79 (FE.code 16 [.tmp 4] (bodyOf Tryz.f79)):=⟨_,Tryz.func79,by kernel_rfl,Tryz.ntmps79,by rw [Tryz.results79],by kernel_rfl⟩
theorem fe_80 : FeOk Tryz.prog 80 (FE.code 25 [.tmp 6,.tmp 7] (bodyOf Tryz.f80)):=⟨_,Tryz.func80,by kernel_rfl,Tryz.ntmps80,by rw [Tryz.results80],by kernel_rfl⟩
theorem fe_81 : FeOk Tryz.prog 81 (FE.code 5 [.tmp 2] (bodyOf Tryz.f81)):=⟨_,Tryz.func81,by kernel_rfl,Tryz.ntmps81,by rw [Tryz.results81],by kernel_rfl⟩
theorem fe_82 : FeOk Tryz.prog 82 (FE.code 94 [.tmp 2] (bodyOf Tryz.f82)):=⟨_,Tryz.func82,by kernel_rfl,Tryz.ntmps82,by rw [Tryz.results82],by kernel_rfl⟩
theorem fe_83 : FeOk Tryz.prog 83 (FE.code 18 [.tmp 2] (bodyOf Tryz.f83)):=⟨_,Tryz.func83,by kernel_rfl,Tryz.ntmps83,by rw [Tryz.results83],by kernel_rfl⟩
theorem fe_84 : FeOk Tryz.prog 84 (FE.code 7 [.tmp 2] (bodyOf Tryz.f84)):=⟨_,Tryz.func84,by kernel_rfl,Tryz.ntmps84,by rw [Tryz.results84],by kernel_rfl⟩
theorem fe_85 : FeOk Tryz.prog 85 (FE.code 5 [.tmp 2] (bodyOf Tryz.f85)):=⟨_,Tryz.func85,by kernel_rfl,Tryz.ntmps85,by rw [Tryz.results85],by kernel_rfl⟩
theorem fe_86 : FeOk Tryz.prog 86 (FE.code 78 [.tmp 4] (bodyOf Tryz.f86)):=⟨_,Tryz.func86,by kernel_rfl,Tryz.ntmps86,by rw [Tryz.results86],by kernel_rfl⟩
theorem fe_87 : FeOk Tryz.prog 87 (FE.code 50 [.tmp 4] (bodyOf Tryz.f87)):=⟨_,Tryz.func87,by kernel_rfl,Tryz.ntmps87,by rw [Tryz.results87],by kernel_rfl⟩
theorem fe_88 : FeOk Tryz.prog 88 (FE.code 37 [.tmp 6] (bodyOf Tryz.f88)):=⟨_,Tryz.func88,by kernel_rfl,Tryz.ntmps88,by rw [Tryz.results88],by kernel_rfl⟩
theorem fe_89 : FeOk Tryz.prog 89 (FE.code 5 [.tmp 2] (bodyOf Tryz.f89)):=⟨_,Tryz.func89,by kernel_rfl,Tryz.ntmps89,by rw [Tryz.results89],by kernel_rfl⟩
theorem fe_90 : FeOk Tryz.prog 90 (FE.code 54 [.tmp 4] (bodyOf Tryz.f90)):=⟨_,Tryz.func90,by kernel_rfl,Tryz.ntmps90,by rw [Tryz.results90],by kernel_rfl⟩
theorem fe_91 : FeOk Tryz.prog 91 (FE.code 15 [.tmp 2] (bodyOf Tryz.f91)):=⟨_,Tryz.func91,by kernel_rfl,Tryz.ntmps91,by rw [Tryz.results91],by kernel_rfl⟩
theorem fe_92 : FeOk Tryz.prog 92 (FE.code 15 [.tmp 2] (bodyOf Tryz.f92)):=⟨_,Tryz.func92,by kernel_rfl,Tryz.ntmps92,by rw [Tryz.results92],by kernel_rfl⟩
theorem fe_93 : FeOk Tryz.prog 93 (FE.code 167 [] (bodyOf Tryz.f93)):=⟨_,Tryz.func93,by kernel_rfl,Tryz.ntmps93,by rw [Tryz.results93],by kernel_rfl⟩
theorem fe_94 : FeOk Tryz.prog 94 (FE.code 102 [.tmp 10,.tmp 11] (bodyOf Tryz.f94)):=⟨_,Tryz.func94,by kernel_rfl,Tryz.ntmps94,by rw [Tryz.results94],by kernel_rfl⟩
theorem fe_95 : FeOk Tryz.prog 95 (FE.code 6 [.tmp 2] (bodyOf Tryz.f95)):=⟨_,Tryz.func95,by kernel_rfl,Tryz.ntmps95,by rw [Tryz.results95],by kernel_rfl⟩
theorem fe_96 : FeOk Tryz.prog 96 (FE.code 25 [.tmp 2] (bodyOf Tryz.f96)):=⟨_,Tryz.func96,by kernel_rfl,Tryz.ntmps96,by rw [Tryz.results96],by kernel_rfl⟩
theorem fe_97 : FeOk Tryz.prog 97 (FE.code 4 [.tmp 2] (bodyOf Tryz.f97)):=⟨_,Tryz.func97,by kernel_rfl,Tryz.ntmps97,by rw [Tryz.results97],by kernel_rfl⟩
theorem fe_98 : FeOk Tryz.prog 98 (FE.code 8 [.tmp 2] (bodyOf Tryz.f98)):=⟨_,Tryz.func98,by kernel_rfl,Tryz.ntmps98,by rw [Tryz.results98],by kernel_rfl⟩
theorem fe_99 : FeOk Tryz.prog 99 (FE.code 8 [.tmp 2] (bodyOf Tryz.f99)):=⟨_,Tryz.func99,by kernel_rfl,Tryz.ntmps99,by rw [Tryz.results99],by kernel_rfl⟩
theorem fe_100 : FeOk Tryz.prog 100 (FE.code 14 [.tmp 2] (bodyOf Tryz.f100)):=⟨_,Tryz.func100,by kernel_rfl,Tryz.ntmps100,by rw [Tryz.results100],by kernel_rfl⟩
theorem fe_101 : FeOk Tryz.prog 101 (FE.code 14 [.tmp 2] (bodyOf Tryz.f101)):=⟨_,Tryz.func101,by kernel_rfl,Tryz.ntmps101,by rw [Tryz.results101],by kernel_rfl⟩
noncomputable def ftL : List (Nat × FE):=[(6,FE.code 53 [.cell 2 27,.tmp 3,.tmp 4] (bodyOf Tryz.f6)),
 (7,FE.code 25 [.tmp 2,.tmp 3] (bodyOf Tryz.f7)),
 (8,FE.code 77 [.tmp 0] (bodyOf Tryz.f8)),
 (9,FE.code 22 [] (bodyOf Tryz.f9)),
 (10,FE.code 34 [.cell 2 27] (bodyOf Tryz.f10)),
 (11,FE.code 19 [] (bodyOf Tryz.f11)),
 (12,FE.code 59 [] (bodyOf Tryz.f12)),
 (13,FE.code 14 [.tmp 2] (bodyOf Tryz.f13)),
 (14,FE.code 74 [.tmp 4] (bodyOf Tryz.f14)),
 (15,FE.code 38 [.cell 4 27,.tmp 5] (bodyOf Tryz.f15)),
 (16,FE.code 37 [.tmp 4] (bodyOf Tryz.f16)),
 (17,FE.code 22 [.tmp 2] (bodyOf Tryz.f17)),
 (18,FE.code 11 [.cell 2 27] (bodyOf Tryz.f18)),
 (19,FE.code 9 [.cell 2 27] (bodyOf Tryz.f19)),
 (20,FE.code 89 [.tmp 2] (bodyOf Tryz.f20)),
 (21,FE.code 22 [.cell 6 27] (bodyOf Tryz.f21)),
 (22,FE.code 101 [.cell 2 27] (bodyOf Tryz.f22)),
 (23,FE.code 8 [.tmp 2] (bodyOf Tryz.f23)),
 (24,FE.code 19 [.tmp 4,.tmp 5] (bodyOf Tryz.f24)),
 (25,FE.code 60 [] (bodyOf Tryz.f25)),
 (26,FE.code 29 [] (bodyOf Tryz.f26)),
 (27,FE.code 14 [] (bodyOf Tryz.f27)),
 (28,FE.code 23 [] (bodyOf Tryz.f28)),
 (29,FE.code 17 [.tmp 4] (bodyOf Tryz.f29)),
 (30,FE.code 17 [.tmp 4] (bodyOf Tryz.f30)),
 (31,FE.code 21 [.cell 2 65,.tmp 3] (bodyOf Tryz.f31)),
 (32,FE.code 16 [.tmp 4] (bodyOf Tryz.f32)),
 (33,FE.code 23 [.tmp 4] (bodyOf Tryz.f33)),
 (34,FE.code 55 [] (bodyOf Tryz.f34)),
 (35,FE.code 48 [] (bodyOf Tryz.f35)),
 (36,FE.code 29 [.tmp 4] (bodyOf Tryz.f36)),
 (37,FE.code 11 [] (bodyOf Tryz.f37)),
 (38,FE.code 44 [.tmp 2,.tmp 3] (bodyOf Tryz.f38)),
 (39,FE.code 41 [] (bodyOf Tryz.f39)),
 (40,FE.code 20 [] (bodyOf Tryz.f40)),
 (41,FE.code 10 [.tmp 4] (bodyOf Tryz.f41)),
 (42,FE.code 19 [.tmp 2,.tmp 3] (bodyOf Tryz.f42)),
 (43,FE.code 9 [.tmp 4] (bodyOf Tryz.f43)),
 (44,FE.code 37 [] (bodyOf Tryz.f44)),
 (45,FE.code 11 [.tmp 2,.tmp 3] (bodyOf Tryz.f45)),
 (46,FE.code 43 [.tmp 4] (bodyOf Tryz.f46)),
 (47,FE.code 78 [.tmp 2] (bodyOf Tryz.f47)),
 (48,FE.code 25 [.tmp 6,.tmp 7] (bodyOf Tryz.f48)),
 (49,FE.pure sameX),
 (50,FE.code 117 [.tmp 2,.tmp 3] (bodyOf Tryz.f50)),
 (51,FE.code 187 [.tmp 4] (bodyOf Tryz.f51)),
 (52,FE.code 8 [.tmp 4] (bodyOf Tryz.f52)),
 (53,FE.code 23 [.tmp 4] (bodyOf Tryz.f53)),
 (54,FE.code 22 [.tmp 4] (bodyOf Tryz.f54)),
 (55,FE.code 34 [.tmp 4] (bodyOf Tryz.f55)),
 (56,FE.code 25 [] (bodyOf Tryz.f56)),
 (57,FE.code 85 [.tmp 4] (bodyOf Tryz.f57)),
 (58,FE.code 16 [.tmp 2] (bodyOf Tryz.f58)),
 (59,FE.code 73 [.tmp 6,.tmp 7] (bodyOf Tryz.f59)),
 (60,FE.code 43 [.tmp 10] (bodyOf Tryz.f60)),
 (61,FE.code 17 [.tmp 2] (bodyOf Tryz.f61)),
 (62,FE.code 6 [.tmp 2] (bodyOf Tryz.f62)),
 (64,FE.code 8 [.tmp 4] (bodyOf Tryz.f64)),
 (65,FE.code 51 [.tmp 2,.tmp 3] (bodyOf Tryz.f65)),
 (66,FE.code 30 [] (bodyOf Tryz.f66)),
 (67,FE.code 25 [.tmp 2] (bodyOf Tryz.f67)),
 (68,FE.code 30 [.tmp 4,.tmp 5] (bodyOf Tryz.f68)),
 (69,FE.code 8 [.tmp 2] (bodyOf Tryz.f69)),
 (70,FE.code 13 [.tmp 4] (bodyOf Tryz.f70)),
 (71,FE.code 172 [.tmp 6,.tmp 7] (bodyOf Tryz.f71)),
 (72,FE.code 11 [.tmp 4] (bodyOf Tryz.f72)),
 (73,FE.code 11 [.tmp 4] (bodyOf Tryz.f73)),
 (74,FE.code 16 [.tmp 6] (bodyOf Tryz.f74)),
 (75,FE.code 16 [.tmp 6] (bodyOf Tryz.f75)),
 (76,FE.pure idxX),
 (77,FE.code 6 [.tmp 2] (bodyOf Tryz.f77)),
 (78,FE.room 5),
 (79,FE.code 16 [.tmp 4] (bodyOf Tryz.f79)),
 (80,FE.code 25 [.tmp 6,.tmp 7] (bodyOf Tryz.f80)),
 (81,FE.code 5 [.tmp 2] (bodyOf Tryz.f81)),
 (82,FE.code 94 [.tmp 2] (bodyOf Tryz.f82)),
 (83,FE.code 18 [.tmp 2] (bodyOf Tryz.f83)),
 (84,FE.code 7 [.tmp 2] (bodyOf Tryz.f84)),
 (85,FE.code 5 [.tmp 2] (bodyOf Tryz.f85)),
 (86,FE.code 78 [.tmp 4] (bodyOf Tryz.f86)),
 (87,FE.code 50 [.tmp 4] (bodyOf Tryz.f87)),
 (88,FE.code 37 [.tmp 6] (bodyOf Tryz.f88)),
 (89,FE.code 5 [.tmp 2] (bodyOf Tryz.f89)),
 (90,FE.code 54 [.tmp 4] (bodyOf Tryz.f90)),
 (91,FE.code 15 [.tmp 2] (bodyOf Tryz.f91)),
 (92,FE.code 15 [.tmp 2] (bodyOf Tryz.f92)),
 (93,FE.code 167 [] (bodyOf Tryz.f93)),
 (94,FE.code 102 [.tmp 10,.tmp 11] (bodyOf Tryz.f94)),
 (95,FE.code 6 [.tmp 2] (bodyOf Tryz.f95)),
 (96,FE.code 25 [.tmp 2] (bodyOf Tryz.f96)),
 (97,FE.code 4 [.tmp 2] (bodyOf Tryz.f97)),
 (98,FE.code 8 [.tmp 2] (bodyOf Tryz.f98)),
 (99,FE.code 8 [.tmp 2] (bodyOf Tryz.f99)),
 (100,FE.code 14 [.tmp 2] (bodyOf Tryz.f100)),
 (101,FE.code 14 [.tmp 2] (bodyOf Tryz.f101))]
theorem ftLOk : ∀ p ∈ ftL,FeOk Tryz.prog p.1 p.2:=all_cons fe_6 (all_cons fe_7 (all_cons fe_8 (all_cons fe_9 (all_cons fe_10 (all_cons fe_11 (all_cons fe_12 (all_cons fe_13 (all_cons fe_14 (all_cons fe_15 (all_cons fe_16 (all_cons fe_17 (all_cons fe_18 (all_cons fe_19 (all_cons fe_20 (all_cons fe_21 (all_cons fe_22 (all_cons fe_23 (all_cons fe_24 (all_cons fe_25 (all_cons fe_26 (all_cons fe_27 (all_cons fe_28 (all_cons fe_29 (all_cons fe_30 (all_cons fe_31 (all_cons fe_32 (all_cons fe_33 (all_cons fe_34 (all_cons fe_35 (all_cons fe_36 (all_cons fe_37 (all_cons fe_38 (all_cons fe_39 (all_cons fe_40 (all_cons fe_41 (all_cons fe_42 (all_cons fe_43 (all_cons fe_44 (all_cons fe_45 (all_cons fe_46 (all_cons fe_47 (all_cons fe_48 (all_cons fe_49 (all_cons fe_50 (all_cons fe_51 (all_cons fe_52 (all_cons fe_53 (all_cons fe_54 (all_cons fe_55 (all_cons fe_56 (all_cons fe_57 (all_cons fe_58 (all_cons fe_59 (all_cons fe_60 (all_cons fe_61 (all_cons fe_62 (all_cons fe_64 (all_cons fe_65 (all_cons fe_66 (all_cons fe_67 (all_cons fe_68 (all_cons fe_69 (all_cons fe_70 (all_cons fe_71 (all_cons fe_72 (all_cons fe_73 (all_cons fe_74 (all_cons fe_75 (all_cons fe_76 (all_cons fe_77 (all_cons fe_78 (all_cons fe_79 (all_cons fe_80 (all_cons fe_81 (all_cons fe_82 (all_cons fe_83 (all_cons fe_84 (all_cons fe_85 (all_cons fe_86 (all_cons fe_87 (all_cons fe_88 (all_cons fe_89 (all_cons fe_90 (all_cons fe_91 (all_cons fe_92 (all_cons fe_93 (all_cons fe_94 (all_cons fe_95 (all_cons fe_96 (all_cons fe_97 (all_cons fe_98 (all_cons fe_99 (all_cons fe_100 (all_cons fe_101 (all_nil)))))))))))))))))))))))))))))))))))))))))))))))))))))))))))))))))))))))))))))))))))))))))))))))
noncomputable def ftT : T FE:=ofList ftL
theorem ftOk : FtOk Tryz.prog ftT:=ftOk_of ftLOk
end Go.Rx

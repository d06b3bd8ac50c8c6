import Derived.Test.YtnmcilaebamncaaR3
import Derived.Test.YtnmcilaebamncaaRows
set_option linter.unusedVariables false
set_option linter.unusedSimpArgs false
set_option linter.unusedSectionVars false
set_option maxRecDepth 100000
namespace Go.Rx
open Go.Proofs
theorem mixed:Try.prog.follows .mixedOrders=true:=by kernel_rfl
theorem b0n:dX Try.prog ⟨3,(.int .i64),1,false,8,(some [(.int .i64 0)]),(some [.i])⟩:=dX.q Try.underlying3 (by kernel_rfl) (by kernel_rfl) (by kernel_rfl) (zS (by kernel_rfl) rfl rfl) (fun _=>rfl) (by kernel_rfl) (by kernel_rfl) rfl
theorem b0o:dX Try.prog ⟨4,.bool,1,false,1,(some [(.bool false)]),(some [.b])⟩:=dX.q Try.underlying4 (by kernel_rfl) (by kernel_rfl) (by kernel_rfl) (zS (by kernel_rfl) rfl rfl) (fun _=>rfl) (by kernel_rfl) (by kernel_rfl) rfl
theorem b0p:dX Try.prog ⟨5,(.int .u8),1,false,1,(some [(.int .u8 0)]),(some [.i])⟩:=dX.q Try.underlying5 (by kernel_rfl) (by kernel_rfl) (by kernel_rfl) (zS (by kernel_rfl) rfl rfl) (fun _=>rfl) (by kernel_rfl) (by kernel_rfl) rfl
theorem b0q:dX Try.prog ⟨9,.str,1,false,16,(some [(.str ⟨0,0⟩)]),(some [.s])⟩:=dX.q Try.underlying9 (by kernel_rfl) (by kernel_rfl) (by kernel_rfl) (zS (by kernel_rfl) rfl rfl) (fun _=>rfl) (by kernel_rfl) (by kernel_rfl) rfl
theorem aUi:dX Try.prog ⟨23,(.sl 35),1,false,24,(some [.slnil]),(some [.sl])⟩:=dX.q Try.underlying23 (by kernel_rfl) (by kernel_rfl) (by kernel_rfl) (zS (by kernel_rfl) rfl rfl) (fun _=>rfl) (by kernel_rfl) (by kernel_rfl) rfl
theorem aUj:dX Try.prog ⟨29,(.st [(0,9),(1,9),(2,9)]),3,true,48,(some [(.str ⟨0,0⟩),(.str ⟨0,0⟩),(.str ⟨0,0⟩)]),(some [.s,.s,.s])⟩:=dX.q ⟨_,Try.underlying29,by kernel_rfl,by kernel_rfl⟩ (by kernel_rfl) (by kernel_rfl) (by kernel_rfl) (zA (by kernel_rfl) rfl rfl) (fun h=>by simp at h) (by kernel_rfl) (by kernel_rfl) rfl
theorem aUk:dX Try.prog ⟨33,(.sl 39),1,false,24,(some [.slnil]),(some [.sl])⟩:=dX.q Try.underlying33 (by kernel_rfl) (by kernel_rfl) (by kernel_rfl) (zS (by kernel_rfl) rfl rfl) (fun _=>rfl) (by kernel_rfl) (by kernel_rfl) rfl
theorem aUl:dX Try.prog ⟨35,(.st [(0,9),(1,33)]),2,true,40,(some [(.str ⟨0,0⟩),.slnil]),(some [.s,.sl])⟩:=dX.q ⟨_,Try.underlying35,by kernel_rfl,by kernel_rfl⟩ (by kernel_rfl) (by kernel_rfl) (by kernel_rfl) (zA (by kernel_rfl) rfl rfl) (fun h=>by simp at h) (by kernel_rfl) (by kernel_rfl) rfl
theorem aUm:dX Try.prog ⟨36,(.sl 29),1,false,24,(some [.slnil]),(some [.sl])⟩:=dX.q Try.underlying36 (by kernel_rfl) (by kernel_rfl) (by kernel_rfl) (zS (by kernel_rfl) rfl rfl) (fun _=>rfl) (by kernel_rfl) (by kernel_rfl) rfl
theorem aUn:dX Try.prog ⟨37,(.sl 125),1,false,24,(some [.slnil]),(some [.sl])⟩:=dX.q Try.underlying37 (by kernel_rfl) (by kernel_rfl) (by kernel_rfl) (zS (by kernel_rfl) rfl rfl) (fun _=>rfl) (by kernel_rfl) (by kernel_rfl) rfl
theorem aUo:dX Try.prog ⟨39,(.st [(0,9),(1,36),(2,37)]),3,true,64,(some [(.str ⟨0,0⟩),.slnil,.slnil]),(some [.s,.sl,.sl])⟩:=dX.q ⟨_,Try.underlying39,by kernel_rfl,by kernel_rfl⟩ (by kernel_rfl) (by kernel_rfl) (by kernel_rfl) (zA (by kernel_rfl) rfl rfl) (fun h=>by simp at h) (by kernel_rfl) (by kernel_rfl) rfl
theorem aUp:dX Try.prog ⟨44,(.int .i64),1,false,8,(some [(.int .i64 0)]),(some [.i])⟩:=dX.q Try.underlying44 (by kernel_rfl) (by kernel_rfl) (by kernel_rfl) (zS (by kernel_rfl) rfl rfl) (fun _=>rfl) (by kernel_rfl) (by kernel_rfl) rfl
theorem aUq:dX Try.prog ⟨57,(.sl 9),1,false,24,(some [.slnil]),(some [.sl])⟩:=dX.q Try.underlying57 (by kernel_rfl) (by kernel_rfl) (by kernel_rfl) (zS (by kernel_rfl) rfl rfl) (fun _=>rfl) (by kernel_rfl) (by kernel_rfl) rfl
theorem aUr:dX Try.prog ⟨59,(.int .u64),1,false,8,(some [(.int .u64 0)]),(some [.i])⟩:=dX.q Try.underlying59 (by kernel_rfl) (by kernel_rfl) (by kernel_rfl) (zS (by kernel_rfl) rfl rfl) (fun _=>rfl) (by kernel_rfl) (by kernel_rfl) rfl
theorem aUs:dX Try.prog ⟨69,(.sl 97),1,false,24,(some [.slnil]),(some [.sl])⟩:=dX.q Try.underlying69 (by kernel_rfl) (by kernel_rfl) (by kernel_rfl) (zS (by kernel_rfl) rfl rfl) (fun _=>rfl) (by kernel_rfl) (by kernel_rfl) rfl
theorem aUt:dX Try.prog ⟨74,(.st [(0,69),(1,3),(2,3),(3,44),(4,3),(5,37)]),6,true,80,(some [.slnil,(.int .i64 0),(.int .i64 0),(.int .i64 0),(.int .i64 0),.slnil]),(some [.sl,.i,.i,.i,.i,.sl])⟩:=dX.q ⟨_,Try.underlying74,by kernel_rfl,by kernel_rfl⟩ (by kernel_rfl) (by kernel_rfl) (by kernel_rfl) (zA (by kernel_rfl) rfl rfl) (fun h=>by simp at h) (by kernel_rfl) (by kernel_rfl) rfl
theorem aUu:dX Try.prog ⟨77,(.ptr 80),1,false,8,(some [.dK]),(some [.p])⟩:=dX.q Try.underlying77 (by kernel_rfl) (by kernel_rfl) (by kernel_rfl) (zS (by kernel_rfl) rfl rfl) (fun _=>rfl) (by kernel_rfl) (by kernel_rfl) rfl
theorem aUv:dX Try.prog ⟨78,(.sl 5),1,false,24,(some [.slnil]),(some [.sl])⟩:=dX.q Try.underlying78 (by kernel_rfl) (by kernel_rfl) (by kernel_rfl) (zS (by kernel_rfl) rfl rfl) (fun _=>rfl) (by kernel_rfl) (by kernel_rfl) rfl
theorem aUw:dX Try.prog ⟨80,(.st [(0,77),(1,78)]),2,true,32,(some [.dK,.slnil]),(some [.p,.sl])⟩:=dX.q ⟨_,Try.underlying80,by kernel_rfl,by kernel_rfl⟩ (by kernel_rfl) (by kernel_rfl) (by kernel_rfl) (zA (by kernel_rfl) rfl rfl) (fun h=>by simp at h) (by kernel_rfl) (by kernel_rfl) rfl
theorem aUx:dX Try.prog ⟨97,(.st [(0,3),(1,3),(2,9)]),3,true,32,(some [(.int .i64 0),(.int .i64 0),(.str ⟨0,0⟩)]),(some [.i,.i,.s])⟩:=dX.q ⟨_,Try.underlying97,by kernel_rfl,by kernel_rfl⟩ (by kernel_rfl) (by kernel_rfl) (by kernel_rfl) (zA (by kernel_rfl) rfl rfl) (fun h=>by simp at h) (by kernel_rfl) (by kernel_rfl) rfl
theorem b7q:dX Try.prog ⟨123,(.ptr 5),1,false,8,(some [.dK]),(some [.p])⟩:=dX.q Try.underlying123 (by kernel_rfl) (by kernel_rfl) (by kernel_rfl) (zS (by kernel_rfl) rfl rfl) (fun _=>rfl) (by kernel_rfl) (by kernel_rfl) rfl
theorem aNg:dX Try.prog ⟨125,(.st [(0,3),(1,9),(2,9)]),3,true,40,(some [(.int .i64 0),(.str ⟨0,0⟩),(.str ⟨0,0⟩)]),(some [.i,.s,.s])⟩:=dX.q ⟨_,Try.underlying125,by kernel_rfl,by kernel_rfl⟩ (by kernel_rfl) (by kernel_rfl) (by kernel_rfl) (zA (by kernel_rfl) rfl rfl) (fun h=>by simp at h) (by kernel_rfl) (by kernel_rfl) rfl
theorem b7r:dX Try.prog ⟨143,.aNh,1,false,8,(some [.dK]),none⟩:=dX.n Try.underlying143 (by kernel_rfl) (by kernel_rfl) (by kernel_rfl) (zS (by kernel_rfl) rfl rfl) (fun _=>rfl)
theorem aNi:dX Try.prog ⟨145,(.sl 147),1,false,24,(some [.slnil]),(some [.sl])⟩:=dX.q Try.underlying145 (by kernel_rfl) (by kernel_rfl) (by kernel_rfl) (zS (by kernel_rfl) rfl rfl) (fun _=>rfl) (by kernel_rfl) (by kernel_rfl) rfl
theorem aNj:dX Try.prog ⟨147,(.st [(0,9),(1,3)]),2,true,24,(some [(.str ⟨0,0⟩),(.int .i64 0)]),(some [.s,.i])⟩:=dX.q ⟨_,Try.underlying147,by kernel_rfl,by kernel_rfl⟩ (by kernel_rfl) (by kernel_rfl) (by kernel_rfl) (zA (by kernel_rfl) rfl rfl) (fun h=>by simp at h) (by kernel_rfl) (by kernel_rfl) rfl
theorem b7s:dX Try.prog ⟨166,(.int .u32),1,false,4,(some [(.int .u32 0)]),(some [.i])⟩:=dX.q Try.underlying166 (by kernel_rfl) (by kernel_rfl) (by kernel_rfl) (zS (by kernel_rfl) rfl rfl) (fun _=>rfl) (by kernel_rfl) (by kernel_rfl) rfl
def tyL:List bD:=[⟨3,(.int .i64),1,false,8,(some [(.int .i64 0)]),(some [.i])⟩,
 ⟨4,.bool,1,false,1,(some [(.bool false)]),(some [.b])⟩,
 ⟨5,(.int .u8),1,false,1,(some [(.int .u8 0)]),(some [.i])⟩,
 ⟨9,.str,1,false,16,(some [(.str ⟨0,0⟩)]),(some [.s])⟩,
 ⟨23,(.sl 35),1,false,24,(some [.slnil]),(some [.sl])⟩,
 ⟨29,(.st [(0,9),(1,9),(2,9)]),3,true,48,(some [(.str ⟨0,0⟩),(.str ⟨0,0⟩),(.str ⟨0,0⟩)]),(some [.s,.s,.s])⟩,
 ⟨33,(.sl 39),1,false,24,(some [.slnil]),(some [.sl])⟩,
 ⟨35,(.st [(0,9),(1,33)]),2,true,40,(some [(.str ⟨0,0⟩),.slnil]),(some [.s,.sl])⟩,
 ⟨36,(.sl 29),1,false,24,(some [.slnil]),(some [.sl])⟩,
 ⟨37,(.sl 125),1,false,24,(some [.slnil]),(some [.sl])⟩,
 ⟨39,(.st [(0,9),(1,36),(2,37)]),3,true,64,(some [(.str ⟨0,0⟩),.slnil,.slnil]),(some [.s,.sl,.sl])⟩,
 ⟨44,(.int .i64),1,false,8,(some [(.int .i64 0)]),(some [.i])⟩,
 ⟨57,(.sl 9),1,false,24,(some [.slnil]),(some [.sl])⟩,
 ⟨59,(.int .u64),1,false,8,(some [(.int .u64 0)]),(some [.i])⟩,
 ⟨69,(.sl 97),1,false,24,(some [.slnil]),(some [.sl])⟩,
 ⟨74,(.st [(0,69),(1,3),(2,3),(3,44),(4,3),(5,37)]),6,true,80,(some [.slnil,(.int .i64 0),(.int .i64 0),(.int .i64 0),(.int .i64 0),.slnil]),(some [.sl,.i,.i,.i,.i,.sl])⟩,
 ⟨77,(.ptr 80),1,false,8,(some [.dK]),(some [.p])⟩,
 ⟨78,(.sl 5),1,false,24,(some [.slnil]),(some [.sl])⟩,
 ⟨80,(.st [(0,77),(1,78)]),2,true,32,(some [.dK,.slnil]),(some [.p,.sl])⟩,
 ⟨97,(.st [(0,3),(1,3),(2,9)]),3,true,32,(some [(.int .i64 0),(.int .i64 0),(.str ⟨0,0⟩)]),(some [.i,.i,.s])⟩,
 ⟨123,(.ptr 5),1,false,8,(some [.dK]),(some [.p])⟩,
 ⟨125,(.st [(0,3),(1,9),(2,9)]),3,true,40,(some [(.int .i64 0),(.str ⟨0,0⟩),(.str ⟨0,0⟩)]),(some [.i,.s,.s])⟩,
 ⟨143,.aNh,1,false,8,(some [.dK]),none⟩,
 ⟨145,(.sl 147),1,false,24,(some [.slnil]),(some [.sl])⟩,
 ⟨147,(.st [(0,9),(1,3)]),2,true,24,(some [(.str ⟨0,0⟩),(.int .i64 0)]),(some [.s,.i])⟩,
 ⟨166,(.int .u32),1,false,4,(some [(.int .u32 0)]),(some [.i])⟩]
theorem bA5:∀ ti ∈ tyL,dX Try.prog ti:=all_cons b0n (all_cons b0o (all_cons b0p (all_cons b0q (all_cons aUi (all_cons aUj (all_cons aUk (all_cons aUl (all_cons aUm (all_cons aUn (all_cons aUo (all_cons aUp (all_cons aUq (all_cons aUr (all_cons aUs (all_cons aUt (all_cons aUu (all_cons aUv (all_cons aUw (all_cons aUx (all_cons b7q (all_cons aNg (all_cons b7r (all_cons aNi (all_cons aNj (all_cons b7s (all_nil))))))))))))))))))))))))))
noncomputable def cG:T bD:=ofList (tyL.map fun ti=>(ti.t,ti))
theorem kJ:iK Try.prog cG:=b4x bA5
theorem bA6:fC Try.prog 12 (FE.code 82 [.tmp 0] (aT Try.f12)):=⟨_,Try.func12,by kernel_rfl,Try.ntmps12,by rw [Try.results12],by kernel_rfl⟩
theorem bA7:fC Try.prog 13 (FE.code 55 [.tmp 2,.tmp 3,.tmp 4] (aT Try.f13)):=⟨_,Try.func13,by kernel_rfl,Try.ntmps13,by rw [Try.results13],by kernel_rfl⟩
theorem bA8:fC Try.prog 14 (FE.code 70 [.tmp 2,.tmp 3] (aT Try.f14)):=⟨_,Try.func14,by kernel_rfl,Try.ntmps14,by rw [Try.results14],by kernel_rfl⟩
theorem bA9:fC Try.prog 31 (FE.code 8 [.tmp 4] (aT Try.f31)):=⟨_,Try.func31,by kernel_rfl,Try.ntmps31,by rw [Try.results31],by kernel_rfl⟩
theorem bBa:fC Try.prog 32 (FE.code 46 [.tmp 2,.tmp 3,.tmp 4] (aT Try.f32)):=⟨_,Try.func32,by kernel_rfl,Try.ntmps32,by rw [Try.results32],by kernel_rfl⟩
theorem bBb:fC Try.prog 33 (FE.code 43 [.cell 4 35,.tmp 5] (aT Try.f33)):=⟨_,Try.func33,by kernel_rfl,Try.ntmps33,by rw [Try.results33],by kernel_rfl⟩
theorem bBc:fC Try.prog 34 (FE.code 19 [.tmp 4,.tmp 5] (aT Try.f34)):=⟨_,Try.func34,by kernel_rfl,Try.ntmps34,by rw [Try.results34],by kernel_rfl⟩
theorem bBd:fC Try.prog 35 (FE.code 56 [.tmp 2,.tmp 3] (aT Try.f35)):=⟨_,Try.func35,by kernel_rfl,Try.ntmps35,by rw [Try.results35],by kernel_rfl⟩
theorem bBe:fC Try.prog 36 (FE.code 8 [.tmp 2] (aT Try.f36)):=⟨_,Try.func36,by kernel_rfl,Try.ntmps36,by rw [Try.results36],by kernel_rfl⟩
theorem bBf:fC Try.prog 37 (FE.code 14 [.tmp 2] (aT Try.f37)):=⟨_,Try.func37,by kernel_rfl,Try.ntmps37,by rw [Try.results37],by kernel_rfl⟩
theorem bBg:fC Try.prog 53 (FE.code 32 [.tmp 6] (aT Try.f53)):=⟨_,Try.func53,by kernel_rfl,Try.ntmps53,by rw [Try.results53],by kernel_rfl⟩
theorem bBh:fC Try.prog 54 (FE.code 17 [.tmp 4] (aT Try.f54)):=⟨_,Try.func54,by kernel_rfl,Try.ntmps54,by rw [Try.results54],by kernel_rfl⟩
theorem bBi:fC Try.prog 55 (FE.code 32 [.tmp 6] (aT Try.f55)):=⟨_,Try.func55,by kernel_rfl,Try.ntmps55,by rw [Try.results55],by kernel_rfl⟩
theorem bBj:fC Try.prog 56 (FE.code 24 [.tmp 4] (aT Try.f56)):=⟨_,Try.func56,by kernel_rfl,Try.ntmps56,by rw [Try.results56],by kernel_rfl⟩
theorem bBk:fC Try.prog 57 (FE.code 32 [.tmp 2] (aT Try.f57)):=⟨_,Try.func57,by kernel_rfl,Try.ntmps57,by rw [Try.results57],by kernel_rfl⟩
theorem bBl:fC Try.prog 58 (FE.code 22 [.cell 2 97,.tmp 3] (aT Try.f58)):=⟨_,Try.func58,by kernel_rfl,Try.ntmps58,by rw [Try.results58],by kernel_rfl⟩
theorem bBm:fC Try.prog 59 (FE.code 14 [.tmp 6] (aT Try.f59)):=⟨_,Try.func59,by kernel_rfl,Try.ntmps59,by rw [Try.results59],by kernel_rfl⟩
theorem bBn:fC Try.prog 60 (FE.code 14 [.tmp 2] (aT Try.f60)):=⟨_,Try.func60,by kernel_rfl,Try.ntmps60,by rw [Try.results60],by kernel_rfl⟩
theorem bBo:fC Try.prog 61 (FE.code 20 [.tmp 4] (aT Try.f61)):=⟨_,Try.func61,by kernel_rfl,Try.ntmps61,by rw [Try.results61],by kernel_rfl⟩
theorem bBp:fC Try.prog 62 (FE.code 24 [.tmp 4] (aT Try.f62)):=⟨_,Try.func62,by kernel_rfl,Try.ntmps62,by rw [Try.results62],by kernel_rfl⟩
theorem bBq:fC Try.prog 63 (FE.code 13 [.tmp 4] (aT Try.f63)):=⟨_,Try.func63,by kernel_rfl,Try.ntmps63,by rw [Try.results63],by kernel_rfl⟩
theorem bBr:fC Try.prog 64 (FE.code 53 [.tmp 4] (aT Try.f64)):=⟨_,Try.func64,by kernel_rfl,Try.ntmps64,by rw [Try.results64],by kernel_rfl⟩
theorem bBs:fC Try.prog 65 (FE.code 20 [] (aT Try.f65)):=⟨_,Try.func65,by kernel_rfl,Try.ntmps65,by rw [Try.results65],by kernel_rfl⟩
theorem bBt:fC Try.prog 66 (FE.code 84 [.tmp 2,.tmp 3] (aT Try.f66)):=⟨_,Try.func66,by kernel_rfl,Try.ntmps66,by rw [Try.results66],by kernel_rfl⟩
theorem bBu:fC Try.prog 67 (FE.code 75 [.tmp 4] (aT Try.f67)):=⟨_,Try.func67,by kernel_rfl,Try.ntmps67,by rw [Try.results67],by kernel_rfl⟩
theorem bBv:fC Try.prog 79 (FE.code 26 [.tmp 4] (aT Try.f79)):=⟨_,Try.func79,by kernel_rfl,Try.ntmps79,by rw [Try.results79],by kernel_rfl⟩
theorem bBw:fC Try.prog 80 (FE.code 26 [.tmp 4] (aT Try.f80)):=⟨_,Try.func80,by kernel_rfl,Try.ntmps80,by rw [Try.results80],by kernel_rfl⟩
theorem bBx:fC Try.prog 81 (FE.code 8 [.tmp 4] (aT Try.f81)):=⟨_,Try.func81,by kernel_rfl,Try.ntmps81,by rw [Try.results81],by kernel_rfl⟩
theorem bBy:fC Try.prog 82 (FE.code 8 [.tmp 4] (aT Try.f82)):=⟨_,Try.func82,by kernel_rfl,Try.ntmps82,by rw [Try.results82],by kernel_rfl⟩
theorem bBz:fC Try.prog 83 (FE.code 9 [.tmp 4] (aT Try.f83)):=⟨_,Try.func83,by kernel_rfl,Try.ntmps83,by rw [Try.results83],by kernel_rfl⟩
theorem bB0:fC Try.prog 84 (FE.code 17 [.tmp 2] (aT Try.f84)):=⟨_,Try.func84,by kernel_rfl,Try.ntmps84,by rw [Try.results84],by kernel_rfl⟩
theorem bB1:fC Try.prog 85 (FE.code 20 [.cell 2 97] (aT Try.f85)):=⟨_,Try.func85,by kernel_rfl,Try.ntmps85,by rw [Try.results85],by kernel_rfl⟩
theorem bB2:fC Try.prog 86 (FE.code 23 [.tmp 2] (aT Try.f86)):=⟨_,Try.func86,by kernel_rfl,Try.ntmps86,by rw [Try.results86],by kernel_rfl⟩
theorem bB3:fC Try.prog 87 (FE.code 17 [.tmp 4] (aT Try.f87)):=⟨_,Try.func87,by kernel_rfl,Try.ntmps87,by rw [Try.results87],by kernel_rfl⟩
theorem bB4:fC Try.prog 88 (FE.code 19 [.tmp 4] (aT Try.f88)):=⟨_,Try.func88,by kernel_rfl,Try.ntmps88,by rw [Try.results88],by kernel_rfl⟩
theorem bB5:fC Try.prog 89 (FE.code 33 [.tmp 2] (aT Try.f89)):=⟨_,Try.func89,by kernel_rfl,Try.ntmps89,by rw [Try.results89],by kernel_rfl⟩
theorem bB6:fC Try.prog 90 (FE.code 44 [.tmp 4] (aT Try.f90)):=⟨_,Try.func90,by kernel_rfl,Try.ntmps90,by rw [Try.results90],by kernel_rfl⟩
theorem bB7:fC Try.prog 91 (FE.pure aMq):=b4y Try.func91 (by kernel_rfl) (by kernel_rfl) (by kernel_rfl) (by kernel_rfl)
theorem bB8:fC Try.prog 92 (FE.code 33 [.cell 6 147] (aT Try.f92)):=⟨_,Try.func92,by kernel_rfl,Try.ntmps92,by rw [Try.results92],by kernel_rfl⟩
theorem bB9:fC Try.prog 93 (FE.code 25 [] (aT Try.f93)):=⟨_,Try.func93,by kernel_rfl,Try.ntmps93,by rw [Try.results93],by kernel_rfl⟩
theorem bCa:fC Try.prog 98 (FE.code 18 [.tmp 4] (aT Try.f98)):=⟨_,Try.func98,by kernel_rfl,Try.ntmps98,by rw [Try.results98],by kernel_rfl⟩
theorem bCb:fC Try.prog 99 (FE.code 143 [.tmp 4] (aT Try.f99)):=⟨_,Try.func99,by kernel_rfl,Try.ntmps99,by rw [Try.results99],by kernel_rfl⟩
theorem b7t:fC Try.prog 100 (FE.code 21 [.tmp 2] (aT Try.f100)):=⟨_,Try.func100,by kernel_rfl,Try.ntmps100,by rw [Try.results100],by kernel_rfl⟩
theorem b7u:fC Try.prog 101 (FE.code 25 [.tmp 2] (aT Try.f101)):=⟨_,Try.func101,by kernel_rfl,Try.ntmps101,by rw [Try.results101],by kernel_rfl⟩
theorem b7v:fC Try.prog 102 (FE.code 30 [.tmp 6] (aT Try.f102)):=⟨_,Try.func102,by kernel_rfl,Try.ntmps102,by rw [Try.results102],by kernel_rfl⟩
theorem b7w:fC Try.prog 103 (FE.code 15 [.tmp 4] (aT Try.f103)):=⟨_,Try.func103,by kernel_rfl,Try.ntmps103,by rw [Try.results103],by kernel_rfl⟩
theorem b7x:fC Try.prog 104 (FE.code 30 [] (aT Try.f104)):=⟨_,Try.func104,by kernel_rfl,Try.ntmps104,by rw [Try.results104],by kernel_rfl⟩
theorem b7y:fC Try.prog 107 (FE.code 8 [.tmp 4] (aT Try.f107)):=⟨_,Try.func107,by kernel_rfl,Try.ntmps107,by rw [Try.results107],by kernel_rfl⟩
theorem b7z:fC Try.prog 109 (FE.code 6 [.tmp 2] (aT Try.f109)):=⟨_,Try.func109,by kernel_rfl,Try.ntmps109,by rw [Try.results109],by kernel_rfl⟩
theorem b70:fC Try.prog 110 (FE.code 81 [.tmp 4] (aT Try.f110)):=⟨_,Try.func110,by kernel_rfl,Try.ntmps110,by rw [Try.results110],by kernel_rfl⟩
theorem b71:fC Try.prog 111 (FE.code 60 [.tmp 2] (aT Try.f111)):=⟨_,Try.func111,by kernel_rfl,Try.ntmps111,by rw [Try.results111],by kernel_rfl⟩
theorem b72:fC Try.prog 112 (FE.room 5):=@b4z Try.prog 112 Try.f112 78 5 Try.func112 (by kernel_rfl) (by kernel_rfl) (by kernel_rfl) Try.f112.params (by kernel_rfl) Try.underlying78
theorem b73:fC Try.prog 116 (FE.pure aUy):=b74 Try.func116 (by kernel_rfl) (by kernel_rfl) (by kernel_rfl) (by kernel_rfl)
theorem b75:fC Try.prog 117 (FE.code 39 [.tmp 2,.tmp 3] (aT Try.f117)):=⟨_,Try.func117,by kernel_rfl,Try.ntmps117,by rw [Try.results117],by kernel_rfl⟩
noncomputable def ftL:List (Nat×FE):=[(12,FE.code 82 [.tmp 0] (aT Try.f12)),
 (13,FE.code 55 [.tmp 2,.tmp 3,.tmp 4] (aT Try.f13)),
 (14,FE.code 70 [.tmp 2,.tmp 3] (aT Try.f14)),
 (31,FE.code 8 [.tmp 4] (aT Try.f31)),
 (32,FE.code 46 [.tmp 2,.tmp 3,.tmp 4] (aT Try.f32)),
 (33,FE.code 43 [.cell 4 35,.tmp 5] (aT Try.f33)),
 (34,FE.code 19 [.tmp 4,.tmp 5] (aT Try.f34)),
 (35,FE.code 56 [.tmp 2,.tmp 3] (aT Try.f35)),
 (36,FE.code 8 [.tmp 2] (aT Try.f36)),
 (37,FE.code 14 [.tmp 2] (aT Try.f37)),
 (53,FE.code 32 [.tmp 6] (aT Try.f53)),
 (54,FE.code 17 [.tmp 4] (aT Try.f54)),
 (55,FE.code 32 [.tmp 6] (aT Try.f55)),
 (56,FE.code 24 [.tmp 4] (aT Try.f56)),
 (57,FE.code 32 [.tmp 2] (aT Try.f57)),
 (58,FE.code 22 [.cell 2 97,.tmp 3] (aT Try.f58)),
 (59,FE.code 14 [.tmp 6] (aT Try.f59)),
 (60,FE.code 14 [.tmp 2] (aT Try.f60)),
 (61,FE.code 20 [.tmp 4] (aT Try.f61)),
 (62,FE.code 24 [.tmp 4] (aT Try.f62)),
 (63,FE.code 13 [.tmp 4] (aT Try.f63)),
 (64,FE.code 53 [.tmp 4] (aT Try.f64)),
 (65,FE.code 20 [] (aT Try.f65)),
 (66,FE.code 84 [.tmp 2,.tmp 3] (aT Try.f66)),
 (67,FE.code 75 [.tmp 4] (aT Try.f67)),
 (79,FE.code 26 [.tmp 4] (aT Try.f79)),
 (80,FE.code 26 [.tmp 4] (aT Try.f80)),
 (81,FE.code 8 [.tmp 4] (aT Try.f81)),
 (82,FE.code 8 [.tmp 4] (aT Try.f82)),
 (83,FE.code 9 [.tmp 4] (aT Try.f83)),
 (84,FE.code 17 [.tmp 2] (aT Try.f84)),
 (85,FE.code 20 [.cell 2 97] (aT Try.f85)),
 (86,FE.code 23 [.tmp 2] (aT Try.f86)),
 (87,FE.code 17 [.tmp 4] (aT Try.f87)),
 (88,FE.code 19 [.tmp 4] (aT Try.f88)),
 (89,FE.code 33 [.tmp 2] (aT Try.f89)),
 (90,FE.code 44 [.tmp 4] (aT Try.f90)),
 (91,FE.pure aMq),
 (92,FE.code 33 [.cell 6 147] (aT Try.f92)),
 (93,FE.code 25 [] (aT Try.f93)),
 (98,FE.code 18 [.tmp 4] (aT Try.f98)),
 (99,FE.code 143 [.tmp 4] (aT Try.f99)),
 (100,FE.code 21 [.tmp 2] (aT Try.f100)),
 (101,FE.code 25 [.tmp 2] (aT Try.f101)),
 (102,FE.code 30 [.tmp 6] (aT Try.f102)),
 (103,FE.code 15 [.tmp 4] (aT Try.f103)),
 (104,FE.code 30 [] (aT Try.f104)),
 (107,FE.code 8 [.tmp 4] (aT Try.f107)),
 (109,FE.code 6 [.tmp 2] (aT Try.f109)),
 (110,FE.code 81 [.tmp 4] (aT Try.f110)),
 (111,FE.code 60 [.tmp 2] (aT Try.f111)),
 (112,FE.room 5),
 (116,FE.pure aUy),
 (117,FE.code 39 [.tmp 2,.tmp 3] (aT Try.f117))]
theorem bCc:∀ p ∈ ftL,fC Try.prog p.1 p.2:=all_cons bA6 (all_cons bA7 (all_cons bA8 (all_cons bA9 (all_cons bBa (all_cons bBb (all_cons bBc (all_cons bBd (all_cons bBe (all_cons bBf (all_cons bBg (all_cons bBh (all_cons bBi (all_cons bBj (all_cons bBk (all_cons bBl (all_cons bBm (all_cons bBn (all_cons bBo (all_cons bBp (all_cons bBq (all_cons bBr (all_cons bBs (all_cons bBt (all_cons bBu (all_cons bBv (all_cons bBw (all_cons bBx (all_cons bBy (all_cons bBz (all_cons bB0 (all_cons bB1 (all_cons bB2 (all_cons bB3 (all_cons bB4 (all_cons bB5 (all_cons bB6 (all_cons bB7 (all_cons bB8 (all_cons bB9 (all_cons bCa (all_cons bCb (all_cons b7t (all_cons b7u (all_cons b7v (all_cons b7w (all_cons b7x (all_cons b7y (all_cons b7z (all_cons b70 (all_cons b71 (all_cons b72 (all_cons b73 (all_cons b75 (all_nil))))))))))))))))))))))))))))))))))))))))))))))))))))))
noncomputable def ftT:T FE:=ofList ftL
theorem bEd:aNk Try.prog ftT:=b40 bCc
end Go.Rx

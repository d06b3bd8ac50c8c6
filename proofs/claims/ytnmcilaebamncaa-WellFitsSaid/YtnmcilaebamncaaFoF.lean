import Derived.Test.YtnmcilaebamncaaR3
import Derived.Test.YtnmcilaebamncaaRows
set_option maxRecDepth 100000
namespace Go.Rx
open Go.Proofs
theorem mixed:Try.prog.follows .mixedOrders=true:=by kernel_rfl
theorem b5q:cV Try.prog ⟨3,(.int .i64),1,false,8,(some [(.int .i64 0)]),(some [.i])⟩:=cV.q Try.underlying3 (by kernel_rfl) (by kernel_rfl) (by kernel_rfl) (zS (by kernel_rfl) rfl rfl) (fun _=>rfl) (by kernel_rfl) (by kernel_rfl) rfl
theorem b5r:cV Try.prog ⟨4,.bool,1,false,1,(some [(.bool false)]),(some [.b])⟩:=cV.q Try.underlying4 (by kernel_rfl) (by kernel_rfl) (by kernel_rfl) (zS (by kernel_rfl) rfl rfl) (fun _=>rfl) (by kernel_rfl) (by kernel_rfl) rfl
theorem b5s:cV Try.prog ⟨5,(.int .u8),1,false,1,(some [(.int .u8 0)]),(some [.i])⟩:=cV.q Try.underlying5 (by kernel_rfl) (by kernel_rfl) (by kernel_rfl) (zS (by kernel_rfl) rfl rfl) (fun _=>rfl) (by kernel_rfl) (by kernel_rfl) rfl
theorem b5t:cV Try.prog ⟨9,.str,1,false,16,(some [(.str ⟨0,0⟩)]),(some [.s])⟩:=cV.q Try.underlying9 (by kernel_rfl) (by kernel_rfl) (by kernel_rfl) (zS (by kernel_rfl) rfl rfl) (fun _=>rfl) (by kernel_rfl) (by kernel_rfl) rfl
theorem aY6:cV Try.prog ⟨23,(.sl 35),1,false,24,(some [.slnil]),(some [.sl])⟩:=cV.q Try.underlying23 (by kernel_rfl) (by kernel_rfl) (by kernel_rfl) (zS (by kernel_rfl) rfl rfl) (fun _=>rfl) (by kernel_rfl) (by kernel_rfl) rfl
theorem aY7:cV Try.prog ⟨27,(.st [(0,9),(1,9)]),2,true,32,(some [(.str ⟨0,0⟩),(.str ⟨0,0⟩)]),(some [.s,.s])⟩:=cV.q ⟨_,Try.underlying27,by kernel_rfl,by kernel_rfl⟩ (by kernel_rfl) (by kernel_rfl) (by kernel_rfl) (zA (by kernel_rfl) rfl rfl) (fun h=>by simp at h) (by kernel_rfl) (by kernel_rfl) rfl
theorem aY8:cV Try.prog ⟨29,(.st [(0,9),(1,9),(2,9)]),3,true,48,(some [(.str ⟨0,0⟩),(.str ⟨0,0⟩),(.str ⟨0,0⟩)]),(some [.s,.s,.s])⟩:=cV.q ⟨_,Try.underlying29,by kernel_rfl,by kernel_rfl⟩ (by kernel_rfl) (by kernel_rfl) (by kernel_rfl) (zA (by kernel_rfl) rfl rfl) (fun h=>by simp at h) (by kernel_rfl) (by kernel_rfl) rfl
theorem aY9:cV Try.prog ⟨31,(.st [(0,27),(2,9),(3,29)]),6,true,96,(some [(.str ⟨0,0⟩),(.str ⟨0,0⟩),(.str ⟨0,0⟩),(.str ⟨0,0⟩),(.str ⟨0,0⟩),(.str ⟨0,0⟩)]),(some [.s,.s,.s,.s,.s,.s])⟩:=cV.q ⟨_,Try.underlying31,by kernel_rfl,by kernel_rfl⟩ (by kernel_rfl) (by kernel_rfl) (by kernel_rfl) (zA (by kernel_rfl) rfl rfl) (fun h=>by simp at h) (by kernel_rfl) (by kernel_rfl) rfl
theorem aZa:cV Try.prog ⟨33,(.sl 39),1,false,24,(some [.slnil]),(some [.sl])⟩:=cV.q Try.underlying33 (by kernel_rfl) (by kernel_rfl) (by kernel_rfl) (zS (by kernel_rfl) rfl rfl) (fun _=>rfl) (by kernel_rfl) (by kernel_rfl) rfl
theorem aZb:cV Try.prog ⟨35,(.st [(0,9),(1,33)]),2,true,40,(some [(.str ⟨0,0⟩),.slnil]),(some [.s,.sl])⟩:=cV.q ⟨_,Try.underlying35,by kernel_rfl,by kernel_rfl⟩ (by kernel_rfl) (by kernel_rfl) (by kernel_rfl) (zA (by kernel_rfl) rfl rfl) (fun h=>by simp at h) (by kernel_rfl) (by kernel_rfl) rfl
theorem aZc:cV Try.prog ⟨36,(.sl 29),1,false,24,(some [.slnil]),(some [.sl])⟩:=cV.q Try.underlying36 (by kernel_rfl) (by kernel_rfl) (by kernel_rfl) (zS (by kernel_rfl) rfl rfl) (fun _=>rfl) (by kernel_rfl) (by kernel_rfl) rfl
theorem aZd:cV Try.prog ⟨37,(.sl 125),1,false,24,(some [.slnil]),(some [.sl])⟩:=cV.q Try.underlying37 (by kernel_rfl) (by kernel_rfl) (by kernel_rfl) (zS (by kernel_rfl) rfl rfl) (fun _=>rfl) (by kernel_rfl) (by kernel_rfl) rfl
theorem aZe:cV Try.prog ⟨39,(.st [(0,9),(1,36),(2,37)]),3,true,64,(some [(.str ⟨0,0⟩),.slnil,.slnil]),(some [.s,.sl,.sl])⟩:=cV.q ⟨_,Try.underlying39,by kernel_rfl,by kernel_rfl⟩ (by kernel_rfl) (by kernel_rfl) (by kernel_rfl) (zA (by kernel_rfl) rfl rfl) (fun h=>by simp at h) (by kernel_rfl) (by kernel_rfl) rfl
theorem aZf:cV Try.prog ⟨44,(.int .i64),1,false,8,(some [(.int .i64 0)]),(some [.i])⟩:=cV.q Try.underlying44 (by kernel_rfl) (by kernel_rfl) (by kernel_rfl) (zS (by kernel_rfl) rfl rfl) (fun _=>rfl) (by kernel_rfl) (by kernel_rfl) rfl
theorem aZg:cV Try.prog ⟨69,(.sl 97),1,false,24,(some [.slnil]),(some [.sl])⟩:=cV.q Try.underlying69 (by kernel_rfl) (by kernel_rfl) (by kernel_rfl) (zS (by kernel_rfl) rfl rfl) (fun _=>rfl) (by kernel_rfl) (by kernel_rfl) rfl
theorem aZh:cV Try.prog ⟨94,(.st [(0,69),(1,3),(2,3),(3,3),(4,3),(5,3),(6,37),(7,3)]),8,true,96,(some [.slnil,(.int .i64 0),(.int .i64 0),(.int .i64 0),(.int .i64 0),(.int .i64 0),.slnil,(.int .i64 0)]),(some [.sl,.i,.i,.i,.i,.i,.sl,.i])⟩:=cV.q ⟨_,Try.underlying94,by kernel_rfl,by kernel_rfl⟩ (by kernel_rfl) (by kernel_rfl) (by kernel_rfl) (zA (by kernel_rfl) rfl rfl) (fun h=>by simp at h) (by kernel_rfl) (by kernel_rfl) rfl
theorem aZi:cV Try.prog ⟨97,(.st [(0,3),(1,3),(2,9)]),3,true,32,(some [(.int .i64 0),(.int .i64 0),(.str ⟨0,0⟩)]),(some [.i,.i,.s])⟩:=cV.q ⟨_,Try.underlying97,by kernel_rfl,by kernel_rfl⟩ (by kernel_rfl) (by kernel_rfl) (by kernel_rfl) (zA (by kernel_rfl) rfl rfl) (fun h=>by simp at h) (by kernel_rfl) (by kernel_rfl) rfl
theorem aSj:cV Try.prog ⟨125,(.st [(0,3),(1,9),(2,9)]),3,true,40,(some [(.int .i64 0),(.str ⟨0,0⟩),(.str ⟨0,0⟩)]),(some [.i,.s,.s])⟩:=cV.q ⟨_,Try.underlying125,by kernel_rfl,by kernel_rfl⟩ (by kernel_rfl) (by kernel_rfl) (by kernel_rfl) (zA (by kernel_rfl) rfl rfl) (fun h=>by simp at h) (by kernel_rfl) (by kernel_rfl) rfl
theorem aSk:cV Try.prog ⟨127,(.map 9 3),1,false,8,(some [.dM]),(some [.m])⟩:=cV.q Try.underlying127 (by kernel_rfl) (by kernel_rfl) (by kernel_rfl) (zS (by kernel_rfl) rfl rfl) (fun _=>rfl) (by kernel_rfl) (by kernel_rfl) rfl
theorem aSl:cV Try.prog ⟨128,(.map 135 39),1,false,8,(some [.dM]),(some [.m])⟩:=cV.q Try.underlying128 (by kernel_rfl) (by kernel_rfl) (by kernel_rfl) (zS (by kernel_rfl) rfl rfl) (fun _=>rfl) (by kernel_rfl) (by kernel_rfl) rfl
theorem aSm:cV Try.prog ⟨129,(.map 135 3),1,false,8,(some [.dM]),(some [.m])⟩:=cV.q Try.underlying129 (by kernel_rfl) (by kernel_rfl) (by kernel_rfl) (zS (by kernel_rfl) rfl rfl) (fun _=>rfl) (by kernel_rfl) (by kernel_rfl) rfl
theorem aSn:cV Try.prog ⟨131,(.st [(0,127),(1,128),(2,129)]),3,true,24,(some [.dM,.dM,.dM]),(some [.m,.m,.m])⟩:=cV.q ⟨_,Try.underlying131,by kernel_rfl,by kernel_rfl⟩ (by kernel_rfl) (by kernel_rfl) (by kernel_rfl) (zA (by kernel_rfl) rfl rfl) (fun h=>by simp at h) (by kernel_rfl) (by kernel_rfl) rfl
theorem aSo:cV Try.prog ⟨132,(.sl 135),1,false,24,(some [.slnil]),(some [.sl])⟩:=cV.q Try.underlying132 (by kernel_rfl) (by kernel_rfl) (by kernel_rfl) (zS (by kernel_rfl) rfl rfl) (fun _=>rfl) (by kernel_rfl) (by kernel_rfl) rfl
theorem aSp:cV Try.prog ⟨135,(.st [(0,9),(1,9)]),2,true,32,(some [(.str ⟨0,0⟩),(.str ⟨0,0⟩)]),(some [.s,.s])⟩:=cV.q ⟨_,Try.underlying135,by kernel_rfl,by kernel_rfl⟩ (by kernel_rfl) (by kernel_rfl) (by kernel_rfl) (zA (by kernel_rfl) rfl rfl) (fun h=>by simp at h) (by kernel_rfl) (by kernel_rfl) rfl
theorem bDf:cV Try.prog ⟨151,(.map 135 152),1,false,8,(some [.dM]),(some [.m])⟩:=cV.q Try.underlying151 (by kernel_rfl) (by kernel_rfl) (by kernel_rfl) (zS (by kernel_rfl) rfl rfl) (fun _=>rfl) (by kernel_rfl) (by kernel_rfl) rfl
theorem aSq:cV Try.prog ⟨152,(.sl 155),1,false,24,(some [.slnil]),(some [.sl])⟩:=cV.q Try.underlying152 (by kernel_rfl) (by kernel_rfl) (by kernel_rfl) (zS (by kernel_rfl) rfl rfl) (fun _=>rfl) (by kernel_rfl) (by kernel_rfl) rfl
theorem aSr:cV Try.prog ⟨155,(.st [(0,135),(2,3)]),3,true,40,(some [(.str ⟨0,0⟩),(.str ⟨0,0⟩),(.int .i64 0)]),(some [.s,.s,.i])⟩:=cV.q ⟨_,Try.underlying155,by kernel_rfl,by kernel_rfl⟩ (by kernel_rfl) (by kernel_rfl) (by kernel_rfl) (zA (by kernel_rfl) rfl rfl) (fun h=>by simp at h) (by kernel_rfl) (by kernel_rfl) rfl
theorem aSs:cV Try.prog ⟨162,(.sl 152),1,false,24,(some [.slnil]),(some [.sl])⟩:=cV.q Try.underlying162 (by kernel_rfl) (by kernel_rfl) (by kernel_rfl) (zS (by kernel_rfl) rfl rfl) (fun _=>rfl) (by kernel_rfl) (by kernel_rfl) rfl
def tyL:List aV:=[⟨3,(.int .i64),1,false,8,(some [(.int .i64 0)]),(some [.i])⟩,
 ⟨4,.bool,1,false,1,(some [(.bool false)]),(some [.b])⟩,
 ⟨5,(.int .u8),1,false,1,(some [(.int .u8 0)]),(some [.i])⟩,
 ⟨9,.str,1,false,16,(some [(.str ⟨0,0⟩)]),(some [.s])⟩,
 ⟨23,(.sl 35),1,false,24,(some [.slnil]),(some [.sl])⟩,
 ⟨27,(.st [(0,9),(1,9)]),2,true,32,(some [(.str ⟨0,0⟩),(.str ⟨0,0⟩)]),(some [.s,.s])⟩,
 ⟨29,(.st [(0,9),(1,9),(2,9)]),3,true,48,(some [(.str ⟨0,0⟩),(.str ⟨0,0⟩),(.str ⟨0,0⟩)]),(some [.s,.s,.s])⟩,
 ⟨31,(.st [(0,27),(2,9),(3,29)]),6,true,96,(some [(.str ⟨0,0⟩),(.str ⟨0,0⟩),(.str ⟨0,0⟩),(.str ⟨0,0⟩),(.str ⟨0,0⟩),(.str ⟨0,0⟩)]),(some [.s,.s,.s,.s,.s,.s])⟩,
 ⟨33,(.sl 39),1,false,24,(some [.slnil]),(some [.sl])⟩,
 ⟨35,(.st [(0,9),(1,33)]),2,true,40,(some [(.str ⟨0,0⟩),.slnil]),(some [.s,.sl])⟩,
 ⟨36,(.sl 29),1,false,24,(some [.slnil]),(some [.sl])⟩,
 ⟨37,(.sl 125),1,false,24,(some [.slnil]),(some [.sl])⟩,
 ⟨39,(.st [(0,9),(1,36),(2,37)]),3,true,64,(some [(.str ⟨0,0⟩),.slnil,.slnil]),(some [.s,.sl,.sl])⟩,
 ⟨44,(.int .i64),1,false,8,(some [(.int .i64 0)]),(some [.i])⟩,
 ⟨69,(.sl 97),1,false,24,(some [.slnil]),(some [.sl])⟩,
 ⟨94,(.st [(0,69),(1,3),(2,3),(3,3),(4,3),(5,3),(6,37),(7,3)]),8,true,96,(some [.slnil,(.int .i64 0),(.int .i64 0),(.int .i64 0),(.int .i64 0),(.int .i64 0),.slnil,(.int .i64 0)]),(some [.sl,.i,.i,.i,.i,.i,.sl,.i])⟩,
 ⟨97,(.st [(0,3),(1,3),(2,9)]),3,true,32,(some [(.int .i64 0),(.int .i64 0),(.str ⟨0,0⟩)]),(some [.i,.i,.s])⟩,
 ⟨125,(.st [(0,3),(1,9),(2,9)]),3,true,40,(some [(.int .i64 0),(.str ⟨0,0⟩),(.str ⟨0,0⟩)]),(some [.i,.s,.s])⟩,
 ⟨127,(.map 9 3),1,false,8,(some [.dM]),(some [.m])⟩,
 ⟨128,(.map 135 39),1,false,8,(some [.dM]),(some [.m])⟩,
 ⟨129,(.map 135 3),1,false,8,(some [.dM]),(some [.m])⟩,
 ⟨131,(.st [(0,127),(1,128),(2,129)]),3,true,24,(some [.dM,.dM,.dM]),(some [.m,.m,.m])⟩,
 ⟨132,(.sl 135),1,false,24,(some [.slnil]),(some [.sl])⟩,
 ⟨135,(.st [(0,9),(1,9)]),2,true,32,(some [(.str ⟨0,0⟩),(.str ⟨0,0⟩)]),(some [.s,.s])⟩,
 ⟨151,(.map 135 152),1,false,8,(some [.dM]),(some [.m])⟩,
 ⟨152,(.sl 155),1,false,24,(some [.slnil]),(some [.sl])⟩,
 ⟨155,(.st [(0,135),(2,3)]),3,true,40,(some [(.str ⟨0,0⟩),(.str ⟨0,0⟩),(.int .i64 0)]),(some [.s,.s,.i])⟩,
 ⟨162,(.sl 152),1,false,24,(some [.slnil]),(some [.sl])⟩]
theorem bFm:∀ ti ∈ tyL,cV Try.prog ti:=all_cons b5q (all_cons b5r (all_cons b5s (all_cons b5t (all_cons aY6 (all_cons aY7 (all_cons aY8 (all_cons aY9 (all_cons aZa (all_cons aZb (all_cons aZc (all_cons aZd (all_cons aZe (all_cons aZf (all_cons aZg (all_cons aZh (all_cons aZi (all_cons aSj (all_cons aSk (all_cons aSl (all_cons aSm (all_cons aSn (all_cons aSo (all_cons aSp (all_cons bDf (all_cons aSq (all_cons aSr (all_cons aSs (all_nil))))))))))))))))))))))))))))
noncomputable def bO:T aV:=ofList (tyL.map fun ti=>(ti.t,ti))
theorem iO:fQ Try.prog bO:=b8a bFm
theorem bH0:fW Try.prog 6 (FE.code 13 [.tmp 2] (aT Try.f6)):=⟨_,Try.func6,by kernel_rfl,Try.ntmps6,by rw [Try.results6],by kernel_rfl⟩
theorem bH1:fW Try.prog 9 (FE.code 45 [.tmp 4] (aT Try.f9)):=⟨_,Try.func9,by kernel_rfl,Try.ntmps9,by rw [Try.results9],by kernel_rfl⟩
theorem bFn:fW Try.prog 11 (FE.code 64 [.tmp 0] (aT Try.f11)):=⟨_,Try.func11,by kernel_rfl,Try.ntmps11,by rw [Try.results11],by kernel_rfl⟩
theorem bFo:fW Try.prog 16 (FE.code 148 [.tmp 2,.tmp 3,.tmp 4] (aT Try.f16)):=⟨_,Try.func16,by kernel_rfl,Try.ntmps16,by rw [Try.results16],by kernel_rfl⟩
theorem bFp:fW Try.prog 21 (FE.code 19 [.tmp 4] (aT Try.f21)):=⟨_,Try.func21,by kernel_rfl,Try.ntmps21,by rw [Try.results21],by kernel_rfl⟩
theorem bFq:fW Try.prog 22 (FE.code 10 [.tmp 3] (aT Try.f22)):=⟨_,Try.func22,by kernel_rfl,Try.ntmps22,by rw [Try.results22],by kernel_rfl⟩
theorem bFr:fW Try.prog 23 (FE.code 42 [.tmp 2] (aT Try.f23)):=⟨_,Try.func23,by kernel_rfl,Try.ntmps23,by rw [Try.results23],by kernel_rfl⟩
theorem bFs:fW Try.prog 24 (FE.code 19 [.tmp 4] (aT Try.f24)):=⟨_,Try.func24,by kernel_rfl,Try.ntmps24,by rw [Try.results24],by kernel_rfl⟩
theorem bFt:fW Try.prog 25 (FE.code 9 [.tmp 3] (aT Try.f25)):=⟨_,Try.func25,by kernel_rfl,Try.ntmps25,by rw [Try.results25],by kernel_rfl⟩
theorem bFu:fW Try.prog 26 (FE.code 9 [.tmp 4] (aT Try.f26)):=⟨_,Try.func26,by kernel_rfl,Try.ntmps26,by rw [Try.results26],by kernel_rfl⟩
theorem bFv:fW Try.prog 29 (FE.code 31 [.tmp 6,.tmp 7] (aT Try.f29)):=⟨_,Try.func29,by kernel_rfl,Try.ntmps29,by rw [Try.results29],by kernel_rfl⟩
theorem bFw:fW Try.prog 30 (FE.code 11 [.tmp 2] (aT Try.f30)):=⟨_,Try.func30,by kernel_rfl,Try.ntmps30,by rw [Try.results30],by kernel_rfl⟩
theorem bFx:fW Try.prog 40 (FE.code 115 [.tmp 2,.tmp 3,.tmp 4] (aT Try.f40)):=⟨_,Try.func40,by kernel_rfl,Try.ntmps40,by rw [Try.results40],by kernel_rfl⟩
theorem bFy:fW Try.prog 41 (FE.code 18 [] (aT Try.f41)):=⟨_,Try.func41,by kernel_rfl,Try.ntmps41,by rw [Try.results41],by kernel_rfl⟩
theorem bFz:fW Try.prog 42 (FE.code 68 [.tmp 2] (aT Try.f42)):=⟨_,Try.func42,by kernel_rfl,Try.ntmps42,by rw [Try.results42],by kernel_rfl⟩
theorem bF0:fW Try.prog 43 (FE.code 44 [.tmp 4] (aT Try.f43)):=⟨_,Try.func43,by kernel_rfl,Try.ntmps43,by rw [Try.results43],by kernel_rfl⟩
theorem bF1:fW Try.prog 44 (FE.code 98 [.cell 2 39] (aT Try.f44)):=⟨_,Try.func44,by kernel_rfl,Try.ntmps44,by rw [Try.results44],by kernel_rfl⟩
theorem bF2:fW Try.prog 45 (FE.code 22 [] (aT Try.f45)):=⟨_,Try.func45,by kernel_rfl,Try.ntmps45,by rw [Try.results45],by kernel_rfl⟩
theorem bF3:fW Try.prog 46 (FE.code 28 [.tmp 2] (aT Try.f46)):=⟨_,Try.func46,by kernel_rfl,Try.ntmps46,by rw [Try.results46],by kernel_rfl⟩
theorem bF4:fW Try.prog 47 (FE.code 36 [.tmp 2] (aT Try.f47)):=⟨_,Try.func47,by kernel_rfl,Try.ntmps47,by rw [Try.results47],by kernel_rfl⟩
theorem bF5:fW Try.prog 48 (FE.code 19 [.tmp 4] (aT Try.f48)):=⟨_,Try.func48,by kernel_rfl,Try.ntmps48,by rw [Try.results48],by kernel_rfl⟩
theorem bF6:fW Try.prog 50 (FE.code 61 [.tmp 2,.tmp 3] (aT Try.f50)):=⟨_,Try.func50,by kernel_rfl,Try.ntmps50,by rw [Try.results50],by kernel_rfl⟩
theorem bF7:fW Try.prog 51 (FE.code 23 [.cell 6 39,.tmp 7] (aT Try.f51)):=⟨_,Try.func51,by kernel_rfl,Try.ntmps51,by rw [Try.results51],by kernel_rfl⟩
theorem bF8:fW Try.prog 52 (FE.code 15 [.tmp 6] (aT Try.f52)):=⟨_,Try.func52,by kernel_rfl,Try.ntmps52,by rw [Try.results52],by kernel_rfl⟩
theorem bF9:fW Try.prog 68 (FE.code 21 [.tmp 2] (aT Try.f68)):=⟨_,Try.func68,by kernel_rfl,Try.ntmps68,by rw [Try.results68],by kernel_rfl⟩
theorem bGa:fW Try.prog 69 (FE.code 21 [.tmp 6] (aT Try.f69)):=⟨_,Try.func69,by kernel_rfl,Try.ntmps69,by rw [Try.results69],by kernel_rfl⟩
theorem bGb:fW Try.prog 70 (FE.code 28 [.tmp 2] (aT Try.f70)):=⟨_,Try.func70,by kernel_rfl,Try.ntmps70,by rw [Try.results70],by kernel_rfl⟩
theorem bGc:fW Try.prog 71 (FE.code 32 [.tmp 2] (aT Try.f71)):=⟨_,Try.func71,by kernel_rfl,Try.ntmps71,by rw [Try.results71],by kernel_rfl⟩
theorem bGd:fW Try.prog 72 (FE.code 37 [] (aT Try.f72)):=⟨_,Try.func72,by kernel_rfl,Try.ntmps72,by rw [Try.results72],by kernel_rfl⟩
theorem bGe:fW Try.prog 73 (FE.code 17 [.tmp 2] (aT Try.f73)):=⟨_,Try.func73,by kernel_rfl,Try.ntmps73,by rw [Try.results73],by kernel_rfl⟩
theorem bGf:fW Try.prog 74 (FE.code 17 [.tmp 2] (aT Try.f74)):=⟨_,Try.func74,by kernel_rfl,Try.ntmps74,by rw [Try.results74],by kernel_rfl⟩
theorem bGg:fW Try.prog 75 (FE.code 60 [.tmp 4] (aT Try.f75)):=⟨_,Try.func75,by kernel_rfl,Try.ntmps75,by rw [Try.results75],by kernel_rfl⟩
theorem bGh:fW Try.prog 76 (FE.code 83 [.tmp 6] (aT Try.f76)):=⟨_,Try.func76,by kernel_rfl,Try.ntmps76,by rw [Try.results76],by kernel_rfl⟩
theorem bGi:fW Try.prog 77 (FE.code 28 [] (aT Try.f77)):=⟨_,Try.func77,by kernel_rfl,Try.ntmps77,by rw [Try.results77],by kernel_rfl⟩
theorem bGj:fW Try.prog 78 (FE.code 79 [.tmp 4] (aT Try.f78)):=⟨_,Try.func78,by kernel_rfl,Try.ntmps78,by rw [Try.results78],by kernel_rfl⟩
theorem bGk:fW Try.prog 94 (FE.code 29 [] (aT Try.f94)):=⟨_,Try.func94,by kernel_rfl,Try.ntmps94,by rw [Try.results94],by kernel_rfl⟩
theorem bGl:fW Try.prog 95 (FE.code 41 [] (aT Try.f95)):=⟨_,Try.func95,by kernel_rfl,Try.ntmps95,by rw [Try.results95],by kernel_rfl⟩
theorem bGm:fW Try.prog 96 (FE.code 51 [.tmp 6] (aT Try.f96)):=⟨_,Try.func96,by kernel_rfl,Try.ntmps96,by rw [Try.results96],by kernel_rfl⟩
theorem bGn:fW Try.prog 97 (FE.code 42 [.tmp 4] (aT Try.f97)):=⟨_,Try.func97,by kernel_rfl,Try.ntmps97,by rw [Try.results97],by kernel_rfl⟩
theorem bDg:fW Try.prog 105 (FE.code 79 [] (aT Try.f105)):=⟨_,Try.func105,by kernel_rfl,Try.ntmps105,by rw [Try.results105],by kernel_rfl⟩
theorem bDh:fW Try.prog 106 (FE.code 76 [.tmp 6] (aT Try.f106)):=⟨_,Try.func106,by kernel_rfl,Try.ntmps106,by rw [Try.results106],by kernel_rfl⟩
theorem bDi:fW Try.prog 113 (FE.code 47 [.tmp 6] (aT Try.f113)):=⟨_,Try.func113,by kernel_rfl,Try.ntmps113,by rw [Try.results113],by kernel_rfl⟩
theorem bDj:fW Try.prog 114 (FE.code 8 [.tmp 2] (aT Try.f114)):=⟨_,Try.func114,by kernel_rfl,Try.ntmps114,by rw [Try.results114],by kernel_rfl⟩
theorem bDk:fW Try.prog 115 (FE.code 36 [.tmp 2] (aT Try.f115)):=⟨_,Try.func115,by kernel_rfl,Try.ntmps115,by rw [Try.results115],by kernel_rfl⟩
theorem bDl:fW Try.prog 118 (FE.code 27 [.tmp 4] (aT Try.f118)):=⟨_,Try.func118,by kernel_rfl,Try.ntmps118,by rw [Try.results118],by kernel_rfl⟩
noncomputable def ftL:List (Nat×FE):=[(6,FE.code 13 [.tmp 2] (aT Try.f6)),
 (9,FE.code 45 [.tmp 4] (aT Try.f9)),
 (11,FE.code 64 [.tmp 0] (aT Try.f11)),
 (16,FE.code 148 [.tmp 2,.tmp 3,.tmp 4] (aT Try.f16)),
 (21,FE.code 19 [.tmp 4] (aT Try.f21)),
 (22,FE.code 10 [.tmp 3] (aT Try.f22)),
 (23,FE.code 42 [.tmp 2] (aT Try.f23)),
 (24,FE.code 19 [.tmp 4] (aT Try.f24)),
 (25,FE.code 9 [.tmp 3] (aT Try.f25)),
 (26,FE.code 9 [.tmp 4] (aT Try.f26)),
 (29,FE.code 31 [.tmp 6,.tmp 7] (aT Try.f29)),
 (30,FE.code 11 [.tmp 2] (aT Try.f30)),
 (40,FE.code 115 [.tmp 2,.tmp 3,.tmp 4] (aT Try.f40)),
 (41,FE.code 18 [] (aT Try.f41)),
 (42,FE.code 68 [.tmp 2] (aT Try.f42)),
 (43,FE.code 44 [.tmp 4] (aT Try.f43)),
 (44,FE.code 98 [.cell 2 39] (aT Try.f44)),
 (45,FE.code 22 [] (aT Try.f45)),
 (46,FE.code 28 [.tmp 2] (aT Try.f46)),
 (47,FE.code 36 [.tmp 2] (aT Try.f47)),
 (48,FE.code 19 [.tmp 4] (aT Try.f48)),
 (50,FE.code 61 [.tmp 2,.tmp 3] (aT Try.f50)),
 (51,FE.code 23 [.cell 6 39,.tmp 7] (aT Try.f51)),
 (52,FE.code 15 [.tmp 6] (aT Try.f52)),
 (68,FE.code 21 [.tmp 2] (aT Try.f68)),
 (69,FE.code 21 [.tmp 6] (aT Try.f69)),
 (70,FE.code 28 [.tmp 2] (aT Try.f70)),
 (71,FE.code 32 [.tmp 2] (aT Try.f71)),
 (72,FE.code 37 [] (aT Try.f72)),
 (73,FE.code 17 [.tmp 2] (aT Try.f73)),
 (74,FE.code 17 [.tmp 2] (aT Try.f74)),
 (75,FE.code 60 [.tmp 4] (aT Try.f75)),
 (76,FE.code 83 [.tmp 6] (aT Try.f76)),
 (77,FE.code 28 [] (aT Try.f77)),
 (78,FE.code 79 [.tmp 4] (aT Try.f78)),
 (94,FE.code 29 [] (aT Try.f94)),
 (95,FE.code 41 [] (aT Try.f95)),
 (96,FE.code 51 [.tmp 6] (aT Try.f96)),
 (97,FE.code 42 [.tmp 4] (aT Try.f97)),
 (105,FE.code 79 [] (aT Try.f105)),
 (106,FE.code 76 [.tmp 6] (aT Try.f106)),
 (113,FE.code 47 [.tmp 6] (aT Try.f113)),
 (114,FE.code 8 [.tmp 2] (aT Try.f114)),
 (115,FE.code 36 [.tmp 2] (aT Try.f115)),
 (118,FE.code 27 [.tmp 4] (aT Try.f118))]
theorem bGo:∀ p ∈ ftL,fW Try.prog p.1 p.2:=all_cons bH0 (all_cons bH1 (all_cons bFn (all_cons bFo (all_cons bFp (all_cons bFq (all_cons bFr (all_cons bFs (all_cons bFt (all_cons bFu (all_cons bFv (all_cons bFw (all_cons bFx (all_cons bFy (all_cons bFz (all_cons bF0 (all_cons bF1 (all_cons bF2 (all_cons bF3 (all_cons bF4 (all_cons bF5 (all_cons bF6 (all_cons bF7 (all_cons bF8 (all_cons bF9 (all_cons bGa (all_cons bGb (all_cons bGc (all_cons bGd (all_cons bGe (all_cons bGf (all_cons bGg (all_cons bGh (all_cons bGi (all_cons bGj (all_cons bGk (all_cons bGl (all_cons bGm (all_cons bGn (all_cons bDg (all_cons bDh (all_cons bDi (all_cons bDj (all_cons bDk (all_cons bDl (all_nil)))))))))))))))))))))))))))))))))))))))))))))
noncomputable def ftT:T FE:=ofList ftL
theorem bH2:aQx Try.prog ftT:=b8b bGo
end Go.Rx

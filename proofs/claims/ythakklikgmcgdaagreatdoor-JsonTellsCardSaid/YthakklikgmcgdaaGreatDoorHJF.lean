import Derived.Test.YthakklikgmcgdaaGreatDoorS2
import Derived.Test.YthakklikgmcgdaaGreatDoorRows
set_option linter.unusedSimpArgs false
set_option linter.unusedVariables false
set_option linter.unusedSectionVars false
namespace Go.Fbs
open Go.Proofs
theorem mixed:Tryz.prog.follows .mixedOrders=true:=by kernel_rfl
theorem b1a:bG Tryz.prog ⟨1,.other,1,false,8,none,false⟩:=bG.ofN trivial (by kernel_rfl) (by kernel_rfl) (by kernel_rfl) a1q
theorem b1b:bG Tryz.prog ⟨2,(.int .i64),1,false,8,some [(.int .i64 0)],true⟩:=bG.ofS Tryz.underlying2 (by kernel_rfl) (by kernel_rfl) (by kernel_rfl) (by kernel_rfl) rfl (fun _=>⟨by kernel_rfl,by kernel_rfl⟩)
theorem b1c:bG Tryz.prog ⟨3,(.int .i64),1,false,8,some [(.int .i64 0)],true⟩:=bG.ofS Tryz.underlying3 (by kernel_rfl) (by kernel_rfl) (by kernel_rfl) (by kernel_rfl) rfl (fun _=>⟨by kernel_rfl,by kernel_rfl⟩)
theorem b1d:bG Tryz.prog ⟨4,.bool,1,false,1,some [(.bool false)],true⟩:=bG.ofS Tryz.underlying4 (by kernel_rfl) (by kernel_rfl) (by kernel_rfl) (by kernel_rfl) rfl (fun _=>⟨by kernel_rfl,by kernel_rfl⟩)
theorem b1e:bG Tryz.prog ⟨5,(.int .u8),1,false,1,some [(.int .u8 0)],true⟩:=bG.ofS Tryz.underlying5 (by kernel_rfl) (by kernel_rfl) (by kernel_rfl) (by kernel_rfl) rfl (fun _=>⟨by kernel_rfl,by kernel_rfl⟩)
theorem b1f:bG Tryz.prog ⟨9,.str,1,false,16,some [(.str [])],true⟩:=bG.ofS Tryz.underlying9 (by kernel_rfl) (by kernel_rfl) (by kernel_rfl) (by kernel_rfl) rfl (fun _=>⟨by kernel_rfl,by kernel_rfl⟩)
theorem aXp:bG Tryz.prog ⟨23,(.sl 9),1,false,24,some [(.sl .full [])],false⟩:=bG.ofS Tryz.underlying23 (by kernel_rfl) (by kernel_rfl) (by kernel_rfl) (by kernel_rfl) rfl a1q
theorem aXq:bG Tryz.prog ⟨24,(.int .u64),1,false,8,some [(.int .u64 0)],true⟩:=bG.ofS Tryz.underlying24 (by kernel_rfl) (by kernel_rfl) (by kernel_rfl) (by kernel_rfl) rfl (fun _=>⟨by kernel_rfl,by kernel_rfl⟩)
theorem aXr:bG Tryz.prog ⟨25,(.sl 27),1,false,24,some [(.sl .full [])],false⟩:=bG.ofS Tryz.underlying25 (by kernel_rfl) (by kernel_rfl) (by kernel_rfl) (by kernel_rfl) rfl a1q
theorem aXs:bG Tryz.prog ⟨27,(.st [(0,3),(1,9),(2,23),(3,25)]),4,true,72,some [(.int .i64 0),(.str []),(.sl .full []),(.sl .full [])],true⟩:=bG.ofA ⟨_,Tryz.underlying27,by kernel_rfl,by kernel_rfl⟩ (by kernel_rfl) (by kernel_rfl) (by kernel_rfl) (by kernel_rfl) (fun _=>⟨by kernel_rfl,by kernel_rfl⟩)
theorem aXt:bG Tryz.prog ⟨28,(.int .i64),1,false,8,some [(.int .i64 0)],true⟩:=bG.ofS Tryz.underlying28 (by kernel_rfl) (by kernel_rfl) (by kernel_rfl) (by kernel_rfl) rfl (fun _=>⟨by kernel_rfl,by kernel_rfl⟩)
theorem aXu:bG Tryz.prog ⟨35,(.sl 2),1,false,24,some [(.sl .full [])],false⟩:=bG.ofS Tryz.underlying35 (by kernel_rfl) (by kernel_rfl) (by kernel_rfl) (by kernel_rfl) rfl a1q
theorem aXv:bG Tryz.prog ⟨43,(.sl 5),1,false,24,some [(.sl .full [])],false⟩:=bG.ofS Tryz.underlying43 (by kernel_rfl) (by kernel_rfl) (by kernel_rfl) (by kernel_rfl) rfl a1q
theorem aXw:bG Tryz.prog ⟨48,.other,1,false,8,some [.nilp],false⟩:=bG.ofS trivial (by kernel_rfl) (by kernel_rfl) (by kernel_rfl) (by kernel_rfl) rfl a1q
theorem aXx:bG Tryz.prog ⟨50,(.st [(0,9),(1,3),(2,3),(3,28),(4,3)]),5,true,48,some [(.str []),(.int .i64 0),(.int .i64 0),(.int .i64 0),(.int .i64 0)],true⟩:=bG.ofA ⟨_,Tryz.underlying50,by kernel_rfl,by kernel_rfl⟩ (by kernel_rfl) (by kernel_rfl) (by kernel_rfl) (by kernel_rfl) (fun _=>⟨by kernel_rfl,by kernel_rfl⟩)
theorem aXy:bG Tryz.prog ⟨53,.other,1,false,8,some [.nilp],false⟩:=bG.ofS trivial (by kernel_rfl) (by kernel_rfl) (by kernel_rfl) (by kernel_rfl) rfl a1q
theorem aXz:bG Tryz.prog ⟨55,(.st [(0,53),(1,43)]),2,true,32,some [.nilp,(.sl .full [])],true⟩:=bG.ofA ⟨_,Tryz.underlying55,by kernel_rfl,by kernel_rfl⟩ (by kernel_rfl) (by kernel_rfl) (by kernel_rfl) (by kernel_rfl) (fun _=>⟨by kernel_rfl,by kernel_rfl⟩)
theorem aX0:bG Tryz.prog ⟨58,.other,1,false,8,some [.nilp],false⟩:=bG.ofS trivial (by kernel_rfl) (by kernel_rfl) (by kernel_rfl) (by kernel_rfl) rfl a1q
theorem aX1:bG Tryz.prog ⟨60,(.st [(0,9),(1,3),(2,3),(3,3),(4,3)]),5,true,48,some [(.str []),(.int .i64 0),(.int .i64 0),(.int .i64 0),(.int .i64 0)],true⟩:=bG.ofA ⟨_,Tryz.underlying60,by kernel_rfl,by kernel_rfl⟩ (by kernel_rfl) (by kernel_rfl) (by kernel_rfl) (by kernel_rfl) (fun _=>⟨by kernel_rfl,by kernel_rfl⟩)
theorem aX2:bG Tryz.prog ⟨74,.other,1,false,8,none,false⟩:=bG.ofN trivial (by kernel_rfl) (by kernel_rfl) (by kernel_rfl) a1q
theorem b2w:bG Tryz.prog ⟨83,(.arr 256 4),256,true,256,some [(.bool false),(.bool false),(.bool false),(.bool false),(.bool false),(.bool false),(.bool false),(.bool false),(.bool false),(.bool false),(.bool false),(.bool false),(.bool false),(.bool false),(.bool false),(.bool false),(.bool false),(.bool false),(.bool false),(.bool false),(.bool false),(.bool false),(.bool false),(.bool false),(.bool false),(.bool false),(.bool false),(.bool false),(.bool false),(.bool false),(.bool false),(.bool false),(.bool false),(.bool false),(.bool false),(.bool false),(.bool false),(.bool false),(.bool false),(.bool false),(.bool false),(.bool false),(.bool false),(.bool false),(.bool false),(.bool false),(.bool false),(.bool false),(.bool false),(.bool false),(.bool false),(.bool false),(.bool false),(.bool false),(.bool false),(.bool false),(.bool false),(.bool false),(.bool false),(.bool false),(.bool false),(.bool false),(.bool false),(.bool false),(.bool false),(.bool false),(.bool false),(.bool false),(.bool false),(.bool false),(.bool false),(.bool false),(.bool false),(.bool false),(.bool false),(.bool false),(.bool false),(.bool false),(.bool false),(.bool false),(.bool false),(.bool false),(.bool false),(.bool false),(.bool false),(.bool false),(.bool false),(.bool false),(.bool false),(.bool false),(.bool false),(.bool false),(.bool false),(.bool false),(.bool false),(.bool false),(.bool false),(.bool false),(.bool false),(.bool false),(.bool false),(.bool false),(.bool false),(.bool false),(.bool false),(.bool false),(.bool false),(.bool false),(.bool false),(.bool false),(.bool false),(.bool false),(.bool false),(.bool false),(.bool false),(.bool false),(.bool false),(.bool false),(.bool false),(.bool false),(.bool false),(.bool false),(.bool false),(.bool false),(.bool false),(.bool false),(.bool false),(.bool false),(.bool false),(.bool false),(.bool false),(.bool false),(.bool false),(.bool false),(.bool false),(.bool false),(.bool false),(.bool false),(.bool false),(.bool false),(.bool false),(.bool false),(.bool false),(.bool false),(.bool false),(.bool false),(.bool false),(.bool false),(.bool false),(.bool false),(.bool false),(.bool false),(.bool false),(.bool false),(.bool false),(.bool false),(.bool false),(.bool false),(.bool false),(.bool false),(.bool false),(.bool false),(.bool false),(.bool false),(.bool false),(.bool false),(.bool false),(.bool false),(.bool false),(.bool false),(.bool false),(.bool false),(.bool false),(.bool false),(.bool false),(.bool false),(.bool false),(.bool false),(.bool false),(.bool false),(.bool false),(.bool false),(.bool false),(.bool false),(.bool false),(.bool false),(.bool false),(.bool false),(.bool false),(.bool false),(.bool false),(.bool false),(.bool false),(.bool false),(.bool false),(.bool false),(.bool false),(.bool false),(.bool false),(.bool false),(.bool false),(.bool false),(.bool false),(.bool false),(.bool false),(.bool false),(.bool false),(.bool false),(.bool false),(.bool false),(.bool false),(.bool false),(.bool false),(.bool false),(.bool false),(.bool false),(.bool false),(.bool false),(.bool false),(.bool false),(.bool false),(.bool false),(.bool false),(.bool false),(.bool false),(.bool false),(.bool false),(.bool false),(.bool false),(.bool false),(.bool false),(.bool false),(.bool false),(.bool false),(.bool false),(.bool false),(.bool false),(.bool false),(.bool false),(.bool false),(.bool false),(.bool false),(.bool false),(.bool false),(.bool false),(.bool false),(.bool false),(.bool false),(.bool false),(.bool false),(.bool false),(.bool false),(.bool false),(.bool false),(.bool false),(.bool false)],false⟩:=bG.ofA Tryz.underlying83 (by kernel_rfl) (by kernel_rfl) (by kernel_rfl) (by kernel_rfl) a1q
theorem b2x:bG Tryz.prog ⟨87,.other,1,false,8,some [.nilp],false⟩:=bG.ofS trivial (by kernel_rfl) (by kernel_rfl) (by kernel_rfl) (by kernel_rfl) rfl a1q
theorem aX3:bG Tryz.prog ⟨88,.other,1,false,8,none,false⟩:=bG.ofN trivial (by kernel_rfl) (by kernel_rfl) (by kernel_rfl) a1q
abbrev vS:FuncId:=4
abbrev iW:FuncId:=7
abbrev a0y:FuncId:=8
abbrev jJ:FuncId:=9
abbrev l7:FuncId:=10
abbrev cL:FuncId:=11
abbrev lT:FuncId:=12
abbrev fK:FuncId:=13
abbrev hO:FuncId:=14
abbrev yH:FuncId:=15
abbrev a07:FuncId:=16
abbrev tE:FuncId:=17
abbrev a08:FuncId:=18
abbrev n9:FuncId:=21
abbrev sU:FuncId:=22
abbrev mK:FuncId:=23
abbrev tR:FuncId:=24
abbrev gL:FuncId:=25
abbrev iX:FuncId:=26
abbrev jK:FuncId:=27
abbrev kR:FuncId:=28
abbrev iA:FuncId:=29
abbrev a09:FuncId:=30
abbrev aAm:FuncId:=32
abbrev a1a:FuncId:=33
abbrev a1b:FuncId:=34
abbrev yI:FuncId:=35
abbrev dJ:FuncId:=43
abbrev vT:FuncId:=44
abbrev tS:FuncId:=45
abbrev tT:FuncId:=46
abbrev tU:FuncId:=47
abbrev qW:FuncId:=48
abbrev a1c:FuncId:=55
abbrev sV:FuncId:=57
abbrev a1u:FuncId:=58
abbrev qX:FuncId:=60
abbrev qY:FuncId:=61
abbrev uF:FuncId:=66
abbrev uZ:FuncId:=67
abbrev pZ:FuncId:=68
abbrev oZ:FuncId:=69
abbrev mO:FuncId:=71
abbrev nS:FuncId:=74
abbrev p5:FuncId:=1000000
def eO:gY:=⟨0,[.b 0 [.pl,.pl,.pl,.pl,.pl]],[]⟩
abbrev bL:FuncId:=1000001
def eP:gY:=⟨1,[.b 0 [.pl,.pl,.pl,.pl,.pl]],[]⟩
abbrev cS:FuncId:=1000002
def eQ:gY:=⟨0,[.b 0 [.pl,.pl,.pl,.pl,.pl],.v,.v],[]⟩
abbrev iK:FuncId:=1000003
def fC:gY:=⟨0,[.b 0 [.pl,.pl,.pl,.pl,.pl]],[]⟩
abbrev rP:FuncId:=1000004
def dT:gY:=⟨1,[.b 0 [.pl,.pl,.pl,.pl,.pl]],[]⟩
abbrev uG:FuncId:=1000005
def mS:gY:=⟨1,[.b 0 [.pl,.pl,.pl,.pl,.pl]],[]⟩
abbrev rQ:FuncId:=1000006
def a5p:gY:=⟨1,[.b 0 [.pl,.pl,.pl,.pl,.pl]],[]⟩
abbrev tF:FuncId:=1000007
def dP:gY:=⟨1,[.b 0 [.pl,.pl,.pl,.pl,.pl]],[]⟩
abbrev jV:FuncId:=1000008
def eR:gY:=⟨1,[.b 0 [.pl,.pl,.pl,.pl,.pl],.v],[]⟩
abbrev lU:FuncId:=1000009
def eU:gY:=⟨1,[.b 0 [.pl,.pl,.pl,.pl,.pl],.v,.v],[]⟩
abbrev uH:FuncId:=1000010
def eV:gY:=⟨1,[.b 0 [.pl,.pl,.pl,.pl,.pl]],[]⟩
def zB:gY:=⟨0,[.b 0 [.self 55,.gr 1 false]],[]⟩
def xN:gY:=⟨2,[.b 0 [.self 55,.gr 1 false],.v],[]⟩
def zC:gY:=⟨1,[.b 0 [.self 55,.gr 1 false],.v],[]⟩
def a1r:gY:=⟨1,[.b 0 [.self 55,.gr 1 false]],[]⟩
def a3y:gY:=⟨1,[.b 0 [.self 55,.gr 1 false]],[]⟩
def aE7:gY:=⟨0,[.b 0 [.self 55,.gr 1 false],.v],[]⟩
def aIv:gY:=⟨0,[.b 0 [.self 55,.gr 1 false],.v,.v],[]⟩
def dR:TT:=⟨[⟨1,.other,1,false,8,none,false⟩,
 ⟨2,(.int .i64),1,false,8,some [(.int .i64 0)],true⟩,
 ⟨3,(.int .i64),1,false,8,some [(.int .i64 0)],true⟩,
 ⟨4,.bool,1,false,1,some [(.bool false)],true⟩,
 ⟨5,(.int .u8),1,false,1,some [(.int .u8 0)],true⟩,
 ⟨9,.str,1,false,16,some [(.str [])],true⟩,
 ⟨23,(.sl 9),1,false,24,some [(.sl .full [])],false⟩,
 ⟨24,(.int .u64),1,false,8,some [(.int .u64 0)],true⟩,
 ⟨25,(.sl 27),1,false,24,some [(.sl .full [])],false⟩,
 ⟨27,(.st [(0,3),(1,9),(2,23),(3,25)]),4,true,72,some [(.int .i64 0),(.str []),(.sl .full []),(.sl .full [])],true⟩,
 ⟨28,(.int .i64),1,false,8,some [(.int .i64 0)],true⟩,
 ⟨35,(.sl 2),1,false,24,some [(.sl .full [])],false⟩,
 ⟨43,(.sl 5),1,false,24,some [(.sl .full [])],false⟩,
 ⟨48,.other,1,false,8,some [.nilp],false⟩,
 ⟨50,(.st [(0,9),(1,3),(2,3),(3,28),(4,3)]),5,true,48,some [(.str []),(.int .i64 0),(.int .i64 0),(.int .i64 0),(.int .i64 0)],true⟩,
 ⟨53,.other,1,false,8,some [.nilp],false⟩,
 ⟨55,(.st [(0,53),(1,43)]),2,true,32,some [.nilp,(.sl .full [])],true⟩,
 ⟨58,.other,1,false,8,some [.nilp],false⟩,
 ⟨60,(.st [(0,9),(1,3),(2,3),(3,3),(4,3)]),5,true,48,some [(.str []),(.int .i64 0),(.int .i64 0),(.int .i64 0),(.int .i64 0)],true⟩,
 ⟨74,.other,1,false,8,none,false⟩,
 ⟨83,(.arr 256 4),256,true,256,some [(.bool false),(.bool false),(.bool false),(.bool false),(.bool false),(.bool false),(.bool false),(.bool false),(.bool false),(.bool false),(.bool false),(.bool false),(.bool false),(.bool false),(.bool false),(.bool false),(.bool false),(.bool false),(.bool false),(.bool false),(.bool false),(.bool false),(.bool false),(.bool false),(.bool false),(.bool false),(.bool false),(.bool false),(.bool false),(.bool false),(.bool false),(.bool false),(.bool false),(.bool false),(.bool false),(.bool false),(.bool false),(.bool false),(.bool false),(.bool false),(.bool false),(.bool false),(.bool false),(.bool false),(.bool false),(.bool false),(.bool false),(.bool false),(.bool false),(.bool false),(.bool false),(.bool false),(.bool false),(.bool false),(.bool false),(.bool false),(.bool false),(.bool false),(.bool false),(.bool false),(.bool false),(.bool false),(.bool false),(.bool false),(.bool false),(.bool false),(.bool false),(.bool false),(.bool false),(.bool false),(.bool false),(.bool false),(.bool false),(.bool false),(.bool false),(.bool false),(.bool false),(.bool false),(.bool false),(.bool false),(.bool false),(.bool false),(.bool false),(.bool false),(.bool false),(.bool false),(.bool false),(.bool false),(.bool false),(.bool false),(.bool false),(.bool false),(.bool false),(.bool false),(.bool false),(.bool false),(.bool false),(.bool false),(.bool false),(.bool false),(.bool false),(.bool false),(.bool false),(.bool false),(.bool false),(.bool false),(.bool false),(.bool false),(.bool false),(.bool false),(.bool false),(.bool false),(.bool false),(.bool false),(.bool false),(.bool false),(.bool false),(.bool false),(.bool false),(.bool false),(.bool false),(.bool false),(.bool false),(.bool false),(.bool false),(.bool false),(.bool false),(.bool false),(.bool false),(.bool false),(.bool false),(.bool false),(.bool false),(.bool false),(.bool false),(.bool false),(.bool false),(.bool false),(.bool false),(.bool false),(.bool false),(.bool false),(.bool false),(.bool false),(.bool false),(.bool false),(.bool false),(.bool false),(.bool false),(.bool false),(.bool false),(.bool false),(.bool false),(.bool false),(.bool false),(.bool false),(.bool false),(.bool false),(.bool false),(.bool false),(.bool false),(.bool false),(.bool false),(.bool false),(.bool false),(.bool false),(.bool false),(.bool false),(.bool false),(.bool false),(.bool false),(.bool false),(.bool false),(.bool false),(.bool false),(.bool false),(.bool false),(.bool false),(.bool false),(.bool false),(.bool false),(.bool false),(.bool false),(.bool false),(.bool false),(.bool false),(.bool false),(.bool false),(.bool false),(.bool false),(.bool false),(.bool false),(.bool false),(.bool false),(.bool false),(.bool false),(.bool false),(.bool false),(.bool false),(.bool false),(.bool false),(.bool false),(.bool false),(.bool false),(.bool false),(.bool false),(.bool false),(.bool false),(.bool false),(.bool false),(.bool false),(.bool false),(.bool false),(.bool false),(.bool false),(.bool false),(.bool false),(.bool false),(.bool false),(.bool false),(.bool false),(.bool false),(.bool false),(.bool false),(.bool false),(.bool false),(.bool false),(.bool false),(.bool false),(.bool false),(.bool false),(.bool false),(.bool false),(.bool false),(.bool false),(.bool false),(.bool false),(.bool false),(.bool false),(.bool false),(.bool false),(.bool false),(.bool false),(.bool false),(.bool false),(.bool false),(.bool false),(.bool false),(.bool false),(.bool false),(.bool false),(.bool false),(.bool false),(.bool false),(.bool false),(.bool false)],false⟩,
 ⟨87,.other,1,false,8,some [.nilp],false⟩,
 ⟨88,.other,1,false,8,none,false⟩],[(1000000,(16,eO)),(1000001,(30,eP)),(1000002,(18,eQ)),(1000003,(58,fC)),(1000004,(35,dT)),(1000005,(32,mS)),(1000006,(31,a5p)),(1000007,(17,dP)),(1000008,(55,eR)),(1000009,(34,eU)),(1000010,(33,eV)),(1000011,(59,zB)),(1000012,(37,xN)),(1000013,(42,zC)),(1000014,(20,a1r)),(1000015,(36,a3y)),(1000016,(38,aE7)),(1000017,(19,aIv))],[]⟩
theorem lV:∀ t ti,cK dR t=some ti→bG Tryz.prog ti∧ti.t=t:=bG.bD (bG.cons b1a (bG.cons b1b (bG.cons b1c (bG.cons b1d (bG.cons b1e (bG.cons b1f (bG.cons aXp (bG.cons aXq (bG.cons aXr (bG.cons aXs (bG.cons aXt (bG.cons aXu (bG.cons aXv (bG.cons aXw (bG.cons aXx (bG.cons aXy (bG.cons aXz (bG.cons aX0 (bG.cons aX1 (bG.cons aX2 (bG.cons b2w (bG.cons b2x (bG.cons aX3 (bG.nil))))))))))))))))))))))))
end Go.Fbs

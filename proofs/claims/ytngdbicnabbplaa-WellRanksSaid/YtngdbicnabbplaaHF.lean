import Derived.Test.YtngdbicnabbplaaS2
import Derived.Test.YtngdbicnabbplaaRows
set_option linter.unusedSimpArgs false
set_option linter.unusedVariables false
namespace Go.Fbs
open Go.Proofs
theorem mixed:Try.prog.follows .mixedOrders=true:=by kernel_rfl
theorem bNv:bL Try.prog ⟨2,(.int .i64),1,false,8,some [(.int .i64 0)],true⟩:=bL.ofS Try.underlying2 (by kernel_rfl) (by kernel_rfl) (by kernel_rfl) (by kernel_rfl) rfl (fun _=>⟨by kernel_rfl,by kernel_rfl⟩)
theorem bNw:bL Try.prog ⟨3,(.int .i64),1,false,8,some [(.int .i64 0)],true⟩:=bL.ofS Try.underlying3 (by kernel_rfl) (by kernel_rfl) (by kernel_rfl) (by kernel_rfl) rfl (fun _=>⟨by kernel_rfl,by kernel_rfl⟩)
theorem bNx:bL Try.prog ⟨4,.bool,1,false,1,some [(.bool false)],true⟩:=bL.ofS Try.underlying4 (by kernel_rfl) (by kernel_rfl) (by kernel_rfl) (by kernel_rfl) rfl (fun _=>⟨by kernel_rfl,by kernel_rfl⟩)
theorem bNy:bL Try.prog ⟨5,(.int .u8),1,false,1,some [(.int .u8 0)],true⟩:=bL.ofS Try.underlying5 (by kernel_rfl) (by kernel_rfl) (by kernel_rfl) (by kernel_rfl) rfl (fun _=>⟨by kernel_rfl,by kernel_rfl⟩)
theorem bNz:bL Try.prog ⟨9,.str,1,false,16,some [(.str [])],true⟩:=bL.ofS Try.underlying9 (by kernel_rfl) (by kernel_rfl) (by kernel_rfl) (by kernel_rfl) rfl (fun _=>⟨by kernel_rfl,by kernel_rfl⟩)
theorem bK6:bL Try.prog ⟨22,(.sl 2),1,false,24,some [(.sl .full [])],false⟩:=bL.ofS Try.underlying22 (by kernel_rfl) (by kernel_rfl) (by kernel_rfl) (by kernel_rfl) rfl uG
theorem bK7:bL Try.prog ⟨23,(.sl 28),1,false,24,some [(.sl .full [])],false⟩:=bL.ofS Try.underlying23 (by kernel_rfl) (by kernel_rfl) (by kernel_rfl) (by kernel_rfl) rfl uG
theorem bK8:bL Try.prog ⟨26,(.sl 32),1,false,24,some [(.sl .full [])],false⟩:=bL.ofS Try.underlying26 (by kernel_rfl) (by kernel_rfl) (by kernel_rfl) (by kernel_rfl) rfl uG
theorem bK9:bL Try.prog ⟨28,(.st [(0,9),(1,26)]),2,true,40,some [(.str []),(.sl .full [])],true⟩:=bL.ofA ⟨_,Try.underlying28,by kernel_rfl,by kernel_rfl⟩ (by kernel_rfl) (by kernel_rfl) (by kernel_rfl) (by kernel_rfl) (fun _=>⟨by kernel_rfl,by kernel_rfl⟩)
theorem bLa:bL Try.prog ⟨29,(.sl 34),1,false,24,some [(.sl .full [])],false⟩:=bL.ofS Try.underlying29 (by kernel_rfl) (by kernel_rfl) (by kernel_rfl) (by kernel_rfl) rfl uG
theorem bLb:bL Try.prog ⟨30,(.sl 78),1,false,24,some [(.sl .full [])],false⟩:=bL.ofS Try.underlying30 (by kernel_rfl) (by kernel_rfl) (by kernel_rfl) (by kernel_rfl) rfl uG
theorem bLc:bL Try.prog ⟨32,(.st [(0,9),(1,29),(2,30)]),3,true,64,some [(.str []),(.sl .full []),(.sl .full [])],true⟩:=bL.ofA ⟨_,Try.underlying32,by kernel_rfl,by kernel_rfl⟩ (by kernel_rfl) (by kernel_rfl) (by kernel_rfl) (by kernel_rfl) (fun _=>⟨by kernel_rfl,by kernel_rfl⟩)
theorem bLd:bL Try.prog ⟨34,(.st [(0,9),(1,9),(2,9)]),3,true,48,some [(.str []),(.str []),(.str [])],true⟩:=bL.ofA ⟨_,Try.underlying34,by kernel_rfl,by kernel_rfl⟩ (by kernel_rfl) (by kernel_rfl) (by kernel_rfl) (by kernel_rfl) (fun _=>⟨by kernel_rfl,by kernel_rfl⟩)
theorem bLe:bL Try.prog ⟨35,(.int .i64),1,false,8,some [(.int .i64 0)],true⟩:=bL.ofS Try.underlying35 (by kernel_rfl) (by kernel_rfl) (by kernel_rfl) (by kernel_rfl) rfl (fun _=>⟨by kernel_rfl,by kernel_rfl⟩)
theorem bLf:bL Try.prog ⟨45,(.sl 48),1,false,24,some [(.sl .full [])],false⟩:=bL.ofS Try.underlying45 (by kernel_rfl) (by kernel_rfl) (by kernel_rfl) (by kernel_rfl) rfl uG
theorem bLg:bL Try.prog ⟨48,(.st [(0,9),(1,9),(2,4)]),3,true,40,some [(.str []),(.str []),(.bool false)],true⟩:=bL.ofA ⟨_,Try.underlying48,by kernel_rfl,by kernel_rfl⟩ (by kernel_rfl) (by kernel_rfl) (by kernel_rfl) (by kernel_rfl) (fun _=>⟨by kernel_rfl,by kernel_rfl⟩)
theorem bLh:bL Try.prog ⟨53,(.sl 9),1,false,24,some [(.sl .full [])],false⟩:=bL.ofS Try.underlying53 (by kernel_rfl) (by kernel_rfl) (by kernel_rfl) (by kernel_rfl) rfl uG
theorem bLi:bL Try.prog ⟨55,(.int .u64),1,false,8,some [(.int .u64 0)],true⟩:=bL.ofS Try.underlying55 (by kernel_rfl) (by kernel_rfl) (by kernel_rfl) (by kernel_rfl) rfl (fun _=>⟨by kernel_rfl,by kernel_rfl⟩)
theorem bLj:bL Try.prog ⟨56,.other,1,false,8,some [.jU],false⟩:=bL.ofS trivial (by kernel_rfl) (by kernel_rfl) (by kernel_rfl) (by kernel_rfl) rfl uG
theorem bLk:bL Try.prog ⟨65,(.st [(0,9),(1,9)]),2,true,32,some [(.str []),(.str [])],true⟩:=bL.ofA ⟨_,Try.underlying65,by kernel_rfl,by kernel_rfl⟩ (by kernel_rfl) (by kernel_rfl) (by kernel_rfl) (by kernel_rfl) (fun _=>⟨by kernel_rfl,by kernel_rfl⟩)
theorem bLl:bL Try.prog ⟨67,(.st [(0,65),(2,9),(3,34)]),6,true,96,some [(.str []),(.str []),(.str []),(.str []),(.str []),(.str [])],true⟩:=bL.ofA ⟨_,Try.underlying67,by kernel_rfl,by kernel_rfl⟩ (by kernel_rfl) (by kernel_rfl) (by kernel_rfl) (by kernel_rfl) (fun _=>⟨by kernel_rfl,by kernel_rfl⟩)
theorem bLm:bL Try.prog ⟨68,(.sl 87),1,false,24,some [(.sl .full [])],false⟩:=bL.ofS Try.underlying68 (by kernel_rfl) (by kernel_rfl) (by kernel_rfl) (by kernel_rfl) rfl uG
theorem bLn:bL Try.prog ⟨71,.other,1,false,8,some [.jU],false⟩:=bL.ofS trivial (by kernel_rfl) (by kernel_rfl) (by kernel_rfl) (by kernel_rfl) rfl uG
theorem bLo:bL Try.prog ⟨73,(.st [(0,68),(1,3),(2,3),(3,35),(4,3),(5,30)]),6,true,80,some [(.sl .full []),(.int .i64 0),(.int .i64 0),(.int .i64 0),(.int .i64 0),(.sl .full [])],true⟩:=bL.ofA ⟨_,Try.underlying73,by kernel_rfl,by kernel_rfl⟩ (by kernel_rfl) (by kernel_rfl) (by kernel_rfl) (by kernel_rfl) (fun _=>⟨by kernel_rfl,by kernel_rfl⟩)
theorem bLp:bL Try.prog ⟨76,(.sl 4),1,false,24,some [(.sl .full [])],false⟩:=bL.ofS Try.underlying76 (by kernel_rfl) (by kernel_rfl) (by kernel_rfl) (by kernel_rfl) rfl uG
theorem bLq:bL Try.prog ⟨78,(.st [(0,3),(1,9),(2,9)]),3,true,40,some [(.int .i64 0),(.str []),(.str [])],true⟩:=bL.ofA ⟨_,Try.underlying78,by kernel_rfl,by kernel_rfl⟩ (by kernel_rfl) (by kernel_rfl) (by kernel_rfl) (by kernel_rfl) (fun _=>⟨by kernel_rfl,by kernel_rfl⟩)
theorem bLr:bL Try.prog ⟨82,.other,1,false,8,some [.jU],false⟩:=bL.ofS trivial (by kernel_rfl) (by kernel_rfl) (by kernel_rfl) (by kernel_rfl) rfl uG
theorem bLs:bL Try.prog ⟨84,(.st [(0,68),(1,3),(2,3),(3,3),(4,3),(5,3),(6,30),(7,3)]),8,true,96,some [(.sl .full []),(.int .i64 0),(.int .i64 0),(.int .i64 0),(.int .i64 0),(.int .i64 0),(.sl .full []),(.int .i64 0)],true⟩:=bL.ofA ⟨_,Try.underlying84,by kernel_rfl,by kernel_rfl⟩ (by kernel_rfl) (by kernel_rfl) (by kernel_rfl) (by kernel_rfl) (fun _=>⟨by kernel_rfl,by kernel_rfl⟩)
theorem bLt:bL Try.prog ⟨87,(.st [(0,3),(1,3),(2,9)]),3,true,32,some [(.int .i64 0),(.int .i64 0),(.str [])],true⟩:=bL.ofA ⟨_,Try.underlying87,by kernel_rfl,by kernel_rfl⟩ (by kernel_rfl) (by kernel_rfl) (by kernel_rfl) (by kernel_rfl) (fun _=>⟨by kernel_rfl,by kernel_rfl⟩)
theorem bLu:bL Try.prog ⟨92,.other,1,false,8,none,false⟩:=bL.ofN trivial (by kernel_rfl) (by kernel_rfl) (by kernel_rfl) uG
theorem bLv:bL Try.prog ⟨93,.other,1,false,8,none,false⟩:=bL.ofN trivial (by kernel_rfl) (by kernel_rfl) (by kernel_rfl) uG
theorem bLw:bL Try.prog ⟨94,.other,1,false,8,none,false⟩:=bL.ofN trivial (by kernel_rfl) (by kernel_rfl) (by kernel_rfl) uG
theorem bLx:bL Try.prog ⟨96,(.st [(0,92),(1,93),(2,94)]),3,true,24,none,true⟩:=bL.ofN ⟨_,Try.underlying96,by kernel_rfl,by kernel_rfl⟩ (by kernel_rfl) (by kernel_rfl) (by kernel_rfl) (fun _=>⟨by kernel_rfl,by kernel_rfl⟩)
theorem bLy:bL Try.prog ⟨97,(.sl 100),1,false,24,some [(.sl .full [])],false⟩:=bL.ofS Try.underlying97 (by kernel_rfl) (by kernel_rfl) (by kernel_rfl) (by kernel_rfl) rfl uG
theorem bIj:bL Try.prog ⟨100,(.st [(0,9),(1,9)]),2,true,32,some [(.str []),(.str [])],true⟩:=bL.ofA ⟨_,Try.underlying100,by kernel_rfl,by kernel_rfl⟩ (by kernel_rfl) (by kernel_rfl) (by kernel_rfl) (by kernel_rfl) (fun _=>⟨by kernel_rfl,by kernel_rfl⟩)
theorem bIk:bL Try.prog ⟨104,.other,1,false,8,none,false⟩:=bL.ofN trivial (by kernel_rfl) (by kernel_rfl) (by kernel_rfl) uG
theorem bIl:bL Try.prog ⟨107,.other,1,false,8,none,false⟩:=bL.ofN trivial (by kernel_rfl) (by kernel_rfl) (by kernel_rfl) uG
theorem bIm:bL Try.prog ⟨115,.other,1,false,8,some [.jU],false⟩:=bL.ofS trivial (by kernel_rfl) (by kernel_rfl) (by kernel_rfl) (by kernel_rfl) rfl uG
theorem bIn:bL Try.prog ⟨117,.other,1,false,8,some [.jU],false⟩:=bL.ofS trivial (by kernel_rfl) (by kernel_rfl) (by kernel_rfl) (by kernel_rfl) rfl uG
theorem bIo:bL Try.prog ⟨123,(.sl 126),1,false,24,some [(.sl .full [])],false⟩:=bL.ofS Try.underlying123 (by kernel_rfl) (by kernel_rfl) (by kernel_rfl) (by kernel_rfl) rfl uG
theorem bIp:bL Try.prog ⟨126,(.st [(0,100),(2,3)]),3,true,40,some [(.str []),(.str []),(.int .i64 0)],true⟩:=bL.ofA ⟨_,Try.underlying126,by kernel_rfl,by kernel_rfl⟩ (by kernel_rfl) (by kernel_rfl) (by kernel_rfl) (by kernel_rfl) (fun _=>⟨by kernel_rfl,by kernel_rfl⟩)
theorem bIq:bL Try.prog ⟨132,.other,1,false,8,some [.jU],false⟩:=bL.ofS trivial (by kernel_rfl) (by kernel_rfl) (by kernel_rfl) (by kernel_rfl) rfl uG
theorem bIr:bL Try.prog ⟨136,(.sl 123),1,false,24,some [(.sl .full [])],false⟩:=bL.ofS Try.underlying136 (by kernel_rfl) (by kernel_rfl) (by kernel_rfl) (by kernel_rfl) rfl uG
abbrev x8:FuncId:=4
abbrev pI:FuncId:=5
abbrev tB:FuncId:=6
abbrev rT:FuncId:=7
abbrev pV:FuncId:=8
abbrev n9:FuncId:=10
abbrev a1f:FuncId:=11
abbrev xT:FuncId:=12
abbrev pJ:FuncId:=13
abbrev a6e:FuncId:=14
abbrev a0l:FuncId:=15
abbrev a0m:FuncId:=16
abbrev a3l:FuncId:=21
abbrev a0e:FuncId:=22
abbrev a9i:FuncId:=23
abbrev qU:FuncId:=25
abbrev a1g:FuncId:=27
abbrev a3m:FuncId:=28
abbrev a2n:FuncId:=29
abbrev a1h:FuncId:=30
abbrev rU:FuncId:=35
abbrev aIi:FuncId:=36
abbrev a77:FuncId:=37
abbrev tC:FuncId:=38
abbrev aIj:FuncId:=39
abbrev j5:FuncId:=40
abbrev tU:FuncId:=41
abbrev x9:FuncId:=42
abbrev a78:FuncId:=43
abbrev a79:FuncId:=44
abbrev a8a:FuncId:=45
abbrev j6:FuncId:=46
abbrev a9j:FuncId:=47
abbrev a3n:FuncId:=48
abbrev iE:FuncId:=49
abbrev nW:FuncId:=50
abbrev a1i:FuncId:=51
abbrev qV:FuncId:=52
abbrev nA:FuncId:=53
abbrev pW:FuncId:=56
abbrev yM:FuncId:=57
abbrev kE:FuncId:=58
abbrev fD:FuncId:=59
abbrev jH:FuncId:=60
abbrev fP:FuncId:=61
abbrev wK:FuncId:=62
abbrev a8b:FuncId:=63
abbrev l9:FuncId:=64
abbrev aBe:FuncId:=65
abbrev a8c:FuncId:=66
abbrev tD:FuncId:=67
abbrev a3o:FuncId:=68
abbrev uH:FuncId:=69
abbrev a2o:FuncId:=70
abbrev nB:FuncId:=72
abbrev nC:FuncId:=73
abbrev iA:FuncId:=74
abbrev lA:FuncId:=75
abbrev vQ:FuncId:=76
abbrev wL:FuncId:=77
abbrev a9k:FuncId:=78
abbrev kA:FuncId:=79
abbrev qD:FuncId:=87
abbrev aO:FuncId:=1000000
def iH:kU:=⟨1,[.b 0 [.pl,.pl,.pl,.pl,.pl,.gr 5 false]],[]⟩
abbrev bR:FuncId:=1000001
def iI:kU:=⟨1,[.b 0 [.pl,.pl,.pl,.pl,.pl,.gr 5 false],.v],[]⟩
abbrev iB:FuncId:=1000002
def j7:kU:=⟨1,[.b 0 [.pl,.pl,.pl,.pl,.pl,.gr 5 false],.v],[]⟩
abbrev a1j:FuncId:=1000003
def iJ:kU:=⟨1,[.b 0 [.pl,.pl,.pl,.pl,.pl,.gr 5 false]],[]⟩
abbrev kF:FuncId:=1000004
def iK:kU:=⟨1,[.b 0 [.pl,.pl,.pl,.pl,.pl,.gr 5 false],.v,.v],[]⟩
abbrev zB:FuncId:=1000005
def eV:kU:=⟨1,[.b 0 [.pl,.pl,.pl,.pl,.pl,.gr 5 false],.b 0 [.pl,.gr 5 false,.pl]],[]⟩
abbrev zC:FuncId:=1000006
def eW:kU:=⟨1,[.b 0 [.pl,.pl,.pl,.pl,.pl,.gr 5 false],.b 0 [.pl,.gr 5 false]],[]⟩
abbrev zD:FuncId:=1000007
def eX:kU:=⟨1,[.b 0 [.pl,.pl,.pl,.pl,.pl,.gr 5 false],.b 0 [.pl,.pl,.pl]],[]⟩
abbrev zE:FuncId:=1000008
def eY:kU:=⟨1,[.b 0 [.pl,.pl,.pl,.pl,.pl,.gr 5 false],.b 1 [.pl,.pl,.pl]],[]⟩
abbrev nP:FuncId:=1000009
def eZ:kU:=⟨1,[.b 0 [.pl,.pl,.pl,.pl,.pl,.gr 5 false],.b 2 [.pl,.pl,.pl]],[]⟩
abbrev iS:FuncId:=1000010
def iL:kU:=⟨1,[.b 0 [.pl,.pl,.pl,.pl,.pl,.gr 5 false],.v],[]⟩
abbrev bY:FuncId:=1000011
def iV:kU:=⟨1,[.b 0 [.pl,.pl,.pl,.pl,.pl,.gr 5 false],.v],[]⟩
abbrev xA:FuncId:=1000012
def fT:kU:=⟨1,[.b 0 [.pl,.pl,.pl,.pl,.pl,.gr 5 false],.b 0 [.pl,.gr 5 false,.pl]],[]⟩
abbrev iY:FuncId:=1000013
def iW:kU:=⟨1,[.b 0 [.pl,.pl,.pl,.pl,.pl,.gr 5 false],.v,.v],[]⟩
abbrev tJ:FuncId:=1000014
def dZ:kU:=⟨1,[.b 0 [.pl,.pl,.pl,.pl,.pl,.gr 5 false]],[]⟩
abbrev rV:FuncId:=1000015
def gD:kU:=⟨1,[.b 0 [.pl,.pl,.pl,.pl,.pl,.gr 5 false]],[]⟩
abbrev qM:FuncId:=1000016
def fR:kU:=⟨1,[.b 0 [.pl,.pl,.pl,.pl,.pl,.gr 5 false]],[]⟩
abbrev xB:FuncId:=1000017
def eU:kU:=⟨1,[.b 0 [.pl,.pl,.pl,.pl,.pl,.gr 5 false],.b 0 [.pl,.gr 5 false]],[]⟩
abbrev a2x:FuncId:=1000018
def hJ:kU:=⟨2,[.b 0 [.pl,.pl,.pl,.pl,.pl,.gr 5 false],.v],[]⟩
abbrev mI:FuncId:=1000019
def gY:kU:=⟨1,[.v,.b 0 [.pl]],[]⟩
abbrev fU:FuncId:=1000024
def fA:kU:=⟨1,[.b 0 [.pl,.pl,.pl,.pl,.pl,.pl,.gr 5 false,.pl]],[]⟩
abbrev iT:FuncId:=1000025
def a8x:kU:=⟨0,[.b 0 [.pl,.pl,.pl,.pl,.pl,.pl,.gr 5 false,.pl],.v],[]⟩
abbrev aT:FuncId:=1000026
def fV:kU:=⟨1,[.b 0 [.pl,.pl,.pl,.pl,.pl,.pl,.gr 5 false,.pl],.v],[]⟩
abbrev bG:FuncId:=1000027
def fB:kU:=⟨0,[.b 0 [.pl,.pl,.pl,.pl,.pl,.pl,.gr 5 false,.pl],.v],[]⟩
abbrev cD:FuncId:=1000028
def fC:kU:=⟨1,[.b 0 [.pl,.pl,.pl,.pl,.pl,.pl,.gr 5 false,.pl]],[]⟩
abbrev cM:FuncId:=1000029
def fK:kU:=⟨0,[.b 0 [.pl,.pl,.pl,.pl,.pl,.pl,.gr 5 false,.pl],.v,.v],[]⟩
abbrev p8:FuncId:=1000030
def bZ:kU:=⟨0,[.b 0 [.pl,.pl,.pl,.pl,.pl,.pl,.gr 5 false,.pl]],[]⟩
abbrev nD:FuncId:=1000031
def dW:kU:=⟨0,[.b 0 [.pl,.pl,.pl,.pl,.pl,.pl,.gr 5 false,.pl]],[]⟩
abbrev lB:FuncId:=1000032
def cN:kU:=⟨0,[.b 0 [.pl,.pl,.pl,.pl,.pl,.pl,.gr 5 false,.pl]],[]⟩
abbrev uW:FuncId:=1000033
def eO:kU:=⟨1,[.b 0 [.pl,.pl,.pl,.pl,.pl,.pl,.gr 5 false,.pl]],[]⟩
abbrev a8y:FuncId:=1000034
def lJ:kU:=⟨1,[.v,.b 0 [.pl,.pl,.pl,.pl,.pl,.pl]],[]⟩
abbrev a8z:FuncId:=1000035
def lK:kU:=⟨1,[.v,.b 0 [.pl,.pl,.pl,.pl,.pl,.pl]],[]⟩
abbrev nE:FuncId:=1000036
def cA:kU:=⟨1,[.v,.b 0 [.pl,.pl,.pl,.pl,.pl,.pl]],[.one,.qT 36 1]⟩
abbrev nX:FuncId:=1000037
def cI:kU:=⟨1,[.v,.b 0 [.pl,.pl,.pl,.pl,.pl,.pl]],[.one,.qT 39 1]⟩
def aZ:TT:=⟨[⟨2,(.int .i64),1,false,8,some [(.int .i64 0)],true⟩,
 ⟨3,(.int .i64),1,false,8,some [(.int .i64 0)],true⟩,
 ⟨4,.bool,1,false,1,some [(.bool false)],true⟩,
 ⟨5,(.int .u8),1,false,1,some [(.int .u8 0)],true⟩,
 ⟨9,.str,1,false,16,some [(.str [])],true⟩,
 ⟨22,(.sl 2),1,false,24,some [(.sl .full [])],false⟩,
 ⟨23,(.sl 28),1,false,24,some [(.sl .full [])],false⟩,
 ⟨26,(.sl 32),1,false,24,some [(.sl .full [])],false⟩,
 ⟨28,(.st [(0,9),(1,26)]),2,true,40,some [(.str []),(.sl .full [])],true⟩,
 ⟨29,(.sl 34),1,false,24,some [(.sl .full [])],false⟩,
 ⟨30,(.sl 78),1,false,24,some [(.sl .full [])],false⟩,
 ⟨32,(.st [(0,9),(1,29),(2,30)]),3,true,64,some [(.str []),(.sl .full []),(.sl .full [])],true⟩,
 ⟨34,(.st [(0,9),(1,9),(2,9)]),3,true,48,some [(.str []),(.str []),(.str [])],true⟩,
 ⟨35,(.int .i64),1,false,8,some [(.int .i64 0)],true⟩,
 ⟨45,(.sl 48),1,false,24,some [(.sl .full [])],false⟩,
 ⟨48,(.st [(0,9),(1,9),(2,4)]),3,true,40,some [(.str []),(.str []),(.bool false)],true⟩,
 ⟨53,(.sl 9),1,false,24,some [(.sl .full [])],false⟩,
 ⟨55,(.int .u64),1,false,8,some [(.int .u64 0)],true⟩,
 ⟨56,.other,1,false,8,some [.jU],false⟩,
 ⟨65,(.st [(0,9),(1,9)]),2,true,32,some [(.str []),(.str [])],true⟩,
 ⟨67,(.st [(0,65),(2,9),(3,34)]),6,true,96,some [(.str []),(.str []),(.str []),(.str []),(.str []),(.str [])],true⟩,
 ⟨68,(.sl 87),1,false,24,some [(.sl .full [])],false⟩,
 ⟨71,.other,1,false,8,some [.jU],false⟩,
 ⟨73,(.st [(0,68),(1,3),(2,3),(3,35),(4,3),(5,30)]),6,true,80,some [(.sl .full []),(.int .i64 0),(.int .i64 0),(.int .i64 0),(.int .i64 0),(.sl .full [])],true⟩,
 ⟨76,(.sl 4),1,false,24,some [(.sl .full [])],false⟩,
 ⟨78,(.st [(0,3),(1,9),(2,9)]),3,true,40,some [(.int .i64 0),(.str []),(.str [])],true⟩,
 ⟨82,.other,1,false,8,some [.jU],false⟩,
 ⟨84,(.st [(0,68),(1,3),(2,3),(3,3),(4,3),(5,3),(6,30),(7,3)]),8,true,96,some [(.sl .full []),(.int .i64 0),(.int .i64 0),(.int .i64 0),(.int .i64 0),(.int .i64 0),(.sl .full []),(.int .i64 0)],true⟩,
 ⟨87,(.st [(0,3),(1,3),(2,9)]),3,true,32,some [(.int .i64 0),(.int .i64 0),(.str [])],true⟩,
 ⟨92,.other,1,false,8,none,false⟩,
 ⟨93,.other,1,false,8,none,false⟩,
 ⟨94,.other,1,false,8,none,false⟩,
 ⟨96,(.st [(0,92),(1,93),(2,94)]),3,true,24,none,true⟩,
 ⟨97,(.sl 100),1,false,24,some [(.sl .full [])],false⟩,
 ⟨100,(.st [(0,9),(1,9)]),2,true,32,some [(.str []),(.str [])],true⟩,
 ⟨104,.other,1,false,8,none,false⟩,
 ⟨107,.other,1,false,8,none,false⟩,
 ⟨115,.other,1,false,8,some [.jU],false⟩,
 ⟨117,.other,1,false,8,some [.jU],false⟩,
 ⟨123,(.sl 126),1,false,24,some [(.sl .full [])],false⟩,
 ⟨126,(.st [(0,100),(2,3)]),3,true,40,some [(.str []),(.str []),(.int .i64 0)],true⟩,
 ⟨132,.other,1,false,8,some [.jU],false⟩,
 ⟨136,(.sl 123),1,false,24,some [(.sl .full [])],false⟩],[(1000000,(63,iH)),(1000001,(45,iI)),(1000002,(65,j7)),(1000003,(44,iJ)),(1000004,(43,iK)),(1000005,(46,eV)),(1000006,(46,eW)),(1000007,(46,eX)),(1000008,(46,eY)),(1000009,(46,eZ)),(1000010,(66,iL)),(1000011,(47,iV)),(1000012,(68,fT)),(1000013,(78,iW)),(1000014,(87,dZ)),(1000015,(77,gD)),(1000016,(67,fR)),(1000017,(48,eU)),(1000018,(23,hJ)),(1000019,(14,gY)),(1000024,(51,fA)),(1000025,(26,a8x)),(1000026,(28,fV)),(1000027,(30,fB)),(1000028,(27,fC)),(1000029,(70,fK)),(1000030,(79,bZ)),(1000031,(69,dW)),(1000032,(53,cN)),(1000033,(29,eO)),(1000034,(36,lJ)),(1000035,(39,lK)),(1000036,(35,cA)),(1000037,(38,cI))],[]⟩
theorem gK:∀ t ti,eS aZ t=some ti→bL Try.prog ti∧ti.t=t:=bL.aM (bL.cons bNv (bL.cons bNw (bL.cons bNx (bL.cons bNy (bL.cons bNz (bL.cons bK6 (bL.cons bK7 (bL.cons bK8 (bL.cons bK9 (bL.cons bLa (bL.cons bLb (bL.cons bLc (bL.cons bLd (bL.cons bLe (bL.cons bLf (bL.cons bLg (bL.cons bLh (bL.cons bLi (bL.cons bLj (bL.cons bLk (bL.cons bLl (bL.cons bLm (bL.cons bLn (bL.cons bLo (bL.cons bLp (bL.cons bLq (bL.cons bLr (bL.cons bLs (bL.cons bLt (bL.cons bLu (bL.cons bLv (bL.cons bLw (bL.cons bLx (bL.cons bLy (bL.cons bIj (bL.cons bIk (bL.cons bIl (bL.cons bIm (bL.cons bIn (bL.cons bIo (bL.cons bIp (bL.cons bIq (bL.cons bIr (bL.nil))))))))))))))))))))))))))))))))))))))))))))
end Go.Fbs

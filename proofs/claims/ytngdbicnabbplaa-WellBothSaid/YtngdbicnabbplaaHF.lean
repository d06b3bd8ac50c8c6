import Derived.Test.YtngdbicnabbplaaS2
import Derived.Test.YtngdbicnabbplaaRows
set_option linter.unusedSimpArgs false
set_option linter.unusedVariables false
set_option linter.unusedSectionVars false
namespace Go.Fbs
open Go.Proofs
theorem mixed:Try.prog.follows .mixedOrders=true:=by kernel_rfl
theorem bJj:aV Try.prog ⟨2,(.int .i64),1,false,8,some [(.int .i64 0)],true⟩:=aV.wW Try.underlying2 (by kernel_rfl) (by kernel_rfl) (by kernel_rfl) (by kernel_rfl) rfl (fun _=>⟨by kernel_rfl,by kernel_rfl⟩)
theorem bJk:aV Try.prog ⟨3,(.int .i64),1,false,8,some [(.int .i64 0)],true⟩:=aV.wW Try.underlying3 (by kernel_rfl) (by kernel_rfl) (by kernel_rfl) (by kernel_rfl) rfl (fun _=>⟨by kernel_rfl,by kernel_rfl⟩)
theorem bJl:aV Try.prog ⟨4,.bool,1,false,1,some [(.bool false)],true⟩:=aV.wW Try.underlying4 (by kernel_rfl) (by kernel_rfl) (by kernel_rfl) (by kernel_rfl) rfl (fun _=>⟨by kernel_rfl,by kernel_rfl⟩)
theorem bJm:aV Try.prog ⟨5,(.int .u8),1,false,1,some [(.int .u8 0)],true⟩:=aV.wW Try.underlying5 (by kernel_rfl) (by kernel_rfl) (by kernel_rfl) (by kernel_rfl) rfl (fun _=>⟨by kernel_rfl,by kernel_rfl⟩)
theorem bJn:aV Try.prog ⟨9,.str,1,false,16,some [(.str [])],true⟩:=aV.wW Try.underlying9 (by kernel_rfl) (by kernel_rfl) (by kernel_rfl) (by kernel_rfl) rfl (fun _=>⟨by kernel_rfl,by kernel_rfl⟩)
theorem bGs:aV Try.prog ⟨22,(.sl 2),1,false,24,some [(.sl .full [])],false⟩:=aV.wW Try.underlying22 (by kernel_rfl) (by kernel_rfl) (by kernel_rfl) (by kernel_rfl) rfl sK
theorem bGt:aV Try.prog ⟨23,(.sl 28),1,false,24,some [(.sl .full [])],false⟩:=aV.wW Try.underlying23 (by kernel_rfl) (by kernel_rfl) (by kernel_rfl) (by kernel_rfl) rfl sK
theorem bGu:aV Try.prog ⟨26,(.sl 32),1,false,24,some [(.sl .full [])],false⟩:=aV.wW Try.underlying26 (by kernel_rfl) (by kernel_rfl) (by kernel_rfl) (by kernel_rfl) rfl sK
theorem bGv:aV Try.prog ⟨28,(.st [(0,9),(1,26)]),2,true,40,some [(.str []),(.sl .full [])],true⟩:=aV.ofA ⟨_,Try.underlying28,by kernel_rfl,by kernel_rfl⟩ (by kernel_rfl) (by kernel_rfl) (by kernel_rfl) (by kernel_rfl) (fun _=>⟨by kernel_rfl,by kernel_rfl⟩)
theorem bGw:aV Try.prog ⟨29,(.sl 34),1,false,24,some [(.sl .full [])],false⟩:=aV.wW Try.underlying29 (by kernel_rfl) (by kernel_rfl) (by kernel_rfl) (by kernel_rfl) rfl sK
theorem bGx:aV Try.prog ⟨30,(.sl 78),1,false,24,some [(.sl .full [])],false⟩:=aV.wW Try.underlying30 (by kernel_rfl) (by kernel_rfl) (by kernel_rfl) (by kernel_rfl) rfl sK
theorem bGy:aV Try.prog ⟨32,(.st [(0,9),(1,29),(2,30)]),3,true,64,some [(.str []),(.sl .full []),(.sl .full [])],true⟩:=aV.ofA ⟨_,Try.underlying32,by kernel_rfl,by kernel_rfl⟩ (by kernel_rfl) (by kernel_rfl) (by kernel_rfl) (by kernel_rfl) (fun _=>⟨by kernel_rfl,by kernel_rfl⟩)
theorem bGz:aV Try.prog ⟨34,(.st [(0,9),(1,9),(2,9)]),3,true,48,some [(.str []),(.str []),(.str [])],true⟩:=aV.ofA ⟨_,Try.underlying34,by kernel_rfl,by kernel_rfl⟩ (by kernel_rfl) (by kernel_rfl) (by kernel_rfl) (by kernel_rfl) (fun _=>⟨by kernel_rfl,by kernel_rfl⟩)
theorem bG0:aV Try.prog ⟨35,(.int .i64),1,false,8,some [(.int .i64 0)],true⟩:=aV.wW Try.underlying35 (by kernel_rfl) (by kernel_rfl) (by kernel_rfl) (by kernel_rfl) rfl (fun _=>⟨by kernel_rfl,by kernel_rfl⟩)
theorem bG1:aV Try.prog ⟨45,(.sl 48),1,false,24,some [(.sl .full [])],false⟩:=aV.wW Try.underlying45 (by kernel_rfl) (by kernel_rfl) (by kernel_rfl) (by kernel_rfl) rfl sK
theorem bG2:aV Try.prog ⟨48,(.st [(0,9),(1,9),(2,4)]),3,true,40,some [(.str []),(.str []),(.bool false)],true⟩:=aV.ofA ⟨_,Try.underlying48,by kernel_rfl,by kernel_rfl⟩ (by kernel_rfl) (by kernel_rfl) (by kernel_rfl) (by kernel_rfl) (fun _=>⟨by kernel_rfl,by kernel_rfl⟩)
theorem bG3:aV Try.prog ⟨53,(.sl 9),1,false,24,some [(.sl .full [])],false⟩:=aV.wW Try.underlying53 (by kernel_rfl) (by kernel_rfl) (by kernel_rfl) (by kernel_rfl) rfl sK
theorem bG4:aV Try.prog ⟨55,(.int .u64),1,false,8,some [(.int .u64 0)],true⟩:=aV.wW Try.underlying55 (by kernel_rfl) (by kernel_rfl) (by kernel_rfl) (by kernel_rfl) rfl (fun _=>⟨by kernel_rfl,by kernel_rfl⟩)
theorem bG5:aV Try.prog ⟨56,.other,1,false,8,some [.gH],false⟩:=aV.wW trivial (by kernel_rfl) (by kernel_rfl) (by kernel_rfl) (by kernel_rfl) rfl sK
theorem bG6:aV Try.prog ⟨65,(.st [(0,9),(1,9)]),2,true,32,some [(.str []),(.str [])],true⟩:=aV.ofA ⟨_,Try.underlying65,by kernel_rfl,by kernel_rfl⟩ (by kernel_rfl) (by kernel_rfl) (by kernel_rfl) (by kernel_rfl) (fun _=>⟨by kernel_rfl,by kernel_rfl⟩)
theorem bG7:aV Try.prog ⟨67,(.st [(0,65),(2,9),(3,34)]),6,true,96,some [(.str []),(.str []),(.str []),(.str []),(.str []),(.str [])],true⟩:=aV.ofA ⟨_,Try.underlying67,by kernel_rfl,by kernel_rfl⟩ (by kernel_rfl) (by kernel_rfl) (by kernel_rfl) (by kernel_rfl) (fun _=>⟨by kernel_rfl,by kernel_rfl⟩)
theorem bG8:aV Try.prog ⟨68,(.sl 87),1,false,24,some [(.sl .full [])],false⟩:=aV.wW Try.underlying68 (by kernel_rfl) (by kernel_rfl) (by kernel_rfl) (by kernel_rfl) rfl sK
theorem bG9:aV Try.prog ⟨71,.other,1,false,8,some [.gH],false⟩:=aV.wW trivial (by kernel_rfl) (by kernel_rfl) (by kernel_rfl) (by kernel_rfl) rfl sK
theorem bHa:aV Try.prog ⟨73,(.st [(0,68),(1,3),(2,3),(3,35),(4,3),(5,30)]),6,true,80,some [(.sl .full []),(.int .i64 0),(.int .i64 0),(.int .i64 0),(.int .i64 0),(.sl .full [])],true⟩:=aV.ofA ⟨_,Try.underlying73,by kernel_rfl,by kernel_rfl⟩ (by kernel_rfl) (by kernel_rfl) (by kernel_rfl) (by kernel_rfl) (fun _=>⟨by kernel_rfl,by kernel_rfl⟩)
theorem bHb:aV Try.prog ⟨76,(.sl 4),1,false,24,some [(.sl .full [])],false⟩:=aV.wW Try.underlying76 (by kernel_rfl) (by kernel_rfl) (by kernel_rfl) (by kernel_rfl) rfl sK
theorem bHc:aV Try.prog ⟨78,(.st [(0,3),(1,9),(2,9)]),3,true,40,some [(.int .i64 0),(.str []),(.str [])],true⟩:=aV.ofA ⟨_,Try.underlying78,by kernel_rfl,by kernel_rfl⟩ (by kernel_rfl) (by kernel_rfl) (by kernel_rfl) (by kernel_rfl) (fun _=>⟨by kernel_rfl,by kernel_rfl⟩)
theorem bHd:aV Try.prog ⟨82,.other,1,false,8,some [.gH],false⟩:=aV.wW trivial (by kernel_rfl) (by kernel_rfl) (by kernel_rfl) (by kernel_rfl) rfl sK
theorem bHe:aV Try.prog ⟨84,(.st [(0,68),(1,3),(2,3),(3,3),(4,3),(5,3),(6,30),(7,3)]),8,true,96,some [(.sl .full []),(.int .i64 0),(.int .i64 0),(.int .i64 0),(.int .i64 0),(.int .i64 0),(.sl .full []),(.int .i64 0)],true⟩:=aV.ofA ⟨_,Try.underlying84,by kernel_rfl,by kernel_rfl⟩ (by kernel_rfl) (by kernel_rfl) (by kernel_rfl) (by kernel_rfl) (fun _=>⟨by kernel_rfl,by kernel_rfl⟩)
theorem bHf:aV Try.prog ⟨87,(.st [(0,3),(1,3),(2,9)]),3,true,32,some [(.int .i64 0),(.int .i64 0),(.str [])],true⟩:=aV.ofA ⟨_,Try.underlying87,by kernel_rfl,by kernel_rfl⟩ (by kernel_rfl) (by kernel_rfl) (by kernel_rfl) (by kernel_rfl) (fun _=>⟨by kernel_rfl,by kernel_rfl⟩)
theorem bHg:aV Try.prog ⟨92,.other,1,false,8,none,false⟩:=aV.ofN trivial (by kernel_rfl) (by kernel_rfl) (by kernel_rfl) sK
theorem bHh:aV Try.prog ⟨93,.other,1,false,8,none,false⟩:=aV.ofN trivial (by kernel_rfl) (by kernel_rfl) (by kernel_rfl) sK
theorem bHi:aV Try.prog ⟨94,.other,1,false,8,none,false⟩:=aV.ofN trivial (by kernel_rfl) (by kernel_rfl) (by kernel_rfl) sK
theorem bHj:aV Try.prog ⟨96,(.st [(0,92),(1,93),(2,94)]),3,true,24,none,true⟩:=aV.ofN ⟨_,Try.underlying96,by kernel_rfl,by kernel_rfl⟩ (by kernel_rfl) (by kernel_rfl) (by kernel_rfl) (fun _=>⟨by kernel_rfl,by kernel_rfl⟩)
theorem bHk:aV Try.prog ⟨97,(.sl 100),1,false,24,some [(.sl .full [])],false⟩:=aV.wW Try.underlying97 (by kernel_rfl) (by kernel_rfl) (by kernel_rfl) (by kernel_rfl) rfl sK
theorem bEd:aV Try.prog ⟨100,(.st [(0,9),(1,9)]),2,true,32,some [(.str []),(.str [])],true⟩:=aV.ofA ⟨_,Try.underlying100,by kernel_rfl,by kernel_rfl⟩ (by kernel_rfl) (by kernel_rfl) (by kernel_rfl) (by kernel_rfl) (fun _=>⟨by kernel_rfl,by kernel_rfl⟩)
theorem bEe:aV Try.prog ⟨104,.other,1,false,8,none,false⟩:=aV.ofN trivial (by kernel_rfl) (by kernel_rfl) (by kernel_rfl) sK
theorem bEf:aV Try.prog ⟨107,.other,1,false,8,none,false⟩:=aV.ofN trivial (by kernel_rfl) (by kernel_rfl) (by kernel_rfl) sK
theorem bEg:aV Try.prog ⟨115,.other,1,false,8,some [.gH],false⟩:=aV.wW trivial (by kernel_rfl) (by kernel_rfl) (by kernel_rfl) (by kernel_rfl) rfl sK
theorem bEh:aV Try.prog ⟨117,.other,1,false,8,some [.gH],false⟩:=aV.wW trivial (by kernel_rfl) (by kernel_rfl) (by kernel_rfl) (by kernel_rfl) rfl sK
theorem bEi:aV Try.prog ⟨123,(.sl 126),1,false,24,some [(.sl .full [])],false⟩:=aV.wW Try.underlying123 (by kernel_rfl) (by kernel_rfl) (by kernel_rfl) (by kernel_rfl) rfl sK
theorem bEj:aV Try.prog ⟨126,(.st [(0,100),(2,3)]),3,true,40,some [(.str []),(.str []),(.int .i64 0)],true⟩:=aV.ofA ⟨_,Try.underlying126,by kernel_rfl,by kernel_rfl⟩ (by kernel_rfl) (by kernel_rfl) (by kernel_rfl) (by kernel_rfl) (fun _=>⟨by kernel_rfl,by kernel_rfl⟩)
theorem bEk:aV Try.prog ⟨132,.other,1,false,8,some [.gH],false⟩:=aV.wW trivial (by kernel_rfl) (by kernel_rfl) (by kernel_rfl) (by kernel_rfl) rfl sK
theorem bEl:aV Try.prog ⟨136,(.sl 123),1,false,24,some [(.sl .full [])],false⟩:=aV.wW Try.underlying136 (by kernel_rfl) (by kernel_rfl) (by kernel_rfl) (by kernel_rfl) rfl sK
abbrev n5:FuncId:=5
abbrev a58:FuncId:=6
abbrev yK:FuncId:=7
abbrev xG:FuncId:=8
abbrev a47:FuncId:=10
abbrev n9:FuncId:=13
abbrev a3n:FuncId:=14
abbrev xI:FuncId:=15
abbrev xJ:FuncId:=16
abbrev a0n:FuncId:=21
abbrev oU:FuncId:=25
abbrev yL:FuncId:=27
abbrev a0o:FuncId:=28
abbrev zT:FuncId:=29
abbrev yM:FuncId:=30
abbrev pW:FuncId:=35
abbrev aEi:FuncId:=36
abbrev a48:FuncId:=37
abbrev rB:FuncId:=38
abbrev aEj:FuncId:=39
abbrev fY:FuncId:=40
abbrev fI:FuncId:=49
abbrev lU:FuncId:=50
abbrev yN:FuncId:=51
abbrev oV:FuncId:=52
abbrev kZ:FuncId:=53
abbrev nL:FuncId:=56
abbrev uU:FuncId:=57
abbrev iD:FuncId:=58
abbrev sM:FuncId:=69
abbrev zU:FuncId:=70
abbrev l9:FuncId:=72
abbrev lC:FuncId:=73
abbrev hY:FuncId:=79
abbrev aGb:FuncId:=1000000
def aCn:iA:=⟨1,[.b 0 [.pl,.pl,.pl,.pl,.pl,.gr 5 false]],[]⟩
abbrev aGc:FuncId:=1000001
def aCo:iA:=⟨1,[.b 0 [.pl,.pl,.pl,.pl,.pl,.gr 5 false],.v],[]⟩
abbrev a7z:FuncId:=1000002
def aGd:iA:=⟨1,[.b 0 [.pl,.pl,.pl,.pl,.pl,.gr 5 false],.v],[]⟩
def aCp:iA:=⟨1,[.b 0 [.pl,.pl,.pl,.pl,.pl,.gr 5 false]],[]⟩
def aCq:iA:=⟨1,[.b 0 [.pl,.pl,.pl,.pl,.pl,.gr 5 false],.v,.v],[]⟩
def aAe:iA:=⟨1,[.b 0 [.pl,.pl,.pl,.pl,.pl,.gr 5 false],.b 0 [.pl,.gr 5 false,.pl]],[]⟩
def aAf:iA:=⟨1,[.b 0 [.pl,.pl,.pl,.pl,.pl,.gr 5 false],.b 0 [.pl,.gr 5 false]],[]⟩
def aAg:iA:=⟨1,[.b 0 [.pl,.pl,.pl,.pl,.pl,.gr 5 false],.b 0 [.pl,.pl,.pl]],[]⟩
def aAh:iA:=⟨1,[.b 0 [.pl,.pl,.pl,.pl,.pl,.gr 5 false],.b 1 [.pl,.pl,.pl]],[]⟩
def aAi:iA:=⟨1,[.b 0 [.pl,.pl,.pl,.pl,.pl,.gr 5 false],.b 2 [.pl,.pl,.pl]],[]⟩
abbrev aGe:FuncId:=1000010
def aCr:iA:=⟨1,[.b 0 [.pl,.pl,.pl,.pl,.pl,.gr 5 false],.v],[]⟩
def aEu:iA:=⟨1,[.b 0 [.pl,.pl,.pl,.pl,.pl,.gr 5 false],.v],[]⟩
def a71:iA:=⟨1,[.b 0 [.pl,.pl,.pl,.pl,.pl,.gr 5 false],.b 0 [.pl,.gr 5 false,.pl]],[]⟩
def aEv:iA:=⟨1,[.b 0 [.pl,.pl,.pl,.pl,.pl,.gr 5 false],.v,.v],[]⟩
def aAj:iA:=⟨1,[.b 0 [.pl,.pl,.pl,.pl,.pl,.gr 5 false]],[]⟩
def aCs:iA:=⟨1,[.b 0 [.pl,.pl,.pl,.pl,.pl,.gr 5 false]],[]⟩
def aEw:iA:=⟨1,[.b 0 [.pl,.pl,.pl,.pl,.pl,.gr 5 false]],[]⟩
def a73:iA:=⟨1,[.b 0 [.pl,.pl,.pl,.pl,.pl,.gr 5 false],.b 0 [.pl,.gr 5 false]],[]⟩
def aEx:iA:=⟨2,[.b 0 [.pl,.pl,.pl,.pl,.pl,.gr 5 false],.v],[]⟩
abbrev jX:FuncId:=1000019
def fB:iA:=⟨1,[.v,.b 0 [.pl]],[]⟩
abbrev dS:FuncId:=1000024
def cW:iA:=⟨1,[.b 0 [.pl,.pl,.pl,.pl,.pl,.pl,.gr 5 false,.pl]],[]⟩
abbrev fQ:FuncId:=1000025
def a5q:iA:=⟨0,[.b 0 [.pl,.pl,.pl,.pl,.pl,.pl,.gr 5 false,.pl],.v],[]⟩
abbrev aI:FuncId:=1000026
def dT:iA:=⟨1,[.b 0 [.pl,.pl,.pl,.pl,.pl,.pl,.gr 5 false,.pl],.v],[]⟩
abbrev aT:FuncId:=1000027
def cX:iA:=⟨0,[.b 0 [.pl,.pl,.pl,.pl,.pl,.pl,.gr 5 false,.pl],.v],[]⟩
abbrev bI:FuncId:=1000028
def cY:iA:=⟨1,[.b 0 [.pl,.pl,.pl,.pl,.pl,.pl,.gr 5 false,.pl]],[]⟩
abbrev bR:FuncId:=1000029
def dO:iA:=⟨0,[.b 0 [.pl,.pl,.pl,.pl,.pl,.pl,.gr 5 false,.pl],.v,.v],[]⟩
abbrev mR:FuncId:=1000030
def bG:iA:=⟨0,[.b 0 [.pl,.pl,.pl,.pl,.pl,.pl,.gr 5 false,.pl]],[]⟩
abbrev lD:FuncId:=1000031
def cO:iA:=⟨0,[.b 0 [.pl,.pl,.pl,.pl,.pl,.pl,.gr 5 false,.pl]],[]⟩
abbrev iZ:FuncId:=1000032
def bV:iA:=⟨0,[.b 0 [.pl,.pl,.pl,.pl,.pl,.pl,.gr 5 false,.pl]],[]⟩
abbrev sV:FuncId:=1000033
def cQ:iA:=⟨1,[.b 0 [.pl,.pl,.pl,.pl,.pl,.pl,.gr 5 false,.pl]],[]⟩
abbrev a5r:FuncId:=1000034
def j7:iA:=⟨1,[.v,.b 0 [.pl,.pl,.pl,.pl,.pl,.pl]],[]⟩
abbrev a5s:FuncId:=1000035
def j8:iA:=⟨1,[.v,.b 0 [.pl,.pl,.pl,.pl,.pl,.pl]],[]⟩
abbrev lE:FuncId:=1000036
def bH:iA:=⟨1,[.v,.b 0 [.pl,.pl,.pl,.pl,.pl,.pl]],[.one,.kX 36 1]⟩
abbrev lV:FuncId:=1000037
def bL:iA:=⟨1,[.v,.b 0 [.pl,.pl,.pl,.pl,.pl,.pl]],[.one,.kX 39 1]⟩
def cM:TT:=⟨[⟨2,(.int .i64),1,false,8,some [(.int .i64 0)],true⟩,
 ⟨3,(.int .i64),1,false,8,some [(.int .i64 0)],true⟩,
 ⟨4,.bool,1,false,1,some [(.bool false)],true⟩,
 ⟨5,(.int .u8),1,false,1,some [(.int .u8 0)],true⟩,
 ⟨9,.str,1,false,16,some [(.str [])],true⟩,
 ⟨22,(.sl 2),1,false,24,some [(.sl .full [])],false⟩,
 ⟨23,(.sl 28),1,false,24,some [(.sl .full [])],false⟩,
 ⟨26,(.sl 32),1,false,24,some [(.sl .full [])],false⟩,
 ⟨28,(.st [(0,9),(1,26)]),2,true,40,some [(.str []),(.sl .full [])],true⟩,
 ⟨29,(.sl 34),1,false,24,some [(.sl .full [])],false⟩,
 ⟨30,(.sl 78),1,false,24,some [(.sl .full [])],false⟩,
 ⟨32,(.st [(0,9),(1,29),(2,30)]),3,true,64,some [(.str []),(.sl .full []),(.sl .full [])],true⟩,
 ⟨34,(.st [(0,9),(1,9),(2,9)]),3,true,48,some [(.str []),(.str []),(.str [])],true⟩,
 ⟨35,(.int .i64),1,false,8,some [(.int .i64 0)],true⟩,
 ⟨45,(.sl 48),1,false,24,some [(.sl .full [])],false⟩,
 ⟨48,(.st [(0,9),(1,9),(2,4)]),3,true,40,some [(.str []),(.str []),(.bool false)],true⟩,
 ⟨53,(.sl 9),1,false,24,some [(.sl .full [])],false⟩,
 ⟨55,(.int .u64),1,false,8,some [(.int .u64 0)],true⟩,
 ⟨56,.other,1,false,8,some [.gH],false⟩,
 ⟨65,(.st [(0,9),(1,9)]),2,true,32,some [(.str []),(.str [])],true⟩,
 ⟨67,(.st [(0,65),(2,9),(3,34)]),6,true,96,some [(.str []),(.str []),(.str []),(.str []),(.str []),(.str [])],true⟩,
 ⟨68,(.sl 87),1,false,24,some [(.sl .full [])],false⟩,
 ⟨71,.other,1,false,8,some [.gH],false⟩,
 ⟨73,(.st [(0,68),(1,3),(2,3),(3,35),(4,3),(5,30)]),6,true,80,some [(.sl .full []),(.int .i64 0),(.int .i64 0),(.int .i64 0),(.int .i64 0),(.sl .full [])],true⟩,
 ⟨76,(.sl 4),1,false,24,some [(.sl .full [])],false⟩,
 ⟨78,(.st [(0,3),(1,9),(2,9)]),3,true,40,some [(.int .i64 0),(.str []),(.str [])],true⟩,
 ⟨82,.other,1,false,8,some [.gH],false⟩,
 ⟨84,(.st [(0,68),(1,3),(2,3),(3,3),(4,3),(5,3),(6,30),(7,3)]),8,true,96,some [(.sl .full []),(.int .i64 0),(.int .i64 0),(.int .i64 0),(.int .i64 0),(.int .i64 0),(.sl .full []),(.int .i64 0)],true⟩,
 ⟨87,(.st [(0,3),(1,3),(2,9)]),3,true,32,some [(.int .i64 0),(.int .i64 0),(.str [])],true⟩,
 ⟨92,.other,1,false,8,none,false⟩,
 ⟨93,.other,1,false,8,none,false⟩,
 ⟨94,.other,1,false,8,none,false⟩,
 ⟨96,(.st [(0,92),(1,93),(2,94)]),3,true,24,none,true⟩,
 ⟨97,(.sl 100),1,false,24,some [(.sl .full [])],false⟩,
 ⟨100,(.st [(0,9),(1,9)]),2,true,32,some [(.str []),(.str [])],true⟩,
 ⟨104,.other,1,false,8,none,false⟩,
 ⟨107,.other,1,false,8,none,false⟩,
 ⟨115,.other,1,false,8,some [.gH],false⟩,
 ⟨117,.other,1,false,8,some [.gH],false⟩,
 ⟨123,(.sl 126),1,false,24,some [(.sl .full [])],false⟩,
 ⟨126,(.st [(0,100),(2,3)]),3,true,40,some [(.str []),(.str []),(.int .i64 0)],true⟩,
 ⟨132,.other,1,false,8,some [.gH],false⟩,
 ⟨136,(.sl 123),1,false,24,some [(.sl .full [])],false⟩],[(1000000,(63,aCn)),(1000001,(45,aCo)),(1000002,(65,aGd)),(1000003,(44,aCp)),(1000004,(43,aCq)),(1000005,(46,aAe)),(1000006,(46,aAf)),(1000007,(46,aAg)),(1000008,(46,aAh)),(1000009,(46,aAi)),(1000010,(66,aCr)),(1000011,(47,aEu)),(1000012,(68,a71)),(1000013,(78,aEv)),(1000014,(87,aAj)),(1000015,(77,aCs)),(1000016,(67,aEw)),(1000017,(48,a73)),(1000018,(23,aEx)),(1000019,(14,fB)),(1000024,(51,cW)),(1000025,(26,a5q)),(1000026,(28,dT)),(1000027,(30,cX)),(1000028,(27,cY)),(1000029,(70,dO)),(1000030,(79,bG)),(1000031,(69,cO)),(1000032,(53,bV)),(1000033,(29,cQ)),(1000034,(36,j7)),(1000035,(39,j8)),(1000036,(35,bH)),(1000037,(38,bL))],[]⟩
theorem mN:∀ t ti,cU cM t=some ti→aV Try.prog ti∧ti.t=t:=aV.bT (aV.cons bJj (aV.cons bJk (aV.cons bJl (aV.cons bJm (aV.cons bJn (aV.cons bGs (aV.cons bGt (aV.cons bGu (aV.cons bGv (aV.cons bGw (aV.cons bGx (aV.cons bGy (aV.cons bGz (aV.cons bG0 (aV.cons bG1 (aV.cons bG2 (aV.cons bG3 (aV.cons bG4 (aV.cons bG5 (aV.cons bG6 (aV.cons bG7 (aV.cons bG8 (aV.cons bG9 (aV.cons bHa (aV.cons bHb (aV.cons bHc (aV.cons bHd (aV.cons bHe (aV.cons bHf (aV.cons bHg (aV.cons bHh (aV.cons bHi (aV.cons bHj (aV.cons bHk (aV.cons bEd (aV.cons bEe (aV.cons bEf (aV.cons bEg (aV.cons bEh (aV.cons bEi (aV.cons bEj (aV.cons bEk (aV.cons bEl (aV.nil))))))))))))))))))))))))))))))))))))))))))))
end Go.Fbs

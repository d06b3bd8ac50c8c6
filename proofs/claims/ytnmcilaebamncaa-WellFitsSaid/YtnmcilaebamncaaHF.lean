import Derived.Test.YtnmcilaebamncaaS2
import Derived.Test.YtnmcilaebamncaaRows
namespace Go.Fbs
open Go.Proofs
theorem mixed:Try.prog.follows .mixedOrders=true:=by kernel_rfl
theorem bHo:aU Try.prog ⟨2,(.int .i64),1,false,8,some [(.int .i64 0)],true⟩:=aU.sV Try.underlying2 (by kernel_rfl) (by kernel_rfl) (by kernel_rfl) (by kernel_rfl) rfl (fun _=>⟨by kernel_rfl,by kernel_rfl⟩)
theorem b5q:aU Try.prog ⟨3,(.int .i64),1,false,8,some [(.int .i64 0)],true⟩:=aU.sV Try.underlying3 (by kernel_rfl) (by kernel_rfl) (by kernel_rfl) (by kernel_rfl) rfl (fun _=>⟨by kernel_rfl,by kernel_rfl⟩)
theorem b5r:aU Try.prog ⟨4,.bool,1,false,1,some [(.bool false)],true⟩:=aU.sV Try.underlying4 (by kernel_rfl) (by kernel_rfl) (by kernel_rfl) (by kernel_rfl) rfl (fun _=>⟨by kernel_rfl,by kernel_rfl⟩)
theorem b5s:aU Try.prog ⟨5,(.int .u8),1,false,1,some [(.int .u8 0)],true⟩:=aU.sV Try.underlying5 (by kernel_rfl) (by kernel_rfl) (by kernel_rfl) (by kernel_rfl) rfl (fun _=>⟨by kernel_rfl,by kernel_rfl⟩)
theorem b5t:aU Try.prog ⟨9,.str,1,false,16,some [(.str [])],true⟩:=aU.sV Try.underlying9 (by kernel_rfl) (by kernel_rfl) (by kernel_rfl) (by kernel_rfl) rfl (fun _=>⟨by kernel_rfl,by kernel_rfl⟩)
theorem bEk:aU Try.prog ⟨22,(.sl 2),1,false,24,some [(.sl .full [])],false⟩:=aU.sV Try.underlying22 (by kernel_rfl) (by kernel_rfl) (by kernel_rfl) (by kernel_rfl) rfl n8
theorem aY6:aU Try.prog ⟨23,(.sl 35),1,false,24,some [(.sl .full [])],false⟩:=aU.sV Try.underlying23 (by kernel_rfl) (by kernel_rfl) (by kernel_rfl) (by kernel_rfl) rfl n8
theorem aY7:aU Try.prog ⟨27,(.st [(0,9),(1,9)]),2,true,32,some [(.str []),(.str [])],true⟩:=aU.ofA ⟨_,Try.underlying27,by kernel_rfl,by kernel_rfl⟩ (by kernel_rfl) (by kernel_rfl) (by kernel_rfl) (by kernel_rfl) (fun _=>⟨by kernel_rfl,by kernel_rfl⟩)
theorem aY8:aU Try.prog ⟨29,(.st [(0,9),(1,9),(2,9)]),3,true,48,some [(.str []),(.str []),(.str [])],true⟩:=aU.ofA ⟨_,Try.underlying29,by kernel_rfl,by kernel_rfl⟩ (by kernel_rfl) (by kernel_rfl) (by kernel_rfl) (by kernel_rfl) (fun _=>⟨by kernel_rfl,by kernel_rfl⟩)
theorem aY9:aU Try.prog ⟨31,(.st [(0,27),(2,9),(3,29)]),6,true,96,some [(.str []),(.str []),(.str []),(.str []),(.str []),(.str [])],true⟩:=aU.ofA ⟨_,Try.underlying31,by kernel_rfl,by kernel_rfl⟩ (by kernel_rfl) (by kernel_rfl) (by kernel_rfl) (by kernel_rfl) (fun _=>⟨by kernel_rfl,by kernel_rfl⟩)
theorem aZa:aU Try.prog ⟨33,(.sl 39),1,false,24,some [(.sl .full [])],false⟩:=aU.sV Try.underlying33 (by kernel_rfl) (by kernel_rfl) (by kernel_rfl) (by kernel_rfl) rfl n8
theorem aZb:aU Try.prog ⟨35,(.st [(0,9),(1,33)]),2,true,40,some [(.str []),(.sl .full [])],true⟩:=aU.ofA ⟨_,Try.underlying35,by kernel_rfl,by kernel_rfl⟩ (by kernel_rfl) (by kernel_rfl) (by kernel_rfl) (by kernel_rfl) (fun _=>⟨by kernel_rfl,by kernel_rfl⟩)
theorem aZc:aU Try.prog ⟨36,(.sl 29),1,false,24,some [(.sl .full [])],false⟩:=aU.sV Try.underlying36 (by kernel_rfl) (by kernel_rfl) (by kernel_rfl) (by kernel_rfl) rfl n8
theorem aZd:aU Try.prog ⟨37,(.sl 125),1,false,24,some [(.sl .full [])],false⟩:=aU.sV Try.underlying37 (by kernel_rfl) (by kernel_rfl) (by kernel_rfl) (by kernel_rfl) rfl n8
theorem aZe:aU Try.prog ⟨39,(.st [(0,9),(1,36),(2,37)]),3,true,64,some [(.str []),(.sl .full []),(.sl .full [])],true⟩:=aU.ofA ⟨_,Try.underlying39,by kernel_rfl,by kernel_rfl⟩ (by kernel_rfl) (by kernel_rfl) (by kernel_rfl) (by kernel_rfl) (fun _=>⟨by kernel_rfl,by kernel_rfl⟩)
theorem aZf:aU Try.prog ⟨44,(.int .i64),1,false,8,some [(.int .i64 0)],true⟩:=aU.sV Try.underlying44 (by kernel_rfl) (by kernel_rfl) (by kernel_rfl) (by kernel_rfl) rfl (fun _=>⟨by kernel_rfl,by kernel_rfl⟩)
theorem bEl:aU Try.prog ⟨51,(.st [(0,9),(1,3),(2,44)]),3,true,32,some [(.str []),(.int .i64 0),(.int .i64 0)],true⟩:=aU.ofA ⟨_,Try.underlying51,by kernel_rfl,by kernel_rfl⟩ (by kernel_rfl) (by kernel_rfl) (by kernel_rfl) (by kernel_rfl) (fun _=>⟨by kernel_rfl,by kernel_rfl⟩)
theorem bEm:aU Try.prog ⟨52,(.sl 51),1,false,24,some [(.sl .full [])],false⟩:=aU.sV Try.underlying52 (by kernel_rfl) (by kernel_rfl) (by kernel_rfl) (by kernel_rfl) rfl n8
theorem bEn:aU Try.prog ⟨57,(.sl 9),1,false,24,some [(.sl .full [])],false⟩:=aU.sV Try.underlying57 (by kernel_rfl) (by kernel_rfl) (by kernel_rfl) (by kernel_rfl) rfl n8
theorem bEo:aU Try.prog ⟨59,(.int .u64),1,false,8,some [(.int .u64 0)],true⟩:=aU.sV Try.underlying59 (by kernel_rfl) (by kernel_rfl) (by kernel_rfl) (by kernel_rfl) rfl (fun _=>⟨by kernel_rfl,by kernel_rfl⟩)
theorem bEp:aU Try.prog ⟨61,.other,1,false,8,none,false⟩:=aU.ofN trivial (by kernel_rfl) (by kernel_rfl) (by kernel_rfl) n8
theorem bEq:aU Try.prog ⟨63,.other,1,false,8,none,false⟩:=aU.ofN trivial (by kernel_rfl) (by kernel_rfl) (by kernel_rfl) n8
theorem aZg:aU Try.prog ⟨69,(.sl 97),1,false,24,some [(.sl .full [])],false⟩:=aU.sV Try.underlying69 (by kernel_rfl) (by kernel_rfl) (by kernel_rfl) (by kernel_rfl) rfl n8
theorem bEr:aU Try.prog ⟨72,.other,1,false,8,some [.dQ],false⟩:=aU.sV trivial (by kernel_rfl) (by kernel_rfl) (by kernel_rfl) (by kernel_rfl) rfl n8
theorem bEs:aU Try.prog ⟨74,(.st [(0,69),(1,3),(2,3),(3,44),(4,3),(5,37)]),6,true,80,some [(.sl .full []),(.int .i64 0),(.int .i64 0),(.int .i64 0),(.int .i64 0),(.sl .full [])],true⟩:=aU.ofA ⟨_,Try.underlying74,by kernel_rfl,by kernel_rfl⟩ (by kernel_rfl) (by kernel_rfl) (by kernel_rfl) (by kernel_rfl) (fun _=>⟨by kernel_rfl,by kernel_rfl⟩)
theorem bEt:aU Try.prog ⟨77,.other,1,false,8,some [.dQ],false⟩:=aU.sV trivial (by kernel_rfl) (by kernel_rfl) (by kernel_rfl) (by kernel_rfl) rfl n8
theorem bEu:aU Try.prog ⟨78,(.sl 5),1,false,24,some [(.sl .full [])],false⟩:=aU.sV Try.underlying78 (by kernel_rfl) (by kernel_rfl) (by kernel_rfl) (by kernel_rfl) rfl n8
theorem bEv:aU Try.prog ⟨80,(.st [(0,77),(1,78)]),2,true,32,some [.dQ,(.sl .full [])],true⟩:=aU.ofA ⟨_,Try.underlying80,by kernel_rfl,by kernel_rfl⟩ (by kernel_rfl) (by kernel_rfl) (by kernel_rfl) (by kernel_rfl) (fun _=>⟨by kernel_rfl,by kernel_rfl⟩)
theorem bEw:aU Try.prog ⟨92,.other,1,false,8,some [.dQ],false⟩:=aU.sV trivial (by kernel_rfl) (by kernel_rfl) (by kernel_rfl) (by kernel_rfl) rfl n8
theorem aZh:aU Try.prog ⟨94,(.st [(0,69),(1,3),(2,3),(3,3),(4,3),(5,3),(6,37),(7,3)]),8,true,96,some [(.sl .full []),(.int .i64 0),(.int .i64 0),(.int .i64 0),(.int .i64 0),(.int .i64 0),(.sl .full []),(.int .i64 0)],true⟩:=aU.ofA ⟨_,Try.underlying94,by kernel_rfl,by kernel_rfl⟩ (by kernel_rfl) (by kernel_rfl) (by kernel_rfl) (by kernel_rfl) (fun _=>⟨by kernel_rfl,by kernel_rfl⟩)
theorem aZi:aU Try.prog ⟨97,(.st [(0,3),(1,3),(2,9)]),3,true,32,some [(.int .i64 0),(.int .i64 0),(.str [])],true⟩:=aU.ofA ⟨_,Try.underlying97,by kernel_rfl,by kernel_rfl⟩ (by kernel_rfl) (by kernel_rfl) (by kernel_rfl) (by kernel_rfl) (fun _=>⟨by kernel_rfl,by kernel_rfl⟩)
theorem bB1:aU Try.prog ⟨102,.other,1,false,8,some [.dQ],false⟩:=aU.sV trivial (by kernel_rfl) (by kernel_rfl) (by kernel_rfl) (by kernel_rfl) rfl n8
theorem bB2:aU Try.prog ⟨110,.other,1,false,8,none,false⟩:=aU.ofN trivial (by kernel_rfl) (by kernel_rfl) (by kernel_rfl) n8
theorem bB3:aU Try.prog ⟨111,.other,1,false,8,none,false⟩:=aU.ofN trivial (by kernel_rfl) (by kernel_rfl) (by kernel_rfl) n8
theorem bB4:aU Try.prog ⟨118,.other,1,false,8,some [.dQ],false⟩:=aU.sV trivial (by kernel_rfl) (by kernel_rfl) (by kernel_rfl) (by kernel_rfl) rfl n8
theorem bB5:aU Try.prog ⟨120,.other,1,false,8,some [.dQ],false⟩:=aU.sV trivial (by kernel_rfl) (by kernel_rfl) (by kernel_rfl) (by kernel_rfl) rfl n8
theorem aSj:aU Try.prog ⟨125,(.st [(0,3),(1,9),(2,9)]),3,true,40,some [(.int .i64 0),(.str []),(.str [])],true⟩:=aU.ofA ⟨_,Try.underlying125,by kernel_rfl,by kernel_rfl⟩ (by kernel_rfl) (by kernel_rfl) (by kernel_rfl) (by kernel_rfl) (fun _=>⟨by kernel_rfl,by kernel_rfl⟩)
theorem aSk:aU Try.prog ⟨127,.other,1,false,8,none,false⟩:=aU.ofN trivial (by kernel_rfl) (by kernel_rfl) (by kernel_rfl) n8
theorem aSl:aU Try.prog ⟨128,.other,1,false,8,none,false⟩:=aU.ofN trivial (by kernel_rfl) (by kernel_rfl) (by kernel_rfl) n8
theorem aSm:aU Try.prog ⟨129,.other,1,false,8,none,false⟩:=aU.ofN trivial (by kernel_rfl) (by kernel_rfl) (by kernel_rfl) n8
theorem aSn:aU Try.prog ⟨131,(.st [(0,127),(1,128),(2,129)]),3,true,24,none,true⟩:=aU.ofN ⟨_,Try.underlying131,by kernel_rfl,by kernel_rfl⟩ (by kernel_rfl) (by kernel_rfl) (by kernel_rfl) (fun _=>⟨by kernel_rfl,by kernel_rfl⟩)
theorem aSo:aU Try.prog ⟨132,(.sl 135),1,false,24,some [(.sl .full [])],false⟩:=aU.sV Try.underlying132 (by kernel_rfl) (by kernel_rfl) (by kernel_rfl) (by kernel_rfl) rfl n8
theorem aSp:aU Try.prog ⟨135,(.st [(0,9),(1,9)]),2,true,32,some [(.str []),(.str [])],true⟩:=aU.ofA ⟨_,Try.underlying135,by kernel_rfl,by kernel_rfl⟩ (by kernel_rfl) (by kernel_rfl) (by kernel_rfl) (by kernel_rfl) (fun _=>⟨by kernel_rfl,by kernel_rfl⟩)
theorem bB6:aU Try.prog ⟨142,.other,1,false,8,some [.dQ],false⟩:=aU.sV trivial (by kernel_rfl) (by kernel_rfl) (by kernel_rfl) (by kernel_rfl) rfl n8
theorem bB7:aU Try.prog ⟨145,(.sl 147),1,false,24,some [(.sl .full [])],false⟩:=aU.sV Try.underlying145 (by kernel_rfl) (by kernel_rfl) (by kernel_rfl) (by kernel_rfl) rfl n8
theorem bB8:aU Try.prog ⟨147,(.st [(0,9),(1,3)]),2,true,24,some [(.str []),(.int .i64 0)],true⟩:=aU.ofA ⟨_,Try.underlying147,by kernel_rfl,by kernel_rfl⟩ (by kernel_rfl) (by kernel_rfl) (by kernel_rfl) (by kernel_rfl) (fun _=>⟨by kernel_rfl,by kernel_rfl⟩)
theorem aSq:aU Try.prog ⟨152,(.sl 155),1,false,24,some [(.sl .full [])],false⟩:=aU.sV Try.underlying152 (by kernel_rfl) (by kernel_rfl) (by kernel_rfl) (by kernel_rfl) rfl n8
theorem aSr:aU Try.prog ⟨155,(.st [(0,135),(2,3)]),3,true,40,some [(.str []),(.str []),(.int .i64 0)],true⟩:=aU.ofA ⟨_,Try.underlying155,by kernel_rfl,by kernel_rfl⟩ (by kernel_rfl) (by kernel_rfl) (by kernel_rfl) (by kernel_rfl) (fun _=>⟨by kernel_rfl,by kernel_rfl⟩)
theorem aSs:aU Try.prog ⟨162,(.sl 152),1,false,24,some [(.sl .full [])],false⟩:=aU.sV Try.underlying162 (by kernel_rfl) (by kernel_rfl) (by kernel_rfl) (by kernel_rfl) rfl n8
abbrev sX:FuncId:=3
abbrev nO:FuncId:=6
abbrev oZ:FuncId:=7
abbrev p6:FuncId:=8
abbrev rQ:FuncId:=9
abbrev rH:FuncId:=10
abbrev nP:FuncId:=11
abbrev lE:FuncId:=16
abbrev a1c:FuncId:=17
abbrev uQ:FuncId:=18
abbrev uR:FuncId:=19
abbrev lZ:FuncId:=20
abbrev nQ:FuncId:=21
abbrev aCc:FuncId:=22
abbrev a3f:FuncId:=23
abbrev p7:FuncId:=24
abbrev aCd:FuncId:=25
abbrev fT:FuncId:=26
abbrev gN:FuncId:=27
abbrev kQ:FuncId:=28
abbrev mT:FuncId:=40
abbrev wP:FuncId:=42
abbrev yI:FuncId:=43
abbrev xO:FuncId:=44
abbrev wQ:FuncId:=45
abbrev lM:FuncId:=46
abbrev tF:FuncId:=47
abbrev gT:FuncId:=48
abbrev fD:FuncId:=49
abbrev eU:FuncId:=68
abbrev kJ:FuncId:=69
abbrev wR:FuncId:=70
abbrev mU:FuncId:=71
abbrev jS:FuncId:=72
abbrev jT:FuncId:=73
abbrev jU:FuncId:=74
abbrev qE:FuncId:=94
abbrev xP:FuncId:=95
abbrev gR:FuncId:=105
abbrev aEe:FuncId:=1000000
def aAv:hY:=⟨1,[.b 0 [.pl,.pl,.pl,.pl,.pl,.gr 3]],[]⟩
abbrev aEf:FuncId:=1000001
def aAw:hY:=⟨1,[.b 0 [.pl,.pl,.pl,.pl,.pl,.gr 3],.v],[]⟩
abbrev a50:FuncId:=1000002
def aEg:hY:=⟨1,[.b 0 [.pl,.pl,.pl,.pl,.pl,.gr 3],.v],[]⟩
def aAx:hY:=⟨1,[.b 0 [.pl,.pl,.pl,.pl,.pl,.gr 3]],[]⟩
def aAy:hY:=⟨1,[.b 0 [.pl,.pl,.pl,.pl,.pl,.gr 3],.v,.v],[]⟩
def a73:hY:=⟨1,[.b 0 [.pl,.pl,.pl,.pl,.pl,.gr 3],.b 0 [.pl,.gr 3,.pl]],[]⟩
def a74:hY:=⟨1,[.b 0 [.pl,.pl,.pl,.pl,.pl,.gr 3],.b 0 [.pl,.gr 3]],[]⟩
def a77:hY:=⟨1,[.b 0 [.pl,.pl,.pl,.pl,.pl,.gr 3],.b 0 [.pl,.pl,.pl]],[]⟩
def a78:hY:=⟨1,[.b 0 [.pl,.pl,.pl,.pl,.pl,.gr 3],.b 1 [.pl,.pl,.pl]],[]⟩
def a79:hY:=⟨1,[.b 0 [.pl,.pl,.pl,.pl,.pl,.gr 3],.b 2 [.pl,.pl,.pl]],[]⟩
abbrev aEh:FuncId:=1000010
def aAz:hY:=⟨1,[.b 0 [.pl,.pl,.pl,.pl,.pl,.gr 3],.v],[]⟩
def aCj:hY:=⟨1,[.b 0 [.pl,.pl,.pl,.pl,.pl,.gr 3],.v],[]⟩
def a52:hY:=⟨1,[.b 0 [.pl,.pl,.pl,.pl,.pl,.gr 3],.b 0 [.pl,.gr 3,.pl]],[]⟩
def aCk:hY:=⟨1,[.b 0 [.pl,.pl,.pl,.pl,.pl,.gr 3],.v,.v],[]⟩
def a8a:hY:=⟨1,[.b 0 [.pl,.pl,.pl,.pl,.pl,.gr 3]],[]⟩
def aA0:hY:=⟨1,[.b 0 [.pl,.pl,.pl,.pl,.pl,.gr 3]],[]⟩
def aCl:hY:=⟨1,[.b 0 [.pl,.pl,.pl,.pl,.pl,.gr 3]],[]⟩
def a54:hY:=⟨1,[.b 0 [.pl,.pl,.pl,.pl,.pl,.gr 3],.b 0 [.pl,.gr 3]],[]⟩
def aCm:hY:=⟨2,[.b 0 [.pl,.pl,.pl,.pl,.pl,.gr 3],.v],[]⟩
abbrev j8:FuncId:=1000019
def eQ:hY:=⟨1,[.v,.b 0 [.pl]],[]⟩
abbrev dO:FuncId:=1000020
def cX:hY:=⟨1,[.b 0 [.pl,.pl,.pl,.pl,.pl,.pl,.gr 3,.pl]],[]⟩
abbrev fE:FuncId:=1000021
def a3x:hY:=⟨0,[.b 0 [.pl,.pl,.pl,.pl,.pl,.pl,.gr 3,.pl],.v],[]⟩
abbrev aN:FuncId:=1000022
def dP:hY:=⟨1,[.b 0 [.pl,.pl,.pl,.pl,.pl,.pl,.gr 3,.pl],.v],[]⟩
abbrev aW:FuncId:=1000023
def cY:hY:=⟨0,[.b 0 [.pl,.pl,.pl,.pl,.pl,.pl,.gr 3,.pl],.v],[]⟩
abbrev bJ:FuncId:=1000024
def cZ:hY:=⟨1,[.b 0 [.pl,.pl,.pl,.pl,.pl,.pl,.gr 3,.pl]],[]⟩
abbrev bV:FuncId:=1000025
def dI:hY:=⟨0,[.b 0 [.pl,.pl,.pl,.pl,.pl,.pl,.gr 3,.pl],.v,.v],[]⟩
abbrev l5:FuncId:=1000026
def bH:hY:=⟨0,[.b 0 [.pl,.pl,.pl,.pl,.pl,.pl,.gr 3,.pl]],[]⟩
abbrev jV:FuncId:=1000027
def cL:hY:=⟨0,[.b 0 [.pl,.pl,.pl,.pl,.pl,.pl,.gr 3,.pl]],[]⟩
abbrev iG:FuncId:=1000028
def bW:hY:=⟨0,[.b 0 [.pl,.pl,.pl,.pl,.pl,.pl,.gr 3,.pl]],[]⟩
abbrev qP:FuncId:=1000029
def cU:hY:=⟨1,[.b 0 [.pl,.pl,.pl,.pl,.pl,.pl,.gr 3,.pl]],[]⟩
abbrev a3y:FuncId:=1000030
def iK:hY:=⟨1,[.v,.b 0 [.pl,.pl,.pl,.pl,.pl,.pl]],[]⟩
abbrev a3z:FuncId:=1000031
def iL:hY:=⟨1,[.v,.b 0 [.pl,.pl,.pl,.pl,.pl,.pl]],[]⟩
abbrev jW:FuncId:=1000032
def bI:hY:=⟨1,[.v,.b 0 [.pl,.pl,.pl,.pl,.pl,.pl]],[.one,.mR 22 1]⟩
abbrev kK:FuncId:=1000033
def bM:hY:=⟨1,[.v,.b 0 [.pl,.pl,.pl,.pl,.pl,.pl]],[.one,.mR 25 1]⟩
def bO:TT:=⟨[⟨2,(.int .i64),1,false,8,some [(.int .i64 0)],true⟩,
 ⟨3,(.int .i64),1,false,8,some [(.int .i64 0)],true⟩,
 ⟨4,.bool,1,false,1,some [(.bool false)],true⟩,
 ⟨5,(.int .u8),1,false,1,some [(.int .u8 0)],true⟩,
 ⟨9,.str,1,false,16,some [(.str [])],true⟩,
 ⟨22,(.sl 2),1,false,24,some [(.sl .full [])],false⟩,
 ⟨23,(.sl 35),1,false,24,some [(.sl .full [])],false⟩,
 ⟨27,(.st [(0,9),(1,9)]),2,true,32,some [(.str []),(.str [])],true⟩,
 ⟨29,(.st [(0,9),(1,9),(2,9)]),3,true,48,some [(.str []),(.str []),(.str [])],true⟩,
 ⟨31,(.st [(0,27),(2,9),(3,29)]),6,true,96,some [(.str []),(.str []),(.str []),(.str []),(.str []),(.str [])],true⟩,
 ⟨33,(.sl 39),1,false,24,some [(.sl .full [])],false⟩,
 ⟨35,(.st [(0,9),(1,33)]),2,true,40,some [(.str []),(.sl .full [])],true⟩,
 ⟨36,(.sl 29),1,false,24,some [(.sl .full [])],false⟩,
 ⟨37,(.sl 125),1,false,24,some [(.sl .full [])],false⟩,
 ⟨39,(.st [(0,9),(1,36),(2,37)]),3,true,64,some [(.str []),(.sl .full []),(.sl .full [])],true⟩,
 ⟨44,(.int .i64),1,false,8,some [(.int .i64 0)],true⟩,
 ⟨51,(.st [(0,9),(1,3),(2,44)]),3,true,32,some [(.str []),(.int .i64 0),(.int .i64 0)],true⟩,
 ⟨52,(.sl 51),1,false,24,some [(.sl .full [])],false⟩,
 ⟨57,(.sl 9),1,false,24,some [(.sl .full [])],false⟩,
 ⟨59,(.int .u64),1,false,8,some [(.int .u64 0)],true⟩,
 ⟨61,.other,1,false,8,none,false⟩,
 ⟨63,.other,1,false,8,none,false⟩,
 ⟨69,(.sl 97),1,false,24,some [(.sl .full [])],false⟩,
 ⟨72,.other,1,false,8,some [.dQ],false⟩,
 ⟨74,(.st [(0,69),(1,3),(2,3),(3,44),(4,3),(5,37)]),6,true,80,some [(.sl .full []),(.int .i64 0),(.int .i64 0),(.int .i64 0),(.int .i64 0),(.sl .full [])],true⟩,
 ⟨77,.other,1,false,8,some [.dQ],false⟩,
 ⟨78,(.sl 5),1,false,24,some [(.sl .full [])],false⟩,
 ⟨80,(.st [(0,77),(1,78)]),2,true,32,some [.dQ,(.sl .full [])],true⟩,
 ⟨92,.other,1,false,8,some [.dQ],false⟩,
 ⟨94,(.st [(0,69),(1,3),(2,3),(3,3),(4,3),(5,3),(6,37),(7,3)]),8,true,96,some [(.sl .full []),(.int .i64 0),(.int .i64 0),(.int .i64 0),(.int .i64 0),(.int .i64 0),(.sl .full []),(.int .i64 0)],true⟩,
 ⟨97,(.st [(0,3),(1,3),(2,9)]),3,true,32,some [(.int .i64 0),(.int .i64 0),(.str [])],true⟩,
 ⟨102,.other,1,false,8,some [.dQ],false⟩,
 ⟨110,.other,1,false,8,none,false⟩,
 ⟨111,.other,1,false,8,none,false⟩,
 ⟨118,.other,1,false,8,some [.dQ],false⟩,
 ⟨120,.other,1,false,8,some [.dQ],false⟩,
 ⟨125,(.st [(0,3),(1,9),(2,9)]),3,true,40,some [(.int .i64 0),(.str []),(.str [])],true⟩,
 ⟨127,.other,1,false,8,none,false⟩,
 ⟨128,.other,1,false,8,none,false⟩,
 ⟨129,.other,1,false,8,none,false⟩,
 ⟨131,(.st [(0,127),(1,128),(2,129)]),3,true,24,none,true⟩,
 ⟨132,(.sl 135),1,false,24,some [(.sl .full [])],false⟩,
 ⟨135,(.st [(0,9),(1,9)]),2,true,32,some [(.str []),(.str [])],true⟩,
 ⟨142,.other,1,false,8,some [.dQ],false⟩,
 ⟨145,(.sl 147),1,false,24,some [(.sl .full [])],false⟩,
 ⟨147,(.st [(0,9),(1,3)]),2,true,24,some [(.str []),(.int .i64 0)],true⟩,
 ⟨152,(.sl 155),1,false,24,some [(.sl .full [])],false⟩,
 ⟨155,(.st [(0,135),(2,3)]),3,true,40,some [(.str []),(.str []),(.int .i64 0)],true⟩,
 ⟨162,(.sl 152),1,false,24,some [(.sl .full [])],false⟩],[(1000000,(85,aAv)),(1000001,(61,aAw)),(1000002,(87,aEg)),(1000003,(60,aAx)),(1000004,(59,aAy)),(1000005,(62,a73)),(1000006,(62,a74)),(1000007,(62,a77)),(1000008,(62,a78)),(1000009,(62,a79)),(1000010,(88,aAz)),(1000011,(63,aCj)),(1000012,(90,a52)),(1000013,(102,aCk)),(1000014,(111,a8a)),(1000015,(101,aA0)),(1000016,(89,aCl)),(1000017,(64,a54)),(1000018,(33,aCm)),(1000019,(17,eQ)),(1000020,(70,cX)),(1000021,(41,a3x)),(1000022,(43,dP)),(1000023,(45,cY)),(1000024,(42,cZ)),(1000025,(95,dI)),(1000026,(105,bH)),(1000027,(94,cL)),(1000028,(72,bW)),(1000029,(44,cU)),(1000030,(22,iK)),(1000031,(25,iL)),(1000032,(21,bI)),(1000033,(24,bM))],[]⟩
theorem iO:∀ t ti,dS bO t=some ti→aU Try.prog ti∧ti.t=t:=aU.bL (aU.cons bHo (aU.cons b5q (aU.cons b5r (aU.cons b5s (aU.cons b5t (aU.cons bEk (aU.cons aY6 (aU.cons aY7 (aU.cons aY8 (aU.cons aY9 (aU.cons aZa (aU.cons aZb (aU.cons aZc (aU.cons aZd (aU.cons aZe (aU.cons aZf (aU.cons bEl (aU.cons bEm (aU.cons bEn (aU.cons bEo (aU.cons bEp (aU.cons bEq (aU.cons aZg (aU.cons bEr (aU.cons bEs (aU.cons bEt (aU.cons bEu (aU.cons bEv (aU.cons bEw (aU.cons aZh (aU.cons aZi (aU.cons bB1 (aU.cons bB2 (aU.cons bB3 (aU.cons bB4 (aU.cons bB5 (aU.cons aSj (aU.cons aSk (aU.cons aSl (aU.cons aSm (aU.cons aSn (aU.cons aSo (aU.cons aSp (aU.cons bB6 (aU.cons bB7 (aU.cons bB8 (aU.cons aSq (aU.cons aSr (aU.cons aSs (aU.nil))))))))))))))))))))))))))))))))))))))))))))))))))
end Go.Fbs

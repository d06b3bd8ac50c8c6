import Derived.Test.YtnmcilaebamncaaS2
import Derived.Test.YtnmcilaebamncaaRows
set_option linter.unusedVariables false
set_option linter.unusedSimpArgs false
set_option linter.unusedSectionVars false
namespace Go.Fbs
open Go.Proofs
theorem mixed:Try.prog.follows .mixedOrders=true:=by kernel_rfl
theorem bEe:aZ Try.prog ⟨2,(.int .i64),1,false,8,some [(.int .i64 0)],true⟩:=aZ.sZ Try.underlying2 (by kernel_rfl) (by kernel_rfl) (by kernel_rfl) (by kernel_rfl) rfl (fun _=>⟨by kernel_rfl,by kernel_rfl⟩)
theorem b0n:aZ Try.prog ⟨3,(.int .i64),1,false,8,some [(.int .i64 0)],true⟩:=aZ.sZ Try.underlying3 (by kernel_rfl) (by kernel_rfl) (by kernel_rfl) (by kernel_rfl) rfl (fun _=>⟨by kernel_rfl,by kernel_rfl⟩)
theorem b0o:aZ Try.prog ⟨4,.bool,1,false,1,some [(.bool false)],true⟩:=aZ.sZ Try.underlying4 (by kernel_rfl) (by kernel_rfl) (by kernel_rfl) (by kernel_rfl) rfl (fun _=>⟨by kernel_rfl,by kernel_rfl⟩)
theorem b0p:aZ Try.prog ⟨5,(.int .u8),1,false,1,some [(.int .u8 0)],true⟩:=aZ.sZ Try.underlying5 (by kernel_rfl) (by kernel_rfl) (by kernel_rfl) (by kernel_rfl) rfl (fun _=>⟨by kernel_rfl,by kernel_rfl⟩)
theorem b0q:aZ Try.prog ⟨9,.str,1,false,16,some [(.str [])],true⟩:=aZ.sZ Try.underlying9 (by kernel_rfl) (by kernel_rfl) (by kernel_rfl) (by kernel_rfl) rfl (fun _=>⟨by kernel_rfl,by kernel_rfl⟩)
theorem bCe:aZ Try.prog ⟨22,(.sl 2),1,false,24,some [(.sl .full [])],false⟩:=aZ.sZ Try.underlying22 (by kernel_rfl) (by kernel_rfl) (by kernel_rfl) (by kernel_rfl) rfl nI
theorem aUi:aZ Try.prog ⟨23,(.sl 35),1,false,24,some [(.sl .full [])],false⟩:=aZ.sZ Try.underlying23 (by kernel_rfl) (by kernel_rfl) (by kernel_rfl) (by kernel_rfl) rfl nI
theorem bCf:aZ Try.prog ⟨27,(.st [(0,9),(1,9)]),2,true,32,some [(.str []),(.str [])],true⟩:=aZ.ofA ⟨_,Try.underlying27,by kernel_rfl,by kernel_rfl⟩ (by kernel_rfl) (by kernel_rfl) (by kernel_rfl) (by kernel_rfl) (fun _=>⟨by kernel_rfl,by kernel_rfl⟩)
theorem aUj:aZ Try.prog ⟨29,(.st [(0,9),(1,9),(2,9)]),3,true,48,some [(.str []),(.str []),(.str [])],true⟩:=aZ.ofA ⟨_,Try.underlying29,by kernel_rfl,by kernel_rfl⟩ (by kernel_rfl) (by kernel_rfl) (by kernel_rfl) (by kernel_rfl) (fun _=>⟨by kernel_rfl,by kernel_rfl⟩)
theorem bCg:aZ Try.prog ⟨31,(.st [(0,27),(2,9),(3,29)]),6,true,96,some [(.str []),(.str []),(.str []),(.str []),(.str []),(.str [])],true⟩:=aZ.ofA ⟨_,Try.underlying31,by kernel_rfl,by kernel_rfl⟩ (by kernel_rfl) (by kernel_rfl) (by kernel_rfl) (by kernel_rfl) (fun _=>⟨by kernel_rfl,by kernel_rfl⟩)
theorem aUk:aZ Try.prog ⟨33,(.sl 39),1,false,24,some [(.sl .full [])],false⟩:=aZ.sZ Try.underlying33 (by kernel_rfl) (by kernel_rfl) (by kernel_rfl) (by kernel_rfl) rfl nI
theorem aUl:aZ Try.prog ⟨35,(.st [(0,9),(1,33)]),2,true,40,some [(.str []),(.sl .full [])],true⟩:=aZ.ofA ⟨_,Try.underlying35,by kernel_rfl,by kernel_rfl⟩ (by kernel_rfl) (by kernel_rfl) (by kernel_rfl) (by kernel_rfl) (fun _=>⟨by kernel_rfl,by kernel_rfl⟩)
theorem aUm:aZ Try.prog ⟨36,(.sl 29),1,false,24,some [(.sl .full [])],false⟩:=aZ.sZ Try.underlying36 (by kernel_rfl) (by kernel_rfl) (by kernel_rfl) (by kernel_rfl) rfl nI
theorem aUn:aZ Try.prog ⟨37,(.sl 125),1,false,24,some [(.sl .full [])],false⟩:=aZ.sZ Try.underlying37 (by kernel_rfl) (by kernel_rfl) (by kernel_rfl) (by kernel_rfl) rfl nI
theorem aUo:aZ Try.prog ⟨39,(.st [(0,9),(1,36),(2,37)]),3,true,64,some [(.str []),(.sl .full []),(.sl .full [])],true⟩:=aZ.ofA ⟨_,Try.underlying39,by kernel_rfl,by kernel_rfl⟩ (by kernel_rfl) (by kernel_rfl) (by kernel_rfl) (by kernel_rfl) (fun _=>⟨by kernel_rfl,by kernel_rfl⟩)
theorem aUp:aZ Try.prog ⟨44,(.int .i64),1,false,8,some [(.int .i64 0)],true⟩:=aZ.sZ Try.underlying44 (by kernel_rfl) (by kernel_rfl) (by kernel_rfl) (by kernel_rfl) rfl (fun _=>⟨by kernel_rfl,by kernel_rfl⟩)
theorem bCh:aZ Try.prog ⟨51,(.st [(0,9),(1,3),(2,44)]),3,true,32,some [(.str []),(.int .i64 0),(.int .i64 0)],true⟩:=aZ.ofA ⟨_,Try.underlying51,by kernel_rfl,by kernel_rfl⟩ (by kernel_rfl) (by kernel_rfl) (by kernel_rfl) (by kernel_rfl) (fun _=>⟨by kernel_rfl,by kernel_rfl⟩)
theorem bCi:aZ Try.prog ⟨52,(.sl 51),1,false,24,some [(.sl .full [])],false⟩:=aZ.sZ Try.underlying52 (by kernel_rfl) (by kernel_rfl) (by kernel_rfl) (by kernel_rfl) rfl nI
theorem aUq:aZ Try.prog ⟨57,(.sl 9),1,false,24,some [(.sl .full [])],false⟩:=aZ.sZ Try.underlying57 (by kernel_rfl) (by kernel_rfl) (by kernel_rfl) (by kernel_rfl) rfl nI
theorem aUr:aZ Try.prog ⟨59,(.int .u64),1,false,8,some [(.int .u64 0)],true⟩:=aZ.sZ Try.underlying59 (by kernel_rfl) (by kernel_rfl) (by kernel_rfl) (by kernel_rfl) rfl (fun _=>⟨by kernel_rfl,by kernel_rfl⟩)
theorem bCj:aZ Try.prog ⟨61,.other,1,false,8,none,false⟩:=aZ.ofN trivial (by kernel_rfl) (by kernel_rfl) (by kernel_rfl) nI
theorem bCk:aZ Try.prog ⟨63,.other,1,false,8,none,false⟩:=aZ.ofN trivial (by kernel_rfl) (by kernel_rfl) (by kernel_rfl) nI
theorem aUs:aZ Try.prog ⟨69,(.sl 97),1,false,24,some [(.sl .full [])],false⟩:=aZ.sZ Try.underlying69 (by kernel_rfl) (by kernel_rfl) (by kernel_rfl) (by kernel_rfl) rfl nI
theorem bCl:aZ Try.prog ⟨72,.other,1,false,8,some [.dK],false⟩:=aZ.sZ trivial (by kernel_rfl) (by kernel_rfl) (by kernel_rfl) (by kernel_rfl) rfl nI
theorem aUt:aZ Try.prog ⟨74,(.st [(0,69),(1,3),(2,3),(3,44),(4,3),(5,37)]),6,true,80,some [(.sl .full []),(.int .i64 0),(.int .i64 0),(.int .i64 0),(.int .i64 0),(.sl .full [])],true⟩:=aZ.ofA ⟨_,Try.underlying74,by kernel_rfl,by kernel_rfl⟩ (by kernel_rfl) (by kernel_rfl) (by kernel_rfl) (by kernel_rfl) (fun _=>⟨by kernel_rfl,by kernel_rfl⟩)
theorem aUu:aZ Try.prog ⟨77,.other,1,false,8,some [.dK],false⟩:=aZ.sZ trivial (by kernel_rfl) (by kernel_rfl) (by kernel_rfl) (by kernel_rfl) rfl nI
theorem aUv:aZ Try.prog ⟨78,(.sl 5),1,false,24,some [(.sl .full [])],false⟩:=aZ.sZ Try.underlying78 (by kernel_rfl) (by kernel_rfl) (by kernel_rfl) (by kernel_rfl) rfl nI
theorem aUw:aZ Try.prog ⟨80,(.st [(0,77),(1,78)]),2,true,32,some [.dK,(.sl .full [])],true⟩:=aZ.ofA ⟨_,Try.underlying80,by kernel_rfl,by kernel_rfl⟩ (by kernel_rfl) (by kernel_rfl) (by kernel_rfl) (by kernel_rfl) (fun _=>⟨by kernel_rfl,by kernel_rfl⟩)
theorem bCm:aZ Try.prog ⟨92,.other,1,false,8,some [.dK],false⟩:=aZ.sZ trivial (by kernel_rfl) (by kernel_rfl) (by kernel_rfl) (by kernel_rfl) rfl nI
theorem bCn:aZ Try.prog ⟨94,(.st [(0,69),(1,3),(2,3),(3,3),(4,3),(5,3),(6,37),(7,3)]),8,true,96,some [(.sl .full []),(.int .i64 0),(.int .i64 0),(.int .i64 0),(.int .i64 0),(.int .i64 0),(.sl .full []),(.int .i64 0)],true⟩:=aZ.ofA ⟨_,Try.underlying94,by kernel_rfl,by kernel_rfl⟩ (by kernel_rfl) (by kernel_rfl) (by kernel_rfl) (by kernel_rfl) (fun _=>⟨by kernel_rfl,by kernel_rfl⟩)
theorem aUx:aZ Try.prog ⟨97,(.st [(0,3),(1,3),(2,9)]),3,true,32,some [(.int .i64 0),(.int .i64 0),(.str [])],true⟩:=aZ.ofA ⟨_,Try.underlying97,by kernel_rfl,by kernel_rfl⟩ (by kernel_rfl) (by kernel_rfl) (by kernel_rfl) (by kernel_rfl) (fun _=>⟨by kernel_rfl,by kernel_rfl⟩)
theorem b77:aZ Try.prog ⟨102,.other,1,false,8,some [.dK],false⟩:=aZ.sZ trivial (by kernel_rfl) (by kernel_rfl) (by kernel_rfl) (by kernel_rfl) rfl nI
theorem b78:aZ Try.prog ⟨110,.other,1,false,8,none,false⟩:=aZ.ofN trivial (by kernel_rfl) (by kernel_rfl) (by kernel_rfl) nI
theorem b79:aZ Try.prog ⟨111,.other,1,false,8,none,false⟩:=aZ.ofN trivial (by kernel_rfl) (by kernel_rfl) (by kernel_rfl) nI
theorem b8a:aZ Try.prog ⟨118,.other,1,false,8,some [.dK],false⟩:=aZ.sZ trivial (by kernel_rfl) (by kernel_rfl) (by kernel_rfl) (by kernel_rfl) rfl nI
theorem b8b:aZ Try.prog ⟨120,.other,1,false,8,some [.dK],false⟩:=aZ.sZ trivial (by kernel_rfl) (by kernel_rfl) (by kernel_rfl) (by kernel_rfl) rfl nI
theorem aNg:aZ Try.prog ⟨125,(.st [(0,3),(1,9),(2,9)]),3,true,40,some [(.int .i64 0),(.str []),(.str [])],true⟩:=aZ.ofA ⟨_,Try.underlying125,by kernel_rfl,by kernel_rfl⟩ (by kernel_rfl) (by kernel_rfl) (by kernel_rfl) (by kernel_rfl) (fun _=>⟨by kernel_rfl,by kernel_rfl⟩)
theorem b8c:aZ Try.prog ⟨127,.other,1,false,8,none,false⟩:=aZ.ofN trivial (by kernel_rfl) (by kernel_rfl) (by kernel_rfl) nI
theorem b8d:aZ Try.prog ⟨128,.other,1,false,8,none,false⟩:=aZ.ofN trivial (by kernel_rfl) (by kernel_rfl) (by kernel_rfl) nI
theorem b8e:aZ Try.prog ⟨129,.other,1,false,8,none,false⟩:=aZ.ofN trivial (by kernel_rfl) (by kernel_rfl) (by kernel_rfl) nI
theorem b8f:aZ Try.prog ⟨131,(.st [(0,127),(1,128),(2,129)]),3,true,24,none,true⟩:=aZ.ofN ⟨_,Try.underlying131,by kernel_rfl,by kernel_rfl⟩ (by kernel_rfl) (by kernel_rfl) (by kernel_rfl) (fun _=>⟨by kernel_rfl,by kernel_rfl⟩)
theorem b8g:aZ Try.prog ⟨132,(.sl 135),1,false,24,some [(.sl .full [])],false⟩:=aZ.sZ Try.underlying132 (by kernel_rfl) (by kernel_rfl) (by kernel_rfl) (by kernel_rfl) rfl nI
theorem b8h:aZ Try.prog ⟨135,(.st [(0,9),(1,9)]),2,true,32,some [(.str []),(.str [])],true⟩:=aZ.ofA ⟨_,Try.underlying135,by kernel_rfl,by kernel_rfl⟩ (by kernel_rfl) (by kernel_rfl) (by kernel_rfl) (by kernel_rfl) (fun _=>⟨by kernel_rfl,by kernel_rfl⟩)
theorem b8i:aZ Try.prog ⟨142,.other,1,false,8,some [.dK],false⟩:=aZ.sZ trivial (by kernel_rfl) (by kernel_rfl) (by kernel_rfl) (by kernel_rfl) rfl nI
theorem aNi:aZ Try.prog ⟨145,(.sl 147),1,false,24,some [(.sl .full [])],false⟩:=aZ.sZ Try.underlying145 (by kernel_rfl) (by kernel_rfl) (by kernel_rfl) (by kernel_rfl) rfl nI
theorem aNj:aZ Try.prog ⟨147,(.st [(0,9),(1,3)]),2,true,24,some [(.str []),(.int .i64 0)],true⟩:=aZ.ofA ⟨_,Try.underlying147,by kernel_rfl,by kernel_rfl⟩ (by kernel_rfl) (by kernel_rfl) (by kernel_rfl) (by kernel_rfl) (fun _=>⟨by kernel_rfl,by kernel_rfl⟩)
theorem b8j:aZ Try.prog ⟨152,(.sl 155),1,false,24,some [(.sl .full [])],false⟩:=aZ.sZ Try.underlying152 (by kernel_rfl) (by kernel_rfl) (by kernel_rfl) (by kernel_rfl) rfl nI
theorem b8k:aZ Try.prog ⟨155,(.st [(0,135),(2,3)]),3,true,40,some [(.str []),(.str []),(.int .i64 0)],true⟩:=aZ.ofA ⟨_,Try.underlying155,by kernel_rfl,by kernel_rfl⟩ (by kernel_rfl) (by kernel_rfl) (by kernel_rfl) (by kernel_rfl) (fun _=>⟨by kernel_rfl,by kernel_rfl⟩)
theorem b8l:aZ Try.prog ⟨162,(.sl 152),1,false,24,some [(.sl .full [])],false⟩:=aZ.sZ Try.underlying162 (by kernel_rfl) (by kernel_rfl) (by kernel_rfl) (by kernel_rfl) rfl nI
abbrev rY:FuncId:=5
abbrev p9:FuncId:=7
abbrev oI:FuncId:=12
abbrev wS:FuncId:=13
abbrev a1w:FuncId:=17
abbrev vU:FuncId:=18
abbrev vV:FuncId:=19
abbrev uW:FuncId:=32
abbrev a4e:FuncId:=33
abbrev pO:FuncId:=57
abbrev rX:FuncId:=58
abbrev a3f:FuncId:=59
abbrev a3g:FuncId:=60
abbrev a3h:FuncId:=61
abbrev iN:FuncId:=62
abbrev a4f:FuncId:=63
abbrev yK:FuncId:=64
abbrev dT:FuncId:=81
abbrev iU:FuncId:=82
abbrev eP:FuncId:=83
abbrev rA:FuncId:=84
abbrev a3i:FuncId:=85
abbrev jH:FuncId:=86
abbrev a5o:FuncId:=87
abbrev a3j:FuncId:=88
abbrev pA:FuncId:=89
abbrev yL:FuncId:=90
abbrev gL:FuncId:=98
abbrev jG:FuncId:=99
abbrev qV:FuncId:=100
abbrev rC:FuncId:=101
abbrev a4g:FuncId:=102
abbrev mM:FuncId:=111
abbrev aM:FuncId:=1000000
def gV:n6:=⟨1,[.b 0 [.pl,.pl,.pl,.pl,.pl,.gr 3]]⟩
abbrev bQ:FuncId:=1000001
def gW:n6:=⟨1,[.b 0 [.pl,.pl,.pl,.pl,.pl,.gr 3],.v]⟩
abbrev gM:FuncId:=1000002
def iO:n6:=⟨1,[.b 0 [.pl,.pl,.pl,.pl,.pl,.gr 3],.v]⟩
abbrev wT:FuncId:=1000003
def gX:n6:=⟨1,[.b 0 [.pl,.pl,.pl,.pl,.pl,.gr 3]]⟩
abbrev j2:FuncId:=1000004
def gY:n6:=⟨1,[.b 0 [.pl,.pl,.pl,.pl,.pl,.gr 3],.v,.v]⟩
abbrev tV:FuncId:=1000005
def dO:n6:=⟨1,[.b 0 [.pl,.pl,.pl,.pl,.pl,.gr 3],.b 0 [.pl,.gr 3,.pl]]⟩
abbrev tW:FuncId:=1000006
def dP:n6:=⟨1,[.b 0 [.pl,.pl,.pl,.pl,.pl,.gr 3],.b 0 [.pl,.gr 3]]⟩
abbrev tX:FuncId:=1000007
def dQ:n6:=⟨1,[.b 0 [.pl,.pl,.pl,.pl,.pl,.gr 3],.b 0 [.pl,.pl,.pl]]⟩
abbrev tY:FuncId:=1000008
def dR:n6:=⟨1,[.b 0 [.pl,.pl,.pl,.pl,.pl,.gr 3],.b 1 [.pl,.pl,.pl]]⟩
abbrev l9:FuncId:=1000009
def dS:n6:=⟨1,[.b 0 [.pl,.pl,.pl,.pl,.pl,.gr 3],.b 2 [.pl,.pl,.pl]]⟩
abbrev hJ:FuncId:=1000010
def gZ:n6:=⟨1,[.b 0 [.pl,.pl,.pl,.pl,.pl,.gr 3],.v]⟩
abbrev bU:FuncId:=1000011
def iB:n6:=⟨1,[.b 0 [.pl,.pl,.pl,.pl,.pl,.gr 3],.v]⟩
abbrev rZ:FuncId:=1000012
def eT:n6:=⟨1,[.b 0 [.pl,.pl,.pl,.pl,.pl,.gr 3],.b 0 [.pl,.gr 3,.pl]]⟩
abbrev iG:FuncId:=1000013
def iC:n6:=⟨1,[.b 0 [.pl,.pl,.pl,.pl,.pl,.gr 3],.v,.v]⟩
abbrev pD:FuncId:=1000014
def cY:n6:=⟨1,[.b 0 [.pl,.pl,.pl,.pl,.pl,.gr 3]]⟩
abbrev oJ:FuncId:=1000015
def eW:n6:=⟨1,[.b 0 [.pl,.pl,.pl,.pl,.pl,.gr 3]]⟩
abbrev mY:FuncId:=1000016
def eR:n6:=⟨1,[.b 0 [.pl,.pl,.pl,.pl,.pl,.gr 3]]⟩
abbrev sD:FuncId:=1000017
def dN:n6:=⟨1,[.b 0 [.pl,.pl,.pl,.pl,.pl,.gr 3],.b 0 [.pl,.gr 3]]⟩
abbrev yE:FuncId:=1000018
def fZ:n6:=⟨2,[.b 0 [.pl,.pl,.pl,.pl,.pl,.gr 3],.v]⟩
abbrev kK:FuncId:=1000019
def fW:n6:=⟨1,[.v,.b 0 [.pl]]⟩
def cG:TT:=⟨[⟨2,(.int .i64),1,false,8,some [(.int .i64 0)],true⟩,
 ⟨3,(.int .i64),1,false,8,some [(.int .i64 0)],true⟩,
 ⟨4,.bool,1,false,1,some [(.bool false)],true⟩,
 ⟨5,(.int .u8),1,false,1,some [(.int .u8 0)],true⟩,
 ⟨9,.str,1,false,16,some [(.str [])],true⟩,
 ⟨22,(.sl 2),1,false,24,some [(.sl .full [])],false⟩,
 ⟨23,(.sl 35),1,false,24,some [(.sl .full [])],false⟩,
 ⟨27,(.st [(0,9),(1,9)]),2,true,32,some [(.str []),(.str [])],true⟩,
 ⟨29,(.st [(0,9),(1,9),(2,9)]),3,true,48,some [(.str []),(.str []),(.str [])],true⟩,
 ⟨31,(.st [(0,27),(2,9),(3,29)]),6,true,96,some [(.str []),(.str []),(.str []),(.str []),(.str []),(.str [])],true⟩,
 ⟨33,(.sl 39),1,false,24,some [(.sl .full [])],false⟩,
 ⟨35,(.st [(0,9),(1,33)]),2,true,40,some [(.str []),(.sl .full [])],true⟩,
 ⟨36,(.sl 29),1,false,24,some [(.sl .full [])],false⟩,
 ⟨37,(.sl 125),1,false,24,some [(.sl .full [])],false⟩,
 ⟨39,(.st [(0,9),(1,36),(2,37)]),3,true,64,some [(.str []),(.sl .full []),(.sl .full [])],true⟩,
 ⟨44,(.int .i64),1,false,8,some [(.int .i64 0)],true⟩,
 ⟨51,(.st [(0,9),(1,3),(2,44)]),3,true,32,some [(.str []),(.int .i64 0),(.int .i64 0)],true⟩,
 ⟨52,(.sl 51),1,false,24,some [(.sl .full [])],false⟩,
 ⟨57,(.sl 9),1,false,24,some [(.sl .full [])],false⟩,
 ⟨59,(.int .u64),1,false,8,some [(.int .u64 0)],true⟩,
 ⟨61,.other,1,false,8,none,false⟩,
 ⟨63,.other,1,false,8,none,false⟩,
 ⟨69,(.sl 97),1,false,24,some [(.sl .full [])],false⟩,
 ⟨72,.other,1,false,8,some [.dK],false⟩,
 ⟨74,(.st [(0,69),(1,3),(2,3),(3,44),(4,3),(5,37)]),6,true,80,some [(.sl .full []),(.int .i64 0),(.int .i64 0),(.int .i64 0),(.int .i64 0),(.sl .full [])],true⟩,
 ⟨77,.other,1,false,8,some [.dK],false⟩,
 ⟨78,(.sl 5),1,false,24,some [(.sl .full [])],false⟩,
 ⟨80,(.st [(0,77),(1,78)]),2,true,32,some [.dK,(.sl .full [])],true⟩,
 ⟨92,.other,1,false,8,some [.dK],false⟩,
 ⟨94,(.st [(0,69),(1,3),(2,3),(3,3),(4,3),(5,3),(6,37),(7,3)]),8,true,96,some [(.sl .full []),(.int .i64 0),(.int .i64 0),(.int .i64 0),(.int .i64 0),(.int .i64 0),(.sl .full []),(.int .i64 0)],true⟩,
 ⟨97,(.st [(0,3),(1,3),(2,9)]),3,true,32,some [(.int .i64 0),(.int .i64 0),(.str [])],true⟩,
 ⟨102,.other,1,false,8,some [.dK],false⟩,
 ⟨110,.other,1,false,8,none,false⟩,
 ⟨111,.other,1,false,8,none,false⟩,
 ⟨118,.other,1,false,8,some [.dK],false⟩,
 ⟨120,.other,1,false,8,some [.dK],false⟩,
 ⟨125,(.st [(0,3),(1,9),(2,9)]),3,true,40,some [(.int .i64 0),(.str []),(.str [])],true⟩,
 ⟨127,.other,1,false,8,none,false⟩,
 ⟨128,.other,1,false,8,none,false⟩,
 ⟨129,.other,1,false,8,none,false⟩,
 ⟨131,(.st [(0,127),(1,128),(2,129)]),3,true,24,none,true⟩,
 ⟨132,(.sl 135),1,false,24,some [(.sl .full [])],false⟩,
 ⟨135,(.st [(0,9),(1,9)]),2,true,32,some [(.str []),(.str [])],true⟩,
 ⟨142,.other,1,false,8,some [.dK],false⟩,
 ⟨145,(.sl 147),1,false,24,some [(.sl .full [])],false⟩,
 ⟨147,(.st [(0,9),(1,3)]),2,true,24,some [(.str []),(.int .i64 0)],true⟩,
 ⟨152,(.sl 155),1,false,24,some [(.sl .full [])],false⟩,
 ⟨155,(.st [(0,135),(2,3)]),3,true,40,some [(.str []),(.str []),(.int .i64 0)],true⟩,
 ⟨162,(.sl 152),1,false,24,some [(.sl .full [])],false⟩],[(1000000,(85,gV)),(1000001,(61,gW)),(1000002,(87,iO)),(1000003,(60,gX)),(1000004,(59,gY)),(1000005,(62,dO)),(1000006,(62,dP)),(1000007,(62,dQ)),(1000008,(62,dR)),(1000009,(62,dS)),(1000010,(88,gZ)),(1000011,(63,iB)),(1000012,(90,eT)),(1000013,(102,iC)),(1000014,(111,cY)),(1000015,(101,eW)),(1000016,(89,eR)),(1000017,(64,dN)),(1000018,(33,fZ)),(1000019,(17,fW))],[]⟩
theorem kJ:∀ t ti,eX cG t=some ti→aZ Try.prog ti∧ti.t=t:=aZ.bO (aZ.cons bEe (aZ.cons b0n (aZ.cons b0o (aZ.cons b0p (aZ.cons b0q (aZ.cons bCe (aZ.cons aUi (aZ.cons bCf (aZ.cons aUj (aZ.cons bCg (aZ.cons aUk (aZ.cons aUl (aZ.cons aUm (aZ.cons aUn (aZ.cons aUo (aZ.cons aUp (aZ.cons bCh (aZ.cons bCi (aZ.cons aUq (aZ.cons aUr (aZ.cons bCj (aZ.cons bCk (aZ.cons aUs (aZ.cons bCl (aZ.cons aUt (aZ.cons aUu (aZ.cons aUv (aZ.cons aUw (aZ.cons bCm (aZ.cons bCn (aZ.cons aUx (aZ.cons b77 (aZ.cons b78 (aZ.cons b79 (aZ.cons b8a (aZ.cons b8b (aZ.cons aNg (aZ.cons b8c (aZ.cons b8d (aZ.cons b8e (aZ.cons b8f (aZ.cons b8g (aZ.cons b8h (aZ.cons b8i (aZ.cons aNi (aZ.cons aNj (aZ.cons b8j (aZ.cons b8k (aZ.cons b8l (aZ.nil))))))))))))))))))))))))))))))))))))))))))))))))))
end Go.Fbs

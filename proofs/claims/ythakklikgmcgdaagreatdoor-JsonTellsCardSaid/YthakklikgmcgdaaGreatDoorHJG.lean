import Derived.Test.YthakklikgmcgdaaGreatDoorHJL
set_option linter.unusedSimpArgs false
set_option linter.unusedVariables false
set_option linter.unusedSectionVars false
namespace Go.Fbs
open Go.Proofs
abbrev bO:FuncId:=1000000
def cC:gY:=⟨0,[.b 0 [.pl,.pl,.pl,.pl,.pl]],[]⟩
abbrev aG:FuncId:=1000001
def cP:gY:=⟨1,[.b 0 [.pl,.pl,.pl,.pl,.pl],.v],[]⟩
abbrev aQ:FuncId:=1000002
def cG:gY:=⟨0,[.b 0 [.pl,.pl,.pl,.pl,.pl],.v,.v],[]⟩
abbrev cQ:FuncId:=1000003
def cH:gY:=⟨0,[.b 0 [.pl,.pl,.pl,.pl,.pl],.v],[]⟩
abbrev bJ:FuncId:=1000004
def bV:gY:=⟨0,[.b 0 [.pl,.pl,.pl,.pl,.pl]],[]⟩
abbrev jH:FuncId:=1000005
def bW:gY:=⟨1,[.b 0 [.pl,.pl,.pl,.pl,.pl]],[]⟩
abbrev lW:FuncId:=1000006
def bY:gY:=⟨1,[.b 0 [.pl,.pl,.pl,.pl,.pl]],[]⟩
abbrev gM:FuncId:=1000007
def cI:gY:=⟨1,[.b 0 [.pl,.pl,.pl,.pl,.pl]],[]⟩
abbrev jZ:FuncId:=1000008
def cJ:gY:=⟨1,[.b 0 [.pl,.pl,.pl,.pl,.pl],.v],[]⟩
abbrev gG:FuncId:=1000009
def bQ:gY:=⟨1,[.b 0 [.pl,.pl,.pl,.pl,.pl]],[]⟩
def mG:TT:=⟨[⟨1,.other,1,false,8,none,false⟩,
 ⟨2,(.int .i64),1,false,8,some [(.int .i64 0)],true⟩,
 ⟨3,(.int .i64),1,false,8,some [(.int .i64 0)],true⟩,
 ⟨4,.bool,1,false,1,some [(.bool false)],true⟩,
 ⟨5,(.int .u8),1,false,1,some [(.int .u8 0)],true⟩,
 ⟨9,.str,1,false,16,some [(.str [])],true⟩,
 ⟨23,(.sl 9),1,false,24,some [(.sl .full [])],false⟩,
 ⟨24,(.int .u64),1,false,8,some [(.int .u64 0)],true⟩,
 ⟨25,(.sl 27),1,false,24,some [(.sl .full [])],false⟩,
 ⟨27,(.st [(0,3),(1,9),(2,23),(3,25)]),4,true,72,some [(.int .i64 0),(.str []),(.sl .full []),(.sl .full [])],true⟩,
 ⟨28,(.int .i64),1,false,8,some [(.int .i64 0)],true⟩,
 ⟨35,(.sl 2),1,false,24,some [(.sl .full [])],false⟩,
 ⟨43,(.sl 5),1,false,24,some [(.sl .full [])],false⟩,
 ⟨48,.other,1,false,8,some [.nilp],false⟩,
 ⟨50,(.st [(0,9),(1,3),(2,3),(3,28),(4,3)]),5,true,48,some [(.str []),(.int .i64 0),(.int .i64 0),(.int .i64 0),(.int .i64 0)],true⟩,
 ⟨53,.other,1,false,8,some [.nilp],false⟩,
 ⟨55,(.st [(0,53),(1,43)]),2,true,32,some [.nilp,(.sl .full [])],true⟩,
 ⟨58,.other,1,false,8,some [.nilp],false⟩,
 ⟨60,(.st [(0,9),(1,3),(2,3),(3,3),(4,3)]),5,true,48,some [(.str []),(.int .i64 0),(.int .i64 0),(.int .i64 0),(.int .i64 0)],true⟩,
 ⟨74,.other,1,false,8,none,false⟩,
 ⟨88,.other,1,false,8,none,false⟩],[(1000000,(22,cC)),(1000001,(44,cP)),(1000002,(24,cG)),(1000003,(45,cH)),(1000004,(61,bV)),(1000005,(48,bW)),(1000006,(60,bY)),(1000007,(46,cI)),(1000008,(47,cJ)),(1000009,(23,bQ))],[]⟩
theorem yL:∀ t ti,cK mG t=some ti→bG Tryz.prog ti∧ti.t=t:=bG.bD (bG.cons b1a (bG.cons b1b (bG.cons b1c (bG.cons b1d (bG.cons b1e (bG.cons b1f (bG.cons aXp (bG.cons aXq (bG.cons aXr (bG.cons aXs (bG.cons aXt (bG.cons aXu (bG.cons aXv (bG.cons aXw (bG.cons aXx (bG.cons aXy (bG.cons aXz (bG.cons aX0 (bG.cons aX1 (bG.cons aX2 (bG.cons aX3 (bG.nil))))))))))))))))))))))
end Go.Fbs

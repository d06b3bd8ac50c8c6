/- Schemas read: Parse: told. -/
import Derived.Test.YtnmcilaebamncaaKJ
set_option maxRecDepth 100000
namespace Go.Fbs
open Go.Proofs
attribute [local irreducible] cN bX opt aMp uM aO8 aMq a3m aO9 bHp
theorem bHq (l:List iH):iJ (cQ l)=some (cQ l):=nr rfl
theorem bBs (a b c:V):hJ 2 (.aM [a,b,c])=some (.aM [a,b]):=nr rfl
end Go.Fbs

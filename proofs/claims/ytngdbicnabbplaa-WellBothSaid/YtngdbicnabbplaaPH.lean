import Derived.Test.YtngdbicnabbplaaPG
import Derived.Test.YtngdbicnabbplaaPA
set_option linter.unusedSimpArgs false
set_option linter.unusedVariables false
set_option linter.unusedSectionVars false
set_option maxRecDepth 100000
namespace Go.Fbs
open Go.Proofs Go.RowKit Go.Maps
variable {w w':World}
end Go.Fbs

namespace Go.Fbs
open Go.Proofs
end Go.Fbs

namespace Go.Fbs
inductive Tr where
 | nm (a:List UInt8)
 | ar (a b:List UInt8)
 | op (k:Int) (x y:Tr)
def Tr.ok:Tr→Prop
 | .nm _=>True
 | .ar _ _=>True
 | .op k x y=>(3≤k∧k≤5)∧x.ok∧y.ok
def Tr.steps:Tr→List cV
 | .nm a=>[(1,a,[])]
 | .ar a b=>[(2,a,b)]
 | .op k x y=>x.steps++(y.steps++[(k,[],[])])
end Go.Fbs

namespace Go.Fbs
open Go.Proofs Go.RowKit Go.Maps
variable {w w':World}
end Go.Fbs

namespace Go.Fbs
open Go.Proofs Go.RowKit Go.Maps
variable {w w':World}
abbrev Dy:=B8×B8×Bool
def bH7 (ss:List Sub):List Dy:=(ss.filter fun s=>!s.2.2.isEmpty).map fun s=>(s.1,s.2.2,false)
def a1t:Option cV→Bool
 | some x=>decide (x.1=4)
 | none=>false
def aDy (xs : List cV) (bg : Nat → Nat) (i j : Nat) : Bool:=(List.range i).any fun p=>a1t xs[p]? && decide (bg p ≤ j) && decide (j < p)
def aDz (l:List TM) (typ:B8) (x:cV) (b:Bool):List Dy :=
 if x.1=1 then [(typ,x.2.1,b)] else if x.1=2 then (typ,x.2.1,b)::(qC l typ x.2.1).map fun s=>(s.1,x.2.2,b) else []
def aVs (l:List TM) (typ:B8) (xs:List cV) (f:Nat→Bool):List Dy:=(xs.zipIdx).flatMap fun p=>aDz l typ p.1 (f p.2)
def b2h (l:List TM) (typ:B8) (r:RM) (bg:Nat→Nat):List Dy:=bH7 r.aR++aVs l typ r.steps (aDy r.steps bg r.steps.length)
end Go.Fbs

/- Schemas read: factors, terms, sums: told. -/
import Derived.Test.YtnmcilaebamncaaKD
set_option maxRecDepth 100000
namespace Go.Fbs
open Go.Proofs
def okF (f:Nat) (s:gP):Prop:=s.d≤20∧21≤s.d+f
noncomputable def aO8 (f:Nat):Spec:=iA (fun s:gP=>[vSt s]) (okF f) (fun s=>.aM [.bool (aO7 (aK5 (uM f)) s).1,vSt (aO7 (aK5 (uM f)) s).2])
end Go.Fbs

/- Schemas read: names into boxes; steps. -/
import Derived.Test.YtnmcilaebamncaaKB
set_option maxRecDepth 100000
namespace Go.Fbs
open Go.Proofs
theorem b5v {s:gP} (h:a9b (mM s)=true):a4y s=(true,rS s,some (mM s).2.2):=by simp [a4y,h]
theorem aV2 (l:List zV):(l.map tW).all (fun e=>e.cells.length == 3)=true:=by simp [tW,V.cells]
end Go.Fbs

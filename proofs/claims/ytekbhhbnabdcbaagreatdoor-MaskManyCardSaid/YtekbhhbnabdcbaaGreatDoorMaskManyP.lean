/- Closed runs of MaskMany: what is run. -/
import Derived.Test.YtekbhhbnabdcbaaGreatDoorMaskT
set_option linter.unusedVariables false
set_option linter.unusedSimpArgs false
set_option linter.unusedSectionVars false
set_option maxRecDepth 100000
namespace Go.Rx
open Go.Proofs
noncomputable def mw (i : Nat) (p q : Bool) : List RV := [.sym (.node [(.and, 15, .val (.ofNat i))]), .bool p, .bool q]
noncomputable def mRun (i : Nat) (p q : Bool) : Bool := (funW tyT ftW 100000 100 3 (mw i p q) ⟨0, .e⟩).isTrue
end Go.Rx

/- Closed runs of ScheBinds: what is run. -/
import Derived.Test.YtekbhhbnabdcbaaScheT
set_option linter.unusedVariables false
set_option linter.unusedSimpArgs false
set_option linter.unusedSectionVars false
set_option maxRecDepth 100000
namespace Go.Rx
open Go.Proofs
noncomputable def bw (i j a b c : Nat) : List RV := [.sym (.node [(.and, 255, .node [(.rem, 5, .val (.ofNat i))]), (.and, 1, .val (.ofNat j))]), .sym (.node [(.and, 3, .val (.ofNat a))]), .sym (.node [(.and, 3, .val (.ofNat b))]), .sym (.node [(.and, 3, .val (.ofNat c))])]
noncomputable def bRun (i j a b c : Nat) : Bool := (funW tyT ftW 100000 100 3 (bw i j a b c) ⟨0, .e⟩).isTrue
end Go.Rx

/- Closed runs: the run that the law ends in. -/
import Derived.Test.YtnmcilaebamncaaFoF
set_option maxRecDepth 100000
namespace Go.Rx
open Go.Proofs
theorem bGp:(aL9 bO ftT 100000 100 11 [] ⟨0,.e⟩).isTrue=true:=by kernel_rfl
theorem b21:∃ H1,a2f Try.prog 11 [] ⟨0,.e⟩ (.bool true) H1:=@b8v Try.prog bO ftT 100000 100 11 [] iO mixed bH2 bGp
end Go.Rx

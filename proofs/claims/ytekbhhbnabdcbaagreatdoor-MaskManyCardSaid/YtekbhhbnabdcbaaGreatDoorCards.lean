/-
  DERIVED. GIVEN WITH THE SEED: THE CARDS: each row of YtekbhhbnabdcbaaGreatDoorRows.lean that lists a variable, with what it lists TIED to the program's text (the seventh form; the later family's looks); each row that meets fmt, with fmt's text TOLD by the authors' own Lean function (tested against real Go, not proved from fmt's source: count such statements apart). THE CARD IS WHAT COUNTS. Prove the row's statement (the work); the ties are given (YtekbhhbnabdcbaaGreatDoorTie.lean); close each card by the builder's one call (the guide's Derived/Test/ToyasCard.lean, 'card_holds'). Laid BY PROGRAM, IN A SANDBOX (cutbox-door.mjs). By AI agents, Wed Nov 11 2026. No macro, syntax, notation, axiom, sorry.
-/
import Derived.Test.YtekbhhbnabdcbaaGreatDoorRows
import GoSem.ClaimSeven
namespace Go.Proofs.YtekbhhbnabdcbaaGreatDoor
namespace Rows

/-- THE TIED CARD OF 'entaillaw18.MaskMany'. -/
def maskManyCard : Claim7 := { stood := { row := maskManyRow, standIns := [], harness := (true, "85d662882f7c120a345e129ef21d10be5dd815be78a3d794b925a61af38f2766"), looks := false }, kinds := [], alts := [], laidByText := true, laidKinds := [.data, .pinned], laidTests := true, laidLooks := .later }
def MaskManyCardSaid : Prop := Claim7.holds Tryz.pinned (.plain (OpenSpec.ofChange maskManySpec)) maskManyCard

/-- THE SECOND FORM's CARD OF 'entaillaw18.MaskMany'. -/
def maskManyUptoCard : Claim7 := { stood := { row := maskManyUptoRow, standIns := [], harness := (true, "85d662882f7c120a345e129ef21d10be5dd815be78a3d794b925a61af38f2766"), looks := false }, kinds := [], alts := [], laidByText := true, laidKinds := [.data, .pinned], laidTests := true, laidLooks := .later }
def MaskManyUptoCardSaid : Prop := Claim7.holds Tryz.pinned (.plain (OpenSpec.upto maskManySpec)) maskManyUptoCard
end Rows
end Go.Proofs.YtekbhhbnabdcbaaGreatDoor

/-
  DERIVED. GIVEN WITH THE SEED: THE CARDS: each row of YtadggafaofkmpaaGreatDoorRows.lean that lists a variable, with what it lists TIED to the program's text (the seventh form; the later family's looks); each row that meets fmt, with fmt's text TOLD by the authors' own Lean function (tested against real Go, not proved from fmt's source: count such statements apart). THE CARD IS WHAT COUNTS. Prove the row's statement (the work); the ties are given (YtadggafaofkmpaaGreatDoorTie.lean); close each card by the builder's one call (the guide's Derived/Test/ToyasCard.lean, 'card_holds'). Laid BY PROGRAM, IN A SANDBOX (cutbox-door.mjs). By AI agents, Wed Nov 11 2026. No macro, syntax, notation, axiom, sorry.
-/
import Derived.Test.YtadggafaofkmpaaGreatDoorRows
import GoSem.ClaimSeven
namespace Go.Proofs.YtadggafaofkmpaaGreatDoor
namespace Rows

/-- THE TIED CARD OF 'entaillaw26.FronErrors'. -/
def fronErrorsCard : Claim7 := { stood := { row := fronErrorsRow, standIns := [], harness := (true, "9bcd515a0dd7f660eedfb3d7aa8eb32afe24db2729946992bcd26351db5932cd"), looks := true }, kinds := [], alts := [], laidByText := true, laidKinds := [.pinned, .data, .sentinel, .sentinel, .data, .data, .data, .pinned], laidTests := true, laidLooks := .later }
def FronErrorsCardSaid : Prop := Claim7.holds Tryz.pinned (.plain (OpenSpec.ofChange fronErrorsSpec)) fronErrorsCard

/-- THE SECOND FORM's CARD OF 'entaillaw26.FronErrors'. -/
def fronErrorsUptoCard : Claim7 := { stood := { row := fronErrorsUptoRow, standIns := [], harness := (true, "9bcd515a0dd7f660eedfb3d7aa8eb32afe24db2729946992bcd26351db5932cd"), looks := true }, kinds := [], alts := [], laidByText := true, laidKinds := [.pinned, .data, .sentinel, .sentinel, .data, .data, .data, .pinned], laidTests := true, laidLooks := .later }
def FronErrorsUptoCardSaid : Prop := Claim7.holds Tryz.pinned (.plain (OpenSpec.upto fronErrorsSpec)) fronErrorsUptoCard
end Rows
end Go.Proofs.YtadggafaofkmpaaGreatDoor

/-
  DERIVED. GIVEN WITH THE SEED: THE CARDS: each row of YtknpmfnhkiknkaaGreatDoorRows.lean that lists a variable, with what it lists TIED to the program's text (the seventh form; the later family's looks); each row that meets fmt, with fmt's text TOLD by the authors' own Lean function (tested against real Go, not proved from fmt's source: count such statements apart). THE CARD IS WHAT COUNTS. Prove the row's statement (the work); the ties are given (YtknpmfnhkiknkaaGreatDoorTie.lean); close each card by the builder's one call (the guide's Derived/Test/ToyasCard.lean, 'card_holds'). Laid BY PROGRAM, IN A SANDBOX (cutbox-door.mjs). By AI agents, Wed Nov 11 2026. No macro, syntax, notation, axiom, sorry.
-/
import Derived.Test.YtknpmfnhkiknkaaGreatDoorRows
import GoSem.ClaimSeven
namespace Go.Proofs.YtknpmfnhkiknkaaGreatDoor
namespace Rows

/-- THE TIED CARD OF 'entaillaw22.JsonForms'. -/
def jsonFormsCard : Claim7 := { stood := { row := jsonFormsRow, standIns := [], harness := (true, "c2c3466bac8577cf6ec937626d04a5b65e775b400dd31604ae21a17ddd3cbbb9"), looks := true }, kinds := [], alts := [], laidByText := true, laidKinds := [.data, .data, .data, .data, .sentinel, .sentinel, .pinned, .pinned], laidTests := true, laidLooks := .later }
def JsonFormsCardSaid : Prop := Claim7.holds Tryz.pinned (.plain (OpenSpec.ofChange jsonFormsSpec)) jsonFormsCard

/-- THE SECOND FORM's CARD OF 'entaillaw22.JsonForms'. -/
def jsonFormsUptoCard : Claim7 := { stood := { row := jsonFormsUptoRow, standIns := [], harness := (true, "c2c3466bac8577cf6ec937626d04a5b65e775b400dd31604ae21a17ddd3cbbb9"), looks := true }, kinds := [], alts := [], laidByText := true, laidKinds := [.data, .data, .data, .data, .sentinel, .sentinel, .pinned, .pinned], laidTests := true, laidLooks := .later }
def JsonFormsUptoCardSaid : Prop := Claim7.holds Tryz.pinned (.plain (OpenSpec.upto jsonFormsSpec)) jsonFormsUptoCard
end Rows
end Go.Proofs.YtknpmfnhkiknkaaGreatDoor

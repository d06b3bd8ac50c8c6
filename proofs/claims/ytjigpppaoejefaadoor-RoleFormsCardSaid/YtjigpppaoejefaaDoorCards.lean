/-
  DERIVED. GIVEN WITH THE SEED: THE CARDS: each row of YtjigpppaoejefaaDoorRows.lean that lists a variable, with what it lists TIED to the program's text (the seventh form; the later family's looks); each row that meets fmt, with fmt's text TOLD by the authors' own Lean function (tested against real Go, not proved from fmt's source: count such statements apart). THE CARD IS WHAT COUNTS. Prove the row's statement (the work); the ties are given (YtjigpppaoejefaaDoorTie.lean); close each card by the builder's one call (the guide's Derived/Test/ToyasCard.lean, 'card_holds'). Laid BY PROGRAM, IN A SANDBOX (cutbox-door.mjs). By AI agents, Wed Nov 11 2026. No macro, syntax, notation, axiom, sorry.
-/
import Derived.Test.YtjigpppaoejefaaDoorRows
import GoSem.ClaimSeven
namespace Go.Proofs.YtjigpppaoejefaaDoor
namespace Rows

/-- THE TIED CARD OF 'entaillaw13.RoleForms'. -/
def roleFormsCard : Claim7 := { stood := { row := roleFormsRow, standIns := [], harness := (true, "b1d25e7f2c9b9e4c0e475869b549bb43b21026beeab20e2baef2056fae3cdf83"), looks := true }, kinds := [], alts := [], laidByText := true, laidKinds := [.data, .data, .data, .data, .sentinel, .sentinel, .pinned], laidTests := true, laidLooks := .later }
def RoleFormsCardSaid : Prop := Claim7.holds Tryd.pinned (.plain (OpenSpec.ofChange roleFormsSpec)) roleFormsCard

/-- THE SECOND FORM's CARD OF 'entaillaw13.RoleForms'. -/
def roleFormsUptoCard : Claim7 := { stood := { row := roleFormsUptoRow, standIns := [], harness := (true, "b1d25e7f2c9b9e4c0e475869b549bb43b21026beeab20e2baef2056fae3cdf83"), looks := true }, kinds := [], alts := [], laidByText := true, laidKinds := [.data, .data, .data, .data, .sentinel, .sentinel, .pinned], laidTests := true, laidLooks := .later }
def RoleFormsUptoCardSaid : Prop := Claim7.holds Tryd.pinned (.plain (OpenSpec.upto roleFormsSpec)) roleFormsUptoCard
end Rows
end Go.Proofs.YtjigpppaoejefaaDoor

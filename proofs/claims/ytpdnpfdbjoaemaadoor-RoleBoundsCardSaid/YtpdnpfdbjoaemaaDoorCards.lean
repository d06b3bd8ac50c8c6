/-
  DERIVED. GIVEN WITH THE SEED: THE CARDS: each row of YtpdnpfdbjoaemaaDoorRows.lean that lists a variable, with what it lists TIED to the program's text (the seventh form; the later family's looks); each row that meets fmt, with fmt's text TOLD by the authors' own Lean function (tested against real Go, not proved from fmt's source: count such statements apart). THE CARD IS WHAT COUNTS. Prove the row's statement (the work); the ties are given (YtpdnpfdbjoaemaaDoorTie.lean); close each card by the builder's one call (the guide's Derived/Test/ToyasCard.lean, 'card_holds'). Laid BY PROGRAM, IN A SANDBOX (cutbox-door.mjs). By AI agents, Wed Nov 11 2026. No macro, syntax, notation, axiom, sorry.
-/
import Derived.Test.YtpdnpfdbjoaemaaDoorRows
import GoSem.ClaimSeven
namespace Go.Proofs.YtpdnpfdbjoaemaaDoor
namespace Rows

/-- THE TIED CARD OF 'entaillaw13.RoleBounds'. -/
def roleBoundsCard : Claim7 := { stood := { row := roleBoundsRow, standIns := [], harness := (true, "ab82cca8fc9c229d361f40ef5d1f8cf32aada0cff14f56267acf37c6b60000f6"), looks := true }, kinds := [], alts := [], laidByText := true, laidKinds := [.data, .data, .data, .data, .sentinel, .sentinel, .pinned], laidTests := true, laidLooks := .later }
def RoleBoundsCardSaid : Prop := Claim7.holds Tryd.pinned (.plain (OpenSpec.ofChange roleBoundsSpec)) roleBoundsCard

/-- THE SECOND FORM's CARD OF 'entaillaw13.RoleBounds'. -/
def roleBoundsUptoCard : Claim7 := { stood := { row := roleBoundsUptoRow, standIns := [], harness := (true, "ab82cca8fc9c229d361f40ef5d1f8cf32aada0cff14f56267acf37c6b60000f6"), looks := true }, kinds := [], alts := [], laidByText := true, laidKinds := [.data, .data, .data, .data, .sentinel, .sentinel, .pinned], laidTests := true, laidLooks := .later }
def RoleBoundsUptoCardSaid : Prop := Claim7.holds Tryd.pinned (.plain (OpenSpec.upto roleBoundsSpec)) roleBoundsUptoCard
end Rows
end Go.Proofs.YtpdnpfdbjoaemaaDoor

/-
  DERIVED. GIVEN WITH THE SEED: THE CARDS: each row of YtpdnpfdbjoaemaaGreatDoorRows.lean that lists a variable, with what it lists TIED to the program's text (the seventh form; the later family's looks); each row that meets fmt, with fmt's text TOLD by the authors' own Lean function (tested against real Go, not proved from fmt's source: count such statements apart). THE CARD IS WHAT COUNTS. Prove the row's statement (the work); the ties are given (YtpdnpfdbjoaemaaGreatDoorTie.lean); close each card by the builder's one call (the guide's Derived/Test/ToyasCard.lean, 'card_holds'). Laid BY PROGRAM, IN A SANDBOX (cutbox-door.mjs). By AI agents, Wed Nov 11 2026. No macro, syntax, notation, axiom, sorry.
-/
import Derived.Test.YtpdnpfdbjoaemaaGreatDoorRows
import GoSem.ClaimSeven
namespace Go.Proofs.YtpdnpfdbjoaemaaGreatDoor
namespace Rows

/-- THE TIED CARD OF 'entaillaw13.RoleTells'. -/
def roleTellsCard : Claim7 := { stood := { row := roleTellsRow, standIns := [], harness := (true, "668fd0b40541ae816ba779a581f65c0f722e00e6df04be3f9073d1e247a7940e"), looks := true }, kinds := [], alts := [], laidByText := true, laidKinds := [.data, .data, .data, .data, .sentinel, .sentinel, .pinned], laidTests := true, laidLooks := .later }
def RoleTellsCardSaid : Prop := Claim7.holds Tryz.pinned (.plain (OpenSpec.ofChange roleTellsSpec)) roleTellsCard

/-- THE TIED CARD OF 'entaillaw13.RoleBack'. -/
def roleBackCard : Claim7 := { stood := { row := roleBackRow, standIns := [], harness := (true, "668fd0b40541ae816ba779a581f65c0f722e00e6df04be3f9073d1e247a7940e"), looks := true }, kinds := [], alts := [], laidByText := true, laidKinds := [.data, .data, .data, .data, .sentinel, .sentinel, .pinned], laidTests := true, laidLooks := .later }
def RoleBackCardSaid : Prop := Claim7.holds Tryz.pinned (.plain (OpenSpec.ofChange roleBackSpec)) roleBackCard

/-- THE SECOND FORM's CARD OF 'entaillaw13.RoleTells'. -/
def roleTellsUptoCard : Claim7 := { stood := { row := roleTellsUptoRow, standIns := [], harness := (true, "668fd0b40541ae816ba779a581f65c0f722e00e6df04be3f9073d1e247a7940e"), looks := true }, kinds := [], alts := [], laidByText := true, laidKinds := [.data, .data, .data, .data, .sentinel, .sentinel, .pinned], laidTests := true, laidLooks := .later }
def RoleTellsUptoCardSaid : Prop := Claim7.holds Tryz.pinned (.plain (OpenSpec.upto roleTellsSpec)) roleTellsUptoCard

/-- THE SECOND FORM's CARD OF 'entaillaw13.RoleBack'. -/
def roleBackUptoCard : Claim7 := { stood := { row := roleBackUptoRow, standIns := [], harness := (true, "668fd0b40541ae816ba779a581f65c0f722e00e6df04be3f9073d1e247a7940e"), looks := true }, kinds := [], alts := [], laidByText := true, laidKinds := [.data, .data, .data, .data, .sentinel, .sentinel, .pinned], laidTests := true, laidLooks := .later }
def RoleBackUptoCardSaid : Prop := Claim7.holds Tryz.pinned (.plain (OpenSpec.upto roleBackSpec)) roleBackUptoCard
end Rows
end Go.Proofs.YtpdnpfdbjoaemaaGreatDoor

/-
  DERIVED. GIVEN WITH THE SEED: THE CARDS: each row of YtpnflpbamlbpeaaGreatDoorRows.lean that lists a variable, with what it lists TIED to the program's text (the seventh form; the later family's looks); each row that meets fmt, with fmt's text TOLD by the authors' own Lean function (tested against real Go, not proved from fmt's source: count such statements apart). THE CARD IS WHAT COUNTS. Prove the row's statement (the work); the ties are given (YtpnflpbamlbpeaaGreatDoorTie.lean); close each card by the builder's one call (the guide's Derived/Test/ToyasCard.lean, 'card_holds'). Laid BY PROGRAM, IN A SANDBOX (cutbox-door.mjs). By AI agents, Wed Nov 11 2026. No macro, syntax, notation, axiom, sorry.
-/
import Derived.Test.YtpnflpbamlbpeaaGreatDoorRows
import GoSem.ClaimSeven
namespace Go.Proofs.YtpnflpbamlbpeaaGreatDoor
namespace Rows

/-- THE TIED CARD OF 'entaillaw18.MaskMask'. -/
def maskMaskCard : Claim7 := { stood := { row := maskMaskRow, standIns := [], harness := (true, "ccc548cc5ae8c3b4a6c0003b276131eefea12f4469f29ac9fb3efd98dc88189e"), looks := false }, kinds := [], alts := [], laidByText := true, laidKinds := [.data, .pinned], laidTests := true, laidLooks := .later }
def MaskMaskCardSaid : Prop := Claim7.holds Tryz.pinned (.plain (OpenSpec.ofChange maskMaskSpec)) maskMaskCard

/-- THE TIED CARD OF 'entaillaw18.MaskNormal'. -/
def maskNormalCard : Claim7 := { stood := { row := maskNormalRow, standIns := [], harness := (true, "ccc548cc5ae8c3b4a6c0003b276131eefea12f4469f29ac9fb3efd98dc88189e"), looks := false }, kinds := [], alts := [], laidByText := true, laidKinds := [.data, .pinned], laidTests := true, laidLooks := .later }
def MaskNormalCardSaid : Prop := Claim7.holds Tryz.pinned (.plain (OpenSpec.ofChange maskNormalSpec)) maskNormalCard

/-- THE SECOND FORM's CARD OF 'entaillaw18.MaskMask'. -/
def maskMaskUptoCard : Claim7 := { stood := { row := maskMaskUptoRow, standIns := [], harness := (true, "ccc548cc5ae8c3b4a6c0003b276131eefea12f4469f29ac9fb3efd98dc88189e"), looks := false }, kinds := [], alts := [], laidByText := true, laidKinds := [.data, .pinned], laidTests := true, laidLooks := .later }
def MaskMaskUptoCardSaid : Prop := Claim7.holds Tryz.pinned (.plain (OpenSpec.upto maskMaskSpec)) maskMaskUptoCard

/-- THE SECOND FORM's CARD OF 'entaillaw18.MaskNormal'. -/
def maskNormalUptoCard : Claim7 := { stood := { row := maskNormalUptoRow, standIns := [], harness := (true, "ccc548cc5ae8c3b4a6c0003b276131eefea12f4469f29ac9fb3efd98dc88189e"), looks := false }, kinds := [], alts := [], laidByText := true, laidKinds := [.data, .pinned], laidTests := true, laidLooks := .later }
def MaskNormalUptoCardSaid : Prop := Claim7.holds Tryz.pinned (.plain (OpenSpec.upto maskNormalSpec)) maskNormalUptoCard
end Rows
end Go.Proofs.YtpnflpbamlbpeaaGreatDoor

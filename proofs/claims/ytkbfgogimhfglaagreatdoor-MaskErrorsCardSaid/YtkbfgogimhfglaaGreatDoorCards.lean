/-
  DERIVED. GIVEN WITH THE SEED: THE CARDS: each row of YtkbfgogimhfglaaGreatDoorRows.lean that lists a variable, with what it lists TIED to the program's text (the seventh form; the later family's looks); each row that meets fmt, with fmt's text TOLD by the authors' own Lean function (tested against real Go, not proved from fmt's source: count such statements apart). THE CARD IS WHAT COUNTS. Prove the row's statement (the work); the ties are given (YtkbfgogimhfglaaGreatDoorTie.lean); close each card by the builder's one call (the guide's Derived/Test/ToyasCard.lean, 'card_holds'). Laid BY PROGRAM, IN A SANDBOX (cutbox-door.mjs). By AI agents, Wed Nov 11 2026. No macro, syntax, notation, axiom, sorry.
-/
import Derived.Test.YtkbfgogimhfglaaGreatDoorRows
import GoSem.ClaimSeven
namespace Go.Proofs.YtkbfgogimhfglaaGreatDoor
namespace Rows

/-- THE TIED CARD OF 'entaillaw22.JsonForms'. -/
def jsonFormsCard : Claim7 := { stood := { row := jsonFormsRow, standIns := [], harness := (true, "0c8fb5695fe707fe20b888b0eaef36d560ab4ae82699993de0a97ef3ba5ea900"), looks := true }, kinds := [], alts := [], laidByText := true, laidKinds := [.data, .data, .data, .data, .sentinel, .sentinel, .pinned, .pinned], laidTests := true, laidLooks := .later }
def JsonFormsCardSaid : Prop := Claim7.holds Tryz.pinned (.plain (OpenSpec.ofChange jsonFormsSpec)) jsonFormsCard

/-- THE TIED CARD OF 'entaillaw18.MaskErrors'. -/
def maskErrorsCard : Claim7 := { stood := { row := maskErrorsRow, standIns := [], harness := (true, "0c8fb5695fe707fe20b888b0eaef36d560ab4ae82699993de0a97ef3ba5ea900"), looks := true }, kinds := [], alts := [], laidByText := true, laidKinds := [.data, .pinned], laidTests := true, laidLooks := .later }
def MaskErrorsCardSaid : Prop := Claim7.holds Tryz.pinned (.plain (OpenSpec.ofChange maskErrorsSpec)) maskErrorsCard

/-- THE TIED CARD OF 'entaillaw21.PmapWords'. -/
def pmapWordsCard : Claim7 := { stood := { row := pmapWordsRow, standIns := [], harness := (true, "0c8fb5695fe707fe20b888b0eaef36d560ab4ae82699993de0a97ef3ba5ea900"), looks := true }, kinds := [], alts := [], laidByText := true, laidKinds := [.data, .pinned], laidTests := true, laidLooks := .later }
def PmapWordsCardSaid : Prop := Claim7.holds Tryz.pinned (.plain (OpenSpec.ofChange pmapWordsSpec)) pmapWordsCard

/-- THE TIED CARD OF 'entaillaw21.PmapSchema'. -/
def pmapSchemaCard : Claim7 := { stood := { row := pmapSchemaRow, standIns := [], harness := (true, "0c8fb5695fe707fe20b888b0eaef36d560ab4ae82699993de0a97ef3ba5ea900"), looks := true }, kinds := [], alts := [], laidByText := true, laidKinds := [.data, .pinned], laidTests := true, laidLooks := .later }
def PmapSchemaCardSaid : Prop := Claim7.holds Tryz.pinned (.plain (OpenSpec.ofChange pmapSchemaSpec)) pmapSchemaCard

/-- THE SECOND FORM's CARD OF 'entaillaw22.JsonForms'. -/
def jsonFormsUptoCard : Claim7 := { stood := { row := jsonFormsUptoRow, standIns := [], harness := (true, "0c8fb5695fe707fe20b888b0eaef36d560ab4ae82699993de0a97ef3ba5ea900"), looks := true }, kinds := [], alts := [], laidByText := true, laidKinds := [.data, .data, .data, .data, .sentinel, .sentinel, .pinned, .pinned], laidTests := true, laidLooks := .later }
def JsonFormsUptoCardSaid : Prop := Claim7.holds Tryz.pinned (.plain (OpenSpec.upto jsonFormsSpec)) jsonFormsUptoCard

/-- THE SECOND FORM's CARD OF 'entaillaw18.MaskErrors'. -/
def maskErrorsUptoCard : Claim7 := { stood := { row := maskErrorsUptoRow, standIns := [], harness := (true, "0c8fb5695fe707fe20b888b0eaef36d560ab4ae82699993de0a97ef3ba5ea900"), looks := true }, kinds := [], alts := [], laidByText := true, laidKinds := [.data, .pinned], laidTests := true, laidLooks := .later }
def MaskErrorsUptoCardSaid : Prop := Claim7.holds Tryz.pinned (.plain (OpenSpec.upto maskErrorsSpec)) maskErrorsUptoCard

/-- THE SECOND FORM's CARD OF 'entaillaw21.PmapWords'. -/
def pmapWordsUptoCard : Claim7 := { stood := { row := pmapWordsUptoRow, standIns := [], harness := (true, "0c8fb5695fe707fe20b888b0eaef36d560ab4ae82699993de0a97ef3ba5ea900"), looks := true }, kinds := [], alts := [], laidByText := true, laidKinds := [.data, .pinned], laidTests := true, laidLooks := .later }
def PmapWordsUptoCardSaid : Prop := Claim7.holds Tryz.pinned (.plain (OpenSpec.upto pmapWordsSpec)) pmapWordsUptoCard

/-- THE SECOND FORM's CARD OF 'entaillaw21.PmapSchema'. -/
def pmapSchemaUptoCard : Claim7 := { stood := { row := pmapSchemaUptoRow, standIns := [], harness := (true, "0c8fb5695fe707fe20b888b0eaef36d560ab4ae82699993de0a97ef3ba5ea900"), looks := true }, kinds := [], alts := [], laidByText := true, laidKinds := [.data, .pinned], laidTests := true, laidLooks := .later }
def PmapSchemaUptoCardSaid : Prop := Claim7.holds Tryz.pinned (.plain (OpenSpec.upto pmapSchemaSpec)) pmapSchemaUptoCard
end Rows
end Go.Proofs.YtkbfgogimhfglaaGreatDoor

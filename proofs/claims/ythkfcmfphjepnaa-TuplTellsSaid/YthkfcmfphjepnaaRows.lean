/-
  No cell of these rows narrows 'for every input' (looked for: loops, veiled, ifaces, maps, wideKeys, modest, calm, conditions, laid).
  DERIVED. THE GIVEN ROWS OF THIS SEAT. 13 by the template 'for every input the law returns true; each argument reads behind the call as it read before'; 0 by the template 'total and deterministic' (their statements: YthkfcmfphjepnaaTotals.lean).
  GIVEN WITH THE SEED: the statements are not yours to turn. If you find one false, say at which input.
  Laid BY PROGRAM, IN A SANDBOX (cutbox-rows.mjs): the forced cells as the released guide's own fill.sh prints them over the translation 3b6b0252f93bf0ed… (all of the seat's roots in one cut). By AI agents, Wed Nov 11 2026. No macro, syntax, notation, axiom, sorry.
-/
import Derived.Test.YthkfcmfphjepnaaChecked
import GoSem.Claim
import GoSem.ClaimJoined
import GoSem.ClaimMapViews
import Derived.JoinedTies
import Derived.KernelRfl
namespace Go.Proofs.Ythkfcmfphjepnaa
/- THE CELL 'sum', in the pinned program and in every row, IS THE sha256 OF THE DUMP (.gsa) THAT YthkfcmfphjepnaaProg.lean LOADS. Nothing in Lean hashes anything: it is a label: what it is worth is what the hold of that sum in a sandbox is worth. -/
noncomputable def Try.pinned : Pinned := { name := "ythkfcmfphjepnaa", sum := "3b6b0252f93bf0ed387b48e08069565be57fc9a163f2acdfec256bd11b94f1ad", checked := Try.checked }
namespace Rows
def none {H : Type} : Left H := { results := [], args := [] }

/-- 'entaillaw6.TokeLong': WHATEVER THE INPUT: true; the input reads as it did. -/
def tokeLongSpec : ChangeSpec := { name := "tokeLong", fn := fun _ => fun
  | [d1, d2, d3] => { results := [.lit (.bool true)], args := [d1, d2, d3] }
  | _ => none }
def tokeLongRow : OpenClaim := { program := "ythkfcmfphjepnaa", sum := "3b6b0252f93bf0ed387b48e08069565be57fc9a163f2acdfec256bd11b94f1ad", func := "entail/entaillaw6.TokeLong", spec := "tokeLong", inPlace := ["internal/bytealg.IndexByteString", "internal/bytealg.IndexString"], named := ["internal/bytealg.MaxLen"], apart := false }
def TokeLongSaid : Prop := tokeLongRow.holds Try.pinned (OpenSpec.ofChange tokeLongSpec)

/-- ITS FALSE NEIGHBOUR: 'it returns false'. Refute it at one input. -/
def tokeLongWrong : ChangeSpec := { name := "tokeLong", fn := fun _ => fun
  | [d1, d2, d3] => { results := [.lit (.bool false)], args := [d1, d2, d3] }
  | _ => none }
def TokeLongWrongFalsely : Prop := tokeLongRow.holds Try.pinned (OpenSpec.ofChange tokeLongWrong)

/-- 'entaillaw6.TokeTells': WHATEVER THE INPUT: true; the input reads as it did. -/
def tokeTellsSpec : ChangeSpec := { name := "tokeTells", fn := fun _ => fun
  | [d] => { results := [.lit (.bool true)], args := [d] }
  | _ => none }
def tokeTellsRow : OpenClaim := { program := "ythkfcmfphjepnaa", sum := "3b6b0252f93bf0ed387b48e08069565be57fc9a163f2acdfec256bd11b94f1ad", func := "entail/entaillaw6.TokeTells", spec := "tokeTells", inPlace := ["internal/bytealg.IndexByteString", "internal/bytealg.IndexString"], named := ["internal/bytealg.MaxLen"], apart := false }
def TokeTellsSaid : Prop := tokeTellsRow.holds Try.pinned (OpenSpec.ofChange tokeTellsSpec)

/-- ITS FALSE NEIGHBOUR: 'it returns false'. Refute it at one input. -/
def tokeTellsWrong : ChangeSpec := { name := "tokeTells", fn := fun _ => fun
  | [d] => { results := [.lit (.bool false)], args := [d] }
  | _ => none }
def TokeTellsWrongFalsely : Prop := tokeTellsRow.holds Try.pinned (OpenSpec.ofChange tokeTellsWrong)

/-- 'entaillaw6.TokeParts': WHATEVER THE INPUT: true; the input reads as it did. -/
def tokePartsSpec : ChangeSpec := { name := "tokeParts", fn := fun _ => fun
  | [d1, d2] => { results := [.lit (.bool true)], args := [d1, d2] }
  | _ => none }
def tokePartsRow : OpenClaim := { program := "ythkfcmfphjepnaa", sum := "3b6b0252f93bf0ed387b48e08069565be57fc9a163f2acdfec256bd11b94f1ad", func := "entail/entaillaw6.TokeParts", spec := "tokeParts", inPlace := ["internal/bytealg.IndexByteString", "internal/bytealg.IndexString"], named := ["internal/bytealg.MaxLen"], apart := false }
def TokePartsSaid : Prop := tokePartsRow.holds Try.pinned (OpenSpec.ofChange tokePartsSpec)

/-- ITS FALSE NEIGHBOUR: 'it returns false'. Refute it at one input. -/
def tokePartsWrong : ChangeSpec := { name := "tokeParts", fn := fun _ => fun
  | [d1, d2] => { results := [.lit (.bool false)], args := [d1, d2] }
  | _ => none }
def TokePartsWrongFalsely : Prop := tokePartsRow.holds Try.pinned (OpenSpec.ofChange tokePartsWrong)

/-- 'entaillaw6.TokeBytes': WHATEVER THE INPUT: true; the input reads as it did. -/
def tokeBytesSpec : ChangeSpec := { name := "tokeBytes", fn := fun _ => fun
  | [d1, d2, d3] => { results := [.lit (.bool true)], args := [d1, d2, d3] }
  | _ => none }
def tokeBytesRow : OpenClaim := { program := "ythkfcmfphjepnaa", sum := "3b6b0252f93bf0ed387b48e08069565be57fc9a163f2acdfec256bd11b94f1ad", func := "entail/entaillaw6.TokeBytes", spec := "tokeBytes", inPlace := ["internal/bytealg.IndexByteString", "internal/bytealg.IndexString"], named := ["internal/bytealg.MaxLen"], apart := false }
def TokeBytesSaid : Prop := tokeBytesRow.holds Try.pinned (OpenSpec.ofChange tokeBytesSpec)

/-- ITS FALSE NEIGHBOUR: 'it returns false'. Refute it at one input. -/
def tokeBytesWrong : ChangeSpec := { name := "tokeBytes", fn := fun _ => fun
  | [d1, d2, d3] => { results := [.lit (.bool false)], args := [d1, d2, d3] }
  | _ => none }
def TokeBytesWrongFalsely : Prop := tokeBytesRow.holds Try.pinned (OpenSpec.ofChange tokeBytesWrong)

/-- 'entaillaw2.TuplForms': WHATEVER THE INPUT: true; the input reads as it did. -/
def tuplFormsSpec : ChangeSpec := { name := "tuplForms", fn := fun _ => fun
  | [d] => { results := [.lit (.bool true)], args := [d] }
  | _ => none }
def tuplFormsRow : OpenClaim := { program := "ythkfcmfphjepnaa", sum := "3b6b0252f93bf0ed387b48e08069565be57fc9a163f2acdfec256bd11b94f1ad", func := "entail/entaillaw2.TuplForms", spec := "tuplForms", inPlace := ["internal/bytealg.IndexByteString", "internal/bytealg.IndexString", "internal/bytealg.abigen_runtime_cmpstring"], named := ["internal/bytealg.MaxLen"], apart := false }
def TuplFormsSaid : Prop := tuplFormsRow.holds Try.pinned (OpenSpec.ofChange tuplFormsSpec)

/-- ITS FALSE NEIGHBOUR: 'it returns false'. Refute it at one input. -/
def tuplFormsWrong : ChangeSpec := { name := "tuplForms", fn := fun _ => fun
  | [d] => { results := [.lit (.bool false)], args := [d] }
  | _ => none }
def TuplFormsWrongFalsely : Prop := tuplFormsRow.holds Try.pinned (OpenSpec.ofChange tuplFormsWrong)

/-- 'entaillaw2.TuplParts': WHATEVER THE INPUT: true; the input reads as it did. -/
def tuplPartsSpec : ChangeSpec := { name := "tuplParts", fn := fun _ => fun
  | [d1, d2, d3, d4, d5] => { results := [.lit (.bool true)], args := [d1, d2, d3, d4, d5] }
  | _ => none }
def tuplPartsRow : OpenClaim := { program := "ythkfcmfphjepnaa", sum := "3b6b0252f93bf0ed387b48e08069565be57fc9a163f2acdfec256bd11b94f1ad", func := "entail/entaillaw2.TuplParts", spec := "tuplParts", inPlace := ["internal/bytealg.IndexByteString", "internal/bytealg.IndexString", "internal/bytealg.abigen_runtime_cmpstring"], unfollowed := true, recurses := true, named := ["internal/bytealg.MaxLen"], apart := false }
def TuplPartsSaid : Prop := tuplPartsRow.holds Try.pinned (OpenSpec.ofChange tuplPartsSpec)

/-- ITS FALSE NEIGHBOUR: 'it returns false'. Refute it at one input. -/
def tuplPartsWrong : ChangeSpec := { name := "tuplParts", fn := fun _ => fun
  | [d1, d2, d3, d4, d5] => { results := [.lit (.bool false)], args := [d1, d2, d3, d4, d5] }
  | _ => none }
def TuplPartsWrongFalsely : Prop := tuplPartsRow.holds Try.pinned (OpenSpec.ofChange tuplPartsWrong)

/-- 'entaillaw2.TuplTells': WHATEVER THE INPUT: true; the input reads as it did. -/
def tuplTellsSpec : ChangeSpec := { name := "tuplTells", fn := fun _ => fun
  | [d1, d2, d3, d4, d5] => { results := [.lit (.bool true)], args := [d1, d2, d3, d4, d5] }
  | _ => none }
def tuplTellsRow : OpenClaim := { program := "ythkfcmfphjepnaa", sum := "3b6b0252f93bf0ed387b48e08069565be57fc9a163f2acdfec256bd11b94f1ad", func := "entail/entaillaw2.TuplTells", spec := "tuplTells", inPlace := ["internal/bytealg.IndexByteString", "internal/bytealg.IndexString", "internal/bytealg.abigen_runtime_cmpstring"], named := ["internal/bytealg.MaxLen"], apart := false }
def TuplTellsSaid : Prop := tuplTellsRow.holds Try.pinned (OpenSpec.ofChange tuplTellsSpec)

/-- ITS FALSE NEIGHBOUR: 'it returns false'. Refute it at one input. -/
def tuplTellsWrong : ChangeSpec := { name := "tuplTells", fn := fun _ => fun
  | [d1, d2, d3, d4, d5] => { results := [.lit (.bool false)], args := [d1, d2, d3, d4, d5] }
  | _ => none }
def TuplTellsWrongFalsely : Prop := tuplTellsRow.holds Try.pinned (OpenSpec.ofChange tuplTellsWrong)

/-- 'entaillaw2.TuplBack': WHATEVER THE INPUT: true; the input reads as it did. -/
def tuplBackSpec : ChangeSpec := { name := "tuplBack", fn := fun _ => fun
  | [d1, d2] => { results := [.lit (.bool true)], args := [d1, d2] }
  | _ => none }
def tuplBackRow : OpenClaim := { program := "ythkfcmfphjepnaa", sum := "3b6b0252f93bf0ed387b48e08069565be57fc9a163f2acdfec256bd11b94f1ad", func := "entail/entaillaw2.TuplBack", spec := "tuplBack", inPlace := ["internal/bytealg.IndexByteString", "internal/bytealg.IndexString", "internal/bytealg.abigen_runtime_cmpstring"], named := ["internal/bytealg.MaxLen"], apart := false }
def TuplBackSaid : Prop := tuplBackRow.holds Try.pinned (OpenSpec.ofChange tuplBackSpec)

/-- ITS FALSE NEIGHBOUR: 'it returns false'. Refute it at one input. -/
def tuplBackWrong : ChangeSpec := { name := "tuplBack", fn := fun _ => fun
  | [d1, d2] => { results := [.lit (.bool false)], args := [d1, d2] }
  | _ => none }
def TuplBackWrongFalsely : Prop := tuplBackRow.holds Try.pinned (OpenSpec.ofChange tuplBackWrong)

/-- 'entaillaw2.TuplOrder': WHATEVER THE INPUT: true; the input reads as it did. -/
def tuplOrderSpec : ChangeSpec := { name := "tuplOrder", fn := fun _ => fun
  | [d1, d2, d3, d4, d5, d6] => { results := [.lit (.bool true)], args := [d1, d2, d3, d4, d5, d6] }
  | _ => none }
def tuplOrderRow : OpenClaim := { program := "ythkfcmfphjepnaa", sum := "3b6b0252f93bf0ed387b48e08069565be57fc9a163f2acdfec256bd11b94f1ad", func := "entail/entaillaw2.TuplOrder", spec := "tuplOrder", inPlace := ["internal/bytealg.abigen_runtime_cmpstring", "internal/bytealg.IndexByteString", "internal/bytealg.IndexString"], named := ["internal/bytealg.MaxLen"], apart := false }
def TuplOrderSaid : Prop := tuplOrderRow.holds Try.pinned (OpenSpec.ofChange tuplOrderSpec)

/-- ITS FALSE NEIGHBOUR: 'it returns false'. Refute it at one input. -/
def tuplOrderWrong : ChangeSpec := { name := "tuplOrder", fn := fun _ => fun
  | [d1, d2, d3, d4, d5, d6] => { results := [.lit (.bool false)], args := [d1, d2, d3, d4, d5, d6] }
  | _ => none }
def TuplOrderWrongFalsely : Prop := tuplOrderRow.holds Try.pinned (OpenSpec.ofChange tuplOrderWrong)

/-- 'entaillaw1.AtomSplits': WHATEVER THE INPUT: true; the input reads as it did. -/
def atomSplitsSpec : ChangeSpec := { name := "atomSplits", fn := fun _ => fun
  | [d1, d2, d3] => { results := [.lit (.bool true)], args := [d1, d2, d3] }
  | _ => none }
def atomSplitsRow : OpenClaim := { program := "ythkfcmfphjepnaa", sum := "3b6b0252f93bf0ed387b48e08069565be57fc9a163f2acdfec256bd11b94f1ad", func := "entail/entaillaw1.AtomSplits", spec := "atomSplits", inPlace := ["internal/bytealg.IndexByteString", "internal/bytealg.IndexString", "internal/abi.NoEscape", "internal/bytealg.MakeNoZero"], named := ["internal/bytealg.MaxLen"], apart := false }
def AtomSplitsSaid : Prop := atomSplitsRow.holds Try.pinned (OpenSpec.ofChange atomSplitsSpec)

/-- ITS FALSE NEIGHBOUR: 'it returns false'. Refute it at one input. -/
def atomSplitsWrong : ChangeSpec := { name := "atomSplits", fn := fun _ => fun
  | [d1, d2, d3] => { results := [.lit (.bool false)], args := [d1, d2, d3] }
  | _ => none }
def AtomSplitsWrongFalsely : Prop := atomSplitsRow.holds Try.pinned (OpenSpec.ofChange atomSplitsWrong)

/-- 'entaillaw1.AtomTells': WHATEVER THE INPUT: true; the input reads as it did. -/
def atomTellsSpec : ChangeSpec := { name := "atomTells", fn := fun _ => fun
  | [d1, d2, d3] => { results := [.lit (.bool true)], args := [d1, d2, d3] }
  | _ => none }
def atomTellsRow : OpenClaim := { program := "ythkfcmfphjepnaa", sum := "3b6b0252f93bf0ed387b48e08069565be57fc9a163f2acdfec256bd11b94f1ad", func := "entail/entaillaw1.AtomTells", spec := "atomTells", inPlace := ["internal/bytealg.IndexByteString", "internal/bytealg.IndexString", "internal/abi.NoEscape", "internal/bytealg.MakeNoZero"], named := ["internal/bytealg.MaxLen"], apart := false }
def AtomTellsSaid : Prop := atomTellsRow.holds Try.pinned (OpenSpec.ofChange atomTellsSpec)

/-- ITS FALSE NEIGHBOUR: 'it returns false'. Refute it at one input. -/
def atomTellsWrong : ChangeSpec := { name := "atomTells", fn := fun _ => fun
  | [d1, d2, d3] => { results := [.lit (.bool false)], args := [d1, d2, d3] }
  | _ => none }
def AtomTellsWrongFalsely : Prop := atomTellsRow.holds Try.pinned (OpenSpec.ofChange atomTellsWrong)

/-- 'entaillaw1.AtomBack': WHATEVER THE INPUT: true; the input reads as it did. -/
def atomBackSpec : ChangeSpec := { name := "atomBack", fn := fun _ => fun
  | [d1, d2, d3, d4] => { results := [.lit (.bool true)], args := [d1, d2, d3, d4] }
  | _ => none }
def atomBackRow : OpenClaim := { program := "ythkfcmfphjepnaa", sum := "3b6b0252f93bf0ed387b48e08069565be57fc9a163f2acdfec256bd11b94f1ad", func := "entail/entaillaw1.AtomBack", spec := "atomBack", inPlace := ["internal/bytealg.IndexByteString", "internal/bytealg.IndexString", "internal/abi.NoEscape", "internal/bytealg.MakeNoZero"], named := ["internal/bytealg.MaxLen"], apart := false }
def AtomBackSaid : Prop := atomBackRow.holds Try.pinned (OpenSpec.ofChange atomBackSpec)

/-- ITS FALSE NEIGHBOUR: 'it returns false'. Refute it at one input. -/
def atomBackWrong : ChangeSpec := { name := "atomBack", fn := fun _ => fun
  | [d1, d2, d3, d4] => { results := [.lit (.bool false)], args := [d1, d2, d3, d4] }
  | _ => none }
def AtomBackWrongFalsely : Prop := atomBackRow.holds Try.pinned (OpenSpec.ofChange atomBackWrong)

/-- 'entaillaw1.AtomBounds': WHATEVER THE INPUT: true; the input reads as it did. -/
def atomBoundsSpec : ChangeSpec := { name := "atomBounds", fn := fun _ => fun
  | [d1, d2, d3] => { results := [.lit (.bool true)], args := [d1, d2, d3] }
  | _ => none }
def atomBoundsRow : OpenClaim := { program := "ythkfcmfphjepnaa", sum := "3b6b0252f93bf0ed387b48e08069565be57fc9a163f2acdfec256bd11b94f1ad", func := "entail/entaillaw1.AtomBounds", spec := "atomBounds", inPlace := ["internal/bytealg.IndexByteString", "internal/bytealg.IndexString", "internal/abi.NoEscape", "internal/bytealg.MakeNoZero"], named := ["internal/bytealg.MaxLen"], apart := false }
def AtomBoundsSaid : Prop := atomBoundsRow.holds Try.pinned (OpenSpec.ofChange atomBoundsSpec)

/-- ITS FALSE NEIGHBOUR: 'it returns false'. Refute it at one input. -/
def atomBoundsWrong : ChangeSpec := { name := "atomBounds", fn := fun _ => fun
  | [d1, d2, d3] => { results := [.lit (.bool false)], args := [d1, d2, d3] }
  | _ => none }
def AtomBoundsWrongFalsely : Prop := atomBoundsRow.holds Try.pinned (OpenSpec.ofChange atomBoundsWrong)

/- THE SECOND FORM. 'bulk': how many values and letters a reading holds, each counted each time it is reached (what is shared counts as often as it is met; a slice's spare places count too). A statement '..UptoSaid' is the law's where the arguments, and the package variables that the reading takes, are together of bulk at most 1048576: NARROWER than '..Said'. Prove '..Said' where nothing that the law and all that it calls make is longer than what came in: it says more and counts as full. Else prove '..UptoSaid'. A law counts once. -/
mutual
def uptoBulk {H : Type} : DataW H → Nat
  | .lit (.string bytes) => bytes.length + 1
  | .lit _ => 1
  | .nil => 1
  | .ptr d => uptoBulk d + 1
  | .slice elems spare => uptoBulkAll elems + uptoBulkAll spare + 1
  | .agg parts => uptoBulkAll parts + 1
  | .iface _ d => uptoBulk d + 1
  | .map entries => uptoBulkEntries entries + 1
  | .held _ => 1
def uptoBulkAll {H : Type} : List (DataW H) → Nat
  | [] => 0
  | d :: r => uptoBulk d + uptoBulkAll r
def uptoBulkEntries {H : Type} : List (Lit × DataW H) → Nat
  | [] => 0
  | x :: r => uptoBulkEntry x + uptoBulkEntries r
def uptoBulkEntry {H : Type} : Lit × DataW H → Nat
  | (.string bytes, d) => bytes.length + uptoBulk d + 1
  | (_, d) => uptoBulk d + 1
 end
def uptoSmall : (H : Type) → List (DataW H) → Bool := fun _ ds => decide (uptoBulkAll ds ≤ 1048576)
def OpenSpec.upto (s : _root_.Go.ChangeSpec) : _root_.Go.OpenSpec := { _root_.Go.OpenSpec.ofChange s with cond := some uptoSmall }

/-- 'entaillaw6.TokeLong', WHERE WHAT IT READS IS OF BULK AT MOST 1048576: true; the input reads as it did. -/
def tokeLongUptoRow : OpenClaim := { program := "ythkfcmfphjepnaa", sum := "3b6b0252f93bf0ed387b48e08069565be57fc9a163f2acdfec256bd11b94f1ad", func := "entail/entaillaw6.TokeLong", spec := "tokeLong", inPlace := ["internal/bytealg.IndexByteString", "internal/bytealg.IndexString"], named := ["internal/bytealg.MaxLen"], apart := false, narrowed := true }
def TokeLongUptoSaid : Prop := tokeLongUptoRow.holds Try.pinned (OpenSpec.upto tokeLongSpec)

/-- 'entaillaw6.TokeTells', WHERE WHAT IT READS IS OF BULK AT MOST 1048576: true; the input reads as it did. -/
def tokeTellsUptoRow : OpenClaim := { program := "ythkfcmfphjepnaa", sum := "3b6b0252f93bf0ed387b48e08069565be57fc9a163f2acdfec256bd11b94f1ad", func := "entail/entaillaw6.TokeTells", spec := "tokeTells", inPlace := ["internal/bytealg.IndexByteString", "internal/bytealg.IndexString"], named := ["internal/bytealg.MaxLen"], apart := false, narrowed := true }
def TokeTellsUptoSaid : Prop := tokeTellsUptoRow.holds Try.pinned (OpenSpec.upto tokeTellsSpec)

/-- 'entaillaw6.TokeParts', WHERE WHAT IT READS IS OF BULK AT MOST 1048576: true; the input reads as it did. -/
def tokePartsUptoRow : OpenClaim := { program := "ythkfcmfphjepnaa", sum := "3b6b0252f93bf0ed387b48e08069565be57fc9a163f2acdfec256bd11b94f1ad", func := "entail/entaillaw6.TokeParts", spec := "tokeParts", inPlace := ["internal/bytealg.IndexByteString", "internal/bytealg.IndexString"], named := ["internal/bytealg.MaxLen"], apart := false, narrowed := true }
def TokePartsUptoSaid : Prop := tokePartsUptoRow.holds Try.pinned (OpenSpec.upto tokePartsSpec)

/-- 'entaillaw6.TokeBytes', WHERE WHAT IT READS IS OF BULK AT MOST 1048576: true; the input reads as it did. -/
def tokeBytesUptoRow : OpenClaim := { program := "ythkfcmfphjepnaa", sum := "3b6b0252f93bf0ed387b48e08069565be57fc9a163f2acdfec256bd11b94f1ad", func := "entail/entaillaw6.TokeBytes", spec := "tokeBytes", inPlace := ["internal/bytealg.IndexByteString", "internal/bytealg.IndexString"], named := ["internal/bytealg.MaxLen"], apart := false, narrowed := true }
def TokeBytesUptoSaid : Prop := tokeBytesUptoRow.holds Try.pinned (OpenSpec.upto tokeBytesSpec)

/-- 'entaillaw2.TuplForms', WHERE WHAT IT READS IS OF BULK AT MOST 1048576: true; the input reads as it did. -/
def tuplFormsUptoRow : OpenClaim := { program := "ythkfcmfphjepnaa", sum := "3b6b0252f93bf0ed387b48e08069565be57fc9a163f2acdfec256bd11b94f1ad", func := "entail/entaillaw2.TuplForms", spec := "tuplForms", inPlace := ["internal/bytealg.IndexByteString", "internal/bytealg.IndexString", "internal/bytealg.abigen_runtime_cmpstring"], named := ["internal/bytealg.MaxLen"], apart := false, narrowed := true }
def TuplFormsUptoSaid : Prop := tuplFormsUptoRow.holds Try.pinned (OpenSpec.upto tuplFormsSpec)

/-- 'entaillaw2.TuplParts', WHERE WHAT IT READS IS OF BULK AT MOST 1048576: true; the input reads as it did. -/
def tuplPartsUptoRow : OpenClaim := { program := "ythkfcmfphjepnaa", sum := "3b6b0252f93bf0ed387b48e08069565be57fc9a163f2acdfec256bd11b94f1ad", func := "entail/entaillaw2.TuplParts", spec := "tuplParts", inPlace := ["internal/bytealg.IndexByteString", "internal/bytealg.IndexString", "internal/bytealg.abigen_runtime_cmpstring"], unfollowed := true, recurses := true, named := ["internal/bytealg.MaxLen"], apart := false, narrowed := true }
def TuplPartsUptoSaid : Prop := tuplPartsUptoRow.holds Try.pinned (OpenSpec.upto tuplPartsSpec)

/-- 'entaillaw2.TuplTells', WHERE WHAT IT READS IS OF BULK AT MOST 1048576: true; the input reads as it did. -/
def tuplTellsUptoRow : OpenClaim := { program := "ythkfcmfphjepnaa", sum := "3b6b0252f93bf0ed387b48e08069565be57fc9a163f2acdfec256bd11b94f1ad", func := "entail/entaillaw2.TuplTells", spec := "tuplTells", inPlace := ["internal/bytealg.IndexByteString", "internal/bytealg.IndexString", "internal/bytealg.abigen_runtime_cmpstring"], named := ["internal/bytealg.MaxLen"], apart := false, narrowed := true }
def TuplTellsUptoSaid : Prop := tuplTellsUptoRow.holds Try.pinned (OpenSpec.upto tuplTellsSpec)

/-- 'entaillaw2.TuplBack', WHERE WHAT IT READS IS OF BULK AT MOST 1048576: true; the input reads as it did. -/
def tuplBackUptoRow : OpenClaim := { program := "ythkfcmfphjepnaa", sum := "3b6b0252f93bf0ed387b48e08069565be57fc9a163f2acdfec256bd11b94f1ad", func := "entail/entaillaw2.TuplBack", spec := "tuplBack", inPlace := ["internal/bytealg.IndexByteString", "internal/bytealg.IndexString", "internal/bytealg.abigen_runtime_cmpstring"], named := ["internal/bytealg.MaxLen"], apart := false, narrowed := true }
def TuplBackUptoSaid : Prop := tuplBackUptoRow.holds Try.pinned (OpenSpec.upto tuplBackSpec)

/-- 'entaillaw2.TuplOrder', WHERE WHAT IT READS IS OF BULK AT MOST 1048576: true; the input reads as it did. -/
def tuplOrderUptoRow : OpenClaim := { program := "ythkfcmfphjepnaa", sum := "3b6b0252f93bf0ed387b48e08069565be57fc9a163f2acdfec256bd11b94f1ad", func := "entail/entaillaw2.TuplOrder", spec := "tuplOrder", inPlace := ["internal/bytealg.abigen_runtime_cmpstring", "internal/bytealg.IndexByteString", "internal/bytealg.IndexString"], named := ["internal/bytealg.MaxLen"], apart := false, narrowed := true }
def TuplOrderUptoSaid : Prop := tuplOrderUptoRow.holds Try.pinned (OpenSpec.upto tuplOrderSpec)

/-- 'entaillaw1.AtomSplits', WHERE WHAT IT READS IS OF BULK AT MOST 1048576: true; the input reads as it did. -/
def atomSplitsUptoRow : OpenClaim := { program := "ythkfcmfphjepnaa", sum := "3b6b0252f93bf0ed387b48e08069565be57fc9a163f2acdfec256bd11b94f1ad", func := "entail/entaillaw1.AtomSplits", spec := "atomSplits", inPlace := ["internal/bytealg.IndexByteString", "internal/bytealg.IndexString", "internal/abi.NoEscape", "internal/bytealg.MakeNoZero"], named := ["internal/bytealg.MaxLen"], apart := false, narrowed := true }
def AtomSplitsUptoSaid : Prop := atomSplitsUptoRow.holds Try.pinned (OpenSpec.upto atomSplitsSpec)

/-- 'entaillaw1.AtomTells', WHERE WHAT IT READS IS OF BULK AT MOST 1048576: true; the input reads as it did. -/
def atomTellsUptoRow : OpenClaim := { program := "ythkfcmfphjepnaa", sum := "3b6b0252f93bf0ed387b48e08069565be57fc9a163f2acdfec256bd11b94f1ad", func := "entail/entaillaw1.AtomTells", spec := "atomTells", inPlace := ["internal/bytealg.IndexByteString", "internal/bytealg.IndexString", "internal/abi.NoEscape", "internal/bytealg.MakeNoZero"], named := ["internal/bytealg.MaxLen"], apart := false, narrowed := true }
def AtomTellsUptoSaid : Prop := atomTellsUptoRow.holds Try.pinned (OpenSpec.upto atomTellsSpec)

/-- 'entaillaw1.AtomBack', WHERE WHAT IT READS IS OF BULK AT MOST 1048576: true; the input reads as it did. -/
def atomBackUptoRow : OpenClaim := { program := "ythkfcmfphjepnaa", sum := "3b6b0252f93bf0ed387b48e08069565be57fc9a163f2acdfec256bd11b94f1ad", func := "entail/entaillaw1.AtomBack", spec := "atomBack", inPlace := ["internal/bytealg.IndexByteString", "internal/bytealg.IndexString", "internal/abi.NoEscape", "internal/bytealg.MakeNoZero"], named := ["internal/bytealg.MaxLen"], apart := false, narrowed := true }
def AtomBackUptoSaid : Prop := atomBackUptoRow.holds Try.pinned (OpenSpec.upto atomBackSpec)

/-- 'entaillaw1.AtomBounds', WHERE WHAT IT READS IS OF BULK AT MOST 1048576: true; the input reads as it did. -/
def atomBoundsUptoRow : OpenClaim := { program := "ythkfcmfphjepnaa", sum := "3b6b0252f93bf0ed387b48e08069565be57fc9a163f2acdfec256bd11b94f1ad", func := "entail/entaillaw1.AtomBounds", spec := "atomBounds", inPlace := ["internal/bytealg.IndexByteString", "internal/bytealg.IndexString", "internal/abi.NoEscape", "internal/bytealg.MakeNoZero"], named := ["internal/bytealg.MaxLen"], apart := false, narrowed := true }
def AtomBoundsUptoSaid : Prop := atomBoundsUptoRow.holds Try.pinned (OpenSpec.upto atomBoundsSpec)

end Rows
end Go.Proofs.Ythkfcmfphjepnaa

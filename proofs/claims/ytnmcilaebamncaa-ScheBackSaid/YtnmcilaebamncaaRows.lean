/-
  No cell of these rows narrows 'for every input' (looked for: loops, veiled, ifaces, maps, wideKeys, modest, calm, conditions, laid).
  DERIVED. THE GIVEN ROWS OF THIS SEAT. 3 by the template 'for every input the law returns true; each argument reads behind the call as it read before'; 0 by the template 'total and deterministic' (their statements: YtnmcilaebamncaaTotals.lean).
  GIVEN WITH THE SEED: the statements are not yours to turn. If you find one false, say at which input.
  Laid BY PROGRAM, IN A SANDBOX (cutbox-rows.mjs): the forced cells as the released guide's own fill.sh prints them over the translation 9c37198c4871433a… (all of the seat's roots in one cut). By AI agents, Wed Nov 11 2026. No macro, syntax, notation, axiom, sorry.
-/
import Derived.Test.YtnmcilaebamncaaChecked
import GoSem.Claim
import GoSem.ClaimJoined
import GoSem.ClaimMapViews
import Derived.JoinedTies
import Derived.KernelRfl
namespace Go.Proofs.Ytnmcilaebamncaa
/- THE CELL 'sum', in the pinned program and in every row, IS THE sha256 OF THE DUMP (.gsa) THAT YtnmcilaebamncaaProg.lean LOADS. Nothing in Lean hashes anything: it is a label: what it is worth is what the hold of that sum in a sandbox is worth. -/
noncomputable def Try.pinned : Pinned := { name := "ytnmcilaebamncaa", sum := "9c37198c4871433a0e438553255bc4168e73c1bd3f88d91a52ec42ad0f1f2582", checked := Try.checked }
namespace Rows
def none {H : Type} : Left H := { results := [], args := [] }

/-- 'entaillaw8.WellFits': WHATEVER THE INPUT: true; the input reads as it did. -/
def wellFitsSpec : ChangeSpec := { name := "wellFits", fn := fun _ => fun
  | [d1, d2] => { results := [.lit (.bool true)], args := [d1, d2] }
  | _ => none }
def wellFitsRow : OpenClaim := { program := "ytnmcilaebamncaa", sum := "9c37198c4871433a0e438553255bc4168e73c1bd3f88d91a52ec42ad0f1f2582", func := "entail/entaillaw8.WellFits", spec := "wellFits", unfollowed := true, recurses := true, plainKeys := false, apart := false }
def WellFitsSaid : Prop := wellFitsRow.holds Try.pinned (OpenSpec.ofChange wellFitsSpec)

/-- ITS FALSE NEIGHBOUR: 'it returns false'. Refute it at one input. -/
def wellFitsWrong : ChangeSpec := { name := "wellFits", fn := fun _ => fun
  | [d1, d2] => { results := [.lit (.bool false)], args := [d1, d2] }
  | _ => none }
def WellFitsWrongFalsely : Prop := wellFitsRow.holds Try.pinned (OpenSpec.ofChange wellFitsWrong)

/-- 'entaillaw7.ScheBack': WHATEVER THE INPUT: true; the input reads as it did. -/
def scheBackSpec : ChangeSpec := { name := "scheBack", fn := fun _ => fun
  | [d1, d2] => { results := [.lit (.bool true)], args := [d1, d2] }
  | _ => none }
def scheBackRow : OpenClaim := { program := "ytnmcilaebamncaa", sum := "9c37198c4871433a0e438553255bc4168e73c1bd3f88d91a52ec42ad0f1f2582", func := "entail/entaillaw7.ScheBack", spec := "scheBack", inPlace := ["internal/bytealg.IndexByteString", "internal/bytealg.IndexString", "internal/abi.NoEscape", "internal/bytealg.MakeNoZero"], unfollowed := true, recurses := true, named := ["internal/bytealg.MaxLen"], plainKeys := false, apart := false }
def ScheBackSaid : Prop := scheBackRow.holds Try.pinned (OpenSpec.ofChange scheBackSpec)

/-- ITS FALSE NEIGHBOUR: 'it returns false'. Refute it at one input. -/
def scheBackWrong : ChangeSpec := { name := "scheBack", fn := fun _ => fun
  | [d1, d2] => { results := [.lit (.bool false)], args := [d1, d2] }
  | _ => none }
def ScheBackWrongFalsely : Prop := scheBackRow.holds Try.pinned (OpenSpec.ofChange scheBackWrong)

/-- 'entaillaw7.ScheForms': WHATEVER THE INPUT: true; the input reads as it did. -/
def scheFormsSpec : ChangeSpec := { name := "scheForms", fn := fun _ => fun
  | [d1, d2] => { results := [.lit (.bool true)], args := [d1, d2] }
  | _ => none }
def scheFormsRow : OpenClaim := { program := "ytnmcilaebamncaa", sum := "9c37198c4871433a0e438553255bc4168e73c1bd3f88d91a52ec42ad0f1f2582", func := "entail/entaillaw7.ScheForms", spec := "scheForms", inPlace := ["internal/bytealg.IndexByteString", "internal/bytealg.IndexString", "internal/abi.NoEscape", "internal/bytealg.MakeNoZero"], unfollowed := true, recurses := true, named := ["internal/bytealg.MaxLen"], plainKeys := false, apart := false }
def ScheFormsSaid : Prop := scheFormsRow.holds Try.pinned (OpenSpec.ofChange scheFormsSpec)

/-- ITS FALSE NEIGHBOUR: 'it returns false'. Refute it at one input. -/
def scheFormsWrong : ChangeSpec := { name := "scheForms", fn := fun _ => fun
  | [d1, d2] => { results := [.lit (.bool false)], args := [d1, d2] }
  | _ => none }
def ScheFormsWrongFalsely : Prop := scheFormsRow.holds Try.pinned (OpenSpec.ofChange scheFormsWrong)

/- THE SECOND FORM. 'bulk': how many values and letters a reading holds, each counted each time it is reached (what is shared counts as often as it is met; a slice's spare places count too). A statement '..UptoSaid' is the law's where the arguments, and the package variables that the reading takes, are together of bulk at most 1048576: NARROWER than '..Said'. Prove '..Said' where nothing that the law and all that it calls make is longer than what came in: it says more and counts as full. Else prove '..UptoSaid'. A law counts once. -/
mutual
def uptoBulk {H : Type} : DataW H → Nat
  | .lit (.string bytes) => bytes.length + 1
  | .lit _ => 1
  | .nil => 1
  | .ptr d => uptoBulk d + 1
  | .slice elems spare => uptoBulkAll elems + uptoBulkAll spare + 1
  | .agg parts => uptoBulkAll parts + 1
  | .iface _ d => uptoBulk d + 1
  | .map entries => uptoBulkEntries entries + 1
  | .held _ => 1
def uptoBulkAll {H : Type} : List (DataW H) → Nat
  | [] => 0
  | d :: r => uptoBulk d + uptoBulkAll r
def uptoBulkEntries {H : Type} : List (Lit × DataW H) → Nat
  | [] => 0
  | x :: r => uptoBulkEntry x + uptoBulkEntries r
def uptoBulkEntry {H : Type} : Lit × DataW H → Nat
  | (.string bytes, d) => bytes.length + uptoBulk d + 1
  | (_, d) => uptoBulk d + 1
 end
def uptoSmall : (H : Type) → List (DataW H) → Bool := fun _ ds => decide (uptoBulkAll ds ≤ 1048576)
def OpenSpec.upto (s : _root_.Go.ChangeSpec) : _root_.Go.OpenSpec := { _root_.Go.OpenSpec.ofChange s with cond := some uptoSmall }

/-- 'entaillaw8.WellFits', WHERE WHAT IT READS IS OF BULK AT MOST 1048576: true; the input reads as it did. -/
def wellFitsUptoRow : OpenClaim := { program := "ytnmcilaebamncaa", sum := "9c37198c4871433a0e438553255bc4168e73c1bd3f88d91a52ec42ad0f1f2582", func := "entail/entaillaw8.WellFits", spec := "wellFits", unfollowed := true, recurses := true, plainKeys := false, apart := false, narrowed := true }
def WellFitsUptoSaid : Prop := wellFitsUptoRow.holds Try.pinned (OpenSpec.upto wellFitsSpec)

/-- 'entaillaw7.ScheBack', WHERE WHAT IT READS IS OF BULK AT MOST 1048576: true; the input reads as it did. -/
def scheBackUptoRow : OpenClaim := { program := "ytnmcilaebamncaa", sum := "9c37198c4871433a0e438553255bc4168e73c1bd3f88d91a52ec42ad0f1f2582", func := "entail/entaillaw7.ScheBack", spec := "scheBack", inPlace := ["internal/bytealg.IndexByteString", "internal/bytealg.IndexString", "internal/abi.NoEscape", "internal/bytealg.MakeNoZero"], unfollowed := true, recurses := true, named := ["internal/bytealg.MaxLen"], plainKeys := false, apart := false, narrowed := true }
def ScheBackUptoSaid : Prop := scheBackUptoRow.holds Try.pinned (OpenSpec.upto scheBackSpec)

/-- 'entaillaw7.ScheForms', WHERE WHAT IT READS IS OF BULK AT MOST 1048576: true; the input reads as it did. -/
def scheFormsUptoRow : OpenClaim := { program := "ytnmcilaebamncaa", sum := "9c37198c4871433a0e438553255bc4168e73c1bd3f88d91a52ec42ad0f1f2582", func := "entail/entaillaw7.ScheForms", spec := "scheForms", inPlace := ["internal/bytealg.IndexByteString", "internal/bytealg.IndexString", "internal/abi.NoEscape", "internal/bytealg.MakeNoZero"], unfollowed := true, recurses := true, named := ["internal/bytealg.MaxLen"], plainKeys := false, apart := false, narrowed := true }
def ScheFormsUptoSaid : Prop := scheFormsUptoRow.holds Try.pinned (OpenSpec.upto scheFormsSpec)

end Rows
end Go.Proofs.Ytnmcilaebamncaa

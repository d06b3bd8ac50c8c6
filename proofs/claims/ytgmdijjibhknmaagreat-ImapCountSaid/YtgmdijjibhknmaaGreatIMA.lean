/- Maps as functions: what stands at a key. -/
import Derived.Test.YtgmdijjibhknmaaGreatProg
import Derived.Maps.Own
import Derived.Maps.OwnOps
import Derived.Maps.OwnSet
import Derived.Maps.Views
import Derived.DeepKeys4
import Derived.WideKeyEntry
import Derived.WalkKit
import Derived.WalkSpells
import Derived.WalkSmall
import Derived.StillTactics
import Derived.OwnWalk
import Derived.Laws.Pointers
import Derived.Laws.OwnMore
import Derived.Deep.RegionHeld3
import Derived.Deep.AppendLies
set_option linter.unusedVariables false
set_option linter.unusedSimpArgs false
set_option maxRecDepth 100000
namespace Go.Fbs
open Go.Proofs Go.RowKit Go.Maps
open Go.WideElems (Fit rd rg pl rd_val elemAt)
open Go.MapKept Go.ChangeMaps Go.WideShapes

abbrev DV := DataW Value
def heldR (v : Value) : Option (DV × List MemPlace) := some (.held v, [])
abbrev Mp := Lit → Option Value
open Classical in
noncomputable def updL {α : Type} (m : Lit → Option α) (k : Lit) (v : α) : Lit → Option α := fun x => if x = k then some v else m x
/-- Block b is a map of at most n entries, with just what m tells. -/
def MapAt (P : Program) (K : TypeId) (w : World) (b n : Nat) (m : Mp) : Prop :=
  ∃ D : DV, w.ownsMap P K heldR b n D ∧ ∀ kl, WideAt.IsKeyLit kl → ∀ z, D.atKey kl z = match m kl with | some v => .held v | none => z
variable {P : Program} {K T E : TypeId} {w w' : World} {b n : Nat} {m : Mp}
theorem MapAt.mono (h : MapAt P K w b n m) {n' : Nat} (hn : n ≤ n') : MapAt P K w b n' m := by
  obtain ⟨D, h1, h2⟩ := h
  exact ⟨D, h1.mono hn, h2⟩
theorem MapAt.lt (h : MapAt P K w b n m) : b < w.heap.size := by
  obtain ⟨D, h1, h2⟩ := h
  exact h1.lt
theorem MapAt.made (w : World) : MapAt P K (w.alloc (.map #[] 0)) w.heap.size 0 (fun _ => none) := ⟨.map [], World.ownsMap_made _ _ _ _, fun _ _ _ => rfl⟩
theorem MapAt.kept {row : Option Nat} (h : MapAt P K w b n m) (hg : w.grownBy w' row) (hne : some b ≠ row) : MapAt P K w' b n m := by
  obtain ⟨D, h1, h2⟩ := h
  exact ⟨D, h1.kept hg hne, h2⟩
theorem MapAt.same (h : MapAt P K w b n m) (hb : w'.heap[b]? = w.heap[b]?) : MapAt P K w' b n m := by
  obtain ⟨D, ⟨es, clock, e1, e2⟩, h2⟩ := h
  exact ⟨D, ⟨es, clock, hb.trans e1, e2⟩, h2⟩
theorem MapAt.has {D : DV} (h2 : ∀ kl, WideAt.IsKeyLit kl → ∀ z, D.atKey kl z = match m kl with | some v => .held v | none => z) {kl : Lit} (hk : WideAt.IsKeyLit kl) : Maps.has D kl = (m kl).isSome := by
  cases hm : m kl with
  | none =>
    refine has_false_of_atKey fun z => ?_
    rw [h2 kl hk z, hm]
  | some v =>
    refine has_true_of_atKey (y := .held v) fun z => ?_
    rw [h2 kl hk z, hm]
theorem MapAt.look (h : MapAt P K w b n m) (law : Keyed P K) (ht : P.underlying T = some (.map K E)) {z : Value} (hz : (zeroValue E).run P w = .ok z w) {key : Value} {kl : Lit} (hkey : keyOf P K key = some kl) (hk : WideAt.IsKeyLit kl) :
    (Instr.lookup T (.map (some b)) key false).run P w = .ok ((m kl).getD z) w := by
  obtain ⟨D, h1, h2⟩ := h
  obtain ⟨v, ps, hr, hv⟩ := h1.lookup law ht hz (zd := .held z) (zp := []) rfl hkey
  rw [hr]
  rw [h2 kl hk] at hv
  simp only [heldR, Option.some.injEq, Prod.mk.injEq] at hv
  cases hm : m kl with
  | none => rw [hm] at hv; simp only [DataW.held.injEq] at hv; rw [hv.1]; rfl
  | some x => rw [hm] at hv; simp only [DataW.held.injEq] at hv; rw [hv.1]; rfl
theorem MapAt.lookOk (h : MapAt P K w b n m) (law : Keyed P K) (ht : P.underlying T = some (.map K E)) {z : Value} (hz : (zeroValue E).run P w = .ok z w) {key : Value} {kl : Lit} (hkey : keyOf P K key = some kl) (hk : WideAt.IsKeyLit kl) :
    (Instr.lookup T (.map (some b)) key true).run P w = .ok (.tuple #[(m kl).getD z, .bool (m kl).isSome]) w := by
  obtain ⟨D, h1, h2⟩ := h
  obtain ⟨v, ps, hr, hv⟩ := h1.look_ok law ht hz (zd := .held z) (zp := []) rfl hkey
  rw [hr, MapAt.has h2 hk]
  rw [h2 kl hk] at hv
  simp only [heldR, Option.some.injEq, Prod.mk.injEq] at hv
  cases hm : m kl with
  | none => rw [hm] at hv; simp only [DataW.held.injEq] at hv; rw [hv.1]; rfl
  | some x => rw [hm] at hv; simp only [DataW.held.injEq] at hv; rw [hv.1]; rfl
theorem put_told {D : DV} (hD : IsMap D) (h2 : ∀ kl, WideAt.IsKeyLit kl → ∀ z, D.atKey kl z = match m kl with | some v => .held v | none => z) {k : Lit} (hk : WideAt.IsKeyLit k) (v : Value) :
    ∀ kl, WideAt.IsKeyLit kl → ∀ z, (D.put k (.held v)).atKey kl z = match updL m k v kl with | some v => .held v | none => z := fun kl hkl z => by
  unfold updL
  by_cases e : kl = k
  · subst e
    rw [atKey_put_same hD hkl, if_pos rfl]
  · rw [atKey_put_other e, h2 kl hkl, if_neg e]
theorem MapAt.put (h : MapAt P K w b n m) (law : Keyed P K) (ht : P.underlying T = some (.map K E)) (hn : n < maxLen) {key val : Value} {kl : Lit} (hkey : keyOf P K key = some kl) (hk : WideAt.IsKeyLit kl) :
    ∃ w', (Instr.mapUpdate T (.map (some b)) key val).run P w = .ok () w' ∧ MapAt P K w' b (n + 1) (updL m kl val) ∧ w.grownBy w' (some b) := by
  obtain ⟨D, h1, h2⟩ := h
  obtain ⟨w', hr, h3, h4⟩ := h1.update law ht hn hkey (val := val) (d := .held val) (ps := []) rfl
  exact ⟨w', hr, ⟨_, h3, put_told h1.isMap h2 hk val⟩, h4⟩
/-- `m[k] op= v`, in its two steps. -/
theorem MapAt.entry (h : MapAt P K w b n m) (kl0 : WideMaps.KeyLaw P K) (ht : P.underlying T = some (.map K E)) (hn : n < maxLen) {z : Value} (hz : ∀ u : World, (zeroValue E).run P u = .ok z u) {key : Value} {kl : Lit} (hkey : keyOf P K key = some kl) (hk : WideAt.IsKeyLit kl) :
    ∃ v0 st w1, (Instr.mapEntry T (.map (some b)) key).run P w = .ok (.tuple #[v0, goInt st]) w1 ∧ w.grownBy w1 (some b) ∧
      ∀ val, ∃ w2, (Instr.entryStore T (.map (some b)) (goInt st) val).run P w1 = .ok () w2 ∧ MapAt P K w2 b (n + 1) (updL m kl val) ∧ w.grownBy w2 (some b) := by
  obtain ⟨D, h1, h2⟩ := h
  have h1' := h1
  obtain ⟨es, clock, hb, F, hs, hD⟩ := h1
  obtain ⟨v0, st, es1, clock1, hr, _, hst⟩ := WideElems.entry_then_store kl0 ht hz hb F hkey
  refine ⟨v0, st, _, hr, ⟨rfl, rfl, rfl, by simp [setBlock], fun i _ hi => heap_setBlock_other hb _ (fun e => hi (by rw [e]))⟩, fun val => ?_⟩
  have hb1 : (setBlock w b (.map es1 clock1)).heap[b]? = some (.map es1 clock1) := heap_setBlock_same hb _
  obtain ⟨es', clock', hr2, hup⟩ := hst _ val hb1
  obtain ⟨w', hr3, h3, h4⟩ := h1'.update (Keyed.of_law kl0) ht hn hkey (val := val) (d := .held val) (ps := []) rfl
  rw [hup] at hr3
  have e : setBlock w b (.map es' clock') = w' := by simpa using hr3
  have e2 : setBlock (setBlock w b (.map es1 clock1)) b (.map es' clock') = w' := by rw [← e]; simp [setBlock]
  exact ⟨_, hr2, by rw [e2]; exact ⟨_, h3, put_told h1'.isMap h2 hk val⟩, by rw [e2]; exact h4⟩

/-! ### the keys of this program -/

theorem lawSw : Keyed Tryz.prog 9 := string_keyed Tryz.underlying9
theorem key_str {a : List UInt8} (ha : a.length ≤ maxLen) : keyOf Tryz.prog 9 (.string ⟨⟨a⟩⟩) = some (.string a) := Go.WideMaps.keyOf_string_mk (P := Tryz.prog) (s := ⟨⟨a⟩⟩) Tryz.underlying9 ha
theorem zeroIw (w : World) : (zeroValue 3).run Tryz.prog w = .ok (.int .i64 0) w := by kernel_rfl
end Go.Fbs

/- norm.Once, walked: texts, rising, each once. -/
import Derived.Test.YtgmdijjibhknmaaGreatIShelf
import Derived.WalkKit
import Derived.WalkSpells
import Derived.WalkSmall
import Derived.StillTactics
import Derived.OwnWalk
import Derived.Laws.Pointers
import Derived.Laws.OwnMore
import Derived.Laws.ResultCell
import Derived.Deep.RegionHeld3
import Derived.Deep.AppendLies
set_option linter.unusedVariables false
set_option linter.unusedSimpArgs false
set_option maxRecDepth 100000
namespace Go.Fbs
open Go.Proofs Go.RowKit Go.Maps
abbrev B8 := List UInt8
/-- Below B all is as it was. -/
structure Bel (B : Nat) (w w' : World) : Prop where
  os : w'.os = w.os
  output : w'.output = w.output
  size : w.heap.size ≤ w'.heap.size
  block : ∀ k, k < B → w'.heap[k]? = w.heap[k]?
theorem Bel.refl (B : Nat) (w : World) : Bel B w w := ⟨rfl, rfl, Nat.le_refl _, fun _ _ => rfl⟩
theorem Bel.trans {B : Nat} {a b c : World} (h : Bel B a b) (k : Bel B b c) : Bel B a c :=
  ⟨k.os.trans h.os, k.output.trans h.output, Nat.le_trans h.size k.size, fun i hi => (k.block i hi).trans (h.block i hi)⟩
theorem Bel.mono {B C : Nat} {a b : World} (h : Bel C a b) (hb : B ≤ C) : Bel B a b := ⟨h.os, h.output, h.size, fun k hk => h.block k (by omega)⟩
theorem own_some {w : World} {base : Nat} {e : TypeId} {size n : Nat} {v : Value} {xs : List Value} (h : w.ownsRow base e size v n xs) (h0 : n ≠ 0) : ∃ g cp, v = .slice (some ⟨g, 0, none⟩) n cp ∧ base ≤ g ∧ g < w.heap.size ∧ n ≤ cp := by
  obtain ⟨_, h2⟩ := h
  rcases h2 with ⟨rfl, h⟩ | ⟨g', cap', cur, rfl, h1, h2, h3, _⟩
  · exact absurd h h0
  · exact ⟨_, _, rfl, h1, (Array.getElem?_eq_some_iff.1 h2).1, h3⟩
theorem own_form {w : World} {base : Nat} {e : TypeId} {size n : Nat} {v : Value} {xs : List Value} (h : w.ownsRow base e size v n xs) : ∃ ad cp, v = .slice ad n cp := by
  obtain ⟨_, h2⟩ := h
  rcases h2 with ⟨rfl, rfl⟩ | ⟨g', cap', cur, rfl, _⟩
  · exact ⟨none, 0, rfl⟩
  · exact ⟨_, _, rfl⟩
def txV (s : B8) : Value := .string ⟨⟨s⟩⟩
/-- A row of texts that is read. -/
def TxAt (w : World) (v : Value) (zs : List B8) : Prop :=
  (∃ c, v = .slice none 0 c ∧ zs = []) ∨ ∃ b off c, v = .slice (some ⟨b, off, none⟩) zs.length c ∧ ∀ j s, zs[j]? = some s → w.cell? ⟨b, off + j, none⟩ = some (txV s)
/-- A row of texts of one's own. -/
def TxOwn (base : Nat) (w : World) (v : Value) (zs : List B8) : Prop := w.ownsRow base 9 1 v zs.length (zs.map txV)
noncomputable def onceM (zs : List B8) : List B8 := Lib.compact (zs.mergeSort fun x y => decide (x ≤ y))
variable {w w' : World} {base g cap n : Nat} {zs : List B8}
theorem TxOwn.holds (h : TxOwn base w (.slice (some ⟨g, 0, none⟩) zs.length cap) zs) : Sort.Holds encStr w g 0 zs.toArray := by
  intro j hj
  have hj : j < zs.length := by simpa using hj
  refine ⟨?_, World.ownsRow.frozenAt h _⟩
  rw [Nat.zero_add, World.ownsRow.cellAt h j (by omega), List.getElem?_map, List.getElem?_eq_getElem hj]
  simp [hj, encStr, txV]
theorem own_put {ys : List B8} {m : Nat} (h : TxOwn base w (.slice (some ⟨g, 0, none⟩) zs.length cap) zs) (hl : ys.length = zs.length) (hm : m ≤ ys.length) :
    TxOwn base (Sort.putRow encStr w g 0 ys.toArray) (.slice (some ⟨g, 0, none⟩) (ys.take m).length cap) (ys.take m) ∧ ∀ k, k ≠ g → (Sort.putRow encStr w g 0 ys.toArray).heap[k]? = w.heap[k]? := by
  obtain ⟨h1, ⟨h2, _⟩ | ⟨g', cap', cur, e, hg, hh, hn, hc, hs, ht⟩⟩ := h
  · cases h2
  cases e
  have hk : (Sort.putRow encStr w g 0 ys.toArray).heap[g]? = some (.cells (Sort.putCells encStr 0 ys.toArray cur) 9 (0, 0)) := by
    unfold Sort.putRow Sort.mapBlock
    simp [Array.getElem?_modify, hh, Sort.onCells]
  refine ⟨⟨by simp, .inr ⟨g, cap, _, rfl, hg, hk, ?_, hc, ?_, ?_⟩⟩, fun k hne => ?_⟩
  · rw [List.length_take]; omega
  · unfold Sort.putCells; rw [Array.size_mapIdx]; exact hs
  · refine List.ext_getElem? fun j => ?_
    rw [List.getElem?_take, List.getElem?_map, List.getElem?_take, Nat.mul_one]
    have hlen : (ys.take m).length = m := by rw [List.length_take]; omega
    rw [hlen]
    split
    · rename_i hj
      have hj2 : j < ys.length := by omega
      have hj3 : j < cur.size := by rw [hs]; omega
      rw [Array.getElem?_toList]
      unfold Sort.putCells
      rw [Array.getElem?_mapIdx, Array.getElem?_eq_getElem hj3, Option.map_some, if_pos ⟨Nat.zero_le _, by simpa using hj2⟩, List.getElem?_eq_getElem hj2]
      simp [hj2, encStr, txV]
    · rfl
  · unfold Sort.putRow Sort.mapBlock
    simp [Array.getElem?_modify, Ne.symm hne]
end Go.Fbs

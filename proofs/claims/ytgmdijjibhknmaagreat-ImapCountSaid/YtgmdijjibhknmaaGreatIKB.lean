/- What leaves out neighbours, walked: statements whose names rise all stay. -/
import Derived.Test.YtgmdijjibhknmaaGreatIK
import Derived.StillTailTactics
set_option linter.unusedVariables false
set_option linter.unusedSimpArgs false
set_option maxRecDepth 100000
namespace Go.Fbs
open Go.Proofs Go.RowKit Go.Maps
variable {w w' wr : World}
theorem same31 {a b : B8} {d d2 : Bool} {v1 v2 v3 v4 u1 u2 u3 u4 : Value} (hne : a ≠ b) (w : World) :
    Calls Tryz.prog 31 #[.agg #[.string ⟨⟨a⟩⟩, .bool d, v1, v2, v3, v4], .agg #[.string ⟨⟨b⟩⟩, .bool d2, u1, u2, u3, u4]] w fun e w' => e = .returned (.bool false) ∧ Bel w.heap.size w w' := by
  obtain ⟨X, hX⟩ : ∃ X, X = (w.alloc (.cells #[.string ⟨⟨a⟩⟩, .bool d, v1, v2, v3, v4] 31)).alloc (.cells #[.string ⟨⟨b⟩⟩, .bool d2, u1, u2, u3, u4] 31) := ⟨_, rfl⟩
  have z1 : (w.alloc (.cells #[.string ⟨⟨a⟩⟩, .bool d, v1, v2, v3, v4] 31)).heap.size = w.heap.size + 1 := alloc_sz rfl _
  have k0 : X.heap[w.heap.size]? = some (.cells #[.string ⟨⟨a⟩⟩, .bool d, v1, v2, v3, v4] 31 (0, 0)) := by rw [hX, heap_alloc_old _ _ (by omega), heap_alloc_new]
  have k1 : X.heap[w.heap.size + 1]? = some (.cells #[.string ⟨⟨b⟩⟩, .bool d2, u1, u2, u3, u4] 31 (0, 0)) := by rw [hX, ← z1, heap_alloc_new]
  have hb : Bel w.heap.size w X := by rw [hX]; exact ⟨rfl, rfl, by simp; omega, fun k hk => by rw [heap_alloc_old _ _ (by omega), heap_alloc_old _ _ hk]⟩
  have y0 : X.cell? ⟨w.heap.size, 0, none⟩ = some (.string ⟨⟨a⟩⟩) := by rw [Lib.cell_of_heap k0]; rfl
  have x0 : X.cell? ⟨w.heap.size + 1, 0, none⟩ = some (.string ⟨⟨b⟩⟩) := by rw [Lib.cell_of_heap k1]; rfl
  have hab : (a == b) = false := by simpa using hne
  go_enter Tryz.func31, Tryz.ntmps31
  go_wp2
  rw [← hX]
  clear hX z1
  go_wp2
  go_ret
  exact ⟨rfl, hb⟩
theorem cmpS_ne {a b : B8} (h : cmpS a b false false = 1) : a ≠ b := fun e => by
  subst e
  have : Lib.compareBytes a a = 0 := by
    clear h
    induction a with
    | nil => rfl
    | cons x a ih =>
      unfold Lib.compareBytes
      rw [if_neg (UInt8.lt_irrefl x), if_neg (UInt8.lt_irrefl x)]
      exact ih
  unfold cmpS at h
  rw [this] at h
  revert h
  decide
theorem compact30 {ad : Option Addr} {cp : Nat} {rows : List SM} (h : StAt w ad rows) (hr : Rise rows) (hn : rows.length ≤ 1000) :
    Calls Tryz.prog 30 #[.slice ad rows.length cp, .func (.func 31) #[] #[]] w fun e w' => e = .returned (.slice ad rows.length cp) ∧ Bel w.heap.size w w' := by
  by_cases h2 : rows.length < 2
  · have h2i : (rows.length : Int) < 2 := by omega
    go_enter Tryz.func30, Tryz.ntmps30
    go_wp2
    go_ret
    exact ⟨rfl, Bel.refl _ _⟩
  have h2i : ¬ (rows.length : Int) < 2 := by omega
  go_enter Tryz.func30, Tryz.ntmps30
  go_wp2
  go_loopw [5] (fun i wr => ∃ j : Nat, 0 < j ∧ i = .int .i64 j ∧ Bel w.heap.size w wr) (fun i _ => rows.length - (iOf i).toNat)
  case atStart => exact ⟨1, by decide, rfl, Bel.refl _ _⟩
  case round =>
    obtain ⟨j, hpos, rfl, hb⟩ := hrel
    by_cases hjl : j < rows.length
    · have hj1 : (j : Int) < (rows.length : Int) := by omega
      obtain ⟨k, hk⟩ : ∃ k, j = k + 1 := ⟨j - 1, by omega⟩
      obtain ⟨⟨s1, u1, g1, a1, r1⟩, hx⟩ : ∃ s, rows[k]? = some s := ⟨_, List.getElem?_eq_getElem (by omega)⟩
      obtain ⟨⟨s2, u2, g2, a2, r2⟩, hy⟩ : ∃ s, rows[j]? = some s := ⟨_, List.getElem?_eq_getElem hjl⟩
      obtain ⟨b, off, had, hg⟩ := (h.bel hb).get
      obtain rfl := had (fun e => by rw [e] at hjl; simp at hjl)
      obtain ⟨x0, x1, x2, x3, x4, x5⟩ := hg k _ hx
      obtain ⟨y0, y1, y2, y3, y4, y5⟩ := hg j _ hy
      dsimp only at x0 x1 x2 x3 x4 x5 y0 y1 y2 y3 y4 y5
      have hcm := same31 (d := false) (d2 := false) (v1 := u2) (v2 := g2) (v3 := a2) (v4 := r2) (u1 := u1) (u2 := g1) (u3 := a1) (u4 := r1) (cmpS_ne (hr k _ _ hx (by rw [← hk]; exact hy))) wr.drew
      dsimp only at hcm
      have hw1 : IntKind.i64.wrap ((j : Int) - 1) = (k : Int) := by rw [wrapZ (by omega) (by omega)]; omega
      have hw2 : IntKind.i64.wrap ((j : Int) + 1) = (j : Int) + 1 := wrapZ (by omega) (by omega)
      have hp : (0 : Int) < (j : Int) := by omega
      have hkz : (0 : Int) ≤ (k : Int) := by omega
      have hjz : (0 : Int) ≤ (j : Int) := by omega
      have hkl : (k : Int) < (rows.length : Int) := by omega
      clear hg hx hy hk had hr h
      go_wp2
      go_still_tail 10, (by kernel_rfl)
      go_wp2_with (go_at_call 31; refine hcm.mono ?_; rintro e w5 ⟨rfl, hb5⟩)
      have hb6 : Bel wr.heap.size wr w5 := ⟨hb5.os, hb5.output, hb5.size, hb5.block⟩
      exact ⟨⟨j + 1, by omega, by simp, hb.trans (hb6.mono hb.size)⟩, by simp [iOf]; omega⟩
    · have hj1 : ¬ (j : Int) < (rows.length : Int) := by omega
      go_wp2
      go_ret
      exact ⟨rfl, hb⟩
end Go.Fbs

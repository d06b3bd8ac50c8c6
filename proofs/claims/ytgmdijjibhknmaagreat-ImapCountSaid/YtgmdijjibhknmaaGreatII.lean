/- The compare of statements, walked: the whole. -/
import Derived.Test.YtgmdijjibhknmaaGreatIH
set_option linter.unusedVariables false
set_option linter.unusedSimpArgs false
set_option maxRecDepth 100000
namespace Go.Fbs
open Go.Proofs Go.RowKit Go.Maps
variable {w w' : World}
def cmpS (a b : B8) (d d2 : Bool) : Int := if Lib.compareBytes a b = 0 then Lib.compareInt (if d then 1 else 0) (if d2 then 1 else 0) else Lib.compareBytes a b
set_option maxHeartbeats 1600000 in
theorem cmpS_calls {a b : B8} {d d2 : Bool} {v1 v2 v3 v4 u1 u2 u3 u4 : Value} (w : World) :
    Calls Tryz.prog 22 #[.agg #[.string ⟨⟨a⟩⟩, .bool d, v1, v2, v3, v4], .agg #[.string ⟨⟨b⟩⟩, .bool d2, u1, u2, u3, u4]] w fun e w' => e = .returned (.int .i64 (cmpS a b d d2)) ∧ Bel w.heap.size w w' := by
  obtain ⟨X, hX⟩ : ∃ X, X = (w.alloc (.cells #[.string ⟨⟨a⟩⟩, .bool d, v1, v2, v3, v4] 31)).alloc (.cells #[.string ⟨⟨b⟩⟩, .bool d2, u1, u2, u3, u4] 31) := ⟨_, rfl⟩
  have z1 : (w.alloc (.cells #[.string ⟨⟨a⟩⟩, .bool d, v1, v2, v3, v4] 31)).heap.size = w.heap.size + 1 := alloc_sz rfl _
  have k0 : X.heap[w.heap.size]? = some (.cells #[.string ⟨⟨a⟩⟩, .bool d, v1, v2, v3, v4] 31 (0, 0)) := by rw [hX, heap_alloc_old _ _ (by omega), heap_alloc_new]
  have k1 : X.heap[w.heap.size + 1]? = some (.cells #[.string ⟨⟨b⟩⟩, .bool d2, u1, u2, u3, u4] 31 (0, 0)) := by rw [hX, ← z1, heap_alloc_new]
  have hb : Bel w.heap.size w X := by rw [hX]; exact ⟨rfl, rfl, by simp; omega, fun k hk => by rw [heap_alloc_old _ _ (by omega), heap_alloc_old _ _ hk]⟩
  have y0 : X.cell? ⟨w.heap.size, 0, none⟩ = some (.string ⟨⟨a⟩⟩) := by rw [Lib.cell_of_heap k0]; rfl
  have y1 : X.cell? ⟨w.heap.size, 1, none⟩ = some (.bool d) := by rw [Lib.cell_of_heap k0]; rfl
  have x0 : X.cell? ⟨w.heap.size + 1, 0, none⟩ = some (.string ⟨⟨b⟩⟩) := by rw [Lib.cell_of_heap k1]; rfl
  have x1 : X.cell? ⟨w.heap.size + 1, 1, none⟩ = some (.bool d2) := by rw [Lib.cell_of_heap k1]; rfl
  have c20 := Tryz.strings_Compare ⟨⟨a⟩⟩ ⟨⟨b⟩⟩ X.drew
  have c24 := Tryz.cmp_Compare_int (if d then 1 else 0) (if d2 then 1 else 0) X.drew
  have c25 := flag_calls d X.drew
  have c26 := flag_calls d2 X.drew
  dsimp only at c20
  have hor := or_calls (w := X.drew.alloc (.cells #[.int .i64 (Lib.compareBytes a b), .int .i64 (Lib.compareInt (if d then 1 else 0) (if d2 then 1 else 0))] 3)) (B := X.heap.size) (x := Lib.compareBytes a b) (y := Lib.compareInt (if d then 1 else 0) (if d2 then 1 else 0)) (heap_alloc_new X.drew _)
  unfold cmpS
  generalize Lib.compareInt (if d then 1 else 0) (if d2 then 1 else 0) = zi at c24 hor ⊢
  generalize Lib.compareBytes a b = zb at c20 hor ⊢
  generalize hf1 : (if d then (1 : Int) else 0) = f1 at c24 c25
  generalize hf2 : (if d2 then (1 : Int) else 0) = f2 at c24 c26
  clear hf1 hf2
  generalize (if zb = 0 then zi else zb) = zo at hor ⊢
  go_enter Tryz.func22, Tryz.ntmps22
  go_wp2
  rw [← hX]
  clear hX z1
  go_region_law (first
    | (go_simp; go_at_call 23; refine hor.mono ?_; rintro e w5 ⟨rfl, rfl⟩)
    | (go_simp; go_at_call 24; refine c24.mono ?_; rintro e w4 ⟨rfl, rfl⟩)
    | (go_simp; go_at_call 25; refine c25.mono ?_; rintro e w2 ⟨rfl, rfl⟩)
    | (go_simp; go_at_call 25; refine c26.mono ?_; rintro e w3 ⟨rfl, rfl⟩)
    | (go_simp; go_at_call 20; refine c20.mono ?_; rintro e w1 ⟨rfl, rfl⟩))
  all_goals
    go_wp2
    go_ret
    exact ⟨rfl, hb.os, hb.output, by have := hb.size; simp; omega, fun k hk => (heap_alloc_old X _ (by have := hb.size; omega)).trans (hb.block k hk)⟩
end Go.Fbs

/- imap.free where there is no user. -/
import Derived.Test.YtgmdijjibhknmaaGreatIG
set_option linter.unusedVariables false
set_option linter.unusedSimpArgs false
set_option maxRecDepth 100000
namespace Go.Fbs
open Go.Proofs Go.RowKit Go.Maps
variable {w w' : World}
theorem delete_none (ad : Option Addr) (c : Nat) (f : Value) (w : World) : Calls Tryz.prog 34 #[.slice ad 0 c, f] w fun e w' => e = .returned (.slice ad 0 c) ∧ w' = w := by
  have hi := Tryz.slices_IndexFunc_empty (α := Sm) ad c f w
  go_enter Tryz.func34, Tryz.ntmps34
  go_wp2_with (go_at_call 74; refine hi.mono ?_; rintro e w1 ⟨rfl, rfl⟩)
  go_ret
  exact ⟨rfl, rfl⟩
set_option maxHeartbeats 1600000 in
theorem free_none {vu va vr vg vs : Value} {ab : Option Addr} {cb : Nat} (h : TxAt w vu []) :
    Calls Tryz.prog 8 #[.agg #[vu, va, vr, vg, vs, .slice ab 0 cb]] w fun e w' => (∃ ad c, e = .returned (.slice ad 0 c)) ∧ Bel w.heap.size w w' := by
  obtain ⟨a, c, rfl⟩ : ∃ a c, vu = .slice a 0 c := by
    rcases h with ⟨c, rfl, _⟩ | ⟨b, off, c, rfl, _⟩
    · exact ⟨_, _, rfl⟩
    · exact ⟨_, _, rfl⟩
  have hmm := @run_makeMap Tryz.prog
  go_enter Tryz.func8, Tryz.ntmps8
  go_wp2
  obtain ⟨X, hX⟩ : ∃ X, X = (((w.alloc (.cells #[.slice a 0 c, va, vr, vg, vs, .slice ab 0 cb] 27)).alloc (.map #[] 0)).alloc (.cells #[.map (some (w.heap.size + 1))] 75)) := ⟨_, rfl⟩
  have z1 : (w.alloc (.cells #[.slice a 0 c, va, vr, vg, vs, .slice ab 0 cb] 27)).heap.size = w.heap.size + 1 := alloc_sz rfl _
  have z2 := alloc_sz z1 (.map #[] 0)
  have k0 : X.heap[w.heap.size]? = some (.cells #[.slice a 0 c, va, vr, vg, vs, .slice ab 0 cb] 27 (0, 0)) := by
    rw [hX, heap_alloc_old _ _ (by omega), heap_alloc_old _ _ (by omega), heap_alloc_new]
  have z3 := alloc_sz z2 (.cells #[.map (some (w.heap.size + 1))] 75)
  have k2 : X.heap[w.heap.size + 1 + 1]? = some (.cells #[.map (some (w.heap.size + 1))] 75 (0, 0)) := by
    rw [hX, ← z2, heap_alloc_new]
  have hbX : Bel w.heap.size w X := by
    rw [hX]
    exact ⟨rfl, rfl, by have := alloc_sz z2 (.cells #[.map (some (w.heap.size + 1))] 75); omega, fun k hk => by rw [heap_alloc_old _ _ (by omega), heap_alloc_old _ _ (by omega), heap_alloc_old _ _ hk]⟩
  rw [← hX]
  clear hX z1 z2 z3
  have y0 : X.cell? ⟨w.heap.size, 0, none⟩ = some (.slice a 0 c) := by rw [Lib.cell_of_heap k0]; rfl
  have hcl : Calls Tryz.prog 35 #[.slice a 0 c] X fun e w' => (∃ ad c', e = .returned (.slice ad 0 c')) ∧ Bel X.heap.size X w' := by
    cases a with
    | none => exact (Tryz.slices_Clone_string_nil 0 c X).mono (by rintro e w1 ⟨rfl, rfl⟩; exact ⟨⟨_, _, rfl⟩, Bel.refl _ _⟩)
    | some p => exact (Tryz.slices_Clone_string_zero p c X).mono (by rintro e w1 ⟨v1, rfl, ho, _, hb⟩; obtain ⟨ad, cp, rfl⟩ := own_form ho; exact ⟨⟨_, _, rfl⟩, bel_below hb⟩)
  go_loopw [10] (fun i wr => i = .int .i64 0 ∧ wr = X) (fun _ _ => 0)
  case atStart => exact ⟨rfl, rfl⟩
  case round =>
    obtain ⟨rfl, rfl⟩ := hrel
    go_wp2_with (first
      | (go_at_call 35; refine hcl.mono ?_; rintro e w1 ⟨⟨ad, c', rfl⟩, hb⟩)
      | (go_at_call 34; refine (delete_none _ _ _ _).mono ?_; rintro e w2 ⟨rfl, rfl⟩))
    go_ret
    exact ⟨⟨_, _, rfl⟩, hbX.trans (hb.mono hbX.size)⟩
end Go.Fbs

/- The compare of statements, walked. -/
import Derived.Test.YtgmdijjibhknmaaGreatIG
set_option linter.unusedVariables false
set_option linter.unusedSimpArgs false
set_option maxRecDepth 100000
namespace Go.Fbs
open Go.Proofs Go.RowKit Go.Maps
variable {w w' : World}
theorem flag_calls (b : Bool) (w : World) : Calls Tryz.prog 25 #[.bool b] w fun e w' => e = .returned (.int .i64 (if b then 1 else 0)) ∧ w' = w := by
  cases b
  · go_enter Tryz.func25, Tryz.ntmps25
    go_wp2
    go_ret
    exact ⟨rfl, rfl⟩
  · go_enter Tryz.func25, Tryz.ntmps25
    go_wp2
    go_ret
    exact ⟨rfl, rfl⟩
theorem or_calls {B : Nat} {x y : Int} (hB : w.heap[B]? = some (.cells #[.int .i64 x, .int .i64 y] 3 (0, 0))) : Calls Tryz.prog 23 #[.slice (some ⟨B, 0, none⟩) 2 2] w fun e w' => e = .returned (.int .i64 (if x = 0 then y else x)) ∧ w' = w := by
  have c0 : w.cell? ⟨B, 0, none⟩ = some (.int .i64 x) := by rw [Lib.cell_of_heap hB]; rfl
  have c1 : w.cell? ⟨B, 1, none⟩ = some (.int .i64 y) := by rw [Lib.cell_of_heap hB]; rfl
  go_enter Tryz.func23, Tryz.ntmps23
  go_wp2
  go_loopw [8] (fun i wr => wr = w ∧ (i = .int .i64 0 ∨ (i = .int .i64 1 ∧ x = 0) ∨ (i = .int .i64 2 ∧ x = 0 ∧ y = 0))) (fun i _ => 3 - (iOf i).toNat)
  case atStart => exact ⟨rfl, .inl rfl⟩
  case round =>
    obtain ⟨rfl, h⟩ := hrel
    rcases h with rfl | ⟨rfl, hx⟩ | ⟨rfl, hx, hy⟩
    · by_cases hx : x = 0
      · subst hx
        go_wp2
        exact ⟨by simp, by decide⟩
      · have hxb : (x == 0) = false := by simpa using hx
        go_wp2
        go_ret
        exact ⟨by simp, rfl⟩
    · subst hx
      by_cases hy : y = 0
      · subst hy
        go_wp2
        exact ⟨by simp, by decide⟩
      · have hyb : (y == 0) = false := by simpa using hy
        go_wp2
        go_ret
        exact ⟨by simp, rfl⟩
    · subst hx
      subst hy
      go_wp2
      go_ret
      exact ⟨by simp, rfl⟩
end Go.Fbs

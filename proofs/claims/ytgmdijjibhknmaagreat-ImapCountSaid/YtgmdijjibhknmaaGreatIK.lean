/- The stable sorts and what leaves out neighbours, walked: of nothing, and of statements that rise. -/
import Derived.Test.YtgmdijjibhknmaaGreatIJ
set_option linter.unusedVariables false
set_option linter.unusedSimpArgs false
set_option maxRecDepth 100000
namespace Go.Fbs
open Go.Proofs Go.RowKit Go.Maps
variable {w w' wr : World}
theorem isort113 (ad : Option Addr) (cp : Nat) (f : Value) (w : World) : Calls Tryz.prog 113 #[.slice ad 0 cp, .int .i64 0, .int .i64 0, f] w fun e w' => e = .returned (.tuple #[]) ∧ w' = w := by
  go_enter Tryz.func113, Tryz.ntmps113
  go_wp2
  go_loopw [8] (fun i wr => i = .int .i64 1 ∧ wr = w) (fun _ _ => 0)
  case atStart => exact ⟨rfl, rfl⟩
  case round =>
    obtain ⟨rfl, rfl⟩ := hrel
    go_wp2
    go_end0
    exact ⟨rfl, rfl⟩
theorem isort118 (ad : Option Addr) (cp : Nat) (f : Value) (w : World) : Calls Tryz.prog 118 #[.slice ad 0 cp, .int .i64 0, .int .i64 0, f] w fun e w' => e = .returned (.tuple #[]) ∧ w' = w := by
  go_enter Tryz.func118, Tryz.ntmps118
  go_wp2
  go_loopw [8] (fun i wr => i = .int .i64 1 ∧ wr = w) (fun _ _ => 0)
  case atStart => exact ⟨rfl, rfl⟩
  case round =>
    obtain ⟨rfl, rfl⟩ := hrel
    go_wp2
    go_end0
    exact ⟨rfl, rfl⟩
theorem stable68 (ad : Option Addr) (cp : Nat) (f : Value) (w : World) : Calls Tryz.prog 68 #[.slice ad 0 cp, .int .i64 0, f] w fun e w' => e = .returned (.tuple #[]) ∧ w' = w := by
  have hi := isort113 ad cp f w
  go_enter Tryz.func68, Tryz.ntmps68
  go_wp2
  go_loopw [7, 8] (fun a b wr => a = .int .i64 0 ∧ b = .int .i64 20 ∧ wr = w) (fun _ _ _ => 0)
  case atStart => exact ⟨rfl, rfl, rfl⟩
  case round =>
    obtain ⟨rfl, rfl, rfl⟩ := hrel
    go_wp2_with (go_at_call 113; refine hi.mono ?_; rintro e w1 ⟨rfl, rfl⟩)
    go_loopw [6] (fun a wr => a = .int .i64 20 ∧ wr = w1) (fun _ _ => 0)
    case atStart => exact ⟨rfl, rfl⟩
    case round =>
      obtain ⟨rfl, rfl⟩ := hrel
      go_wp2
      go_end0
      exact ⟨rfl, rfl⟩
theorem stable72 (ad : Option Addr) (cp : Nat) (f : Value) (w : World) : Calls Tryz.prog 72 #[.slice ad 0 cp, .int .i64 0, f] w fun e w' => e = .returned (.tuple #[]) ∧ w' = w := by
  have hi := isort118 ad cp f w
  go_enter Tryz.func72, Tryz.ntmps72
  go_wp2
  go_loopw [7, 8] (fun a b wr => a = .int .i64 0 ∧ b = .int .i64 20 ∧ wr = w) (fun _ _ _ => 0)
  case atStart => exact ⟨rfl, rfl, rfl⟩
  case round =>
    obtain ⟨rfl, rfl, rfl⟩ := hrel
    go_wp2_with (go_at_call 118; refine hi.mono ?_; rintro e w1 ⟨rfl, rfl⟩)
    go_loopw [6] (fun a wr => a = .int .i64 20 ∧ wr = w1) (fun _ _ => 0)
    case atStart => exact ⟨rfl, rfl⟩
    case round =>
      obtain ⟨rfl, rfl⟩ := hrel
      go_wp2
      go_end0
      exact ⟨rfl, rfl⟩
theorem sort18 (ad : Option Addr) (cp : Nat) (f : Value) (w : World) : Calls Tryz.prog 18 #[.slice ad 0 cp, f] w fun e w' => e = .returned (.tuple #[]) ∧ w' = w := by
  have hi := stable68 ad cp f w
  go_enter Tryz.func18, Tryz.ntmps18
  go_wp2_with (go_at_call 68; refine hi.mono ?_; rintro e w1 ⟨rfl, rfl⟩)
  go_end0
  exact ⟨rfl, rfl⟩
theorem sort26 (ad : Option Addr) (cp : Nat) (f : Value) (w : World) : Calls Tryz.prog 26 #[.slice ad 0 cp, f] w fun e w' => e = .returned (.tuple #[]) ∧ w' = w := by
  have hi := stable72 ad cp f w
  go_enter Tryz.func26, Tryz.ntmps26
  go_wp2_with (go_at_call 72; refine hi.mono ?_; rintro e w1 ⟨rfl, rfl⟩)
  go_end0
  exact ⟨rfl, rfl⟩
theorem compact28 (ad : Option Addr) (cp : Nat) (f : Value) (w : World) : Calls Tryz.prog 28 #[.slice ad 0 cp, f] w fun e w' => e = .returned (.slice ad 0 cp) ∧ w' = w := by
  go_enter Tryz.func28, Tryz.ntmps28
  go_wp2
  go_ret
  exact ⟨rfl, rfl⟩
theorem compact32 (ad : Option Addr) (cp : Nat) (f : Value) (w : World) : Calls Tryz.prog 32 #[.slice ad 0 cp, f] w fun e w' => e = .returned (.slice ad 0 cp) ∧ w' = w := by
  go_enter Tryz.func32, Tryz.ntmps32
  go_wp2
  go_ret
  exact ⟨rfl, rfl⟩
theorem sort21 {ad : Option Addr} {cp : Nat} {rows : List SM} (h : StAt w ad rows) (hr : Rise rows) (hn : rows.length ≤ 19) :
    Calls Tryz.prog 21 #[.slice ad rows.length cp, .func (.func 22) #[] #[]] w fun e w' => e = .returned (.tuple #[]) ∧ Bel w.heap.size w w' := by
  have hi := isort_walk (cp := cp) h hr (by omega)
  have h1 : ¬ (20 : Int) ≤ (rows.length : Int) := by omega
  have h2 : ¬ (20 : Int) < (rows.length : Int) := by omega
  have hs : Calls Tryz.prog 70 #[.slice ad rows.length cp, .int .i64 rows.length, .func (.func 22) #[] #[]] w fun e w' => e = .returned (.tuple #[]) ∧ Bel w.heap.size w w' := by
    go_enter Tryz.func70, Tryz.ntmps70
    go_wp2
    go_loopw [7, 8] (fun a b wr => a = .int .i64 0 ∧ b = .int .i64 20 ∧ wr = w) (fun _ _ _ => 0)
    case atStart => exact ⟨rfl, rfl, rfl⟩
    case round =>
      obtain ⟨rfl, rfl, rfl⟩ := hrel
      go_wp2_with (go_at_call 116; refine hi.mono ?_; rintro e w1 ⟨rfl, hb⟩)
      go_loopw [6] (fun a wr => a = .int .i64 20 ∧ wr = w1) (fun _ _ => 0)
      case atStart => exact ⟨rfl, rfl⟩
      case round =>
        obtain ⟨rfl, rfl⟩ := hrel
        go_wp2
        go_end0
        exact ⟨rfl, hb⟩
  go_enter Tryz.func21, Tryz.ntmps21
  go_wp2_with (go_at_call 70; refine hs.mono ?_; rintro e w1 ⟨rfl, hb⟩)
  go_end0
  exact ⟨rfl, hb⟩
end Go.Fbs

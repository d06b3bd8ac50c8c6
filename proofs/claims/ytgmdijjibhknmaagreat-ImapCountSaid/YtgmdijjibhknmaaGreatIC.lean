/- glob.Match, walked. -/
import Derived.Test.YtgmdijjibhknmaaGreatIB
set_option linter.unusedVariables false
set_option linter.unusedSimpArgs false
set_option maxRecDepth 100000
namespace Go.Fbs
open Go.Proofs Go.RowKit Go.Maps
variable {w w' : World}
def matchB (p s : B8) : Bool := if Lib.hasSuffix p [42] = true then Lib.hasPrefix s (Lib.trimSuffix p [42]) else p == s
theorem match_calls (p s : B8) (hp : p.length ≤ 100000) (w : World) : Calls Tryz.prog 123 #[.string ⟨⟨p⟩⟩, .string ⟨⟨s⟩⟩] w fun e w' => e = .returned (.bool (matchB p s)) ∧ w' = w := by
  have hcs := Tryz.strings_CutSuffix ⟨⟨p⟩⟩ ⟨⟨[42]⟩⟩ w (by simp [ByteArray.size]; omega)
  have hhp := Tryz.strings_HasPrefix ⟨⟨s⟩⟩ ⟨(Lib.trimSuffix p [42]).toArray⟩ w
  unfold matchB
  dsimp only at hcs hhp
  by_cases hs : Lib.hasSuffix p [42] = true
  · rw [hs] at hcs
    rw [if_pos hs]
    go_enter Tryz.func123, Tryz.ntmps123
    go_wp2_with (first
      | (go_at_call 153; refine hcs.mono ?_; rintro e w1 ⟨rfl, rfl⟩)
      | (go_at_call 90; refine hhp.mono ?_; rintro e w2 ⟨rfl, rfl⟩))
    go_ret
    exact ⟨rfl, rfl⟩
  · have hs : Lib.hasSuffix p [42] = false := by simpa using hs
    rw [hs] at hcs
    rw [if_neg (by rw [hs]; simp)]
    go_enter Tryz.func123, Tryz.ntmps123
    go_wp2_with (first
      | (go_at_call 153; refine hcs.mono ?_; rintro e w1 ⟨rfl, rfl⟩))
    go_ret
    exact ⟨by simp, rfl⟩
end Go.Fbs

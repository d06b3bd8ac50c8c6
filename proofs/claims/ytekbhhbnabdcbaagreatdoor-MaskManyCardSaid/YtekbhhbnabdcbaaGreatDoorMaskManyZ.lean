/- MaskMany: each row's run, whatever the number. -/
import Derived.Test.YtekbhhbnabdcbaaGreatDoorMaskManyQ0
import Derived.Test.YtekbhhbnabdcbaaGreatDoorMaskManyQ1
import Derived.Test.YtekbhhbnabdcbaaGreatDoorMaskManyQ2
import Derived.Test.YtekbhhbnabdcbaaGreatDoorMaskManyQ3
import Derived.Test.YtekbhhbnabdcbaaGreatDoorMaskManyQ4
import Derived.Test.YtekbhhbnabdcbaaGreatDoorMaskManyQ5
import Derived.Test.YtekbhhbnabdcbaaGreatDoorMaskManyQ6
import Derived.Test.YtekbhhbnabdcbaaGreatDoorMaskManyQ7
set_option linter.unusedVariables false
set_option linter.unusedSimpArgs false
set_option linter.unusedSectionVars false
set_option maxRecDepth 100000
namespace Go.Rx
open Go.Proofs
theorem MaskManyRun : ∀ i : Nat, i < 16 → ∀ p q : Bool, mRun i p q = true
  | 0, _, true, true => mR0tt
  | 0, _, true, false => mR0tf
  | 0, _, false, true => mR0ft
  | 0, _, false, false => mR0ff
  | 1, _, true, true => mR1tt
  | 1, _, true, false => mR1tf
  | 1, _, false, true => mR1ft
  | 1, _, false, false => mR1ff
  | 2, _, true, true => mR2tt
  | 2, _, true, false => mR2tf
  | 2, _, false, true => mR2ft
  | 2, _, false, false => mR2ff
  | 3, _, true, true => mR3tt
  | 3, _, true, false => mR3tf
  | 3, _, false, true => mR3ft
  | 3, _, false, false => mR3ff
  | 4, _, true, true => mR4tt
  | 4, _, true, false => mR4tf
  | 4, _, false, true => mR4ft
  | 4, _, false, false => mR4ff
  | 5, _, true, true => mR5tt
  | 5, _, true, false => mR5tf
  | 5, _, false, true => mR5ft
  | 5, _, false, false => mR5ff
  | 6, _, true, true => mR6tt
  | 6, _, true, false => mR6tf
  | 6, _, false, true => mR6ft
  | 6, _, false, false => mR6ff
  | 7, _, true, true => mR7tt
  | 7, _, true, false => mR7tf
  | 7, _, false, true => mR7ft
  | 7, _, false, false => mR7ff
  | 8, _, true, true => mR8tt
  | 8, _, true, false => mR8tf
  | 8, _, false, true => mR8ft
  | 8, _, false, false => mR8ff
  | 9, _, true, true => mR9tt
  | 9, _, true, false => mR9tf
  | 9, _, false, true => mR9ft
  | 9, _, false, false => mR9ff
  | 10, _, true, true => mR10tt
  | 10, _, true, false => mR10tf
  | 10, _, false, true => mR10ft
  | 10, _, false, false => mR10ff
  | 11, _, true, true => mR11tt
  | 11, _, true, false => mR11tf
  | 11, _, false, true => mR11ft
  | 11, _, false, false => mR11ff
  | 12, _, true, true => mR12tt
  | 12, _, true, false => mR12tf
  | 12, _, false, true => mR12ft
  | 12, _, false, false => mR12ff
  | 13, _, true, true => mR13tt
  | 13, _, true, false => mR13tf
  | 13, _, false, true => mR13ft
  | 13, _, false, false => mR13ff
  | 14, _, true, true => mR14tt
  | 14, _, true, false => mR14tf
  | 14, _, false, true => mR14ft
  | 14, _, false, false => mR14ff
  | 15, _, true, true => mR15tt
  | 15, _, true, false => mR15tf
  | 15, _, false, true => mR15ft
  | 15, _, false, false => mR15ff
  | i + 16, h, _, _ => absurd h (by omega)
section
open Go.ChangeShapes Go.WideShapes
variable {H : Type} {enc : TypeId × Value → H} {P : Program} {w : World} {base : Nat} {sp : Nat → Bool} {held : Bool} {r : Reach} {b0 : Nat} {t : TypeId} {v : Value} {d : DataW H} {ps : List MemPlace}
theorem arg_boolR (ht : P.underlying t = some .bool) (hval : Value.okWide P w r b0 t v) (hd : DataW.Trod enc P w base sp held t v d ps) : ∃ b : Bool, v = .bool b := by
  unfold Value.okWide Cell.okWide Cell.ok at hval
  rw [ht] at hval
  simp only at hval
  split at hval <;> (try (simp at *; done))
  all_goals first | exact ⟨_, rfl⟩ | (exfalso; simp_all; done)
end
theorem MaskManyCall (Γ : Gm) (n : Int) (p q : Bool) : ∃ (vals : List RV) (H1 : HT), Reps Γ vals [.int .i64 n, .bool p, .bool q] ∧ CallR Tryz.prog 3 vals ⟨0, .e⟩ (.bool true) H1 := by
  obtain ⟨m, hm, h0, h1⟩ := sAr_and (n := n) (m := 15) (by omega)
  obtain ⟨i, rfl⟩ : ∃ i : Nat, m = Int.ofNat i := ⟨m.toNat, by show m = (m.toNat : Int); omega⟩
  have hi : i < 16 := by have : (i : Int) ≤ 15 := h1; omega
  obtain ⟨H1, h⟩ := @run_okW Tryz.prog tyT 100000 ftW 100 3 (mw i p q) tyOk mixed ftWOk (MaskManyRun i hi p q)
  refine ⟨mw i p q, H1, ⟨rfl, fun k d v h1 h2 => ?_⟩, h⟩
  rcases k with _ | _ | _ | k
  · simp [mw] at h1 h2; subst h1 h2; exact .sym _ n (sy_one hm (.val _))
  · simp [mw] at h1 h2; subst h1 h2; exact .bool p
  · simp [mw] at h1 h2; subst h1 h2; exact .bool q
  · simp [mw] at h1
end Go.Rx

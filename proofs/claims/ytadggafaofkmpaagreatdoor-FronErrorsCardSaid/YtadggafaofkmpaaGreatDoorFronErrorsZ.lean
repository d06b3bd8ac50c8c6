/- FronErrors: each row's run, whatever the number. -/
import Derived.Test.YtadggafaofkmpaaGreatDoorFronErrorsQ0
import Derived.Test.YtadggafaofkmpaaGreatDoorFronErrorsQ1
import Derived.Test.YtadggafaofkmpaaGreatDoorFronErrorsQ2
import Derived.Test.YtadggafaofkmpaaGreatDoorFronErrorsQ3
import Derived.Test.YtadggafaofkmpaaGreatDoorFronErrorsQ4
import Derived.Test.YtadggafaofkmpaaGreatDoorFronErrorsQ5
set_option linter.unusedVariables false
set_option linter.unusedSimpArgs false
set_option linter.unusedSectionVars false
set_option maxRecDepth 100000
namespace Go.Rx
open Go.Proofs
theorem FronErrorsRun : ∀ i : Nat, i < 18 → (funW tyT ftW 100000 100 3 [.sym (.node [(.and, 255, .node [(.rem, 18, .val (.ofNat i))])])] ⟨0, .e⟩).isTrue = true
  | 0, _ => FronErrorsRun0
  | 1, _ => FronErrorsRun1
  | 2, _ => FronErrorsRun2
  | 3, _ => FronErrorsRun3
  | 4, _ => FronErrorsRun4
  | 5, _ => FronErrorsRun5
  | 6, _ => FronErrorsRun6
  | 7, _ => FronErrorsRun7
  | 8, _ => FronErrorsRun8
  | 9, _ => FronErrorsRun9
  | 10, _ => FronErrorsRun10
  | 11, _ => FronErrorsRun11
  | 12, _ => FronErrorsRun12
  | 13, _ => FronErrorsRun13
  | 14, _ => FronErrorsRun14
  | 15, _ => FronErrorsRun15
  | 16, _ => FronErrorsRun16
  | 17, _ => FronErrorsRun17
  | i + 18, h => absurd h (by omega)
theorem FronErrorsCall (Γ : Gm) (n : Int) : ∃ (vals : List RV) (H1 : HT), Reps Γ vals [.int .i64 n] ∧ CallR Tryz.prog 3 vals ⟨0, .e⟩ (.bool true) H1 := by
  obtain ⟨m, hm, h0, h1⟩ := sAr_and (n := n) (m := 255) (by omega)
  obtain ⟨i, hi, hi2⟩ : ∃ i : Nat, i < 18 ∧ m.tmod 18 = Int.ofNat i := by
    rw [Int.tmod_eq_emod_of_nonneg h0]
    refine ⟨(m % 18).toNat, by omega, ?_⟩
    show m % 18 = ((m % 18).toNat : Int)
    omega
  obtain ⟨H1, h⟩ := @run_okW Tryz.prog tyT 100000 ftW 100 3 _ tyOk mixed ftWOk (FronErrorsRun i hi)
  have hr : Reps Γ [.sym (.node [(.and, 255, .node [(.rem, 18, .val (.ofNat i))])])] [.int .i64 n] := Reps.one (.sym _ n (sy_one hm (sy_one (r := Int.ofNat i) (by simp [sAr, hi2]) (.val _))))
  exact ⟨[.sym (.node [(.and, 255, .node [(.rem, 18, .val (.ofNat i))])])], H1, hr, h⟩
end Go.Rx

/- StatErrors: each row's run, whatever the number. -/
import Derived.Test.YtkbfgogimhfglaaGreatStatErrorsQ0
import Derived.Test.YtkbfgogimhfglaaGreatStatErrorsQ1
set_option linter.unusedVariables false
set_option linter.unusedSimpArgs false
set_option linter.unusedSectionVars false
set_option maxRecDepth 100000
namespace Go.Rx
open Go.Proofs
theorem StatErrorsRun : ∀ i : Nat, i < 17 → (funF tyT ftW 100000 100 3 [.sym (.node [(.and, 255, .node [(.rem, 17, .val (.ofNat i))])])] ⟨0, .e⟩).isTrue = true
  | 0, _ => StatErrorsRun0
  | 1, _ => StatErrorsRun1
  | 2, _ => StatErrorsRun2
  | 3, _ => StatErrorsRun3
  | 4, _ => StatErrorsRun4
  | 5, _ => StatErrorsRun5
  | 6, _ => StatErrorsRun6
  | 7, _ => StatErrorsRun7
  | 8, _ => StatErrorsRun8
  | 9, _ => StatErrorsRun9
  | 10, _ => StatErrorsRun10
  | 11, _ => StatErrorsRun11
  | 12, _ => StatErrorsRun12
  | 13, _ => StatErrorsRun13
  | 14, _ => StatErrorsRun14
  | 15, _ => StatErrorsRun15
  | 16, _ => StatErrorsRun16
  | i + 17, h => absurd h (by omega)
theorem StatErrorsCall (Γ : Gm) (n : Int) : ∃ (vals : List RV) (H1 : HT), Reps Γ vals [.int .i64 n] ∧ CallR Tryz.prog 3 vals ⟨0, .e⟩ (.bool true) H1 := by
  obtain ⟨m, hm, h0, h1⟩ := sAr_and (n := n) (m := 255) (by omega)
  obtain ⟨i, hi, hi2⟩ : ∃ i : Nat, i < 17 ∧ m.tmod 17 = Int.ofNat i := by
    rw [Int.tmod_eq_emod_of_nonneg h0]
    refine ⟨(m % 17).toNat, by omega, ?_⟩
    show m % 17 = ((m % 17).toNat : Int)
    omega
  obtain ⟨H1, h⟩ := @run_ok Tryz.prog tyT ftW 100000 100 3 _ tyOk mixed ftWOk (StatErrorsRun i hi)
  have hr : Reps Γ [.sym (.node [(.and, 255, .node [(.rem, 17, .val (.ofNat i))])])] [.int .i64 n] := Reps.one (.sym _ n (sy_one hm (sy_one (r := Int.ofNat i) (by simp [sAr, hi2]) (.val _))))
  exact ⟨[.sym (.node [(.and, 255, .node [(.rem, 17, .val (.ofNat i))])])], H1, hr, h⟩
end Go.Rx

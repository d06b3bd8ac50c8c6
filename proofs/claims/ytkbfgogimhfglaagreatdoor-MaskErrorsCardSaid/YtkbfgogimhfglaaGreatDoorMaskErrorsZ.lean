/- MaskErrors: each row's run, whatever the number. -/
import Derived.Test.YtkbfgogimhfglaaGreatDoorMaskErrorsQ0
import Derived.Test.YtkbfgogimhfglaaGreatDoorMaskErrorsQ1
import Derived.Test.YtkbfgogimhfglaaGreatDoorMaskErrorsQ2
set_option linter.unusedVariables false
set_option linter.unusedSimpArgs false
set_option linter.unusedSectionVars false
set_option maxRecDepth 100000
namespace Go.Rx
open Go.Proofs
theorem MaskErrorsRun : ∀ i : Nat, i < 21 → (funF tyT ftW 100000 100 4 [.sym (.node [(.and, 255, .node [(.rem, 21, .val (.ofNat i))])])] ⟨0, .e⟩).isTrue = true
  | 0, _ => MaskErrorsRun0
  | 1, _ => MaskErrorsRun1
  | 2, _ => MaskErrorsRun2
  | 3, _ => MaskErrorsRun3
  | 4, _ => MaskErrorsRun4
  | 5, _ => MaskErrorsRun5
  | 6, _ => MaskErrorsRun6
  | 7, _ => MaskErrorsRun7
  | 8, _ => MaskErrorsRun8
  | 9, _ => MaskErrorsRun9
  | 10, _ => MaskErrorsRun10
  | 11, _ => MaskErrorsRun11
  | 12, _ => MaskErrorsRun12
  | 13, _ => MaskErrorsRun13
  | 14, _ => MaskErrorsRun14
  | 15, _ => MaskErrorsRun15
  | 16, _ => MaskErrorsRun16
  | 17, _ => MaskErrorsRun17
  | 18, _ => MaskErrorsRun18
  | 19, _ => MaskErrorsRun19
  | 20, _ => MaskErrorsRun20
  | i + 21, h => absurd h (by omega)
theorem MaskErrorsCall (Γ : Gm) (n : Int) : ∃ (vals : List RV) (H1 : HT), Reps Γ vals [.int .i64 n] ∧ CallR Tryz.prog 4 vals ⟨0, .e⟩ (.bool true) H1 := by
  obtain ⟨m, hm, h0, h1⟩ := sAr_and (n := n) (m := 255) (by omega)
  obtain ⟨i, hi, hi2⟩ : ∃ i : Nat, i < 21 ∧ m.tmod 21 = Int.ofNat i := by
    rw [Int.tmod_eq_emod_of_nonneg h0]
    refine ⟨(m % 21).toNat, by omega, ?_⟩
    show m % 21 = ((m % 21).toNat : Int)
    omega
  obtain ⟨H1, h⟩ := @run_ok Tryz.prog tyT ftW 100000 100 4 _ tyOk mixed ftWOk (MaskErrorsRun i hi)
  have hr : Reps Γ [.sym (.node [(.and, 255, .node [(.rem, 21, .val (.ofNat i))])])] [.int .i64 n] := Reps.one (.sym _ n (sy_one hm (sy_one (r := Int.ofNat i) (by simp [sAr, hi2]) (.val _))))
  exact ⟨[.sym (.node [(.and, 255, .node [(.rem, 21, .val (.ofNat i))])])], H1, hr, h⟩
end Go.Rx

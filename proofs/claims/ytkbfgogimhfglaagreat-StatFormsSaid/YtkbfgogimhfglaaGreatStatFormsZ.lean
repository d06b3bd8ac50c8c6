/- StatForms: each row's run, whatever the number. -/
import Derived.Test.YtkbfgogimhfglaaGreatStatFormsQ0
import Derived.Test.YtkbfgogimhfglaaGreatStatFormsQ1
import Derived.Test.YtkbfgogimhfglaaGreatStatFormsQ2
set_option linter.unusedVariables false
set_option linter.unusedSimpArgs false
set_option linter.unusedSectionVars false
set_option maxRecDepth 100000
namespace Go.Rx
open Go.Proofs
theorem StatFormsRun : ∀ i : Nat, i < 23 → (funF tyT ftW 100000 100 4 [.sym (.node [(.and, 255, .node [(.rem, 23, .val (.ofNat i))])])] ⟨0, .e⟩).isTrue = true
  | 0, _ => StatFormsRun0
  | 1, _ => StatFormsRun1
  | 2, _ => StatFormsRun2
  | 3, _ => StatFormsRun3
  | 4, _ => StatFormsRun4
  | 5, _ => StatFormsRun5
  | 6, _ => StatFormsRun6
  | 7, _ => StatFormsRun7
  | 8, _ => StatFormsRun8
  | 9, _ => StatFormsRun9
  | 10, _ => StatFormsRun10
  | 11, _ => StatFormsRun11
  | 12, _ => StatFormsRun12
  | 13, _ => StatFormsRun13
  | 14, _ => StatFormsRun14
  | 15, _ => StatFormsRun15
  | 16, _ => StatFormsRun16
  | 17, _ => StatFormsRun17
  | 18, _ => StatFormsRun18
  | 19, _ => StatFormsRun19
  | 20, _ => StatFormsRun20
  | 21, _ => StatFormsRun21
  | 22, _ => StatFormsRun22
  | i + 23, h => absurd h (by omega)
theorem StatFormsCall (Γ : Gm) (n : Int) : ∃ (vals : List RV) (H1 : HT), Reps Γ vals [.int .i64 n] ∧ CallR Tryz.prog 4 vals ⟨0, .e⟩ (.bool true) H1 := by
  obtain ⟨m, hm, h0, h1⟩ := sAr_and (n := n) (m := 255) (by omega)
  obtain ⟨i, hi, hi2⟩ : ∃ i : Nat, i < 23 ∧ m.tmod 23 = Int.ofNat i := by
    rw [Int.tmod_eq_emod_of_nonneg h0]
    refine ⟨(m % 23).toNat, by omega, ?_⟩
    show m % 23 = ((m % 23).toNat : Int)
    omega
  obtain ⟨H1, h⟩ := @run_ok Tryz.prog tyT ftW 100000 100 4 _ tyOk mixed ftWOk (StatFormsRun i hi)
  have hr : Reps Γ [.sym (.node [(.and, 255, .node [(.rem, 23, .val (.ofNat i))])])] [.int .i64 n] := Reps.one (.sym _ n (sy_one hm (sy_one (r := Int.ofNat i) (by simp [sAr, hi2]) (.val _))))
  exact ⟨[.sym (.node [(.and, 255, .node [(.rem, 23, .val (.ofNat i))])])], H1, hr, h⟩
end Go.Rx

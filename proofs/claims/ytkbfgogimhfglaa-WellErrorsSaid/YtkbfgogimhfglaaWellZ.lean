import Derived.Test.YtkbfgogimhfglaaWellQ0
import Derived.Test.YtkbfgogimhfglaaWellQ1
import Derived.Test.YtkbfgogimhfglaaWellQ2
import Derived.Test.YtkbfgogimhfglaaWellQ3
set_option linter.unusedVariables false
set_option linter.unusedSimpArgs false
set_option linter.unusedSectionVars false
namespace Go.Rx
open Go.Proofs
theorem known9 : FeOk Try.prog 9 (.known true) := @known_run Try.prog tyT ftT 100000 100 9 tyOk mixed ftOk awake
set_option maxRecDepth 100000 in
theorem ftWOk : FtOk Try.prog ftW := @ftOk_put Try.prog ftT ftOk 9 (.known true) known9
theorem wellRun : ∀ i : Nat, i < 23 → (funF tyT ftW 100000 100 3 [.sym (.node [(.and, 255, .node [(.rem, 23, .val (.ofNat i))])])] ⟨0, .e⟩).isTrue = true
  | 0, _ => wellRun0
  | 1, _ => wellRun1
  | 2, _ => wellRun2
  | 3, _ => wellRun3
  | 4, _ => wellRun4
  | 5, _ => wellRun5
  | 6, _ => wellRun6
  | 7, _ => wellRun7
  | 8, _ => wellRun8
  | 9, _ => wellRun9
  | 10, _ => wellRun10
  | 11, _ => wellRun11
  | 12, _ => wellRun12
  | 13, _ => wellRun13
  | 14, _ => wellRun14
  | 15, _ => wellRun15
  | 16, _ => wellRun16
  | 17, _ => wellRun17
  | 18, _ => wellRun18
  | 19, _ => wellRun19
  | 20, _ => wellRun20
  | 21, _ => wellRun21
  | 22, _ => wellRun22
  | i + 23, h => absurd h (by omega)
set_option maxRecDepth 100000 in
theorem wellCall (Γ : Gm) (n : Int) : ∃ (vals : List RV) (H1 : HT), Reps Γ vals [.int .i64 n] ∧ CallR Try.prog 3 vals ⟨0, .e⟩ (.bool true) H1 := by
  obtain ⟨m, hm, h0, h1⟩ := sAr_and (n := n) (m := 255) (by omega)
  obtain ⟨i, hi, hi2⟩ : ∃ i : Nat, i < 23 ∧ m.tmod 23 = Int.ofNat i := by
    rw [Int.tmod_eq_emod_of_nonneg h0]
    refine ⟨(m % 23).toNat, by omega, ?_⟩
    show m % 23 = ((m % 23).toNat : Int)
    omega
  obtain ⟨H1, h⟩ := @run_ok Try.prog tyT ftW 100000 100 3 _ tyOk mixed ftWOk (wellRun i hi)
  have hr : Reps Γ [.sym (.node [(.and, 255, .node [(.rem, 23, .val (.ofNat i))])])] [.int .i64 n] := Reps.one (.sym _ n (sy_one hm (sy_one (r := Int.ofNat i) (by simp [sAr, hi2]) (.val _))))
  exact ⟨[.sym (.node [(.and, 255, .node [(.rem, 23, .val (.ofNat i))])])], H1, hr, h⟩
end Go.Rx

/- JsonForms: each row's run, whatever the number. -/
import Derived.Test.YtknpmfnhkiknkaaGreatDoorJsonFormsQ0
import Derived.Test.YtknpmfnhkiknkaaGreatDoorJsonFormsQ1
import Derived.Test.YtknpmfnhkiknkaaGreatDoorJsonFormsQ2
import Derived.Test.YtknpmfnhkiknkaaGreatDoorJsonFormsQ3
set_option linter.unusedVariables false
set_option linter.unusedSimpArgs false
set_option linter.unusedSectionVars false
set_option maxRecDepth 100000
namespace Go.Rx
open Go.Proofs
theorem JsonFormsRun : ∀ i : Nat, i < 31 → (funW tyT ftW 100000 100 3 [.sym (.node [(.and, 255, .node [(.rem, 31, .val (.ofNat i))])])] ⟨0, .e⟩).isTrue = true
  | 0, _ => JsonFormsRun0
  | 1, _ => JsonFormsRun1
  | 2, _ => JsonFormsRun2
  | 3, _ => JsonFormsRun3
  | 4, _ => JsonFormsRun4
  | 5, _ => JsonFormsRun5
  | 6, _ => JsonFormsRun6
  | 7, _ => JsonFormsRun7
  | 8, _ => JsonFormsRun8
  | 9, _ => JsonFormsRun9
  | 10, _ => JsonFormsRun10
  | 11, _ => JsonFormsRun11
  | 12, _ => JsonFormsRun12
  | 13, _ => JsonFormsRun13
  | 14, _ => JsonFormsRun14
  | 15, _ => JsonFormsRun15
  | 16, _ => JsonFormsRun16
  | 17, _ => JsonFormsRun17
  | 18, _ => JsonFormsRun18
  | 19, _ => JsonFormsRun19
  | 20, _ => JsonFormsRun20
  | 21, _ => JsonFormsRun21
  | 22, _ => JsonFormsRun22
  | 23, _ => JsonFormsRun23
  | 24, _ => JsonFormsRun24
  | 25, _ => JsonFormsRun25
  | 26, _ => JsonFormsRun26
  | 27, _ => JsonFormsRun27
  | 28, _ => JsonFormsRun28
  | 29, _ => JsonFormsRun29
  | 30, _ => JsonFormsRun30
  | i + 31, h => absurd h (by omega)
theorem JsonFormsCall (Γ : Gm) (n : Int) : ∃ (vals : List RV) (H1 : HT), Reps Γ vals [.int .i64 n] ∧ CallR Tryz.prog 3 vals ⟨0, .e⟩ (.bool true) H1 := by
  obtain ⟨m, hm, h0, h1⟩ := sAr_and (n := n) (m := 255) (by omega)
  obtain ⟨i, hi, hi2⟩ : ∃ i : Nat, i < 31 ∧ m.tmod 31 = Int.ofNat i := by
    rw [Int.tmod_eq_emod_of_nonneg h0]
    refine ⟨(m % 31).toNat, by omega, ?_⟩
    show m % 31 = ((m % 31).toNat : Int)
    omega
  obtain ⟨H1, h⟩ := @run_okW Tryz.prog tyT 100000 ftW 100 3 _ tyOk mixed ftWOk (JsonFormsRun i hi)
  have hr : Reps Γ [.sym (.node [(.and, 255, .node [(.rem, 31, .val (.ofNat i))])])] [.int .i64 n] := Reps.one (.sym _ n (sy_one hm (sy_one (r := Int.ofNat i) (by simp [sAr, hi2]) (.val _))))
  exact ⟨[.sym (.node [(.and, 255, .node [(.rem, 31, .val (.ofNat i))])])], H1, hr, h⟩
end Go.Rx

/- RoleForms: each row's run, whatever the number. -/
import Derived.Test.YtjigpppaoejefaaDoorRoleFormsQ0
import Derived.Test.YtjigpppaoejefaaDoorRoleFormsQ1
import Derived.Test.YtjigpppaoejefaaDoorRoleFormsQ2
import Derived.Test.YtjigpppaoejefaaDoorRoleFormsQ3
import Derived.Test.YtjigpppaoejefaaDoorRoleFormsQ4
set_option linter.unusedVariables false
set_option linter.unusedSimpArgs false
set_option linter.unusedSectionVars false
set_option maxRecDepth 100000
namespace Go.Rx
open Go.Proofs
theorem RoleFormsRun : ∀ i : Nat, i < 25 → (funW tyT ftW 100000 100 3 [.sym (.node [(.and, 255, .node [(.rem, 25, .val (.ofNat i))])])] ⟨0, .e⟩).isTrue = true
  | 0, _ => RoleFormsRun0
  | 1, _ => RoleFormsRun1
  | 2, _ => RoleFormsRun2
  | 3, _ => RoleFormsRun3
  | 4, _ => RoleFormsRun4
  | 5, _ => RoleFormsRun5
  | 6, _ => RoleFormsRun6
  | 7, _ => RoleFormsRun7
  | 8, _ => RoleFormsRun8
  | 9, _ => RoleFormsRun9
  | 10, _ => RoleFormsRun10
  | 11, _ => RoleFormsRun11
  | 12, _ => RoleFormsRun12
  | 13, _ => RoleFormsRun13
  | 14, _ => RoleFormsRun14
  | 15, _ => RoleFormsRun15
  | 16, _ => RoleFormsRun16
  | 17, _ => RoleFormsRun17
  | 18, _ => RoleFormsRun18
  | 19, _ => RoleFormsRun19
  | 20, _ => RoleFormsRun20
  | 21, _ => RoleFormsRun21
  | 22, _ => RoleFormsRun22
  | 23, _ => RoleFormsRun23
  | 24, _ => RoleFormsRun24
  | i + 25, h => absurd h (by omega)
theorem RoleFormsCall (Γ : Gm) (n : Int) : ∃ (vals : List RV) (H1 : HT), Reps Γ vals [.int .i64 n] ∧ CallR Tryd.prog 3 vals ⟨0, .e⟩ (.bool true) H1 := by
  obtain ⟨m, hm, h0, h1⟩ := sAr_and (n := n) (m := 255) (by omega)
  obtain ⟨i, hi, hi2⟩ : ∃ i : Nat, i < 25 ∧ m.tmod 25 = Int.ofNat i := by
    rw [Int.tmod_eq_emod_of_nonneg h0]
    refine ⟨(m % 25).toNat, by omega, ?_⟩
    show m % 25 = ((m % 25).toNat : Int)
    omega
  obtain ⟨H1, h⟩ := @run_okW Tryd.prog tyT 100000 ftW 100 3 _ tyOk mixed ftWOk (RoleFormsRun i hi)
  have hr : Reps Γ [.sym (.node [(.and, 255, .node [(.rem, 25, .val (.ofNat i))])])] [.int .i64 n] := Reps.one (.sym _ n (sy_one hm (sy_one (r := Int.ofNat i) (by simp [sAr, hi2]) (.val _))))
  exact ⟨[.sym (.node [(.and, 255, .node [(.rem, 25, .val (.ofNat i))])])], H1, hr, h⟩
end Go.Rx

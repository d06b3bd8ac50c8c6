/- ScheDeep: each depth's run, whatever the numbers. -/
import Derived.Test.YtaiiifcjcmjdlaaScheDeepQ0
import Derived.Test.YtaiiifcjcmjdlaaScheDeepQ1
import Derived.Test.YtaiiifcjcmjdlaaScheDeepQ2
import Derived.Test.YtaiiifcjcmjdlaaScheDeepQ3
import Derived.Test.YtaiiifcjcmjdlaaScheDeepQ4
import Derived.Test.YtaiiifcjcmjdlaaScheDeepQ5
import Derived.Test.YtaiiifcjcmjdlaaScheDeepQ6
import Derived.Test.YtaiiifcjcmjdlaaScheDeepQ7
set_option linter.unusedVariables false
set_option linter.unusedSimpArgs false
set_option linter.unusedSectionVars false
set_option maxRecDepth 100000
namespace Go.Rx
open Go.Proofs
theorem ScheDeepRow0 : ∀ j : Nat, j < 4 → (funX tyT ftW 100000 100 5 [.sym (.node [(.and, 31, .val (.ofNat 0))]), .sym (.node [(.and, 3, .val (.ofNat j))])] ⟨0, .e⟩).isTrue = true
  | 0, _ => ScheDeepRun0n0
  | 1, _ => ScheDeepRun0n1
  | 2, _ => ScheDeepRun0n2
  | 3, _ => ScheDeepRun0n3
  | j + 4, h => absurd h (by omega)
theorem ScheDeepRow1 : ∀ j : Nat, j < 4 → (funX tyT ftW 100000 100 5 [.sym (.node [(.and, 31, .val (.ofNat 1))]), .sym (.node [(.and, 3, .val (.ofNat j))])] ⟨0, .e⟩).isTrue = true
  | 0, _ => ScheDeepRun1n0
  | 1, _ => ScheDeepRun1n1
  | 2, _ => ScheDeepRun1n2
  | 3, _ => ScheDeepRun1n3
  | j + 4, h => absurd h (by omega)
theorem ScheDeepRow2 : ∀ j : Nat, j < 4 → (funX tyT ftW 100000 100 5 [.sym (.node [(.and, 31, .val (.ofNat 2))]), .sym (.node [(.and, 3, .val (.ofNat j))])] ⟨0, .e⟩).isTrue = true
  | 0, _ => ScheDeepRun2n0
  | 1, _ => ScheDeepRun2n1
  | 2, _ => ScheDeepRun2n2
  | 3, _ => ScheDeepRun2n3
  | j + 4, h => absurd h (by omega)
theorem ScheDeepRow3 : ∀ j : Nat, j < 4 → (funX tyT ftW 100000 100 5 [.sym (.node [(.and, 31, .val (.ofNat 3))]), .sym (.node [(.and, 3, .val (.ofNat j))])] ⟨0, .e⟩).isTrue = true
  | 0, _ => ScheDeepRun3n0
  | 1, _ => ScheDeepRun3n1
  | 2, _ => ScheDeepRun3n2
  | 3, _ => ScheDeepRun3n3
  | j + 4, h => absurd h (by omega)
theorem ScheDeepRow4 : ∀ j : Nat, j < 4 → (funX tyT ftW 100000 100 5 [.sym (.node [(.and, 31, .val (.ofNat 4))]), .sym (.node [(.and, 3, .val (.ofNat j))])] ⟨0, .e⟩).isTrue = true
  | 0, _ => ScheDeepRun4n0
  | 1, _ => ScheDeepRun4n1
  | 2, _ => ScheDeepRun4n2
  | 3, _ => ScheDeepRun4n3
  | j + 4, h => absurd h (by omega)
theorem ScheDeepRow5 : ∀ j : Nat, j < 4 → (funX tyT ftW 100000 100 5 [.sym (.node [(.and, 31, .val (.ofNat 5))]), .sym (.node [(.and, 3, .val (.ofNat j))])] ⟨0, .e⟩).isTrue = true
  | 0, _ => ScheDeepRun5n0
  | 1, _ => ScheDeepRun5n1
  | 2, _ => ScheDeepRun5n2
  | 3, _ => ScheDeepRun5n3
  | j + 4, h => absurd h (by omega)
theorem ScheDeepRow6 : ∀ j : Nat, j < 4 → (funX tyT ftW 100000 100 5 [.sym (.node [(.and, 31, .val (.ofNat 6))]), .sym (.node [(.and, 3, .val (.ofNat j))])] ⟨0, .e⟩).isTrue = true
  | 0, _ => ScheDeepRun6n0
  | 1, _ => ScheDeepRun6n1
  | 2, _ => ScheDeepRun6n2
  | 3, _ => ScheDeepRun6n3
  | j + 4, h => absurd h (by omega)
theorem ScheDeepRow7 : ∀ j : Nat, j < 4 → (funX tyT ftW 100000 100 5 [.sym (.node [(.and, 31, .val (.ofNat 7))]), .sym (.node [(.and, 3, .val (.ofNat j))])] ⟨0, .e⟩).isTrue = true
  | 0, _ => ScheDeepRun7n0
  | 1, _ => ScheDeepRun7n1
  | 2, _ => ScheDeepRun7n2
  | 3, _ => ScheDeepRun7n3
  | j + 4, h => absurd h (by omega)
theorem ScheDeepRow8 : ∀ j : Nat, j < 4 → (funX tyT ftW 100000 100 5 [.sym (.node [(.and, 31, .val (.ofNat 8))]), .sym (.node [(.and, 3, .val (.ofNat j))])] ⟨0, .e⟩).isTrue = true
  | 0, _ => ScheDeepRun8n0
  | 1, _ => ScheDeepRun8n1
  | 2, _ => ScheDeepRun8n2
  | 3, _ => ScheDeepRun8n3
  | j + 4, h => absurd h (by omega)
theorem ScheDeepRow9 : ∀ j : Nat, j < 4 → (funX tyT ftW 100000 100 5 [.sym (.node [(.and, 31, .val (.ofNat 9))]), .sym (.node [(.and, 3, .val (.ofNat j))])] ⟨0, .e⟩).isTrue = true
  | 0, _ => ScheDeepRun9n0
  | 1, _ => ScheDeepRun9n1
  | 2, _ => ScheDeepRun9n2
  | 3, _ => ScheDeepRun9n3
  | j + 4, h => absurd h (by omega)
theorem ScheDeepRow10 : ∀ j : Nat, j < 4 → (funX tyT ftW 100000 100 5 [.sym (.node [(.and, 31, .val (.ofNat 10))]), .sym (.node [(.and, 3, .val (.ofNat j))])] ⟨0, .e⟩).isTrue = true
  | 0, _ => ScheDeepRun10n0
  | 1, _ => ScheDeepRun10n1
  | 2, _ => ScheDeepRun10n2
  | 3, _ => ScheDeepRun10n3
  | j + 4, h => absurd h (by omega)
theorem ScheDeepRow11 : ∀ j : Nat, j < 4 → (funX tyT ftW 100000 100 5 [.sym (.node [(.and, 31, .val (.ofNat 11))]), .sym (.node [(.and, 3, .val (.ofNat j))])] ⟨0, .e⟩).isTrue = true
  | 0, _ => ScheDeepRun11n0
  | 1, _ => ScheDeepRun11n1
  | 2, _ => ScheDeepRun11n2
  | 3, _ => ScheDeepRun11n3
  | j + 4, h => absurd h (by omega)
theorem ScheDeepRow12 : ∀ j : Nat, j < 4 → (funX tyT ftW 100000 100 5 [.sym (.node [(.and, 31, .val (.ofNat 12))]), .sym (.node [(.and, 3, .val (.ofNat j))])] ⟨0, .e⟩).isTrue = true
  | 0, _ => ScheDeepRun12n0
  | 1, _ => ScheDeepRun12n1
  | 2, _ => ScheDeepRun12n2
  | 3, _ => ScheDeepRun12n3
  | j + 4, h => absurd h (by omega)
theorem ScheDeepRow13 : ∀ j : Nat, j < 4 → (funX tyT ftW 100000 100 5 [.sym (.node [(.and, 31, .val (.ofNat 13))]), .sym (.node [(.and, 3, .val (.ofNat j))])] ⟨0, .e⟩).isTrue = true
  | 0, _ => ScheDeepRun13n0
  | 1, _ => ScheDeepRun13n1
  | 2, _ => ScheDeepRun13n2
  | 3, _ => ScheDeepRun13n3
  | j + 4, h => absurd h (by omega)
theorem ScheDeepRow14 : ∀ j : Nat, j < 4 → (funX tyT ftW 100000 100 5 [.sym (.node [(.and, 31, .val (.ofNat 14))]), .sym (.node [(.and, 3, .val (.ofNat j))])] ⟨0, .e⟩).isTrue = true
  | 0, _ => ScheDeepRun14n0
  | 1, _ => ScheDeepRun14n1
  | 2, _ => ScheDeepRun14n2
  | 3, _ => ScheDeepRun14n3
  | j + 4, h => absurd h (by omega)
theorem ScheDeepRow15 : ∀ j : Nat, j < 4 → (funX tyT ftW 100000 100 5 [.sym (.node [(.and, 31, .val (.ofNat 15))]), .sym (.node [(.and, 3, .val (.ofNat j))])] ⟨0, .e⟩).isTrue = true
  | 0, _ => ScheDeepRun15n0
  | 1, _ => ScheDeepRun15n1
  | 2, _ => ScheDeepRun15n2
  | 3, _ => ScheDeepRun15n3
  | j + 4, h => absurd h (by omega)
theorem ScheDeepRow16 : ∀ j : Nat, j < 4 → (funX tyT ftW 100000 100 5 [.sym (.node [(.and, 31, .val (.ofNat 16))]), .sym (.node [(.and, 3, .val (.ofNat j))])] ⟨0, .e⟩).isTrue = true
  | 0, _ => ScheDeepRun16n0
  | 1, _ => ScheDeepRun16n1
  | 2, _ => ScheDeepRun16n2
  | 3, _ => ScheDeepRun16n3
  | j + 4, h => absurd h (by omega)
theorem ScheDeepRow17 : ∀ j : Nat, j < 4 → (funX tyT ftW 100000 100 5 [.sym (.node [(.and, 31, .val (.ofNat 17))]), .sym (.node [(.and, 3, .val (.ofNat j))])] ⟨0, .e⟩).isTrue = true
  | 0, _ => ScheDeepRun17n0
  | 1, _ => ScheDeepRun17n1
  | 2, _ => ScheDeepRun17n2
  | 3, _ => ScheDeepRun17n3
  | j + 4, h => absurd h (by omega)
theorem ScheDeepRow18 : ∀ j : Nat, j < 4 → (funX tyT ftW 100000 100 5 [.sym (.node [(.and, 31, .val (.ofNat 18))]), .sym (.node [(.and, 3, .val (.ofNat j))])] ⟨0, .e⟩).isTrue = true
  | 0, _ => ScheDeepRun18n0
  | 1, _ => ScheDeepRun18n1
  | 2, _ => ScheDeepRun18n2
  | 3, _ => ScheDeepRun18n3
  | j + 4, h => absurd h (by omega)
theorem ScheDeepRow19 : ∀ j : Nat, j < 4 → (funX tyT ftW 100000 100 5 [.sym (.node [(.and, 31, .val (.ofNat 19))]), .sym (.node [(.and, 3, .val (.ofNat j))])] ⟨0, .e⟩).isTrue = true
  | 0, _ => ScheDeepRun19n0
  | 1, _ => ScheDeepRun19n1
  | 2, _ => ScheDeepRun19n2
  | 3, _ => ScheDeepRun19n3
  | j + 4, h => absurd h (by omega)
theorem ScheDeepRow20 : ∀ j : Nat, j < 4 → (funX tyT ftW 100000 100 5 [.sym (.node [(.and, 31, .val (.ofNat 20))]), .sym (.node [(.and, 3, .val (.ofNat j))])] ⟨0, .e⟩).isTrue = true
  | 0, _ => ScheDeepRun20n0
  | 1, _ => ScheDeepRun20n1
  | 2, _ => ScheDeepRun20n2
  | 3, _ => ScheDeepRun20n3
  | j + 4, h => absurd h (by omega)
theorem ScheDeepRow21 : ∀ j : Nat, j < 4 → (funX tyT ftW 100000 100 5 [.sym (.node [(.and, 31, .val (.ofNat 21))]), .sym (.node [(.and, 3, .val (.ofNat j))])] ⟨0, .e⟩).isTrue = true
  | 0, _ => ScheDeepRun21n0
  | 1, _ => ScheDeepRun21n1
  | 2, _ => ScheDeepRun21n2
  | 3, _ => ScheDeepRun21n3
  | j + 4, h => absurd h (by omega)
theorem ScheDeepRow22 : ∀ j : Nat, j < 4 → (funX tyT ftW 100000 100 5 [.sym (.node [(.and, 31, .val (.ofNat 22))]), .sym (.node [(.and, 3, .val (.ofNat j))])] ⟨0, .e⟩).isTrue = true
  | 0, _ => ScheDeepRun22n0
  | 1, _ => ScheDeepRun22n1
  | 2, _ => ScheDeepRun22n2
  | 3, _ => ScheDeepRun22n3
  | j + 4, h => absurd h (by omega)
theorem ScheDeepRow23 : ∀ j : Nat, j < 4 → (funX tyT ftW 100000 100 5 [.sym (.node [(.and, 31, .val (.ofNat 23))]), .sym (.node [(.and, 3, .val (.ofNat j))])] ⟨0, .e⟩).isTrue = true
  | 0, _ => ScheDeepRun23n0
  | 1, _ => ScheDeepRun23n1
  | 2, _ => ScheDeepRun23n2
  | 3, _ => ScheDeepRun23n3
  | j + 4, h => absurd h (by omega)
theorem ScheDeepRow24 : ∀ j : Nat, j < 4 → (funX tyT ftW 100000 100 5 [.sym (.node [(.and, 31, .val (.ofNat 24))]), .sym (.node [(.and, 3, .val (.ofNat j))])] ⟨0, .e⟩).isTrue = true
  | 0, _ => ScheDeepRun24n0
  | 1, _ => ScheDeepRun24n1
  | 2, _ => ScheDeepRun24n2
  | 3, _ => ScheDeepRun24n3
  | j + 4, h => absurd h (by omega)
theorem ScheDeepRow25 : ∀ j : Nat, j < 4 → (funX tyT ftW 100000 100 5 [.sym (.node [(.and, 31, .val (.ofNat 25))]), .sym (.node [(.and, 3, .val (.ofNat j))])] ⟨0, .e⟩).isTrue = true
  | 0, _ => ScheDeepRun25n0
  | 1, _ => ScheDeepRun25n1
  | 2, _ => ScheDeepRun25n2
  | 3, _ => ScheDeepRun25n3
  | j + 4, h => absurd h (by omega)
theorem ScheDeepRow26 : ∀ j : Nat, j < 4 → (funX tyT ftW 100000 100 5 [.sym (.node [(.and, 31, .val (.ofNat 26))]), .sym (.node [(.and, 3, .val (.ofNat j))])] ⟨0, .e⟩).isTrue = true
  | 0, _ => ScheDeepRun26n0
  | 1, _ => ScheDeepRun26n1
  | 2, _ => ScheDeepRun26n2
  | 3, _ => ScheDeepRun26n3
  | j + 4, h => absurd h (by omega)
theorem ScheDeepRow27 : ∀ j : Nat, j < 4 → (funX tyT ftW 100000 100 5 [.sym (.node [(.and, 31, .val (.ofNat 27))]), .sym (.node [(.and, 3, .val (.ofNat j))])] ⟨0, .e⟩).isTrue = true
  | 0, _ => ScheDeepRun27n0
  | 1, _ => ScheDeepRun27n1
  | 2, _ => ScheDeepRun27n2
  | 3, _ => ScheDeepRun27n3
  | j + 4, h => absurd h (by omega)
theorem ScheDeepRow28 : ∀ j : Nat, j < 4 → (funX tyT ftW 100000 100 5 [.sym (.node [(.and, 31, .val (.ofNat 28))]), .sym (.node [(.and, 3, .val (.ofNat j))])] ⟨0, .e⟩).isTrue = true
  | 0, _ => ScheDeepRun28n0
  | 1, _ => ScheDeepRun28n1
  | 2, _ => ScheDeepRun28n2
  | 3, _ => ScheDeepRun28n3
  | j + 4, h => absurd h (by omega)
theorem ScheDeepRow29 : ∀ j : Nat, j < 4 → (funX tyT ftW 100000 100 5 [.sym (.node [(.and, 31, .val (.ofNat 29))]), .sym (.node [(.and, 3, .val (.ofNat j))])] ⟨0, .e⟩).isTrue = true
  | 0, _ => ScheDeepRun29n0
  | 1, _ => ScheDeepRun29n1
  | 2, _ => ScheDeepRun29n2
  | 3, _ => ScheDeepRun29n3
  | j + 4, h => absurd h (by omega)
theorem ScheDeepRow30 : ∀ j : Nat, j < 4 → (funX tyT ftW 100000 100 5 [.sym (.node [(.and, 31, .val (.ofNat 30))]), .sym (.node [(.and, 3, .val (.ofNat j))])] ⟨0, .e⟩).isTrue = true
  | 0, _ => ScheDeepRun30n0
  | 1, _ => ScheDeepRun30n1
  | 2, _ => ScheDeepRun30n2
  | 3, _ => ScheDeepRun30n3
  | j + 4, h => absurd h (by omega)
theorem ScheDeepRow31 : ∀ j : Nat, j < 4 → (funX tyT ftW 100000 100 5 [.sym (.node [(.and, 31, .val (.ofNat 31))]), .sym (.node [(.and, 3, .val (.ofNat j))])] ⟨0, .e⟩).isTrue = true
  | 0, _ => ScheDeepRun31n0
  | 1, _ => ScheDeepRun31n1
  | 2, _ => ScheDeepRun31n2
  | 3, _ => ScheDeepRun31n3
  | j + 4, h => absurd h (by omega)
theorem ScheDeepRun : ∀ i : Nat, i < 32 → ∀ j : Nat, j < 4 → (funX tyT ftW 100000 100 5 [.sym (.node [(.and, 31, .val (.ofNat i))]), .sym (.node [(.and, 3, .val (.ofNat j))])] ⟨0, .e⟩).isTrue = true
  | 0, _ => ScheDeepRow0
  | 1, _ => ScheDeepRow1
  | 2, _ => ScheDeepRow2
  | 3, _ => ScheDeepRow3
  | 4, _ => ScheDeepRow4
  | 5, _ => ScheDeepRow5
  | 6, _ => ScheDeepRow6
  | 7, _ => ScheDeepRow7
  | 8, _ => ScheDeepRow8
  | 9, _ => ScheDeepRow9
  | 10, _ => ScheDeepRow10
  | 11, _ => ScheDeepRow11
  | 12, _ => ScheDeepRow12
  | 13, _ => ScheDeepRow13
  | 14, _ => ScheDeepRow14
  | 15, _ => ScheDeepRow15
  | 16, _ => ScheDeepRow16
  | 17, _ => ScheDeepRow17
  | 18, _ => ScheDeepRow18
  | 19, _ => ScheDeepRow19
  | 20, _ => ScheDeepRow20
  | 21, _ => ScheDeepRow21
  | 22, _ => ScheDeepRow22
  | 23, _ => ScheDeepRow23
  | 24, _ => ScheDeepRow24
  | 25, _ => ScheDeepRow25
  | 26, _ => ScheDeepRow26
  | 27, _ => ScheDeepRow27
  | 28, _ => ScheDeepRow28
  | 29, _ => ScheDeepRow29
  | 30, _ => ScheDeepRow30
  | 31, _ => ScheDeepRow31
  | i + 32, h => absurd h (by omega)
theorem ScheDeepCall (Γ : Gm) (n k : Int) : ∃ (vals : List RV) (H1 : HT), Reps Γ vals [.int .i64 n, .int .i64 k] ∧ CallR Try.prog 5 vals ⟨0, .e⟩ (.bool true) H1 := by
  obtain ⟨m, hm, h0, h1⟩ := sAr_and (n := n) (m := 31) (by omega)
  obtain ⟨q, hq, h2, h3⟩ := sAr_and (n := k) (m := 3) (by omega)
  obtain ⟨i, rfl⟩ : ∃ i : Nat, m = Int.ofNat i := ⟨m.toNat, by show m = (m.toNat : Int); omega⟩
  obtain ⟨j, rfl⟩ : ∃ j : Nat, q = Int.ofNat j := ⟨q.toNat, by show q = (q.toNat : Int); omega⟩
  have hi : i < 32 := by have : (i : Int) ≤ 31 := h1; omega
  have hj : j < 4 := by have : (j : Int) ≤ 3 := h3; omega
  obtain ⟨H1, h⟩ := @run_okX Try.prog tyT ftW 100000 100 5 _ tyOk mixed ftWOk (ScheDeepRun i hi j hj)
  have r0 : Rep Γ (.sym (.node [(.and, 31, .val (.ofNat i))])) (.int .i64 n) := .sym _ n (sy_one hm (.val _))
  have r1 : Rep Γ (.sym (.node [(.and, 3, .val (.ofNat j))])) (.int .i64 k) := .sym _ k (sy_one hq (.val _))
  refine ⟨[.sym (.node [(.and, 31, .val (.ofNat i))]), .sym (.node [(.and, 3, .val (.ofNat j))])], H1, ⟨rfl, fun a c x h1 h2 => ?_⟩, h⟩
  rcases a with _ | _ | a
  · simp at h1 h2; subst h1 h2; exact r0
  · simp at h1 h2; subst h1 h2; exact r1
  · simp at h1
end Go.Rx

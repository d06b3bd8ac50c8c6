/- ScheBinds: each row's run, whatever the numbers. -/
import Derived.Test.YtekbhhbnabdcbaaScheBindsQ0
import Derived.Test.YtekbhhbnabdcbaaScheBindsQ1
import Derived.Test.YtekbhhbnabdcbaaScheBindsQ2
import Derived.Test.YtekbhhbnabdcbaaScheBindsQ3
import Derived.Test.YtekbhhbnabdcbaaScheBindsQ4
import Derived.Test.YtekbhhbnabdcbaaScheBindsQ5
import Derived.Test.YtekbhhbnabdcbaaScheBindsQ6
import Derived.Test.YtekbhhbnabdcbaaScheBindsQ7
import Derived.Test.YtekbhhbnabdcbaaScheBindsQ8
import Derived.Test.YtekbhhbnabdcbaaScheBindsQ9
import Derived.Test.YtekbhhbnabdcbaaScheBindsQ10
import Derived.Test.YtekbhhbnabdcbaaScheBindsQ11
import Derived.Test.YtekbhhbnabdcbaaScheBindsQ12
import Derived.Test.YtekbhhbnabdcbaaScheBindsQ13
import Derived.Test.YtekbhhbnabdcbaaScheBindsQ14
import Derived.Test.YtekbhhbnabdcbaaScheBindsQ15
set_option linter.unusedVariables false
set_option linter.unusedSimpArgs false
set_option linter.unusedSectionVars false
set_option maxRecDepth 100000
namespace Go.Rx
open Go.Proofs
theorem four {p : Nat → Bool} (h : ((p 0 && p 1) && (p 2 && p 3)) = true) : ∀ c : Nat, c < 4 → p c = true := by
  simp only [Bool.and_eq_true] at h
  intro c hc
  match c, hc with
  | 0, _ => exact h.1.1
  | 1, _ => exact h.1.2
  | 2, _ => exact h.2.1
  | 3, _ => exact h.2.2
  | c + 4, hc => omega
theorem bA000 : ∀ b : Nat, b < 4 → ∀ c : Nat, c < 4 → bRun 0 0 0 b c = true
  | 0, _ => four (p := bRun 0 0 0 0) bR0000
  | 1, _ => four (p := bRun 0 0 0 1) bR0001
  | 2, _ => four (p := bRun 0 0 0 2) bR0002
  | 3, _ => four (p := bRun 0 0 0 3) bR0003
  | b + 4, h => absurd h (by omega)
theorem bA001 : ∀ b : Nat, b < 4 → ∀ c : Nat, c < 4 → bRun 0 0 1 b c = true
  | 0, _ => four (p := bRun 0 0 1 0) bR0010
  | 1, _ => four (p := bRun 0 0 1 1) bR0011
  | 2, _ => four (p := bRun 0 0 1 2) bR0012
  | 3, _ => four (p := bRun 0 0 1 3) bR0013
  | b + 4, h => absurd h (by omega)
theorem bA002 : ∀ b : Nat, b < 4 → ∀ c : Nat, c < 4 → bRun 0 0 2 b c = true
  | 0, _ => four (p := bRun 0 0 2 0) bR0020
  | 1, _ => four (p := bRun 0 0 2 1) bR0021
  | 2, _ => four (p := bRun 0 0 2 2) bR0022
  | 3, _ => four (p := bRun 0 0 2 3) bR0023
  | b + 4, h => absurd h (by omega)
theorem bA003 : ∀ b : Nat, b < 4 → ∀ c : Nat, c < 4 → bRun 0 0 3 b c = true
  | 0, _ => four (p := bRun 0 0 3 0) bR0030
  | 1, _ => four (p := bRun 0 0 3 1) bR0031
  | 2, _ => four (p := bRun 0 0 3 2) bR0032
  | 3, _ => four (p := bRun 0 0 3 3) bR0033
  | b + 4, h => absurd h (by omega)
theorem bB00 : ∀ a : Nat, a < 4 → ∀ b : Nat, b < 4 → ∀ c : Nat, c < 4 → bRun 0 0 a b c = true
  | 0, _ => bA000
  | 1, _ => bA001
  | 2, _ => bA002
  | 3, _ => bA003
  | a + 4, h => absurd h (by omega)
theorem bA010 : ∀ b : Nat, b < 4 → ∀ c : Nat, c < 4 → bRun 0 1 0 b c = true
  | 0, _ => four (p := bRun 0 1 0 0) bR0100
  | 1, _ => four (p := bRun 0 1 0 1) bR0101
  | 2, _ => four (p := bRun 0 1 0 2) bR0102
  | 3, _ => four (p := bRun 0 1 0 3) bR0103
  | b + 4, h => absurd h (by omega)
theorem bA011 : ∀ b : Nat, b < 4 → ∀ c : Nat, c < 4 → bRun 0 1 1 b c = true
  | 0, _ => four (p := bRun 0 1 1 0) bR0110
  | 1, _ => four (p := bRun 0 1 1 1) bR0111
  | 2, _ => four (p := bRun 0 1 1 2) bR0112
  | 3, _ => four (p := bRun 0 1 1 3) bR0113
  | b + 4, h => absurd h (by omega)
theorem bA012 : ∀ b : Nat, b < 4 → ∀ c : Nat, c < 4 → bRun 0 1 2 b c = true
  | 0, _ => four (p := bRun 0 1 2 0) bR0120
  | 1, _ => four (p := bRun 0 1 2 1) bR0121
  | 2, _ => four (p := bRun 0 1 2 2) bR0122
  | 3, _ => four (p := bRun 0 1 2 3) bR0123
  | b + 4, h => absurd h (by omega)
theorem bA013 : ∀ b : Nat, b < 4 → ∀ c : Nat, c < 4 → bRun 0 1 3 b c = true
  | 0, _ => four (p := bRun 0 1 3 0) bR0130
  | 1, _ => four (p := bRun 0 1 3 1) bR0131
  | 2, _ => four (p := bRun 0 1 3 2) bR0132
  | 3, _ => four (p := bRun 0 1 3 3) bR0133
  | b + 4, h => absurd h (by omega)
theorem bB01 : ∀ a : Nat, a < 4 → ∀ b : Nat, b < 4 → ∀ c : Nat, c < 4 → bRun 0 1 a b c = true
  | 0, _ => bA010
  | 1, _ => bA011
  | 2, _ => bA012
  | 3, _ => bA013
  | a + 4, h => absurd h (by omega)
theorem bC0 : ∀ j : Nat, j < 2 → ∀ a : Nat, a < 4 → ∀ b : Nat, b < 4 → ∀ c : Nat, c < 4 → bRun 0 j a b c = true
  | 0, _ => bB00
  | 1, _ => bB01
  | j + 2, h => absurd h (by omega)
theorem bA100 : ∀ b : Nat, b < 4 → ∀ c : Nat, c < 4 → bRun 1 0 0 b c = true
  | 0, _ => four (p := bRun 1 0 0 0) bR1000
  | 1, _ => four (p := bRun 1 0 0 1) bR1001
  | 2, _ => four (p := bRun 1 0 0 2) bR1002
  | 3, _ => four (p := bRun 1 0 0 3) bR1003
  | b + 4, h => absurd h (by omega)
theorem bA101 : ∀ b : Nat, b < 4 → ∀ c : Nat, c < 4 → bRun 1 0 1 b c = true
  | 0, _ => four (p := bRun 1 0 1 0) bR1010
  | 1, _ => four (p := bRun 1 0 1 1) bR1011
  | 2, _ => four (p := bRun 1 0 1 2) bR1012
  | 3, _ => four (p := bRun 1 0 1 3) bR1013
  | b + 4, h => absurd h (by omega)
theorem bA102 : ∀ b : Nat, b < 4 → ∀ c : Nat, c < 4 → bRun 1 0 2 b c = true
  | 0, _ => four (p := bRun 1 0 2 0) bR1020
  | 1, _ => four (p := bRun 1 0 2 1) bR1021
  | 2, _ => four (p := bRun 1 0 2 2) bR1022
  | 3, _ => four (p := bRun 1 0 2 3) bR1023
  | b + 4, h => absurd h (by omega)
theorem bA103 : ∀ b : Nat, b < 4 → ∀ c : Nat, c < 4 → bRun 1 0 3 b c = true
  | 0, _ => four (p := bRun 1 0 3 0) bR1030
  | 1, _ => four (p := bRun 1 0 3 1) bR1031
  | 2, _ => four (p := bRun 1 0 3 2) bR1032
  | 3, _ => four (p := bRun 1 0 3 3) bR1033
  | b + 4, h => absurd h (by omega)
theorem bB10 : ∀ a : Nat, a < 4 → ∀ b : Nat, b < 4 → ∀ c : Nat, c < 4 → bRun 1 0 a b c = true
  | 0, _ => bA100
  | 1, _ => bA101
  | 2, _ => bA102
  | 3, _ => bA103
  | a + 4, h => absurd h (by omega)
theorem bA110 : ∀ b : Nat, b < 4 → ∀ c : Nat, c < 4 → bRun 1 1 0 b c = true
  | 0, _ => four (p := bRun 1 1 0 0) bR1100
  | 1, _ => four (p := bRun 1 1 0 1) bR1101
  | 2, _ => four (p := bRun 1 1 0 2) bR1102
  | 3, _ => four (p := bRun 1 1 0 3) bR1103
  | b + 4, h => absurd h (by omega)
theorem bA111 : ∀ b : Nat, b < 4 → ∀ c : Nat, c < 4 → bRun 1 1 1 b c = true
  | 0, _ => four (p := bRun 1 1 1 0) bR1110
  | 1, _ => four (p := bRun 1 1 1 1) bR1111
  | 2, _ => four (p := bRun 1 1 1 2) bR1112
  | 3, _ => four (p := bRun 1 1 1 3) bR1113
  | b + 4, h => absurd h (by omega)
theorem bA112 : ∀ b : Nat, b < 4 → ∀ c : Nat, c < 4 → bRun 1 1 2 b c = true
  | 0, _ => four (p := bRun 1 1 2 0) bR1120
  | 1, _ => four (p := bRun 1 1 2 1) bR1121
  | 2, _ => four (p := bRun 1 1 2 2) bR1122
  | 3, _ => four (p := bRun 1 1 2 3) bR1123
  | b + 4, h => absurd h (by omega)
theorem bA113 : ∀ b : Nat, b < 4 → ∀ c : Nat, c < 4 → bRun 1 1 3 b c = true
  | 0, _ => four (p := bRun 1 1 3 0) bR1130
  | 1, _ => four (p := bRun 1 1 3 1) bR1131
  | 2, _ => four (p := bRun 1 1 3 2) bR1132
  | 3, _ => four (p := bRun 1 1 3 3) bR1133
  | b + 4, h => absurd h (by omega)
theorem bB11 : ∀ a : Nat, a < 4 → ∀ b : Nat, b < 4 → ∀ c : Nat, c < 4 → bRun 1 1 a b c = true
  | 0, _ => bA110
  | 1, _ => bA111
  | 2, _ => bA112
  | 3, _ => bA113
  | a + 4, h => absurd h (by omega)
theorem bC1 : ∀ j : Nat, j < 2 → ∀ a : Nat, a < 4 → ∀ b : Nat, b < 4 → ∀ c : Nat, c < 4 → bRun 1 j a b c = true
  | 0, _ => bB10
  | 1, _ => bB11
  | j + 2, h => absurd h (by omega)
theorem bA200 : ∀ b : Nat, b < 4 → ∀ c : Nat, c < 4 → bRun 2 0 0 b c = true
  | 0, _ => four (p := bRun 2 0 0 0) bR2000
  | 1, _ => four (p := bRun 2 0 0 1) bR2001
  | 2, _ => four (p := bRun 2 0 0 2) bR2002
  | 3, _ => four (p := bRun 2 0 0 3) bR2003
  | b + 4, h => absurd h (by omega)
theorem bA201 : ∀ b : Nat, b < 4 → ∀ c : Nat, c < 4 → bRun 2 0 1 b c = true
  | 0, _ => four (p := bRun 2 0 1 0) bR2010
  | 1, _ => four (p := bRun 2 0 1 1) bR2011
  | 2, _ => four (p := bRun 2 0 1 2) bR2012
  | 3, _ => four (p := bRun 2 0 1 3) bR2013
  | b + 4, h => absurd h (by omega)
theorem bA202 : ∀ b : Nat, b < 4 → ∀ c : Nat, c < 4 → bRun 2 0 2 b c = true
  | 0, _ => four (p := bRun 2 0 2 0) bR2020
  | 1, _ => four (p := bRun 2 0 2 1) bR2021
  | 2, _ => four (p := bRun 2 0 2 2) bR2022
  | 3, _ => four (p := bRun 2 0 2 3) bR2023
  | b + 4, h => absurd h (by omega)
theorem bA203 : ∀ b : Nat, b < 4 → ∀ c : Nat, c < 4 → bRun 2 0 3 b c = true
  | 0, _ => four (p := bRun 2 0 3 0) bR2030
  | 1, _ => four (p := bRun 2 0 3 1) bR2031
  | 2, _ => four (p := bRun 2 0 3 2) bR2032
  | 3, _ => four (p := bRun 2 0 3 3) bR2033
  | b + 4, h => absurd h (by omega)
theorem bB20 : ∀ a : Nat, a < 4 → ∀ b : Nat, b < 4 → ∀ c : Nat, c < 4 → bRun 2 0 a b c = true
  | 0, _ => bA200
  | 1, _ => bA201
  | 2, _ => bA202
  | 3, _ => bA203
  | a + 4, h => absurd h (by omega)
theorem bA210 : ∀ b : Nat, b < 4 → ∀ c : Nat, c < 4 → bRun 2 1 0 b c = true
  | 0, _ => four (p := bRun 2 1 0 0) bR2100
  | 1, _ => four (p := bRun 2 1 0 1) bR2101
  | 2, _ => four (p := bRun 2 1 0 2) bR2102
  | 3, _ => four (p := bRun 2 1 0 3) bR2103
  | b + 4, h => absurd h (by omega)
theorem bA211 : ∀ b : Nat, b < 4 → ∀ c : Nat, c < 4 → bRun 2 1 1 b c = true
  | 0, _ => four (p := bRun 2 1 1 0) bR2110
  | 1, _ => four (p := bRun 2 1 1 1) bR2111
  | 2, _ => four (p := bRun 2 1 1 2) bR2112
  | 3, _ => four (p := bRun 2 1 1 3) bR2113
  | b + 4, h => absurd h (by omega)
theorem bA212 : ∀ b : Nat, b < 4 → ∀ c : Nat, c < 4 → bRun 2 1 2 b c = true
  | 0, _ => four (p := bRun 2 1 2 0) bR2120
  | 1, _ => four (p := bRun 2 1 2 1) bR2121
  | 2, _ => four (p := bRun 2 1 2 2) bR2122
  | 3, _ => four (p := bRun 2 1 2 3) bR2123
  | b + 4, h => absurd h (by omega)
theorem bA213 : ∀ b : Nat, b < 4 → ∀ c : Nat, c < 4 → bRun 2 1 3 b c = true
  | 0, _ => four (p := bRun 2 1 3 0) bR2130
  | 1, _ => four (p := bRun 2 1 3 1) bR2131
  | 2, _ => four (p := bRun 2 1 3 2) bR2132
  | 3, _ => four (p := bRun 2 1 3 3) bR2133
  | b + 4, h => absurd h (by omega)
theorem bB21 : ∀ a : Nat, a < 4 → ∀ b : Nat, b < 4 → ∀ c : Nat, c < 4 → bRun 2 1 a b c = true
  | 0, _ => bA210
  | 1, _ => bA211
  | 2, _ => bA212
  | 3, _ => bA213
  | a + 4, h => absurd h (by omega)
theorem bC2 : ∀ j : Nat, j < 2 → ∀ a : Nat, a < 4 → ∀ b : Nat, b < 4 → ∀ c : Nat, c < 4 → bRun 2 j a b c = true
  | 0, _ => bB20
  | 1, _ => bB21
  | j + 2, h => absurd h (by omega)
theorem bA300 : ∀ b : Nat, b < 4 → ∀ c : Nat, c < 4 → bRun 3 0 0 b c = true
  | 0, _ => four (p := bRun 3 0 0 0) bR3000
  | 1, _ => four (p := bRun 3 0 0 1) bR3001
  | 2, _ => four (p := bRun 3 0 0 2) bR3002
  | 3, _ => four (p := bRun 3 0 0 3) bR3003
  | b + 4, h => absurd h (by omega)
theorem bA301 : ∀ b : Nat, b < 4 → ∀ c : Nat, c < 4 → bRun 3 0 1 b c = true
  | 0, _ => four (p := bRun 3 0 1 0) bR3010
  | 1, _ => four (p := bRun 3 0 1 1) bR3011
  | 2, _ => four (p := bRun 3 0 1 2) bR3012
  | 3, _ => four (p := bRun 3 0 1 3) bR3013
  | b + 4, h => absurd h (by omega)
theorem bA302 : ∀ b : Nat, b < 4 → ∀ c : Nat, c < 4 → bRun 3 0 2 b c = true
  | 0, _ => four (p := bRun 3 0 2 0) bR3020
  | 1, _ => four (p := bRun 3 0 2 1) bR3021
  | 2, _ => four (p := bRun 3 0 2 2) bR3022
  | 3, _ => four (p := bRun 3 0 2 3) bR3023
  | b + 4, h => absurd h (by omega)
theorem bA303 : ∀ b : Nat, b < 4 → ∀ c : Nat, c < 4 → bRun 3 0 3 b c = true
  | 0, _ => four (p := bRun 3 0 3 0) bR3030
  | 1, _ => four (p := bRun 3 0 3 1) bR3031
  | 2, _ => four (p := bRun 3 0 3 2) bR3032
  | 3, _ => four (p := bRun 3 0 3 3) bR3033
  | b + 4, h => absurd h (by omega)
theorem bB30 : ∀ a : Nat, a < 4 → ∀ b : Nat, b < 4 → ∀ c : Nat, c < 4 → bRun 3 0 a b c = true
  | 0, _ => bA300
  | 1, _ => bA301
  | 2, _ => bA302
  | 3, _ => bA303
  | a + 4, h => absurd h (by omega)
theorem bA310 : ∀ b : Nat, b < 4 → ∀ c : Nat, c < 4 → bRun 3 1 0 b c = true
  | 0, _ => four (p := bRun 3 1 0 0) bR3100
  | 1, _ => four (p := bRun 3 1 0 1) bR3101
  | 2, _ => four (p := bRun 3 1 0 2) bR3102
  | 3, _ => four (p := bRun 3 1 0 3) bR3103
  | b + 4, h => absurd h (by omega)
theorem bA311 : ∀ b : Nat, b < 4 → ∀ c : Nat, c < 4 → bRun 3 1 1 b c = true
  | 0, _ => four (p := bRun 3 1 1 0) bR3110
  | 1, _ => four (p := bRun 3 1 1 1) bR3111
  | 2, _ => four (p := bRun 3 1 1 2) bR3112
  | 3, _ => four (p := bRun 3 1 1 3) bR3113
  | b + 4, h => absurd h (by omega)
theorem bA312 : ∀ b : Nat, b < 4 → ∀ c : Nat, c < 4 → bRun 3 1 2 b c = true
  | 0, _ => four (p := bRun 3 1 2 0) bR3120
  | 1, _ => four (p := bRun 3 1 2 1) bR3121
  | 2, _ => four (p := bRun 3 1 2 2) bR3122
  | 3, _ => four (p := bRun 3 1 2 3) bR3123
  | b + 4, h => absurd h (by omega)
theorem bA313 : ∀ b : Nat, b < 4 → ∀ c : Nat, c < 4 → bRun 3 1 3 b c = true
  | 0, _ => four (p := bRun 3 1 3 0) bR3130
  | 1, _ => four (p := bRun 3 1 3 1) bR3131
  | 2, _ => four (p := bRun 3 1 3 2) bR3132
  | 3, _ => four (p := bRun 3 1 3 3) bR3133
  | b + 4, h => absurd h (by omega)
theorem bB31 : ∀ a : Nat, a < 4 → ∀ b : Nat, b < 4 → ∀ c : Nat, c < 4 → bRun 3 1 a b c = true
  | 0, _ => bA310
  | 1, _ => bA311
  | 2, _ => bA312
  | 3, _ => bA313
  | a + 4, h => absurd h (by omega)
theorem bC3 : ∀ j : Nat, j < 2 → ∀ a : Nat, a < 4 → ∀ b : Nat, b < 4 → ∀ c : Nat, c < 4 → bRun 3 j a b c = true
  | 0, _ => bB30
  | 1, _ => bB31
  | j + 2, h => absurd h (by omega)
theorem bA400 : ∀ b : Nat, b < 4 → ∀ c : Nat, c < 4 → bRun 4 0 0 b c = true
  | 0, _ => four (p := bRun 4 0 0 0) bR4000
  | 1, _ => four (p := bRun 4 0 0 1) bR4001
  | 2, _ => four (p := bRun 4 0 0 2) bR4002
  | 3, _ => four (p := bRun 4 0 0 3) bR4003
  | b + 4, h => absurd h (by omega)
theorem bA401 : ∀ b : Nat, b < 4 → ∀ c : Nat, c < 4 → bRun 4 0 1 b c = true
  | 0, _ => four (p := bRun 4 0 1 0) bR4010
  | 1, _ => four (p := bRun 4 0 1 1) bR4011
  | 2, _ => four (p := bRun 4 0 1 2) bR4012
  | 3, _ => four (p := bRun 4 0 1 3) bR4013
  | b + 4, h => absurd h (by omega)
theorem bA402 : ∀ b : Nat, b < 4 → ∀ c : Nat, c < 4 → bRun 4 0 2 b c = true
  | 0, _ => four (p := bRun 4 0 2 0) bR4020
  | 1, _ => four (p := bRun 4 0 2 1) bR4021
  | 2, _ => four (p := bRun 4 0 2 2) bR4022
  | 3, _ => four (p := bRun 4 0 2 3) bR4023
  | b + 4, h => absurd h (by omega)
theorem bA403 : ∀ b : Nat, b < 4 → ∀ c : Nat, c < 4 → bRun 4 0 3 b c = true
  | 0, _ => four (p := bRun 4 0 3 0) bR4030
  | 1, _ => four (p := bRun 4 0 3 1) bR4031
  | 2, _ => four (p := bRun 4 0 3 2) bR4032
  | 3, _ => four (p := bRun 4 0 3 3) bR4033
  | b + 4, h => absurd h (by omega)
theorem bB40 : ∀ a : Nat, a < 4 → ∀ b : Nat, b < 4 → ∀ c : Nat, c < 4 → bRun 4 0 a b c = true
  | 0, _ => bA400
  | 1, _ => bA401
  | 2, _ => bA402
  | 3, _ => bA403
  | a + 4, h => absurd h (by omega)
theorem bA410 : ∀ b : Nat, b < 4 → ∀ c : Nat, c < 4 → bRun 4 1 0 b c = true
  | 0, _ => four (p := bRun 4 1 0 0) bR4100
  | 1, _ => four (p := bRun 4 1 0 1) bR4101
  | 2, _ => four (p := bRun 4 1 0 2) bR4102
  | 3, _ => four (p := bRun 4 1 0 3) bR4103
  | b + 4, h => absurd h (by omega)
theorem bA411 : ∀ b : Nat, b < 4 → ∀ c : Nat, c < 4 → bRun 4 1 1 b c = true
  | 0, _ => four (p := bRun 4 1 1 0) bR4110
  | 1, _ => four (p := bRun 4 1 1 1) bR4111
  | 2, _ => four (p := bRun 4 1 1 2) bR4112
  | 3, _ => four (p := bRun 4 1 1 3) bR4113
  | b + 4, h => absurd h (by omega)
theorem bA412 : ∀ b : Nat, b < 4 → ∀ c : Nat, c < 4 → bRun 4 1 2 b c = true
  | 0, _ => four (p := bRun 4 1 2 0) bR4120
  | 1, _ => four (p := bRun 4 1 2 1) bR4121
  | 2, _ => four (p := bRun 4 1 2 2) bR4122
  | 3, _ => four (p := bRun 4 1 2 3) bR4123
  | b + 4, h => absurd h (by omega)
theorem bA413 : ∀ b : Nat, b < 4 → ∀ c : Nat, c < 4 → bRun 4 1 3 b c = true
  | 0, _ => four (p := bRun 4 1 3 0) bR4130
  | 1, _ => four (p := bRun 4 1 3 1) bR4131
  | 2, _ => four (p := bRun 4 1 3 2) bR4132
  | 3, _ => four (p := bRun 4 1 3 3) bR4133
  | b + 4, h => absurd h (by omega)
theorem bB41 : ∀ a : Nat, a < 4 → ∀ b : Nat, b < 4 → ∀ c : Nat, c < 4 → bRun 4 1 a b c = true
  | 0, _ => bA410
  | 1, _ => bA411
  | 2, _ => bA412
  | 3, _ => bA413
  | a + 4, h => absurd h (by omega)
theorem bC4 : ∀ j : Nat, j < 2 → ∀ a : Nat, a < 4 → ∀ b : Nat, b < 4 → ∀ c : Nat, c < 4 → bRun 4 j a b c = true
  | 0, _ => bB40
  | 1, _ => bB41
  | j + 2, h => absurd h (by omega)
theorem ScheBindsRun : ∀ i : Nat, i < 5 → ∀ j : Nat, j < 2 → ∀ a : Nat, a < 4 → ∀ b : Nat, b < 4 → ∀ c : Nat, c < 4 → bRun i j a b c = true
  | 0, _ => bC0
  | 1, _ => bC1
  | 2, _ => bC2
  | 3, _ => bC3
  | 4, _ => bC4
  | i + 5, h => absurd h (by omega)
theorem nat_of {m : Int} (h : 0 ≤ m) : ∃ i : Nat, m = Int.ofNat i := ⟨m.toNat, by show m = (m.toNat : Int); omega⟩
theorem ScheBindsCall (Γ : Gm) (n a b c : Int) : ∃ (vals : List RV) (H1 : HT), Reps Γ vals [.int .i64 n, .int .i64 a, .int .i64 b, .int .i64 c] ∧ CallR Try.prog 3 vals ⟨0, .e⟩ (.bool true) H1 := by
  obtain ⟨m, hm, h0, h1⟩ := sAr_and (n := n) (m := 255) (by omega)
  obtain ⟨q, hq, h2, h3⟩ := sAr_and (n := n) (m := 1) (by omega)
  obtain ⟨x, hx, h4, h5⟩ := sAr_and (n := a) (m := 3) (by omega)
  obtain ⟨y, hy, h6, h7⟩ := sAr_and (n := b) (m := 3) (by omega)
  obtain ⟨z, hz, h8, h9⟩ := sAr_and (n := c) (m := 3) (by omega)
  obtain ⟨i, hi, hi2⟩ : ∃ i : Nat, i < 5 ∧ m.tmod 5 = Int.ofNat i := by
    rw [Int.tmod_eq_emod_of_nonneg h0]
    refine ⟨(m % 5).toNat, by omega, ?_⟩
    show m % 5 = ((m % 5).toNat : Int)
    omega
  obtain ⟨j, rfl⟩ := nat_of h2
  obtain ⟨x, rfl⟩ := nat_of h4
  obtain ⟨y, rfl⟩ := nat_of h6
  obtain ⟨z, rfl⟩ := nat_of h8
  have hj : j < 2 := by have : (j : Int) ≤ 1 := h3; omega
  have hx3 : x < 4 := by have : (x : Int) ≤ 3 := h5; omega
  have hy3 : y < 4 := by have : (y : Int) ≤ 3 := h7; omega
  have hz3 : z < 4 := by have : (z : Int) ≤ 3 := h9; omega
  obtain ⟨H1, h⟩ := @run_okW Try.prog tyT 100000 ftW 100 3 (bw i j x y z) tyOk mixed ftWOk (ScheBindsRun i hi j hj x hx3 y hy3 z hz3)
  have r0 : Rep Γ (.sym (.node [(.and, 255, .node [(.rem, 5, .val (.ofNat i))]), (.and, 1, .val (.ofNat j))])) (.int .i64 n) := by
    refine .sym _ n (.node _ n (fun _ b => if b = 255 then m else Int.ofNat j) (fun op b s hmem => ?_) (fun op b s hmem => ?_))
    · simp only [List.mem_cons, Prod.mk.injEq, List.not_mem_nil, or_false] at hmem
      rcases hmem with ⟨rfl, rfl, _⟩ | ⟨rfl, rfl, _⟩
      · rw [if_pos rfl]; exact hm
      · rw [if_neg (by decide)]; exact hq
    · simp only [List.mem_cons, Prod.mk.injEq, List.not_mem_nil, or_false] at hmem
      rcases hmem with ⟨rfl, rfl, rfl⟩ | ⟨rfl, rfl, rfl⟩
      · rw [if_pos rfl]; exact sy_one (r := Int.ofNat i) (by simp [sAr, hi2]) (.val _)
      · rw [if_neg (by decide)]; exact .val _
  have r1 : Rep Γ (.sym (.node [(.and, 3, .val (.ofNat x))])) (.int .i64 a) := .sym _ a (sy_one hx (.val _))
  have r2 : Rep Γ (.sym (.node [(.and, 3, .val (.ofNat y))])) (.int .i64 b) := .sym _ b (sy_one hy (.val _))
  have r3 : Rep Γ (.sym (.node [(.and, 3, .val (.ofNat z))])) (.int .i64 c) := .sym _ c (sy_one hz (.val _))
  refine ⟨bw i j x y z, H1, ⟨rfl, fun k d v h1 h2 => ?_⟩, h⟩
  rcases k with _ | _ | _ | _ | k
  · simp [bw] at h1 h2; subst h1 h2; exact r0
  · simp [bw] at h1 h2; subst h1 h2; exact r1
  · simp [bw] at h1 h2; subst h1 h2; exact r2
  · simp [bw] at h1 h2; subst h1 h2; exact r3
  · simp [bw] at h1
end Go.Rx

/- Closed runs of JsonDeep: all. -/
import Derived.Test.YtcihohnnmhfjoaaGreatDoorJQT
import Derived.Test.YtcihohnnmhfjoaaGreatDoorJQ0
import Derived.Test.YtcihohnnmhfjoaaGreatDoorJQ1
import Derived.Test.YtcihohnnmhfjoaaGreatDoorJQ2
import Derived.Test.YtcihohnnmhfjoaaGreatDoorJQ3
import Derived.Test.YtcihohnnmhfjoaaGreatDoorJQ4
import Derived.Test.YtcihohnnmhfjoaaGreatDoorJQ5
import Derived.Test.YtcihohnnmhfjoaaGreatDoorJQ6
import Derived.Test.YtcihohnnmhfjoaaGreatDoorJQ7
set_option linter.unusedVariables false
set_option linter.unusedSimpArgs false
set_option linter.unusedSectionVars false
set_option maxRecDepth 100000
namespace Go.Fbs
theorem tJ_all : ∀ i,i < 10 → tRunJ i = true
 | 0,_=>tJ0
 | 1,_=>tJ1
 | 2,_=>tJ2
 | 3,_=>tJ3
 | 4,_=>tJ4
 | 5,_=>tJ5
 | 6,_=>tJ6
 | 7,_=>tJ7
 | 8,_=>tJ8
 | 9,_=>tJ9
 | i + 10,h=>absurd h (by omega)
theorem pJ_false_all : ∀ n,n < 32 → pRunJ false (n + 1) = true
 | 0,_=>pJ_false1
 | 1,_=>pJ_false2
 | 2,_=>pJ_false3
 | 3,_=>pJ_false4
 | 4,_=>pJ_false5
 | 5,_=>pJ_false6
 | 6,_=>pJ_false7
 | 7,_=>pJ_false8
 | 8,_=>pJ_false9
 | 9,_=>pJ_false10
 | 10,_=>pJ_false11
 | 11,_=>pJ_false12
 | 12,_=>pJ_false13
 | 13,_=>pJ_false14
 | 14,_=>pJ_false15
 | 15,_=>pJ_false16
 | 16,_=>pJ_false17
 | 17,_=>pJ_false18
 | 18,_=>pJ_false19
 | 19,_=>pJ_false20
 | 20,_=>pJ_false21
 | 21,_=>pJ_false22
 | 22,_=>pJ_false23
 | 23,_=>pJ_false24
 | 24,_=>pJ_false25
 | 25,_=>pJ_false26
 | 26,_=>pJ_false27
 | 27,_=>pJ_false28
 | 28,_=>pJ_false29
 | 29,_=>pJ_false30
 | 30,_=>pJ_false31
 | 31,_=>pJ_false32
 | n + 32,h=>absurd h (by omega)
theorem pJ_true_all : ∀ n,n < 32 → pRunJ true (n + 1) = true
 | 0,_=>pJ_true1
 | 1,_=>pJ_true2
 | 2,_=>pJ_true3
 | 3,_=>pJ_true4
 | 4,_=>pJ_true5
 | 5,_=>pJ_true6
 | 6,_=>pJ_true7
 | 7,_=>pJ_true8
 | 8,_=>pJ_true9
 | 9,_=>pJ_true10
 | 10,_=>pJ_true11
 | 11,_=>pJ_true12
 | 12,_=>pJ_true13
 | 13,_=>pJ_true14
 | 14,_=>pJ_true15
 | 15,_=>pJ_true16
 | 16,_=>pJ_true17
 | 17,_=>pJ_true18
 | 18,_=>pJ_true19
 | 19,_=>pJ_true20
 | 20,_=>pJ_true21
 | 21,_=>pJ_true22
 | 22,_=>pJ_true23
 | 23,_=>pJ_true24
 | 24,_=>pJ_true25
 | 25,_=>pJ_true26
 | 26,_=>pJ_true27
 | 27,_=>pJ_true28
 | 28,_=>pJ_true29
 | 29,_=>pJ_true30
 | 30,_=>pJ_true31
 | 31,_=>pJ_true32
 | n + 32,h=>absurd h (by omega)
theorem pJ_all (o : Bool) {n : Nat} (h : n < 32) : pRunJ o (n + 1) = true:=by cases o; exact pJ_false_all n h; exact pJ_true_all n h
end Go.Fbs

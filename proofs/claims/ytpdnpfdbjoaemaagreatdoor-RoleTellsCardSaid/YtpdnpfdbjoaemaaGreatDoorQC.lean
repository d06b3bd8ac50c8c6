import Derived.Test.YtpdnpfdbjoaemaaGreatDoorQB
set_option linter.unusedSimpArgs false
set_option linter.unusedVariables false
set_option linter.unusedSectionVars false
set_option maxRecDepth 100000
namespace Go.Fbs
def factsF : List Lin → Nat → List Fct → List Fct × Nat × Int
 | [],_,out=>(out,0,0)
 | x :: xs,i,out =>
  if 2000 ≤ i then ([],x.1,8)
  else if (factM x).2.2 = 0 then factsF xs (i + 1) (out ++ [(factM x).1]) else ([],(factM x).2.1,(factM x).2.2)
def roleM (l : List UInt8) : List Fct × Nat × Int:=if (linesM l).2.2 ≠ 0 then ([],(linesM l).2.1,(linesM l).2.2) else factsF (linesM l).1 0 []
end Go.Fbs

/- A program without a go statement starts no goroutine, whatever is called. -/
import GoSem.ClaimGoes
import Derived.Tactics
set_option linter.unusedSimpArgs false
set_option linter.unusedVariables false
set_option linter.unusedSectionVars false
namespace Go.Rx
open Go
theorem aSo {P:Program} (h:P.funcs.any Func.goes=false) (f:FuncId):P.goes f=false:=by
 have h1:∀ g:FuncId,(P.funcs[g]?).any Func.goes=false:=fun g=>by
  cases hg : P.funcs[g]? with
  | none=>rfl
  | some fn =>
   obtain ⟨hlt,rfl⟩:=Array.getElem?_eq_some_iff.1 hg
   rw [Array.any_eq_false] at h
   simpa using h g hlt
 unfold Program.goes
 rw [h,Bool.and_false,Bool.or_false,List.any_eq_false]
 intro g _
 rw [h1 g]; simp
theorem aIu {P:Program} (h:P.funcs.any Func.goes=false) (s:String):P.goesFrom s=false:=by
 unfold Program.goesFrom
 cases P.funcNamed s with
 | none=>rfl
 | some f=>exact aSo h f
theorem aM7 {P:Program} (h:P.funcs.toList.any Func.goes=false) (c:OpenClaim) (hs:c.start = .entering):false=c.goesBy P:=by
 rw [Array.any_toList] at h
 unfold OpenClaim.goesBy Program.goesAt
 rw [aIu h,hs]
 rfl
end Go.Rx

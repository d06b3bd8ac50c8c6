import Derived.Test.YthakklikgmcgdaaGreatDoorPB
import Derived.Maps.Own
import Derived.Maps.Views
import Derived.Maps.OwnSet
set_option linter.unusedSimpArgs false
set_option linter.unusedVariables false
set_option linter.unusedSectionVars false
set_option maxRecDepth 100000
namespace Go.Fbs
open Go.Proofs Go.RowKit Go.Maps
def mX (seen:List (List UInt8)):DataW Unit:=seen.foldr (fun k D=>D.put (.string k) (.lit (.int .i64 1))) (.map [])
theorem aLk:∀ seen,IsMap (mX seen)
 | []=>⟨[],rfl⟩
 | k::seen=>by
  obtain ⟨es,h⟩:=aLk seen
  show IsMap ((mX seen).put _ _)
  rw [h]
  exact ⟨_,rfl⟩
theorem aBz:∀ (seen:List (List UInt8)) (k:List UInt8),(mX seen).atKey (.string k) (.lit (.int .i64 0)) = .lit (.int .i64 (if k ∈ seen then 1 else 0))
 | [],k=>rfl
 | x::seen,k=>by
  show ((mX seen).put (.string x) (.lit (.int .i64 1))).atKey (.string k) (.lit (.int .i64 0))=_
  by_cases h:k=x
  ·subst h
   rw [atKey_put_same (aLk seen) (by trivial)]
   simp
  ·rw [atKey_put_other (by intro e; cases e; exact h rfl),aBz seen k]
   simp [h]
theorem a3t:Keyed Tryz.prog 9:=string_keyed Tryz.underlying9
theorem aQt (w:World):(zeroValue 3).run Tryz.prog w = .ok (.int .i64 0) w:=by kernel_rfl
end Go.Fbs

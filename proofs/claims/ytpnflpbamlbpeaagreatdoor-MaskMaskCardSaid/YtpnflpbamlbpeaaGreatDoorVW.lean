import Derived.Test.YtpnflpbamlbpeaaGreatDoorVMB
import Derived.Maps.OwnOps
import Derived.Maps.Views
set_option linter.unusedSimpArgs false
set_option linter.unusedVariables false
set_option linter.unusedSectionVars false
set_option maxRecDepth 100000
namespace Go.Fbs
open Go.Proofs Go.RowKit Go.Shelf Go.Sort Go.Maps
theorem law9 : Keyed Tryz.prog 9:=string_keyed Tryz.underlying9
abbrev DU:=DataW Unit
def oneD : DU:=.lit (.int .i64 1)
def zeroD : DU:=.lit (.int .i64 0)
def TellsM (w : World) (B n : Nat) (S : List (List UInt8)) : Prop:=∃ D : DU,w.ownsMap Tryz.prog 9 (plainElem Tryz.prog 3) B n D ∧ IsMap D ∧ ∀ s : List UInt8,D.atKey (.string s) zeroD = if S.contains s then oneD else zeroD
theorem tells_made (w : World) : TellsM (w.alloc (.map #[] 0)) w.heap.size 0 []:=⟨.map [],World.ownsMap_made _ _ _ _,isMap_empty,fun s=>rfl⟩
theorem tells_put {D : DU} {S : List (List UInt8)} {s : List UInt8} (hm : IsMap D) (h : ∀ s : List UInt8,D.atKey (.string s) zeroD = if S.contains s then oneD else zeroD) : ∀ t : List UInt8,(D.put (.string s) oneD).atKey (.string t) zeroD = if (s :: S).contains t then oneD else zeroD:=fun t=>by
 by_cases e : t = s
 ·subst e
  rw [atKey_put_same hm (show WideAt.IsKeyLit (.string t) from trivial)]
  simp
 ·rw [atKey_put_other (by simpa using e),h t]
  simp [e]
theorem tells_mono {w : World} {B n m : Nat} {S : List (List UInt8)} (h : TellsM w B n S) (hn : n ≤ m) : TellsM w B m S:=by
 obtain ⟨D,h1,h2⟩:=h
 exact ⟨D,h1.mono hn,h2⟩
theorem tells_kept {w w' : World} {B n : Nat} {S : List (List UInt8)} {row : Option Nat} (h : TellsM w B n S) (hg : w.grownBy w' row) (hne : some B ≠ row) : TellsM w' B n S:=by
 obtain ⟨D,h1,h2⟩:=h
 exact ⟨D,h1.kept hg hne,h2⟩
theorem tells_alloc {w : World} {B n : Nat} {S : List (List UInt8)} (h : TellsM w B n S) (o : Obj) : TellsM (w.alloc o) B n S:=by
 obtain ⟨D,h1,h2⟩:=h
 exact ⟨D,h1.alloc o,h2⟩
end Go.Fbs

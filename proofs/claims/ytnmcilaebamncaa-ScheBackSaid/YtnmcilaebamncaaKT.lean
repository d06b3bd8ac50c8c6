/- Parsing what is made of numbers, and what follows. -/
import Derived.Test.YtnmcilaebamncaaKR
set_option maxRecDepth 100000
namespace Go.Fbs
open Go.Proofs
attribute [local irreducible] sumM factorM relationM
structure AteT (s : PSt) (R : List Tok) (r : Bool × PSt × Typ) : Prop where
 ok : r.1 = true
 l : r.2.1.l = R
 n : r.2.1.n = s.n
 at_ : r.2.1.at_ = s.at_
 e : r.2.1.e = s.e
 d : r.2.1.d = s.d
theorem word_yes {s : PSt} {t : Tok} {R : List Tok} (h : s.l = t :: R) (hk : kt t = (1,[116,121,112,101])) : wordM s = true ∧ (popM s).l = R:=by
 simp only [kt,Prod.mk.injEq] at hk
 refine ⟨?_,by show s.l.tail = R; rw [h]; rfl⟩
 unfold wordM hereM
 rw [h]
 simp [hk.1,hk.2]
end Go.Fbs

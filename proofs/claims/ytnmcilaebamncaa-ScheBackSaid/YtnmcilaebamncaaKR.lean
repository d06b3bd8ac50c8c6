/- Parsing what is made of numbers: relations, types. -/
import Derived.Test.YtnmcilaebamncaaKQ
set_option maxRecDepth 100000
namespace Go.Fbs
open Go.Proofs
attribute [local irreducible] sumM factorM
structure AteL {α : Type} (s : PSt) (R : List Tok) (m : Nat) (r : Bool × PSt × List α) : Prop where
 ok : r.1 = true
 l : r.2.1.l = R
 n : r.2.1.n = s.n
 at_ : r.2.1.at_ = s.at_
 e : r.2.1.e = s.e
 d : r.2.1.d = s.d
 m : r.2.2.length = m
structure Far (s t : PSt) (R : List Tok) : Prop where
 l : t.l = R
 n : t.n = s.n
 at_ : t.at_ = s.at_
 e : t.e = s.e
 d : t.d = s.d
theorem some_yes {n most : Int} {s : PSt} (h : n < most) : someM n most s = (true,s):=by unfold someM; rw [if_pos h]
end Go.Fbs

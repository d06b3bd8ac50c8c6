/- Parsing pieces: what is eaten. -/
import Derived.Test.YtnmcilaebamncaaKO
set_option maxRecDepth 100000
namespace Go.Fbs
open Go.Proofs
structure Ate (s : PSt) (R : List Tok) (c : Nat) (r : Bool × PSt) : Prop where
 ok : r.1 = true
 l : r.2.l = R
 n : r.2.n = s.n
 at_ : r.2.at_ = s.at_
 e : r.2.e = s.e
 d : r.2.d = s.d
 x : r.2.x.length ≤ s.x.length + c
def noB (g : List UInt8) (R : List Tok) : Prop:=∀ t,R.head? = some t → kt t ≠ (2,g)
theorem is_no {g : List UInt8} {s : PSt} (h : noB g s.l) : isM g s = false:=by
 unfold isM hereM
 cases e : s.l with
 | nil=>simp
 | cons t r =>
  have:=h t (by rw [e]; rfl)
  simp only [List.headD_cons]
  by_cases h1 : t.1 = 2
  ·have h2 : ¬ t.2.2 = g:=fun h2=>this (by simp [kt,h1,h2])
   simp [h2]
  ·simp [h1]
theorem is_yes {g : List UInt8} {s : PSt} {t : Tok} {R : List Tok} (h : s.l = t :: R) (hk : kt t = (2,g)) : isM g s = true:=by
 unfold isM hereM
 rw [h]
 simp only [kt,Prod.mk.injEq] at hk
 simp [hk.1,hk.2]
theorem may_no {g : List UInt8} {s : PSt} (h : noB g s.l) : mayM g s = (false,s):=by
 unfold mayM; rw [is_no h]; rfl
theorem may_yes {g : List UInt8} {s : PSt} {t : Tok} {R : List Tok} (h : s.l = t :: R) (hk : kt t = (2,g)) : mayM g s = (true,popM s) ∧ (popM s).l = R:=by
 unfold mayM; rw [is_yes h hk]; exact ⟨rfl,by show s.l.tail = R; rw [h]; rfl⟩
theorem sign_yes {g : List UInt8} {s : PSt} {t : Tok} {R : List Tok} (h : s.l = t :: R) (hk : kt t = (2,g)) : signM g s = (true,popM s) ∧ (popM s).l = R:=by
 unfold signM; rw [is_yes h hk]; exact ⟨rfl,by show s.l.tail = R; rw [h]; rfl⟩
def goodN (w : List UInt8) : Bool:=namedM (1,0,w)
theorem name_yes {s : PSt} {t : Tok} {R : List Tok} {w : List UInt8} (h : s.l = t :: R) (hk : kt t = (1,w)) (hw : goodN w = true) : nameM s = (true,popM s,some w) ∧ (popM s).l = R:=by
 have e : hereM s = t:=by unfold hereM; rw [h]; rfl
 simp only [kt,Prod.mk.injEq] at hk
 have hn : namedM (hereM s) = true:=by
  rw [e]
  unfold goodN namedM at hw
  unfold namedM
  rw [hk.1,hk.2]
  exact hw
 rw [name_pop hn,e,hk.2]
 exact ⟨rfl,by show s.l.tail = R; rw [h]; rfl⟩
theorem put_yes {p : Stp} {a : Nat} {s : PSt} (h : s.x.length < 200) : putM p a s = (true,{ s with x:=s.x ++ [p] }):=by
 unfold putM; rw [if_neg (by omega)]
theorem split_map {T : List Tok} {A B : List KT} (h : T.map kt = A ++ B) : ∃ T1 T2,T = T1 ++ T2 ∧ T1.map kt = A ∧ T2.map kt = B:=by
 obtain ⟨T1,T2,rfl,h1,h2⟩:=List.map_eq_append_iff.1 h
 exact ⟨T1,T2,rfl,h1,h2⟩
theorem split_one {T : List Tok} {a : KT} {B : List KT} (h : T.map kt = a :: B) : ∃ t T2,T = t :: T2 ∧ kt t = a ∧ T2.map kt = B:=by
 obtain ⟨t,T2,rfl,h1,h2⟩:=List.map_eq_cons_iff.1 h
 exact ⟨t,T2,rfl,h1,h2⟩
structure NoT (R : List Tok) : Prop where
 a : noB [45,62] R
 b : noB [38] R
structure NoS (R : List Tok) : Prop where
 t : NoT R
 p : noB [43] R
 m : noB [45] R
theorem noB_cons {g : List UInt8} {t : Tok} {R : List Tok} (h : kt t ≠ (2,g)) : noB g (t :: R):=fun t' e=>by
 simp only [List.head?_cons,Option.some.injEq] at e; subst e; exact h
def hdOk (C : List KT) : Prop:=C.head? ≠ some (2,[45,62])
theorem noB_of {T R : List Tok} {C : List KT} (hT : T.map kt = C) (hC : hdOk C) (hR : noB [45,62] R) : noB [45,62] (T ++ R):=by
 cases T with
 | nil=>exact hR
 | cons t r =>
  refine noB_cons fun e=>hC ?_
  rw [← hT,List.map_cons,e]; rfl
def hdT (C : List KT) : Prop:=C.head? ≠ some (2,[45,62]) ∧ C.head? ≠ some (2,[38])
theorem noT_of {T R : List Tok} {C : List KT} (hT : T.map kt = C) (hC : hdT C) (hR : NoT R) : NoT (T ++ R):=by
 cases T with
 | nil=>exact hR
 | cons t r =>
  refine ⟨noB_cons fun e=>hC.1 ?_,noB_cons fun e=>hC.2 ?_⟩ <;> rw [← hT,List.map_cons,e] <;> rfl
end Go.Fbs

/- Tokens of a text of pieces. -/
import Derived.Test.YtnmcilaebamncaaKM
set_option maxRecDepth 100000
namespace Go.Fbs
open Go.Proofs
theorem toks_fuel : ∀ (f : Nat) (k : Nat) (l : List UInt8),l.length ≤ f → toks f k l = toks l.length k l:=by
 intro f
 induction f using Nat.strongRecOn with
 | ind f ih =>
  intro k l hl
  cases l with
  | nil=>cases f <;> rfl
  | cons c t =>
   obtain ⟨g,rfl⟩ : ∃ g,f = g + 1:=⟨f - 1,by simp at hl; omega⟩
   simp only [List.length_cons,toks]
   split
   ·rfl
   ·have hn:=(nextT_len (l:=c :: t) (by simp)).1
    generalize (nextT (c :: t)).2.1.length = n at *
    have h1 : (((c :: t).drop n).drop (skipN false ((c :: t).drop n))).length ≤ t.length:=by
     simp only [List.length_drop,List.length_cons]; omega
    simp only [List.length_cons] at hl
    rw [ih g (by omega) _ _ (by omega)]
    by_cases hg : t.length < g + 1
    ·by_cases hg2 : t.length = g
     ·rw [hg2,ih g (by omega) _ _ (by omega)]
     ·rw [ih t.length (by omega) _ _ h1]
    ·omega
theorem skipN_tok {c : UInt8} {t : List UInt8} (h : ¬ (c = 47 ∧ t.head? = some 47)) (hb : blankB c = false) : skipN false (c :: t) = 0:=by
 unfold skipN; rw [if_neg h]; simp [hb]
theorem skipN_blank {c : UInt8} {t : List UInt8} (hb : blankB c = true) : skipN false (c :: t) = 1 + skipN false t:=by
 have : ¬ (c = 47 ∧ t.head? = some 47):=by rintro ⟨rfl,-⟩; simp [blankB] at hb
 conv=>lhs; unfold skipN
 rw [if_neg this]; simp [hb]
def lexT (k : Nat) (l : List UInt8) : List Tok × Option Nat:=toks l.length (k + skipN false l) (l.drop (skipN false l))
theorem lexT_nil (k : Nat) : lexT k [] = ([],none):=rfl
theorem lexT_blank {k : Nat} {b : UInt8} {l : List UInt8} (hb : blankB b = true) : lexT k (b :: l) = lexT (k + 1) l:=by
 unfold lexT
 rw [skipN_blank hb]
 rw [show (b :: l).drop (1 + skipN false l) = l.drop (skipN false l) by rw [Nat.add_comm]; rfl]
 rw [show k + (1 + skipN false l) = k + 1 + skipN false l by omega]
 rw [toks_fuel _ _ _ (by simp only [List.length_drop,List.length_cons]; omega),toks_fuel l.length _ _ (by simp only [List.length_drop]; omega)]
theorem lexT_tok {k : Nat} {c : UInt8} {l : List UInt8} (hc : c ≠ 47) (hb : blankB c = false) :
  lexT k (c :: l) = if (nextT (c :: l)).2.2 = false then ([],some k) else
   (((nextT (c :: l)).1,k,(nextT (c :: l)).2.1) :: (lexT (k + (nextT (c :: l)).2.1.length) ((c :: l).drop (nextT (c :: l)).2.1.length)).1,(lexT (k + (nextT (c :: l)).2.1.length) ((c :: l).drop (nextT (c :: l)).2.1.length)).2):=by
 conv=>lhs; unfold lexT
 rw [skipN_tok (fun h=>hc h.1) hb]
 simp only [List.drop_zero,Nat.add_zero,List.length_cons,toks]
 split
 ·rfl
 ·have hn:=(nextT_len (l:=c :: l) (by simp)).1
  generalize (nextT (c :: l)).2.1.length = n at *
  unfold lexT
  rw [toks_fuel l.length _ _ (by simp only [List.length_drop,List.length_cons]; omega),toks_fuel ((c :: l).drop n).length _ _ (by simp only [List.length_drop]; omega)]
def kt (t : Tok) : Int × List UInt8:=(t.1,t.2.2)
def stopB (w : List UInt8) (suf : List UInt8) : Bool :=
 match w.getLast? with
 | none=>true
 | some c=>(c != 45) && (!(letterB c.toNat) || match suf.head? with | some d=>!(letterB d.toNat) | none=>true)
theorem stopB_drop {w suf : List UInt8} (h : stopB w suf = true) (n : Nat) : stopB (w.drop n) suf = true:=by
 unfold stopB at h ⊢
 by_cases hn : n < w.length
 ·rw [List.getLast?_drop,if_neg (by omega)]; exact h
 ·rw [List.drop_eq_nil_of_le (by omega)]; rfl
theorem mem_tw {f : UInt8 → Bool} : ∀ {l : List UInt8} {x : UInt8},x ∈ l.takeWhile f → f x = true
 | [],_,h=>by simp at h
 | a :: l,x,h=>by
  rw [List.takeWhile_cons] at h
  split at h
  ·rename_i ha
   rcases List.mem_cons.1 h with rfl | h
   ·exact ha
   ·exact mem_tw h
  ·simp at h
theorem rowN_le (l : List UInt8) : rowN l ≤ l.length:=(List.takeWhile_sublist _).length_le
theorem rowN_app {w suf : List UInt8} (h : stopB w suf = true) (hw : w ≠ []) : rowN (w ++ suf) = rowN w:=by
 unfold rowN
 rw [List.takeWhile_append]
 split
 ·rename_i hl
  have hall : w.takeWhile (fun c=>letterB c.toNat) = w:=(List.takeWhile_sublist _).eq_of_length hl
  have hlast : letterB (w.getLast hw).toNat = true:=by
   have : w.getLast hw ∈ w.takeWhile (fun c=>letterB c.toNat):=by rw [hall]; exact List.getLast_mem hw
   exact mem_tw this
  unfold stopB at h
  rw [List.getLast?_eq_some_getLast hw] at h
  simp only [hlast,Bool.not_true,Bool.false_or,Bool.and_eq_true] at h
  have : suf.takeWhile (fun c=>letterB c.toNat) = []:=by
   cases suf with
   | nil=>rfl
   | cons d r =>
    have:=h.2
    simp only [List.head?_cons,Bool.not_eq_true'] at this
    simp [List.takeWhile_cons,this]
  rw [this,hall]; simp
 ·rfl
theorem nextT_app {w suf : List UInt8} (h : stopB w suf = true) (hw : w ≠ []) : nextT (w ++ suf) = nextT w:=by
 unfold nextT
 rw [rowN_app h hw]
 have hlw : 1 ≤ w.length:=by cases w with | nil=>exact absurd rfl hw | cons=>simp
 split
 ·rw [List.take_append_of_le_length (rowN_le w)]
 ·have hp : ([45,62] : List UInt8).isPrefixOf (w ++ suf) = ([45,62] : List UInt8).isPrefixOf w:=by
   match w,hw,h with
   | [c],_,h =>
    have : c ≠ 45:=by
     unfold stopB at h
     simp at h
     exact h.1
    have hc : ((45 : UInt8) == c) = false:=by simpa using fun e=>this e.symm
    simp [List.isPrefixOf,hc]
   | c :: d :: r,_,_=>simp [List.isPrefixOf]
  rw [hp]
  split
  ·rfl
  ·rw [List.take_append_of_le_length hlw]
   cases w with
   | nil=>exact absurd rfl hw
   | cons c r=>rfl
theorem lexT_app : ∀ (n : Nat) (w suf : List UInt8) (k : Nat),w.length ≤ n → (47 : UInt8) ∉ w → stopB w suf = true → (lexT k w).2 = none → lexT k (w ++ suf) = ((lexT k w).1 ++ (lexT (k + w.length) suf).1,(lexT (k + w.length) suf).2)
 | _,[],suf,k,_,_,_,_=>by simp [lexT_nil]
 | 0,c :: w,_,_,h,_,_,_=>by simp at h
 | n + 1,c :: w,suf,k,hl,hs,he,hn=>by
  simp only [List.length_cons] at hl
  simp only [List.mem_cons,not_or] at hs
  cases hb : blankB c with
  | true =>
   rw [List.cons_append,lexT_blank hb]
   rw [lexT_blank hb] at hn ⊢
   rw [lexT_app n w suf (k + 1) (by omega) hs.2 (stopB_drop he 1) hn]
   simp only [List.length_cons]
   rw [show k + 1 + w.length = k + (w.length + 1) by omega]
  | false =>
   have e:=nextT_app he (show c :: w ≠ [] by simp)
   have hc : c ≠ 47:=fun e=>hs.1 e.symm
   have hm:=nextT_len (l:=c :: w) (by simp)
   rw [lexT_tok hc hb] at hn ⊢
   rw [List.cons_append,lexT_tok hc hb,← List.cons_append,e]
   generalize nextT (c :: w) = q at *
   obtain ⟨q1,q2,q3⟩:=q
   simp only at hn hm ⊢
   cases q3 with
   | false=>simp at hn
   | true =>
    simp only [Bool.true_eq_false,if_false] at hn ⊢
    have hd : (c :: w ++ suf).drop q2.length = (c :: w).drop q2.length ++ suf:=List.drop_append_of_le_length hm.2
    rw [hd,lexT_app n _ suf _ (by simp only [List.length_drop,List.length_cons]; omega) (fun h=>by
     have:=List.mem_of_mem_drop h
     simp only [List.mem_cons] at this
     rcases this with h | h
     ·exact hs.1 h
     ·exact hs.2 h) (stopB_drop he _) hn]
    simp only [List.cons_append,List.length_drop,List.length_cons]
    have hm2:=hm.2
    simp only [List.length_cons] at hm2
    rw [show k + q2.length + (w.length + 1 - q2.length) = k + (w.length + 1) by omega]
theorem toks_kt : ∀ (f k m : Nat) (l : List UInt8),(toks f k l).1.map kt = (toks f m l).1.map kt ∧ ((toks f k l).2 = none ↔ (toks f m l).2 = none)
 | 0,_,_,_=>⟨rfl,Iff.rfl⟩
 | f + 1,_,_,[]=>⟨rfl,Iff.rfl⟩
 | f + 1,k,m,c :: l=>by
  simp only [toks]
  split
  ·simp
  ·have:=toks_kt f (k + (nextT (c :: l)).2.1.length + skipN false ((c :: l).drop (nextT (c :: l)).2.1.length)) (m + (nextT (c :: l)).2.1.length + skipN false ((c :: l).drop (nextT (c :: l)).2.1.length)) (((c :: l).drop (nextT (c :: l)).2.1.length).drop (skipN false ((c :: l).drop (nextT (c :: l)).2.1.length)))
   exact ⟨by simp only [List.map_cons,this.1]; rfl,this.2⟩
theorem lexT_kt (k m : Nat) (l : List UInt8) : (lexT k l).1.map kt = (lexT m l).1.map kt ∧ ((lexT k l).2 = none ↔ (lexT m l).2 = none):=toks_kt _ _ _ _
structure Pc (w : List UInt8) (ks : List (Int × List UInt8)) : Prop where
 sl : (47 : UInt8) ∉ w
 en : ∀ suf,stopB w suf = true
 ok : ∀ k,(lexT k w).2 = none
 kd : ∀ k,(lexT k w).1.map kt = ks
theorem Pc.nil : Pc [] []:=⟨by simp,fun _=>rfl,fun _=>rfl,fun _=>rfl⟩
theorem stopB_app {w v : List UInt8} (hw : ∀ suf,stopB w suf = true) (hv : ∀ suf,stopB v suf = true) (suf : List UInt8) : stopB (w ++ v) suf = true:=by
 cases v with
 | nil=>simpa using hw suf
 | cons a r =>
  have:=hv suf
  unfold stopB at this ⊢
  rw [show (w ++ a :: r).getLast? = (a :: r).getLast? by
   rw [List.getLast?_append,List.getLast?_eq_some_getLast (show a :: r ≠ [] by simp)]; rfl]
  exact this
theorem Pc.app {w v : List UInt8} {ks js : List (Int × List UInt8)} (h : Pc w ks) (g : Pc v js) : Pc (w ++ v) (ks ++ js) where
 sl:=by simp only [List.mem_append,not_or]; exact ⟨h.sl,g.sl⟩
 en:=stopB_app h.en g.en
 ok:=fun k=>by rw [lexT_app w.length w v k (Nat.le_refl _) h.sl (h.en v) (h.ok k)]; exact g.ok _
 kd:=fun k=>by rw [lexT_app w.length w v k (Nat.le_refl _) h.sl (h.en v) (h.ok k)]; simp only [List.map_append,h.kd,g.kd]
def lastC (w : List UInt8) : Bool:=match w.getLast? with | none=>true | some c=>(c != 45) && !(letterB c.toNat)
def pcB (w : List UInt8) : Bool:=!(w.contains 47) && lastC w && (lexT 0 w).2.isNone
def kindsT (w : List UInt8) : List (Int × List UInt8):=(lexT 0 w).1.map kt
theorem Pc.of {w : List UInt8} (h : pcB w = true) : Pc w (kindsT w):=by
 simp only [pcB,Bool.and_eq_true,Bool.not_eq_true',Option.isNone_iff_eq_none] at h
 obtain ⟨⟨h1,h2⟩,h3⟩:=h
 refine ⟨by simpa using h1,fun suf=>?_,fun k=>((lexT_kt k 0 w).2).2 h3,fun k=>(lexT_kt k 0 w).1⟩
 unfold lastC at h2
 unfold stopB
 split at h2
 ·rfl
 ·rename_i c e
  simp only [Bool.and_eq_true] at h2
  simp only [h2.1,h2.2,Bool.true_or,Bool.and_self]
end Go.Fbs

/- Tokens of a text of pieces. -/
import Derived.Test.YtnmcilaebamncaaKM
set_option linter.unusedVariables false
set_option linter.unusedSimpArgs false
set_option linter.unusedSectionVars false
set_option maxRecDepth 100000
namespace Go.Fbs
open Go.Proofs
theorem a63:∀ (f:Nat) (k:Nat) (l:List UInt8),l.length≤f→nH f k l=nH l.length k l:=by
 intro f
 induction f using Nat.strongRecOn with
 | ind f ih =>
  intro k l hl
  cases l with
  | nil=>cases f <;> rfl
  | cons c t =>
   obtain ⟨g,rfl⟩:∃ g,f=g+1:=⟨f - 1,by simp at hl; omega⟩
   simp only [List.length_cons,nH]
   split
   ·rfl
   ·have hn:=(a3d (l:=c::t) (by simp)).1
    generalize (fM (c::t)).2.1.length=n at *
    have h1:(((c::t).drop n).drop (eS false ((c::t).drop n))).length≤t.length:=by
     simp only [List.length_drop,List.length_cons]; omega
    simp only [List.length_cons] at hl
    rw [ih g (by omega) _ _ (by omega)]
    by_cases hg:t.length < g+1
    ·by_cases hg2:t.length=g
     ·rw [hg2,ih g (by omega) _ _ (by omega)]
     ·rw [ih t.length (by omega) _ _ h1]
    ·omega
theorem aYk {c : UInt8} {t : List UInt8} (h : ¬ (c = 47 ∧ t.head? = some 47)) (hb : wR c = false) : eS false (c :: t) = 0:=by
 unfold eS; rw [if_neg h]; simp [hb]
theorem aRp {c:UInt8} {t:List UInt8} (hb:wR c=true):eS false (c::t)=1+eS false t:=by
 have : ¬ (c = 47 ∧ t.head? = some 47):=by rintro ⟨rfl,-⟩; simp [wR] at hb
 conv=>lhs; unfold eS
 rw [if_neg this]; simp [hb]
def kA (k:Nat) (l:List UInt8):List jT×Option Nat:=nH l.length (k+eS false l) (l.drop (eS false l))
theorem b03 (k:Nat):kA k []=([],none):=rfl
theorem aH6 {k:Nat} {b:UInt8} {l:List UInt8} (hb:wR b=true):kA k (b::l)=kA (k+1) l:=by
 unfold kA
 rw [aRp hb]
 rw [show (b::l).drop (1+eS false l)=l.drop (eS false l) by rw [Nat.add_comm]; rfl]
 rw [show k+(1+eS false l)=k+1+eS false l by omega]
 rw [a63 _ _ _ (by simp only [List.length_drop,List.length_cons]; omega),a63 l.length _ _ (by simp only [List.length_drop]; omega)]
theorem aN1 {k:Nat} {c:UInt8} {l:List UInt8} (hc:c≠47) (hb:wR c=false) :
  kA k (c::l)=if (fM (c::l)).2.2=false then ([],some k) else
   (((fM (c::l)).1,k,(fM (c::l)).2.1)::(kA (k+(fM (c::l)).2.1.length) ((c::l).drop (fM (c::l)).2.1.length)).1,(kA (k+(fM (c::l)).2.1.length) ((c::l).drop (fM (c::l)).2.1.length)).2):=by
 conv=>lhs; unfold kA
 rw [aYk (fun h=>hc h.1) hb]
 simp only [List.drop_zero,Nat.add_zero,List.length_cons,nH]
 split
 ·rfl
 ·have hn:=(a3d (l:=c::l) (by simp)).1
  generalize (fM (c::l)).2.1.length=n at *
  unfold kA
  rw [a63 l.length _ _ (by simp only [List.length_drop,List.length_cons]; omega),a63 ((c::l).drop n).length _ _ (by simp only [List.length_drop]; omega)]
def kt (t:jT):Int×List UInt8:=(t.1,t.2.2)
def wJ (w:List UInt8) (suf:List UInt8):Bool :=
 match w.getLast? with
 | none=>true
 | some c=>(c != 45) && (!(qT c.toNat) || match suf.head? with | some d=>!(qT d.toNat) | none=>true)
theorem aH7 {w suf:List UInt8} (h:wJ w suf=true) (n:Nat):wJ (w.drop n) suf=true:=by
 unfold wJ at h ⊢
 by_cases hn:n < w.length
 ·rw [List.getLast?_drop,if_neg (by omega)]; exact h
 ·rw [List.drop_eq_nil_of_le (by omega)]; rfl
theorem aYl {f:UInt8→Bool} : ∀ {l:List UInt8} {x:UInt8},x ∈ l.takeWhile f→f x=true
 | [],_,h=>by simp at h
 | a::l,x,h=>by
  rw [List.takeWhile_cons] at h
  split at h
  ·rename_i ha
   rcases List.mem_cons.1 h with rfl | h
   ·exact ha
   ·exact aYl h
  ·simp at h
theorem b5e (l:List UInt8):wQ l≤l.length:=(List.takeWhile_sublist _).length_le
theorem b04 {w suf:List UInt8} (h:wJ w suf=true) (hw:w≠[]):wQ (w++suf)=wQ w:=by
 unfold wQ
 rw [List.takeWhile_append]
 split
 ·rename_i hl
  have hall:w.takeWhile (fun c=>qT c.toNat)=w:=(List.takeWhile_sublist _).eq_of_length hl
  have hlast:qT (w.getLast hw).toNat=true:=by
   have:w.getLast hw ∈ w.takeWhile (fun c=>qT c.toNat):=by rw [hall]; exact List.getLast_mem hw
   exact aYl this
  unfold wJ at h
  rw [List.getLast?_eq_some_getLast hw] at h
  simp only [hlast,Bool.not_true,Bool.false_or,Bool.and_eq_true] at h
  have:suf.takeWhile (fun c=>qT c.toNat)=[]:=by
   cases suf with
   | nil=>rfl
   | cons d r =>
    have:=h.2
    simp only [List.head?_cons,Bool.not_eq_true'] at this
    simp [List.takeWhile_cons,this]
  rw [this,hall]; simp
 ·rfl
theorem aYm {w suf:List UInt8} (h:wJ w suf=true) (hw:w≠[]):fM (w++suf)=fM w:=by
 unfold fM
 rw [b04 h hw]
 have hlw:1≤w.length:=by cases w with | nil=>exact absurd rfl hw | cons=>simp
 split
 ·rw [List.take_append_of_le_length (b5e w)]
 ·have hp:([45,62]:List UInt8).isPrefixOf (w++suf)=([45,62]:List UInt8).isPrefixOf w:=by
   match w,hw,h with
   | [c],_,h =>
    have:c≠45:=by
     unfold wJ at h
     simp at h
     exact h.1
    have hc:((45:UInt8) == c)=false:=by simpa using fun e=>this e.symm
    simp [List.isPrefixOf,hc]
   | c::d::r,_,_=>simp [List.isPrefixOf]
  rw [hp]
  split
  ·rfl
  ·rw [List.take_append_of_le_length hlw]
   cases w with
   | nil=>exact absurd rfl hw
   | cons c r=>rfl
theorem a5z:∀ (n:Nat) (w suf:List UInt8) (k:Nat),w.length≤n→(47:UInt8) ∉ w→wJ w suf=true→(kA k w).2=none→kA k (w++suf)=((kA k w).1++(kA (k+w.length) suf).1,(kA (k+w.length) suf).2)
 | _,[],suf,k,_,_,_,_=>by simp [b03]
 | 0,c::w,_,_,h,_,_,_=>by simp at h
 | n+1,c::w,suf,k,hl,hs,he,hn=>by
  simp only [List.length_cons] at hl
  simp only [List.mem_cons,not_or] at hs
  cases hb:wR c with
  | true =>
   rw [List.cons_append,aH6 hb]
   rw [aH6 hb] at hn ⊢
   rw [a5z n w suf (k+1) (by omega) hs.2 (aH7 he 1) hn]
   simp only [List.length_cons]
   rw [show k+1+w.length=k+(w.length+1) by omega]
  | false =>
   have e:=aYm he (show c::w≠[] by simp)
   have hc:c≠47:=fun e=>hs.1 e.symm
   have hm:=a3d (l:=c::w) (by simp)
   rw [aN1 hc hb] at hn ⊢
   rw [List.cons_append,aN1 hc hb,← List.cons_append,e]
   generalize fM (c::w)=q at *
   obtain ⟨q1,q2,q3⟩:=q
   simp only at hn hm ⊢
   cases q3 with
   | false=>simp at hn
   | true =>
    simp only [Bool.true_eq_false,if_false] at hn ⊢
    have hd:(c::w++suf).drop q2.length=(c::w).drop q2.length++suf:=List.drop_append_of_le_length hm.2
    rw [hd,a5z n _ suf _ (by simp only [List.length_drop,List.length_cons]; omega) (fun h=>by
     have:=List.mem_of_mem_drop h
     simp only [List.mem_cons] at this
     rcases this with h | h
     ·exact hs.1 h
     ·exact hs.2 h) (aH7 he _) hn]
    simp only [List.cons_append,List.length_drop,List.length_cons]
    have hm2:=hm.2
    simp only [List.length_cons] at hm2
    rw [show k+q2.length+(w.length+1 - q2.length)=k+(w.length+1) by omega]
theorem aS5:∀ (f k m:Nat) (l:List UInt8),(nH f k l).1.map kt=(nH f m l).1.map kt∧((nH f k l).2=none↔(nH f m l).2=none)
 | 0,_,_,_=>⟨rfl,Iff.rfl⟩
 | f+1,_,_,[]=>⟨rfl,Iff.rfl⟩
 | f+1,k,m,c::l=>by
  simp only [nH]
  split
  ·simp
  ·have:=aS5 f (k+(fM (c::l)).2.1.length+eS false ((c::l).drop (fM (c::l)).2.1.length)) (m+(fM (c::l)).2.1.length+eS false ((c::l).drop (fM (c::l)).2.1.length)) (((c::l).drop (fM (c::l)).2.1.length).drop (eS false ((c::l).drop (fM (c::l)).2.1.length)))
   exact ⟨by simp only [List.map_cons,this.1]; rfl,this.2⟩
theorem aS6 (k m:Nat) (l:List UInt8):(kA k l).1.map kt=(kA m l).1.map kt∧((kA k l).2=none↔(kA m l).2=none):=aS5 _ _ _ _
structure Pc (w:List UInt8) (ks:List (Int×List UInt8)):Prop where
 sl:(47:UInt8) ∉ w
 en:∀ suf,wJ w suf=true
 ok:∀ k,(kA k w).2=none
 kd:∀ k,(kA k w).1.map kt=ks
theorem aYn {w v:List UInt8} (hw:∀ suf,wJ w suf=true) (hv:∀ suf,wJ v suf=true) (suf:List UInt8):wJ (w++v) suf=true:=by
 cases v with
 | nil=>simpa using hw suf
 | cons a r =>
  have:=hv suf
  unfold wJ at this ⊢
  rw [show (w ++ a :: r).getLast? = (a :: r).getLast? by
   rw [List.getLast?_append,List.getLast?_eq_some_getLast (show a::r≠[] by simp)]; rfl]
  exact this
theorem Pc.app {w v:List UInt8} {ks js:List (Int×List UInt8)} (h:Pc w ks) (g:Pc v js):Pc (w++v) (ks++js) where
 sl:=by simp only [List.mem_append,not_or]; exact ⟨h.sl,g.sl⟩
 en:=aYn h.en g.en
 ok:=fun k=>by rw [a5z w.length w v k (Nat.le_refl _) h.sl (h.en v) (h.ok k)]; exact g.ok _
 kd:=fun k=>by rw [a5z w.length w v k (Nat.le_refl _) h.sl (h.en v) (h.ok k)]; simp only [List.map_append,h.kd,g.kd]
def b35 (w : List UInt8) : Bool:=match w.getLast? with | none=>true | some c=>(c != 45) && !(qT c.toNat)
def pcB (w:List UInt8):Bool:=!(w.contains 47) && b35 w && (kA 0 w).2.isNone
def iX (w:List UInt8):List (Int×List UInt8):=(kA 0 w).1.map kt
theorem Pc.of {w:List UInt8} (h:pcB w=true):Pc w (iX w):=by
 simp only [pcB,Bool.and_eq_true,Bool.not_eq_true',Option.isNone_iff_eq_none] at h
 obtain ⟨⟨h1,h2⟩,h3⟩:=h
 refine ⟨by simpa using h1,fun suf=>?_,fun k=>((aS6 k 0 w).2).2 h3,fun k=>(aS6 k 0 w).1⟩
 unfold b35 at h2
 unfold wJ
 split at h2
 ·rfl
 ·rename_i c e
  simp only [Bool.and_eq_true] at h2
  simp only [h2.1,h2.2,Bool.true_or,Bool.and_self]
end Go.Fbs

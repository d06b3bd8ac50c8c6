/- Tokens of a text of pieces. -/
import Derived.Test.YtnmcilaebamncaaKM
set_option maxRecDepth 100000
namespace Go.Fbs
open Go.Proofs
theorem zW:∀ (f:Nat) (k:Nat) (l:List UInt8),l.length≤f→qO f k l=qO l.length k l:=by
 intro f
 induction f using Nat.strongRecOn with
 | ind f ih =>
  intro k l hl
  cases l with
  | nil=>cases f <;> rfl
  | cons c t =>
   obtain ⟨g,rfl⟩:∃ g,f=g+1:=⟨f - 1,by simp at hl; omega⟩
   simp only [zwx,qO]
   split
   ·rfl
   ·have hn:=(a3e (l:=c::t) (by simp)).1
    generalize (eW (c::t)).2.1.length=n at *
    have h1:(((c::t).drop n).drop (dR false ((c::t).drop n))).length≤t.length:=by
     simp only [List.length_drop,zwx]; omega
    simp only [zwx] at hl
    rw [ih g (by omega) _ _ (by omega)]
    by_cases hg:t.length < g+1
    ·by_cases hg2:t.length=g
     ·rw [hg2,ih g (by omega) _ _ (by omega)]
     ·rw [ih t.length (by omega) _ _ h1]
    ·omega
theorem aN0 {c : UInt8} {t : List UInt8} (h : ¬ (c = 47 ∧ t.head? = some 47)) (hb : wO c = false) : dR false (c :: t) = 0:=by
 unfold dR; rw [if_neg h]; simp [hb]
theorem aHl {c:UInt8} {t:List UInt8} (hb:wO c=true):dR false (c::t)=1+dR false t:=by
 have : ¬ (c = 47 ∧ t.head? = some 47):=by rintro ⟨rfl,-⟩; simp [wO] at hb
 conv=>lhs; unfold dR
 rw [if_neg this]; simp [hb]
def mJ (k:Nat) (l:List UInt8):List iH×Option Nat:=qO l.length (k+dR false l) (l.drop (dR false l))
theorem b51 (k:Nat):mJ k []=([],none):=rfl
theorem aLa {k:Nat} {b:UInt8} {l:List UInt8} (hb:wO b=true):mJ k (b::l)=mJ (k+1) l:=by
 unfold mJ
 rw [aHl hb]
 rw [show (b::l).drop (1+dR false l)=l.drop (dR false l) by rw [Nat.add_comm]; rfl]
 rw [show k+(1+dR false l)=k+1+dR false l by omega]
 rw [zW _ _ _ (by simp only [List.length_drop,zwx]; omega),zW l.length _ _ (by simp only [List.length_drop]; omega)]
theorem aS6 {k:Nat} {c:UInt8} {l:List UInt8} (hc:c≠47) (hb:wO c=false) :
  mJ k (c::l)=if (eW (c::l)).2.2=false then ([],some k) else
   (((eW (c::l)).1,k,(eW (c::l)).2.1)::(mJ (k+(eW (c::l)).2.1.length) ((c::l).drop (eW (c::l)).2.1.length)).1,(mJ (k+(eW (c::l)).2.1.length) ((c::l).drop (eW (c::l)).2.1.length)).2):=by
 conv=>lhs; unfold mJ
 rw [aN0 (fun h=>hc h.1) hb]
 simp only [List.drop_zero,Nat.add_zero,zwx,qO]
 split
 ·rfl
 ·have hn:=(a3e (l:=c::l) (by simp)).1
  generalize (eW (c::l)).2.1.length=n at *
  unfold mJ
  rw [zW l.length _ _ (by simp only [List.length_drop,zwx]; omega),zW ((c::l).drop n).length _ _ (by simp only [List.length_drop]; omega)]
def kt (t:iH):Int×List UInt8:=(t.1,t.2.2)
def vM (w:List UInt8) (suf:List UInt8):Bool :=
 match w.getLast? with
 | none=>true
 | some c=>(c != 45) && (!(jK c.toNat) || match suf.head? with | some d=>!(jK d.toNat) | none=>true)
theorem aLb {w suf:List UInt8} (h:vM w suf=true) (n:Nat):vM (w.drop n) suf=true:=by
 unfold vM at h ⊢
 by_cases hn:n < w.length
 ·rw [List.getLast?_drop,if_neg (by omega)]; exact h
 ·rw [List.drop_eq_nil_of_le (by omega)]; rfl
theorem b17 {f:UInt8→Bool} : ∀ {l:List UInt8} {x:UInt8},x ∈ l.takeWhile f→f x=true
 | [],_,h=>by simp at h
 | a::l,x,h=>by
  rw [List.takeWhile_cons] at h
  split at h
  ·rename_i ha
   rcases List.mem_cons.1 h with rfl | h
   ·exact ha
   ·exact b17 h
  ·simp at h
theorem b9y (l:List UInt8):sW l≤l.length:=(List.takeWhile_sublist _).length_le
theorem b52 {w suf:List UInt8} (h:vM w suf=true) (hw:w≠[]):sW (w++suf)=sW w:=by
 unfold sW
 rw [List.takeWhile_append]
 split
 ·rename_i hl
  have hall:w.takeWhile (fun c=>jK c.toNat)=w:=(List.takeWhile_sublist _).eq_of_length hl
  have hlast:jK (w.getLast hw).toNat=true:=by
   have:w.getLast hw ∈ w.takeWhile (fun c=>jK c.toNat):=by rw [hall]; exact List.getLast_mem hw
   exact b17 this
  unfold vM at h
  rw [List.getLast?_eq_some_getLast hw] at h
  simp only [hlast,Bool.not_true,Bool.false_or,zxz] at h
  have:suf.takeWhile (fun c=>jK c.toNat)=[]:=by
   cases suf with
   | nil=>rfl
   | cons d r =>
    have:=h.2
    simp only [List.head?_cons,Bool.not_eq_true'] at this
    simp [List.takeWhile_cons,this]
  rw [this,hall]; simp
 ·rfl
theorem b18 {w suf:List UInt8} (h:vM w suf=true) (hw:w≠[]):eW (w++suf)=eW w:=by
 unfold eW
 rw [b52 h hw]
 have hlw:1≤w.length:=by cases w with | nil=>exact absurd rfl hw | cons=>simp
 split
 ·rw [List.take_append_of_le_length (b9y w)]
 ·have hp:([45,62]:List UInt8).isPrefixOf (w++suf)=([45,62]:List UInt8).isPrefixOf w:=by
   match w,hw,h with
   | [c],_,h =>
    have:c≠45:=by
     unfold vM at h
     simp at h
     exact h.1
    have hc:((45:UInt8) == c)=false:=by simpa using fun e=>this e.symm
    simp [List.isPrefixOf,hc]
   | c::d::r,_,_=>simp [List.isPrefixOf]
  rw [hp]
  split
  ·rfl
  ·rw [List.take_append_of_le_length hlw]
   cases w with
   | nil=>exact absurd rfl hw
   | cons c r=>rfl
theorem aBi:∀ (n:Nat) (w suf:List UInt8) (k:Nat),w.length≤n→(47:UInt8) ∉ w→vM w suf=true→(mJ k w).2=none→mJ k (w++suf)=((mJ k w).1++(mJ (k+w.length) suf).1,(mJ (k+w.length) suf).2)
 | _,[],suf,k,_,_,_,_=>by simp [b51]
 | 0,c::w,_,_,h,_,_,_=>by simp at h
 | n+1,c::w,suf,k,hl,hs,he,hn=>by
  simp only [zwx] at hl
  simp only [List.mem_cons,not_or] at hs
  cases hb:wO c with
  | true =>
   rw [List.cons_append,aLa hb]
   rw [aLa hb] at hn ⊢
   rw [aBi n w suf (k+1) (by omega) hs.2 (aLb he 1) hn]
   simp only [zwx]
   rw [show k+1+w.length=k+(w.length+1) by omega]
  | false =>
   have e:=b18 he (show c::w≠[] by simp)
   have hc:c≠47:=fun e=>hs.1 e.symm
   have hm:=a3e (l:=c::w) (by simp)
   rw [aS6 hc hb] at hn ⊢
   rw [List.cons_append,aS6 hc hb,← List.cons_append,e]
   generalize eW (c::w)=q at *
   obtain ⟨q1,q2,q3⟩:=q
   simp only at hn hm ⊢
   cases q3 with
   | false=>simp at hn
   | true =>
    simp only [Bool.true_eq_false,if_false] at hn ⊢
    have hd:(c::w++suf).drop q2.length=(c::w).drop q2.length++suf:=List.drop_append_of_le_length hm.2
    rw [hd,aBi n _ suf _ (by simp only [List.length_drop,zwx]; omega) (fun h=>by
     have:=List.mem_of_mem_drop h
     simp only [List.mem_cons] at this
     rcases this with h | h
     ·exact hs.1 h
     ·exact hs.2 h) (aLb he _) hn]
    simp only [List.cons_append,List.length_drop,zwx]
    have hm2:=hm.2
    simp only [zwx] at hm2
    rw [show k+q2.length+(w.length+1 - q2.length)=k+(w.length+1) by omega]
theorem aWd:∀ (f k m:Nat) (l:List UInt8),(qO f k l).1.map kt=(qO f m l).1.map kt∧((qO f k l).2=none↔(qO f m l).2=none)
 | 0,_,_,_=>⟨rfl,Iff.rfl⟩
 | f+1,_,_,[]=>⟨rfl,Iff.rfl⟩
 | f+1,k,m,c::l=>by
  simp only [qO]
  split
  ·simp
  ·have:=aWd f (k+(eW (c::l)).2.1.length+dR false ((c::l).drop (eW (c::l)).2.1.length)) (m+(eW (c::l)).2.1.length+dR false ((c::l).drop (eW (c::l)).2.1.length)) (((c::l).drop (eW (c::l)).2.1.length).drop (dR false ((c::l).drop (eW (c::l)).2.1.length)))
   exact ⟨by simp only [List.map_cons,this.1]; rfl,this.2⟩
theorem aWe (k m:Nat) (l:List UInt8):(mJ k l).1.map kt=(mJ m l).1.map kt∧((mJ k l).2=none↔(mJ m l).2=none):=aWd _ _ _ _
structure Pc (w:List UInt8) (ks:List (Int×List UInt8)):Prop where
 sl:(47:UInt8) ∉ w
 en:∀ suf,vM w suf=true
 ok:∀ k,(mJ k w).2=none
 kd:∀ k,(mJ k w).1.map kt=ks
theorem b19 {w v:List UInt8} (hw:∀ suf,vM w suf=true) (hv:∀ suf,vM v suf=true) (suf:List UInt8):vM (w++v) suf=true:=by
 cases v with
 | nil=>simpa using hw suf
 | cons a r =>
  have:=hv suf
  unfold vM at this ⊢
  rw [show (w ++ a :: r).getLast? = (a :: r).getLast? by
   rw [List.getLast?_append,List.getLast?_eq_some_getLast (show a::r≠[] by simp)]; rfl]
  exact this
theorem Pc.app {w v:List UInt8} {ks js:List (Int×List UInt8)} (h:Pc w ks) (g:Pc v js):Pc (w++v) (ks++js) where
 sl:=by simp only [List.mem_append,not_or]; exact ⟨h.sl,g.sl⟩
 en:=b19 h.en g.en
 ok:=fun k=>by rw [aBi w.length w v k (zxy _) h.sl (h.en v) (h.ok k)]; exact g.ok _
 kd:=fun k=>by rw [aBi w.length w v k (zxy _) h.sl (h.en v) (h.ok k)]; simp only [List.map_append,h.kd,g.kd]
def b7c (w : List UInt8) : Bool:=match w.getLast? with | none=>true | some c=>(c != 45) && !(jK c.toNat)
def pcB (w:List UInt8):Bool:=!(w.contains 47) && b7c w && (mJ 0 w).2.isNone
def fV (w:List UInt8):List (Int×List UInt8):=(mJ 0 w).1.map kt
theorem Pc.of {w:List UInt8} (h:pcB w=true):Pc w (fV w):=by
 simp only [pcB,zxz,Bool.not_eq_true',Option.isNone_iff_eq_none] at h
 obtain ⟨⟨h1,h2⟩,h3⟩:=h
 refine ⟨by simpa using h1,fun suf=>?_,fun k=>((aWe k 0 w).2).2 h3,fun k=>(aWe k 0 w).1⟩
 unfold b7c at h2
 unfold vM
 split at h2
 ·rfl
 ·rename_i c e
  simp only [zxz] at h2
  simp only [h2.1,h2.2,Bool.true_or,Bool.and_self]
end Go.Fbs

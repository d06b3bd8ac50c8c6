/- Parsing pieces: what is eaten. -/
import Derived.Test.YtnmcilaebamncaaKO
set_option maxRecDepth 100000
namespace Go.Fbs
open Go.Proofs
structure Ate (s:gP) (R:List iH) (c:Nat) (r:Bool×gP):Prop where
 ok:r.1=true
 l:r.2.l=R
 n:r.2.n=s.n
 at_:r.2.at_=s.at_
 e:r.2.e=s.e
 d:r.2.d=s.d
 x:r.2.x.length≤s.x.length+c
def noB (g : List UInt8) (R : List iH) : Prop:=∀ t,R.head? = some t → kt t ≠ (2,g)
theorem aZp {g:List UInt8} {s:gP} (h:noB g s.l):isM g s=false:=by
 unfold isM mM
 cases e:s.l with
 | nil=>simp
 | cons t r =>
  have:=h t (by rw [e]; rfl)
  simp only [List.headD_cons]
  by_cases h1:t.1=2
  ·have h2:¬ t.2.2=g:=fun h2=>this (by simp [kt,h1,h2])
   simp [h2]
  ·simp [h1]
theorem bCp {g:List UInt8} {s:gP} {t:iH} {R:List iH} (h:s.l=t::R) (hk:kt t=(2,g)):isM g s=true:=by
 unfold isM mM
 rw [h]
 simp only [kt,zvy] at hk
 simp [hk.1,hk.2]
theorem bCq {g:List UInt8} {s:gP} (h:noB g s.l):a39 g s=(false,s):=by
 unfold a39; rw [aZp h]; rfl
theorem b91 {g:List UInt8} {s:gP} {t:iH} {R:List iH} (h:s.l=t::R) (hk:kt t=(2,g)):a39 g s=(true,rS s)∧(rS s).l=R:=by
 unfold a39; rw [bCp h hk]; exact ⟨rfl,by show s.l.tail=R; rw [h]; rfl⟩
def aLc (w:List UInt8):Bool:=a9b (1,0,w)
theorem aIx {s:gP} {t:iH} {R:List iH} {w:List UInt8} (h:s.l=t::R) (hk:kt t=(1,w)) (hw:aLc w=true):a4y s=(true,rS s,some w)∧(rS s).l=R:=by
 have e:mM s=t:=by unfold mM; rw [h]; rfl
 simp only [kt,zvy] at hk
 have hn:a9b (mM s)=true:=by
  rw [e]
  unfold aLc a9b at hw
  unfold a9b
  rw [hk.1,hk.2]
  exact hw
 rw [b5v hn,e,hk.2]
 exact ⟨rfl,by show s.l.tail=R; rw [h]; rfl⟩
theorem aWh {p:zV} {a:Nat} {s:gP} (h:s.x.length < 200):aMn p a s=(true,{ s with x:=s.x++[p] }):=by
 unfold aMn; rw [if_neg (by omega)]
theorem mH {T:List iH} {A B:List KT} (h:T.map kt=A++B):∃ T1 T2,T=T1++T2∧T1.map kt=A∧T2.map kt=B:=by
 obtain ⟨T1,T2,rfl,h1,h2⟩:=List.map_eq_append_iff.1 h
 exact ⟨T1,T2,rfl,h1,h2⟩
theorem dF {T:List iH} {a:KT} {B:List KT} (h:T.map kt=a::B):∃ t T2,T=t::T2∧kt t=a∧T2.map kt=B:=by
 obtain ⟨t,T2,rfl,h1,h2⟩:=List.map_eq_cons_iff.1 h
 exact ⟨t,T2,rfl,h1,h2⟩
def b53 (f d:Nat) (A:List KT):Prop:=∀ s T R,T.map kt=A→s.l=T++R→noB [45,62] R→s.x.length+A.length≤200→s.d=d→Ate s R A.length (uM f s)
theorem a14 {f d:Nat} {w:List UInt8} (hw:aLc w=true):b53 (f+1) d [(1,w)]:=by
 intro s T R hT hl hR hx hd
 obtain ⟨t,T',rfl,hk,hT⟩:=dF hT
 obtain rfl:T'=[]:=by simpa using hT
 have hn:=aIx (R:=R) hl hk hw
 have hb:isM [40] s=false:=aZp fun t' h=>by
  rw [hl] at h
  simp only [List.cons_append,List.head?_cons,zzz] at h
  subst h; rw [hk]; simp
 have hm:=bCq (g:=[45,62]) (s:=rS s) (by rw [hn.2]; exact hR)
 simp only [List.length_singleton] at hx
 have hp:=aWh (p:=(1,w,[])) (a:=(mM s).2.1) (s:=rS s) (by show s.x.length < 200; omega)
 show Ate s R 1 (a58 _ s)
 unfold a58
 rw [hb]
 simp only [Bool.false_eq_true,if_false,hn.1,if_true,hm,Option.getD_some,hp]
 exact ⟨rfl,hn.2,rfl,rfl,rfl,rfl,by simp [rS]⟩
theorem aN1 {f d:Nat} {w v:List UInt8} (hw:aLc w=true) (hv:aLc v=true):b53 (f+1) d [(1,w),(2,[45,62]),(1,v)]:=by
 intro s T R hT hl hR hx hd
 obtain ⟨t,T',rfl,hk,hT⟩:=dF hT
 obtain ⟨u,T',rfl,hk2,hT⟩:=dF hT
 obtain ⟨q,T',rfl,hk3,hT⟩:=dF hT
 obtain rfl:T'=[]:=by simpa using hT
 have hn:=aIx (R:=u::q::R) hl hk hw
 have hb:isM [40] s=false:=aZp fun t' h=>by
  rw [hl] at h
  simp only [List.cons_append,List.head?_cons,zzz] at h
  subst h; rw [hk]; simp
 have hm:=b91 (g:=[45,62]) (s:=rS s) hn.2 hk2
 have hn2:=aIx (s:=rS (rS s)) hm.2 hk3 hv
 simp only [zwx,List.length_nil] at hx
 have hp:=aWh (p:=(2,w,v)) (a:=(mM s).2.1) (s:=rS (rS (rS s))) (by show s.x.length < 200; omega)
 show Ate s R 3 (a58 _ s)
 unfold a58
 rw [hb]
 simp only [Bool.false_eq_true,if_false,hn.1,if_true,hm.1,hn2.1,Option.getD_some,hp]
 exact ⟨rfl,hn2.2,rfl,rfl,rfl,rfl,by simp [rS]⟩
structure NoT (R:List iH):Prop where
 a:noB [45,62] R
 b:noB [38] R
structure NoS (R:List iH):Prop where
 t:NoT R
 p:noB [43] R
 m:noB [45] R
theorem hP {g:List UInt8} {t:iH} {R:List iH} (h:kt t≠(2,g)):noB g (t::R):=fun t' e=>by
 simp only [List.head?_cons,zzz] at e; subst e; exact h
def aIy (C : List KT) : Prop:=C.head? ≠ some (2,[45,62])
theorem b2c {T R:List iH} {C:List KT} (hT:T.map kt=C) (hC:aIy C) (hR:noB [45,62] R):noB [45,62] (T++R):=by
 cases T with
 | nil=>exact hR
 | cons t r =>
  refine hP fun e=>hC ?_
  rw [← hT,List.map_cons,e]; rfl
def hdT (C : List KT) : Prop:=C.head? ≠ some (2,[45,62]) ∧ C.head? ≠ some (2,[38])
theorem b2d {T R:List iH} {C:List KT} (hT:T.map kt=C) (hC:hdT C) (hR:NoT R):NoT (T++R):=by
 cases T with
 | nil=>exact hR
 | cons t r =>
  refine ⟨hP fun e=>hC.1 ?_,hP fun e=>hC.2 ?_⟩ <;> rw [← hT,List.map_cons,e] <;> rfl
end Go.Fbs

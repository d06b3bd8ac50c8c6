/- Parsing pieces: what is eaten. -/
import Derived.Test.YtnmcilaebamncaaKO
set_option linter.unusedVariables false
set_option linter.unusedSimpArgs false
set_option linter.unusedSectionVars false
set_option maxRecDepth 100000
namespace Go.Fbs
open Go.Proofs
structure Ate (s:bG) (R:List jT) (c:Nat) (r:Bool×bG):Prop where
 ok:r.1=true
 l:r.2.l=R
 n:r.2.n=s.n
 at_:r.2.at_=s.at_
 e:r.2.e=s.e
 d:r.2.d=s.d
 x:r.2.x.length≤s.x.length+c
def noB (g : List UInt8) (R : List jT) : Prop:=∀ t,R.head? = some t → kt t ≠ (2,g)
theorem aH9 {g:List UInt8} {s:bG} (h:noB g s.l):nD g s=false:=by
 unfold nD cI
 cases e:s.l with
 | nil=>simp
 | cons t r =>
  have:=h t (by rw [e]; rfl)
  simp only [List.headD_cons]
  by_cases h1:t.1=2
  ·have h2:¬ t.2.2=g:=fun h2=>this (by simp [kt,h1,h2])
   simp [h2]
  ·simp [h1]
theorem aDf {g:List UInt8} {s:bG} {t:jT} {R:List jT} (h:s.l=t::R) (hk:kt t=(2,g)):nD g s=true:=by
 unfold nD cI
 rw [h]
 simp only [kt,Prod.mk.injEq] at hk
 simp [hk.1,hk.2]
theorem a3k {g:List UInt8} {s:bG} (h:noB g s.l):cJ g s=(false,s):=by
 unfold cJ; rw [aH9 h]; rfl
theorem a15 {g:List UInt8} {s:bG} {t:jT} {R:List jT} (h:s.l=t::R) (hk:kt t=(2,g)):cJ g s=(true,bW s)∧(bW s).l=R:=by
 unfold cJ; rw [aDf h hk]; exact ⟨rfl,by show s.l.tail=R; rw [h]; rfl⟩
theorem aAs {g:List UInt8} {s:bG} {t:jT} {R:List jT} (h:s.l=t::R) (hk:kt t=(2,g)):lK g s=(true,bW s)∧(bW s).l=R:=by
 unfold lK; rw [aDf h hk]; exact ⟨rfl,by show s.l.tail=R; rw [h]; rfl⟩
def zB (w:List UInt8):Bool:=oK (1,0,w)
theorem sM {s:bG} {t:jT} {R:List jT} {w:List UInt8} (h:s.l=t::R) (hk:kt t=(1,w)) (hw:zB w=true):aW s=(true,bW s,some w)∧(bW s).l=R:=by
 have e:cI s=t:=by unfold cI; rw [h]; rfl
 simp only [kt,Prod.mk.injEq] at hk
 have hn:oK (cI s)=true:=by
  rw [e]
  unfold zB oK at hw
  unfold oK
  rw [hk.1,hk.2]
  exact hw
 rw [a10 hn,e,hk.2]
 exact ⟨rfl,by show s.l.tail=R; rw [h]; rfl⟩
theorem aE6 {p:yM} {a:Nat} {s:bG} (h:s.x.length < 200):tC p a s=(true,{ s with x:=s.x++[p] }):=by
 unfold tC; rw [if_neg (by omega)]
theorem n7 {T:List jT} {A B:List KT} (h:T.map kt=A++B):∃ T1 T2,T=T1++T2∧T1.map kt=A∧T2.map kt=B:=by
 obtain ⟨T1,T2,rfl,h1,h2⟩:=List.map_eq_append_iff.1 h
 exact ⟨T1,T2,rfl,h1,h2⟩
theorem fK {T:List jT} {a:KT} {B:List KT} (h:T.map kt=a::B):∃ t T2,T=t::T2∧kt t=a∧T2.map kt=B:=by
 obtain ⟨t,T2,rfl,h1,h2⟩:=List.map_eq_cons_iff.1 h
 exact ⟨t,T2,rfl,h1,h2⟩
def a05 (f d:Nat) (A:List KT):Prop:=∀ s T R,T.map kt=A→s.l=T++R→noB [45,62] R→s.x.length+A.length≤200→s.d=d→Ate s R A.length (bY f s)
theorem a16 {f d:Nat} {w:List UInt8} (hw:zB w=true):a05 (f+1) d [(1,w)]:=by
 intro s T R hT hl hR hx hd
 obtain ⟨t,T',rfl,hk,hT⟩:=fK hT
 obtain rfl:T'=[]:=by simpa using hT
 have hn:=sM (R:=R) hl hk hw
 have hb:nD [40] s=false:=aH9 fun t' h=>by
  rw [hl] at h
  simp only [List.cons_append,List.head?_cons,Option.some.injEq] at h
  subst h; rw [hk]; simp
 have hm:=a3k (g:=[45,62]) (s:=bW s) (by rw [hn.2]; exact hR)
 simp only [List.length_singleton] at hx
 have hp:=aE6 (p:=(1,w,[])) (a:=(cI s).2.1) (s:=bW s) (by show s.x.length < 200; omega)
 show Ate s R 1 (nK _ s)
 unfold nK
 rw [hb]
 simp only [Bool.false_eq_true,if_false,hn.1,if_true,hm,Option.getD_some,hp]
 exact ⟨rfl,hn.2,rfl,rfl,rfl,rfl,by simp [bW]⟩
theorem aLc {f d:Nat} {w v:List UInt8} (hw:zB w=true) (hv:zB v=true):a05 (f+1) d [(1,w),(2,[45,62]),(1,v)]:=by
 intro s T R hT hl hR hx hd
 obtain ⟨t,T',rfl,hk,hT⟩:=fK hT
 obtain ⟨u,T',rfl,hk2,hT⟩:=fK hT
 obtain ⟨q,T',rfl,hk3,hT⟩:=fK hT
 obtain rfl:T'=[]:=by simpa using hT
 have hn:=sM (R:=u::q::R) hl hk hw
 have hb:nD [40] s=false:=aH9 fun t' h=>by
  rw [hl] at h
  simp only [List.cons_append,List.head?_cons,Option.some.injEq] at h
  subst h; rw [hk]; simp
 have hm:=a15 (g:=[45,62]) (s:=bW s) hn.2 hk2
 have hn2:=sM (s:=bW (bW s)) hm.2 hk3 hv
 simp only [List.length_cons,List.length_nil] at hx
 have hp:=aE6 (p:=(2,w,v)) (a:=(cI s).2.1) (s:=bW (bW (bW s))) (by show s.x.length < 200; omega)
 show Ate s R 3 (nK _ s)
 unfold nK
 rw [hb]
 simp only [Bool.false_eq_true,if_false,hn.1,if_true,hm.1,hn2.1,Option.getD_some,hp]
 exact ⟨rfl,hn2.2,rfl,rfl,rfl,rfl,by simp [bW]⟩
structure NoT (R:List jT):Prop where
 a:noB [45,62] R
 b:noB [38] R
structure NoS (R:List jT):Prop where
 t:NoT R
 p:noB [43] R
 m:noB [45] R
def aMv (f d:Nat) (A:List KT):Prop:=∀ k a s T R,T.map kt=A→s.l=T++R→NoT R→s.x.length+A.length≤200→s.d=d→s.l.length < k→Ate s R A.length (kX (bY f) k a s)
theorem jX {g:List UInt8} {t:jT} {R:List jT} (h:kt t≠(2,g)):noB g (t::R):=fun t' e=>by
 simp only [List.head?_cons,Option.some.injEq] at e; subst e; exact h
theorem aGt {f d:Nat} : aMv f d []:=by
 intro k a s T R hT hl hR hx hd hk
 obtain rfl:T=[]:=by simpa using hT
 simp only [List.nil_append] at hl
 obtain ⟨k,rfl⟩:∃ m,k=m+1:=⟨k - 1,by omega⟩
 unfold kX
 rw [a3k (by rw [hl]; exact hR.b)]
 exact ⟨rfl,hl,rfl,rfl,rfl,rfl,by simp⟩
def aGu (C : List KT) : Prop:=C.head? ≠ some (2,[45,62])
theorem aYr {T R:List jT} {C:List KT} (hT:T.map kt=C) (hC:aGu C) (hR:noB [45,62] R):noB [45,62] (T++R):=by
 cases T with
 | nil=>exact hR
 | cons t r =>
  refine jX fun e=>hC ?_
  rw [← hT,List.map_cons,e]; rfl
theorem aDg {f d:Nat} {B C:List KT} (hB:a05 f d B) (hC:aMv f d C) (hc:aGu C):aMv f d ((2,[38])::(B++C)):=by
 intro k a s T R hT hl hR hx hd hk
 obtain ⟨t,T',rfl,hkt,hT⟩:=fK hT
 obtain ⟨T1,T2,rfl,h1,h2⟩:=n7 hT
 simp only [List.length_cons,List.length_append] at hx
 obtain ⟨k,rfl⟩:∃ m,k=m+1:=⟨k - 1,by omega⟩
 have hm:=a15 (g:=[38]) (R:=T1++T2++R) hl hkt
 have hf:=hB (bW s) T1 (T2++R) h1 (by rw [hm.2,List.append_assoc]) (aYr h2 hc hR.a) (by show s.x.length+_≤200; omega) hd
 unfold kX
 simp only [hm.1,if_true]
 generalize bY f (bW s)=r at *
 obtain ⟨b,s1⟩:=r
 obtain ⟨g1,g2,g3,g4,g5,g6,g7⟩:=hf
 simp only at g1 g2 g3 g4 g5 g6 g7
 subst g1
 have g7':s1.x.length≤s.x.length+B.length:=g7
 simp only [if_true]
 rw [aE6 (by omega)]
 simp only [if_true]
 have hl1:s1.l.length < k:=by
  have:s.l.length=1+(T1.length+(T2.length+R.length)):=by rw [hl]; simp; omega
  rw [g2]; simp only [List.length_append]; omega
 have hq:=hC k (cI { s1 with x:=s1.x++[(5,[],[])] }).2.1 { s1 with x:=s1.x++[(5,[],[])] } T2 R h2 g2 hR (by simp only [List.length_append,List.length_singleton]; omega) (by show s1.d=d; rw [g6]; exact hd) hl1
 refine ⟨hq.ok,hq.l,hq.n.trans g3,hq.at_.trans g4,hq.e.trans g5,hq.d.trans g6,?_⟩
 have:=hq.x
 simp only [List.length_append,List.length_singleton] at this
 simp only [List.length_cons,List.length_append]; omega
def aDh (f d:Nat) (A:List KT):Prop:=∀ s T R,T.map kt=A→s.l=T++R→NoT R→s.x.length+A.length≤200→s.d=d→Ate s R A.length (fS (bY f) s)
theorem aGv {f d:Nat} {A C:List KT} (hA:a05 f d A) (hC:aMv f d C) (hc:aGu C):aDh f d (A++C):=by
 intro s T R hT hl hR hx hd
 obtain ⟨T1,T2,rfl,h1,h2⟩:=n7 hT
 simp only [List.length_append] at hx
 have hf:=hA s T1 (T2++R) h1 (by rw [hl,List.append_assoc]) (aYr h2 hc hR.a) (by omega) hd
 unfold fS
 generalize bY f s=r at *
 obtain ⟨b,s1⟩:=r
 obtain ⟨g1,g2,g3,g4,g5,g6,g7⟩:=hf
 simp only at g1 g2 g3 g4 g5 g6 g7
 subst g1
 simp only [if_true]
 have hq:=hC (s1.l.length+1) (cI s1).2.1 s1 T2 R h2 g2 hR (by omega) (by rw [g6]; exact hd) (Nat.lt_succ_self _)
 refine ⟨hq.ok,hq.l,hq.n.trans g3,hq.at_.trans g4,hq.e.trans g5,hq.d.trans g6,?_⟩
 have:=hq.x
 simp only [List.length_append]; omega
def aMw (f d:Nat) (A:List KT):Prop:=∀ k s T R,T.map kt=A→s.l=T++R→NoS R→s.x.length+A.length≤200→s.d=d→s.l.length < k→Ate s R A.length (jV (fS (bY f)) k s)
theorem aGw {f d:Nat} : aMw f d []:=by
 intro k s T R hT hl hR hx hd hk
 obtain rfl:T=[]:=by simpa using hT
 simp only [List.nil_append] at hl
 obtain ⟨k,rfl⟩:∃ m,k=m+1:=⟨k - 1,by omega⟩
 unfold jV
 rw [aH9 (g:=[43]) (by rw [hl]; exact hR.p),aH9 (g:=[45]) (by rw [hl]; exact hR.m)]
 exact ⟨rfl,hl,rfl,rfl,rfl,rfl,by simp⟩
def hdT (C : List KT) : Prop:=C.head? ≠ some (2,[45,62]) ∧ C.head? ≠ some (2,[38])
theorem aYs {T R:List jT} {C:List KT} (hT:T.map kt=C) (hC:hdT C) (hR:NoT R):NoT (T++R):=by
 cases T with
 | nil=>exact hR
 | cons t r =>
  refine ⟨jX fun e=>hC.1 ?_,jX fun e=>hC.2 ?_⟩ <;> rw [← hT,List.map_cons,e] <;> rfl
theorem aDi {f d:Nat} {g:List UInt8} {B C:List KT} (hg:g=[43]∨g=[45]) (hB:aDh f d B) (hC:aMw f d C) (hc:hdT C):aMw f d ((2,g)::(B++C)):=by
 intro k s T R hT hl hR hx hd hk
 obtain ⟨t,T',rfl,hkt,hT⟩:=fK hT
 obtain ⟨T1,T2,rfl,h1,h2⟩:=n7 hT
 simp only [List.length_cons,List.length_append] at hx
 obtain ⟨k,rfl⟩:∃ m,k=m+1:=⟨k - 1,by omega⟩
 have hi:(nD [43] s || nD [45] s)=true:=by
  rcases hg with rfl | rfl
  ·rw [aDf hl hkt]; rfl
  ·rw [aDf (g:=[45]) hl hkt]; simp
 have hm:(bW s).l=T1++T2++R:=by show s.l.tail=_; rw [hl]; rfl
 have hf:=hB (bW s) T1 (T2++R) h1 (by rw [hm,List.append_assoc]) (aYs h2 hc hR.t) (by show s.x.length+_≤200; omega) hd
 unfold jV
 rw [if_pos hi]
 generalize fS (bY f) (bW s)=r at *
 obtain ⟨b,s1⟩:=r
 obtain ⟨g1,g2,g3,g4,g5,g6,g7⟩:=hf
 simp only at g1 g2 g3 g4 g5 g6 g7
 subst g1
 have g7':s1.x.length≤s.x.length+B.length:=g7
 simp only [if_true]
 rw [aE6 (by omega)]
 simp only [if_true]
 have hl1:s1.l.length < k:=by
  have:s.l.length=1+(T1.length+(T2.length+R.length)):=by rw [hl]; simp; omega
  rw [g2]; simp only [List.length_append]; omega
 generalize ((if nD [43] s=true then 3 else 4,[],[]):yM)=st
 have hq:=hC k { s1 with x:=s1.x++[st] } T2 R h2 g2 hR (by simp only [List.length_append,List.length_singleton]; omega) (by show s1.d=d; rw [g6]; exact hd) hl1
 refine ⟨hq.ok,hq.l,hq.n.trans g3,hq.at_.trans g4,hq.e.trans g5,hq.d.trans g6,?_⟩
 have:=hq.x
 simp only [List.length_append,List.length_singleton] at this
 simp only [List.length_cons,List.length_append]; omega
def aAt (f d:Nat) (A:List KT):Prop:=∀ s T R,T.map kt=A→s.l=T++R→NoS R→s.x.length+A.length≤200→s.d=d→Ate s R A.length (qP (fS (bY f)) s)
theorem aKc {f d:Nat} {A C:List KT} (hA:aDh f d A) (hC:aMw f d C) (hc:hdT C):aAt f d (A++C):=by
 intro s T R hT hl hR hx hd
 obtain ⟨T1,T2,rfl,h1,h2⟩:=n7 hT
 simp only [List.length_append] at hx
 have hf:=hA s T1 (T2++R) h1 (by rw [hl,List.append_assoc]) (aYs h2 hc hR.t) (by omega) hd
 unfold qP
 generalize fS (bY f) s=r at *
 obtain ⟨b,s1⟩:=r
 obtain ⟨g1,g2,g3,g4,g5,g6,g7⟩:=hf
 simp only at g1 g2 g3 g4 g5 g6 g7
 subst g1
 simp only [if_true]
 have hq:=hC (s1.l.length+1) s1 T2 R h2 g2 hR (by omega) (by rw [g6]; exact hd) (Nat.lt_succ_self _)
 refine ⟨hq.ok,hq.l,hq.n.trans g3,hq.at_.trans g4,hq.e.trans g5,hq.d.trans g6,?_⟩
 have:=hq.x
 simp only [List.length_append]; omega
theorem aYt {f d:Nat} {A:List KT} (hd20:d≠20) (hA:aAt f (d+1) A):a05 (f+1) d ((2,[40])::(A++[(2,[41])])):=by
 intro s T R hT hl hR hx hd
 obtain ⟨t,T',rfl,hkt,hT⟩:=fK hT
 obtain ⟨T1,T2,rfl,h1,h2⟩:=n7 hT
 obtain ⟨u,T3,rfl,hku,h3⟩:=fK h2
 obtain rfl:T3=[]:=by simpa using h3
 simp only [List.length_cons,List.length_append,List.length_nil] at hx
 have hm:(bW { s with d:=s.d+1 }).l=T1++([u]++R):=by show s.l.tail=_; rw [hl]; simp
 have hno:NoS ([u]++R):=by
  refine ⟨⟨jX ?_,jX ?_⟩,jX ?_,jX ?_⟩ <;> rw [hku] <;> simp
 have hf:=hA (bW { s with d:=s.d+1 }) T1 ([u]++R) h1 hm hno (by show s.x.length+_≤200; omega) (by show s.d+1=d+1; omega)
 show Ate s R _ (nK (qP (fS (bY f))) s)
 unfold nK
 rw [aDf (g:=[40]) hl hkt]
 simp only [if_true]
 rw [if_neg (by omega)]
 generalize qP (fS (bY f)) (bW { s with d:=s.d+1 })=r at *
 obtain ⟨b,s1⟩:=r
 obtain ⟨g1,g2,g3,g4,g5,g6,g7⟩:=hf
 simp only at g1 g2 g3 g4 g5 g6 g7
 subst g1
 have hs:=aAs (g:=[41]) (s:=s1) (R:=R) (t:=u) g2 hku
 simp only [if_true,hs.1]
 refine ⟨rfl,hs.2,g3,g4,g5,?_,?_⟩
 ·show s1.d - 1=s.d
  rw [g6]
  show s.d+1 - 1=s.d
  omega
 ·have g7':s1.x.length≤s.x.length+A.length:=g7
  show s1.x.length≤_
  simp only [List.length_cons,List.length_append,List.length_nil]; omega
end Go.Fbs

import Derived.Test.YtngdbicnabbplaaPI
set_option linter.unusedSimpArgs false
set_option linter.unusedVariables false
set_option maxRecDepth 100000
namespace Go.Fbs
open Go.Proofs
structure Ate (s:aW) (R:List gZ) (c:Nat) (r:Bool×aW):Prop where
 ok:r.1=true
 l:r.2.l=R
 n:r.2.n=s.n
 at_:r.2.at_=s.at_
 e:r.2.e=s.e
 d:r.2.d=s.d
 x:r.2.x.length≤s.x.length+c
def noB (g : List UInt8) (R : List gZ) : Prop:=∀ t,R.head? = some t → kt t ≠ (2,g)
theorem aRd {g:List UInt8} {s:aW} (h:noB g s.l):mN g s=false:=by
 unfold mN cH
 cases e:s.l with
 | nil=>simp
 | cons t r =>
  have:=h t (by rw [e]; rfl)
  simp only [List.headD_cons]
  by_cases h1:t.1=2
  ·have h2:¬ t.2.2=g:=fun h2=>this (by simp [kt,h1,h2])
   simp [h2]
  ·simp [h1]
theorem aLm {g:List UInt8} {s:aW} {t:gZ} {R:List gZ} (h:s.l=t::R) (hk:kt t=(2,g)):mN g s=true:=by
 unfold mN cH
 rw [h]
 simp only [kt,zvy] at hk
 simp [hk.1,hk.2]
theorem a3w {g:List UInt8} {s:aW} (h:noB g s.l):bH g s=(false,s):=by
 unfold bH; rw [aRd h]; rfl
theorem a2k {g:List UInt8} {s:aW} {t:gZ} {R:List gZ} (h:s.l=t::R) (hk:kt t=(2,g)):bH g s=(true,aI s)∧(aI s).l=R:=by
 unfold bH; rw [aLm h hk]; exact ⟨rfl,by show s.l.tail=R; rw [h]; rfl⟩
theorem aHo {g:List UInt8} {s:aW} {t:gZ} {R:List gZ} (h:s.l=t::R) (hk:kt t=(2,g)):jT g s=(true,aI s)∧(aI s).l=R:=by
 unfold jT; rw [aLm h hk]; exact ⟨rfl,by show s.l.tail=R; rw [h]; rfl⟩
def p9 (w:List UInt8):Bool:=oV (1,0,w)
theorem rE {s:aW} {t:gZ} {R:List gZ} {w:List UInt8} (h:s.l=t::R) (hk:kt t=(1,w)) (hw:p9 w=true):aL s=(true,aI s,some w)∧(aI s).l=R:=by
 have e:cH s=t:=by unfold cH; rw [h]; rfl
 simp only [kt,zvy] at hk
 have hn:oV (cH s)=true:=by
  rw [e]
  unfold p9 oV at hw
  unfold oV
  rw [hk.1,hk.2]
  exact hw
 rw [a6z hn,e,hk.2]
 exact ⟨rfl,by show s.l.tail=R; rw [h]; rfl⟩
theorem aM0 {p:dQ} {a:Nat} {s:aW} (h:s.x.length < 200):jY p a s=(true,{ s with x:=s.x++[p] }):=by
 unfold jY; rw [if_neg (by omega)]
theorem oQ {T:List gZ} {A B:List KT} (h:T.map kt=A++B):∃ T1 T2,T=T1++T2∧T1.map kt=A∧T2.map kt=B:=by
 obtain ⟨T1,T2,rfl,h1,h2⟩:=List.map_eq_append_iff.1 h
 exact ⟨T1,T2,rfl,h1,h2⟩
theorem eP {T:List gZ} {a:KT} {B:List KT} (h:T.map kt=a::B):∃ t T2,T=t::T2∧kt t=a∧T2.map kt=B:=by
 obtain ⟨t,T2,rfl,h1,h2⟩:=List.map_eq_cons_iff.1 h
 exact ⟨t,T2,rfl,h1,h2⟩
def a52 (f d:Nat) (A:List KT):Prop:=∀ s T R,T.map kt=A→s.l=T++R→noB [45,62] R→s.x.length+A.length≤200→s.d=d→Ate s R A.length (bK f s)
theorem a66 {f d:Nat} {w:List UInt8} (hw:p9 w=true):a52 (f+1) d [(1,w)]:=by
 intro s T R hT hl hR hx hd
 obtain ⟨t,T',rfl,hk,hT⟩:=eP hT
 obtain rfl:T'=[]:=by simpa using hT
 have hn:=rE (R:=R) hl hk hw
 have hb:mN [40] s=false:=aRd fun t' h=>by
  rw [hl] at h
  simp only [List.cons_append,List.head?_cons,zzz] at h
  subst h; rw [hk]; simp
 have hm:=a3w (g:=[45,62]) (s:=aI s) (by rw [hn.2]; exact hR)
 simp only [List.length_singleton] at hx
 have hp:=aM0 (p:=(1,w,[])) (a:=(cH s).2.1) (s:=aI s) (by show s.x.length < 200; omega)
 show Ate s R 1 (lD _ s)
 unfold lD
 rw [hb]
 simp only [zuy,if_false,hn.1,if_true,hm,Option.getD_some,hp]
 exact ⟨rfl,hn.2,rfl,rfl,rfl,rfl,by simp [aI]⟩
theorem aUn {f d:Nat} {w v:List UInt8} (hw:p9 w=true) (hv:p9 v=true):a52 (f+1) d [(1,w),(2,[45,62]),(1,v)]:=by
 intro s T R hT hl hR hx hd
 obtain ⟨t,T',rfl,hk,hT⟩:=eP hT
 obtain ⟨u,T',rfl,hk2,hT⟩:=eP hT
 obtain ⟨q,T',rfl,hk3,hT⟩:=eP hT
 obtain rfl:T'=[]:=by simpa using hT
 have hn:=rE (R:=u::q::R) hl hk hw
 have hb:mN [40] s=false:=aRd fun t' h=>by
  rw [hl] at h
  simp only [List.cons_append,List.head?_cons,zzz] at h
  subst h; rw [hk]; simp
 have hm:=a2k (g:=[45,62]) (s:=aI s) hn.2 hk2
 have hn2:=rE (s:=aI (aI s)) hm.2 hk3 hv
 simp only [zwx,List.length_nil] at hx
 have hp:=aM0 (p:=(2,w,v)) (a:=(cH s).2.1) (s:=aI (aI (aI s))) (by show s.x.length < 200; omega)
 show Ate s R 3 (lD _ s)
 unfold lD
 rw [hb]
 simp only [zuy,if_false,hn.1,if_true,hm.1,hn2.1,Option.getD_some,hp]
 exact ⟨rfl,hn2.2,rfl,rfl,rfl,rfl,by simp [aI]⟩
structure NoT (R:List gZ):Prop where
 a:noB [45,62] R
 b:noB [38] R
structure NoS (R:List gZ):Prop where
 t:NoT R
 p:noB [43] R
 m:noB [45] R
def aVv (f d:Nat) (A:List KT):Prop:=∀ k a s T R,T.map kt=A→s.l=T++R→NoT R→s.x.length+A.length≤200→s.d=d→s.l.length < k→Ate s R A.length (fW (bK f) k a s)
theorem lH {g:List UInt8} {t:gZ} {R:List gZ} (h:kt t≠(2,g)):noB g (t::R):=fun t' e=>by
 simp only [List.head?_cons,zzz] at e; subst e; exact h
theorem aPa {f d:Nat} : aVv f d []:=by
 intro k a s T R hT hl hR hx hd hk
 obtain rfl:T=[]:=by simpa using hT
 simp only [List.nil_append] at hl
 obtain ⟨k,rfl⟩:∃ m,k=m+1:=⟨k - 1,by omega⟩
 unfold fW
 rw [a3w (by rw [hl]; exact hR.b)]
 exact ⟨rfl,hl,rfl,rfl,rfl,rfl,by simp⟩
def aPb (C : List KT) : Prop:=C.head? ≠ some (2,[45,62])
theorem b93 {T R:List gZ} {C:List KT} (hT:T.map kt=C) (hC:aPb C) (hR:noB [45,62] R):noB [45,62] (T++R):=by
 cases T with
 | nil=>exact hR
 | cons t r =>
  refine lH fun e=>hC ?_
  rw [← hT,zsx,e]; rfl
theorem aLn {f d:Nat} {B C:List KT} (hB:a52 f d B) (hC:aVv f d C) (hc:aPb C):aVv f d ((2,[38])::(B++C)):=by
 intro k a s T R hT hl hR hx hd hk
 obtain ⟨t,T',rfl,hkt,hT⟩:=eP hT
 obtain ⟨T1,T2,rfl,h1,h2⟩:=oQ hT
 simp only [zwx,zwy] at hx
 obtain ⟨k,rfl⟩:∃ m,k=m+1:=⟨k - 1,by omega⟩
 have hm:=a2k (g:=[38]) (R:=T1++T2++R) hl hkt
 have hf:=hB (aI s) T1 (T2++R) h1 (by rw [hm.2,zty]) (b93 h2 hc hR.a) (by show s.x.length+_≤200; omega) hd
 unfold fW
 simp only [hm.1,if_true]
 generalize bK f (aI s)=r at *
 obtain ⟨b,s1⟩:=r
 obtain ⟨g1,g2,g3,g4,g5,g6,g7⟩:=hf
 simp only at g1 g2 g3 g4 g5 g6 g7
 subst g1
 have g7':s1.x.length≤s.x.length+B.length:=g7
 simp only [if_true]
 rw [aM0 (by omega)]
 simp only [if_true]
 have hl1:s1.l.length < k:=by
  have:s.l.length=1+(T1.length+(T2.length+R.length)):=by rw [hl]; simp; omega
  rw [g2]; simp only [zwy]; omega
 have hq:=hC k (cH { s1 with x:=s1.x++[(5,[],[])] }).2.1 { s1 with x:=s1.x++[(5,[],[])] } T2 R h2 g2 hR (by simp only [zwy,List.length_singleton]; omega) (by show s1.d=d; rw [g6]; exact hd) hl1
 refine ⟨hq.ok,hq.l,hq.n.trans g3,hq.at_.trans g4,hq.e.trans g5,hq.d.trans g6,?_⟩
 have:=hq.x
 simp only [zwy,List.length_singleton] at this
 simp only [zwx,zwy]; omega
def aLo (f d:Nat) (A:List KT):Prop:=∀ s T R,T.map kt=A→s.l=T++R→NoT R→s.x.length+A.length≤200→s.d=d→Ate s R A.length (eN (bK f) s)
theorem aPc {f d:Nat} {A C:List KT} (hA:a52 f d A) (hC:aVv f d C) (hc:aPb C):aLo f d (A++C):=by
 intro s T R hT hl hR hx hd
 obtain ⟨T1,T2,rfl,h1,h2⟩:=oQ hT
 simp only [zwy] at hx
 have hf:=hA s T1 (T2++R) h1 (by rw [hl,zty]) (b93 h2 hc hR.a) (by omega) hd
 unfold eN
 generalize bK f s=r at *
 obtain ⟨b,s1⟩:=r
 obtain ⟨g1,g2,g3,g4,g5,g6,g7⟩:=hf
 simp only at g1 g2 g3 g4 g5 g6 g7
 subst g1
 simp only [if_true]
 have hq:=hC (s1.l.length+1) (cH s1).2.1 s1 T2 R h2 g2 hR (by omega) (by rw [g6]; exact hd) (Nat.lt_succ_self _)
 refine ⟨hq.ok,hq.l,hq.n.trans g3,hq.at_.trans g4,hq.e.trans g5,hq.d.trans g6,?_⟩
 have:=hq.x
 simp only [zwy]; omega
def aVw (f d:Nat) (A:List KT):Prop:=∀ k s T R,T.map kt=A→s.l=T++R→NoS R→s.x.length+A.length≤200→s.d=d→s.l.length < k→Ate s R A.length (fS (eN (bK f)) k s)
theorem aPd {f d:Nat} : aVw f d []:=by
 intro k s T R hT hl hR hx hd hk
 obtain rfl:T=[]:=by simpa using hT
 simp only [List.nil_append] at hl
 obtain ⟨k,rfl⟩:∃ m,k=m+1:=⟨k - 1,by omega⟩
 unfold fS
 rw [aRd (g:=[43]) (by rw [hl]; exact hR.p),aRd (g:=[45]) (by rw [hl]; exact hR.m)]
 exact ⟨rfl,hl,rfl,rfl,rfl,rfl,by simp⟩
def hdT (C : List KT) : Prop:=C.head? ≠ some (2,[45,62]) ∧ C.head? ≠ some (2,[38])
theorem b94 {T R:List gZ} {C:List KT} (hT:T.map kt=C) (hC:hdT C) (hR:NoT R):NoT (T++R):=by
 cases T with
 | nil=>exact hR
 | cons t r =>
  refine ⟨lH fun e=>hC.1 ?_,lH fun e=>hC.2 ?_⟩ <;> rw [← hT,zsx,e] <;> rfl
theorem aLp {f d:Nat} {g:List UInt8} {B C:List KT} (hg:g=[43]∨g=[45]) (hB:aLo f d B) (hC:aVw f d C) (hc:hdT C):aVw f d ((2,g)::(B++C)):=by
 intro k s T R hT hl hR hx hd hk
 obtain ⟨t,T',rfl,hkt,hT⟩:=eP hT
 obtain ⟨T1,T2,rfl,h1,h2⟩:=oQ hT
 simp only [zwx,zwy] at hx
 obtain ⟨k,rfl⟩:∃ m,k=m+1:=⟨k - 1,by omega⟩
 have hi:(mN [43] s || mN [45] s)=true:=by
  rcases hg with rfl | rfl
  ·rw [aLm hl hkt]; rfl
  ·rw [aLm (g:=[45]) hl hkt]; simp
 have hm:(aI s).l=T1++T2++R:=by show s.l.tail=_; rw [hl]; rfl
 have hf:=hB (aI s) T1 (T2++R) h1 (by rw [hm,zty]) (b94 h2 hc hR.t) (by show s.x.length+_≤200; omega) hd
 unfold fS
 rw [if_pos hi]
 generalize eN (bK f) (aI s)=r at *
 obtain ⟨b,s1⟩:=r
 obtain ⟨g1,g2,g3,g4,g5,g6,g7⟩:=hf
 simp only at g1 g2 g3 g4 g5 g6 g7
 subst g1
 have g7':s1.x.length≤s.x.length+B.length:=g7
 simp only [if_true]
 rw [aM0 (by omega)]
 simp only [if_true]
 have hl1:s1.l.length < k:=by
  have:s.l.length=1+(T1.length+(T2.length+R.length)):=by rw [hl]; simp; omega
  rw [g2]; simp only [zwy]; omega
 generalize ((if mN [43] s=true then 3 else 4,[],[]):dQ)=st
 have hq:=hC k { s1 with x:=s1.x++[st] } T2 R h2 g2 hR (by simp only [zwy,List.length_singleton]; omega) (by show s1.d=d; rw [g6]; exact hd) hl1
 refine ⟨hq.ok,hq.l,hq.n.trans g3,hq.at_.trans g4,hq.e.trans g5,hq.d.trans g6,?_⟩
 have:=hq.x
 simp only [zwy,List.length_singleton] at this
 simp only [zwx,zwy]; omega
def aHp (f d:Nat) (A:List KT):Prop:=∀ s T R,T.map kt=A→s.l=T++R→NoS R→s.x.length+A.length≤200→s.d=d→Ate s R A.length (mO (eN (bK f)) s)
theorem aS6 {f d:Nat} {A C:List KT} (hA:aLo f d A) (hC:aVw f d C) (hc:hdT C):aHp f d (A++C):=by
 intro s T R hT hl hR hx hd
 obtain ⟨T1,T2,rfl,h1,h2⟩:=oQ hT
 simp only [zwy] at hx
 have hf:=hA s T1 (T2++R) h1 (by rw [hl,zty]) (b94 h2 hc hR.t) (by omega) hd
 unfold mO
 generalize eN (bK f) s=r at *
 obtain ⟨b,s1⟩:=r
 obtain ⟨g1,g2,g3,g4,g5,g6,g7⟩:=hf
 simp only at g1 g2 g3 g4 g5 g6 g7
 subst g1
 simp only [if_true]
 have hq:=hC (s1.l.length+1) s1 T2 R h2 g2 hR (by omega) (by rw [g6]; exact hd) (Nat.lt_succ_self _)
 refine ⟨hq.ok,hq.l,hq.n.trans g3,hq.at_.trans g4,hq.e.trans g5,hq.d.trans g6,?_⟩
 have:=hq.x
 simp only [zwy]; omega
theorem b95 {f d:Nat} {A:List KT} (hd20:d≠20) (hA:aHp f (d+1) A):a52 (f+1) d ((2,[40])::(A++[(2,[41])])):=by
 intro s T R hT hl hR hx hd
 obtain ⟨t,T',rfl,hkt,hT⟩:=eP hT
 obtain ⟨T1,T2,rfl,h1,h2⟩:=oQ hT
 obtain ⟨u,T3,rfl,hku,h3⟩:=eP h2
 obtain rfl:T3=[]:=by simpa using h3
 simp only [zwx,zwy,List.length_nil] at hx
 have hm:(aI { s with d:=s.d+1 }).l=T1++([u]++R):=by show s.l.tail=_; rw [hl]; simp
 have hno:NoS ([u]++R):=by
  refine ⟨⟨lH ?_,lH ?_⟩,lH ?_,lH ?_⟩ <;> rw [hku] <;> simp
 have hf:=hA (aI { s with d:=s.d+1 }) T1 ([u]++R) h1 hm hno (by show s.x.length+_≤200; omega) (by show s.d+1=d+1; omega)
 show Ate s R _ (lD (mO (eN (bK f))) s)
 unfold lD
 rw [aLm (g:=[40]) hl hkt]
 simp only [if_true]
 rw [if_neg (by omega)]
 generalize mO (eN (bK f)) (aI { s with d:=s.d+1 })=r at *
 obtain ⟨b,s1⟩:=r
 obtain ⟨g1,g2,g3,g4,g5,g6,g7⟩:=hf
 simp only at g1 g2 g3 g4 g5 g6 g7
 subst g1
 have hs:=aHo (g:=[41]) (s:=s1) (R:=R) (t:=u) g2 hku
 simp only [if_true,hs.1]
 refine ⟨rfl,hs.2,g3,g4,g5,?_,?_⟩
 ·show s1.d - 1=s.d
  rw [g6]
  show s.d+1 - 1=s.d
  omega
 ·have g7':s1.x.length≤s.x.length+A.length:=g7
  show s1.x.length≤_
  simp only [zwx,zwy,List.length_nil]; omega
end Go.Fbs
namespace Go.Fbs
open Go.Proofs
def isOp (g:List UInt8):Prop:=g=[43]∨g=[45]∨g=[38]
theorem b6f {g:List UInt8} (h:isOp g) (C:List KT):aPb ((2,g)::C):=by
 unfold aPb; rcases h with rfl | rfl | rfl <;> simp
theorem aZd:aPb []:=by unfold aPb; simp
theorem aS7:hdT []:=by unfold hdT; simp
theorem aZe {g:List UInt8} (h:g=[43]∨g=[45]) (C:List KT):hdT ((2,g)::C):=by
 unfold hdT; rcases h with rfl | rfl <;> simp
theorem aB2 {f d:Nat} {A:List KT} (hA:a52 f d A):aLo f d A:=by
 have:=aPc hA aPa aZd
 rwa [List.append_nil] at this
theorem aRe {f d:Nat} {A B:List KT} (hA:a52 f d A) (hB:a52 f d B):aLo f d (A++(2,[38])::B):=by
 have:=aPc hA (aLn hB aPa aZd) (b6f (.inr (.inr rfl)) _)
 rwa [List.append_nil] at this
theorem aZf {f d:Nat} {A:List KT} (hA:aLo f d A):aHp f d A:=by
 have:=aS6 hA aPd aS7
 rwa [List.append_nil] at this
theorem aZg {f d:Nat} {g:List UInt8} (hg:g=[43]∨g=[45]) {A B:List KT} (hA:aLo f d A) (hB:aLo f d B):aHp f d (A++(2,g)::B):=by
 have:=aS6 hA (aLp hg hB aPd aS7) (aZe hg _)
 rwa [List.append_nil] at this
theorem aVx {g:List UInt8} (h:isOp g):(g=[43]∨g=[45])∨g=[38]:=by
 rcases h with h | h | h
 ·exact .inl (.inl h)
 ·exact .inl (.inr h)
 ·exact .inr h
theorem bG9 {f d:Nat} {g:List UInt8} (hg:isOp g) {A B:List KT} (hA:a52 f d A) (hB:a52 f d B):aHp f d (A++(2,g)::B):=by
 rcases aVx hg with h | rfl
 ·exact aZg h (aB2 hA) (aB2 hB)
 ·exact aZf (aRe hA hB)
theorem aUo {f d:Nat} {g h:List UInt8} (hg:isOp g) (hh:isOp h) {A B C:List KT} (hA:a52 f d A) (hB:a52 f d B) (hC:a52 f d C):aHp f d (A++(2,g)::(B++(2,h)::C)):=by
 rcases aVx hg with h1 | rfl
 ·rcases aVx hh with h2 | rfl
  ·have:=aS6 (aB2 hA) (aLp h1 (aB2 hB) (aLp h2 (aB2 hC) aPd aS7) (aZe h2 _)) (aZe h1 _)
   rwa [List.append_nil] at this
  ·exact aZg h1 (aB2 hA) (aRe hB hC)
 ·rcases aVx hh with h2 | rfl
  ·have:=aZg h2 (aRe hA hB) (aB2 hC)
   simpa only [zty,List.cons_append] using this
  ·have:=aPc hA (aLn hB (aLn hC aPa aZd) (b6f (.inr (.inr rfl)) _)) (b6f (.inr (.inr rfl)) _)
   rw [List.append_nil] at this
   exact aZf this
theorem a54 {f d:Nat} (n:Int):a52 (f+1) d (jB (sI n)):=by
 have h:=rY n
 generalize sI n=w at h
 simp only [wV,List.mem_cons,List.not_mem_nil,or_false] at h
 rcases h with rfl | rfl | rfl | rfl | rfl | rfl | rfl | rfl
 ·exact a66 (w:=[114]) (by kernel_rfl)
 ·exact a66 (w:=[115]) (by kernel_rfl)
 ·exact a66 (w:=[114]) (by kernel_rfl)
 ·exact a66 (w:=[115]) (by kernel_rfl)
 ·exact aUn (w:=[115]) (v:=[114]) (by kernel_rfl) (by kernel_rfl)
 ·exact aUn (w:=[115]) (v:=[112]) (by kernel_rfl) (by kernel_rfl)
 ·exact a66 (w:=[112]) (by kernel_rfl)
 ·exact a66 (w:=[113]) (by kernel_rfl)
theorem bJw (n:Int):∃ g,isOp g∧jB (aLi n)=[(2,g)]:=by
 have h:=aO9 n
 generalize aLi n=w at h
 simp only [aDe,List.mem_cons,List.not_mem_nil,or_false] at h
 rcases h with rfl | rfl | rfl | rfl
 ·exact ⟨[43],.inl rfl,by kernel_rfl⟩
 ·exact ⟨[38],.inr (.inr rfl),by kernel_rfl⟩
 ·exact ⟨[45],.inr (.inl rfl),by kernel_rfl⟩
 ·exact ⟨[43],.inl rfl,by kernel_rfl⟩
theorem bJx (n:Int):if decide ((((jA n 13) % 4).toNat:Int)=3)=true then jB (aHj n)=[(2,[45]),(2,[40])] else ∃ g,isOp g∧jB (aHj n)=[(2,g)]:=by
 unfold aHj
 have h:=m4 (jA n 13)
 generalize ((jA n 13) % 4).toNat=k at h
 match k,h with
 | 0,_=>exact ⟨[43],.inl rfl,by kernel_rfl⟩
 | 1,_=>exact ⟨[38],.inr (.inr rfl),by kernel_rfl⟩
 | 2,_=>exact ⟨[45],.inr (.inl rfl),by kernel_rfl⟩
 | 3,_=>show jB [32,45,32,40]=_; kernel_rfl
theorem aZh (n:Int):aHp 21 0 (aS5 n):=by
 obtain ⟨g,hg,e1⟩:=bJw n
 unfold aS5 aLl
 rw [e1]
 by_cases hb:aBy n 12=true
 ·rw [if_pos hb]
  have h2:=bJx n
  by_cases h3:decide ((((jA n 13) % 4).toNat:Int)=3)=true
  ·rw [if_pos h3] at h2
   rw [if_pos h3,h2]
   have hp:=b95 (f:=20) (d:=0) (by omega) (aZf (aRe (a54 (f:=19) (d:=0+1) (jA n 16)) (a54 (jA n 20))))
   have:=aUo hg (.inr (.inl rfl)) (a54 (f:=20) (d:=0) n) (a54 (jA n 8)) hp
   simpa only [zty,List.cons_append,List.nil_append] using this
  ·rw [if_neg h3] at h2
   obtain ⟨h,hh,e2⟩:=h2
   rw [if_neg h3,e2]
   have:=aUo hg hh (a54 (f:=20) (d:=0) n) (a54 (jA n 8)) (a54 (jA n 16))
   simpa only [zty,List.cons_append,List.nil_append,List.append_nil] using this
 ·rw [if_neg hb]
  have:=bG9 hg (a54 (f:=20) (d:=0) n) (a54 (jA n 8))
  simpa only [zty,List.cons_append,List.nil_append,List.append_nil] using this
end Go.Fbs
namespace Go.Fbs
open Go.Proofs
attribute [local irreducible] pT bK
structure bDg {α:Type} (s:aW) (R:List gZ) (m:Nat) (r:Bool×aW×List α):Prop where
 ok:r.1=true
 l:r.2.1.l=R
 n:r.2.1.n=s.n
 at_:r.2.1.at_=s.at_
 e:r.2.1.e=s.e
 d:r.2.1.d=s.d
 m:r.2.2.length=m
structure Far (s t:aW) (R:List gZ):Prop where
 l:t.l=R
 n:t.n=s.n
 at_:t.at_=s.at_
 e:t.e=s.e
 d:t.d=s.d
def aRf (A:List KT):Prop:=(∃ a,p9 a=true∧A=[(1,a)])∨∃ a b,p9 a=true∧p9 b=true∧A=[(1,a),(2,[35]),(1,b)]
theorem zR {n most:Int} {s:aW} (h:n < most):dV n most s=(true,s):=by unfold dV; rw [if_pos h]
theorem aPe {A:List KT} (hA:aRf A) {s:aW} {T R:List gZ} {l:List Sub} {k:Nat} (hT:T.map kt=A) (hl:s.l=T++R) (hR:noB [35] R) (hm:l.length < 50) :
  ∃ t l',iQ (k+1) s l=(if (bH [124] t).1 then iQ k (bH [124] t).2 l' else (true,(bH [124] t).2,l'))∧Far s t R∧l'.length=l.length+1:=by
 rcases hA with ⟨a,ha,rfl⟩ | ⟨a,b,ha,hb,rfl⟩
 ·obtain ⟨t,T',rfl,hk,hT⟩:=eP hT
  obtain rfl:T'=[]:=by simpa using hT
  have hn:=rE (R:=R) hl hk ha
  refine ⟨aI s,l++[(a,[],[])],?_,⟨hn.2,rfl,rfl,rfl,rfl⟩,by simp⟩
  conv=>lhs; unfold iQ
  simp only [zR (show (l.length:Int) < 50 by omega),if_true,hn.1,a3w (g:=[35]) (s:=aI s) (by rw [hn.2]; exact hR),zuy,if_false,Option.getD_some]
 ·obtain ⟨t,T',rfl,hk,hT⟩:=eP hT
  obtain ⟨u,T',rfl,hk2,hT⟩:=eP hT
  obtain ⟨q,T',rfl,hk3,hT⟩:=eP hT
  obtain rfl:T'=[]:=by simpa using hT
  have hn:=rE (R:=u::q::R) hl hk ha
  have hm2:=a2k (g:=[35]) (s:=aI s) hn.2 hk2
  have hn2:=rE (s:=aI (aI s)) hm2.2 hk3 hb
  refine ⟨aI (aI (aI s)),l++[(a,[],b)],?_,⟨hn2.2,rfl,rfl,rfl,rfl⟩,by simp⟩
  conv=>lhs; unfold iQ
  simp only [zR (show (l.length:Int) < 50 by omega),if_true,hn.1,hm2.1,hn2.1,Option.getD_some]
def aLq (S:List KT):Prop:=∀ s T t R,T.map kt=S→s.l=T++t::R→kt t=(2,[59])→∃ m,bDg s (t::R) m (sG s [])
theorem aPf {A:List KT} (hA:aRf A):aLq A:=by
 intro s T t R hT hl hk
 obtain ⟨u,l',e,hf,hm⟩:=aPe (k:=s.l.length) (l:=[]) hA hT hl (lH (by rw [hk]; simp)) (by simp)
 refine ⟨1,?_⟩
 unfold sG
 rw [e,a3w (by rw [hf.l]; exact lH (by rw [hk]; simp))]
 exact ⟨rfl,hf.l,hf.n,hf.at_,hf.e,hf.d,hm⟩
theorem aPg {A B:List KT} (hA:aRf A) (hB:aRf B):aLq (A++(2,[124])::B):=by
 intro s T t R hT hl hk
 obtain ⟨T1,T2,rfl,h1,h2⟩:=oQ hT
 obtain ⟨u,T3,rfl,hku,h3⟩:=eP h2
 obtain ⟨v,l',e,hf,hm⟩:=aPe (k:=s.l.length) (l:=[]) (R:=u::T3++t::R) hA h1 (by rw [hl]; simp) (lH (by rw [hku]; simp)) (by simp)
 have hy:=a2k (g:=[124]) (s:=v) hf.l hku
 obtain ⟨k,hk1⟩:∃ k,s.l.length=k+1:=⟨s.l.length - 1,by rw [hl]; simp; omega⟩
 obtain ⟨w,l2,e2,hf2,hm2⟩:=aPe (k:=k) (l:=l') (s:=aI v) hB h3 hy.2 (lH (by rw [hk]; simp)) (by rw [hm]; simp)
 refine ⟨2,?_⟩
 unfold sG
 rw [e,hy.1]
 simp only [if_true]
 rw [hk1,e2,a3w (by rw [hf2.l]; exact lH (by rw [hk]; simp))]
 exact ⟨rfl,hf2.l,hf2.n.trans hf.n,hf2.at_.trans hf.at_,hf2.e.trans hf.e,hf2.d.trans hf.d,by show l2.length=2; rw [hm2,hm]; rfl⟩
theorem aZi (n:Int):aRf (jB (a5y n)):=by
 have h:=aHm n
 generalize a5y n=w at h
 simp only [aHe,List.mem_cons,List.not_mem_nil,or_false] at h
 rcases h with rfl | rfl | rfl | rfl | rfl | rfl | rfl | rfl | rfl | rfl
 ·exact .inl ⟨[117],by kernel_rfl,by kernel_rfl⟩
 ·exact .inl ⟨[117],by kernel_rfl,by kernel_rfl⟩
 ·exact .inr ⟨[97],[114],by kernel_rfl,by kernel_rfl,by kernel_rfl⟩
 ·exact .inr ⟨[98],[114],by kernel_rfl,by kernel_rfl,by kernel_rfl⟩
 ·exact .inr ⟨[97],[115],by kernel_rfl,by kernel_rfl,by kernel_rfl⟩
 ·exact .inr ⟨[98],[112],by kernel_rfl,by kernel_rfl,by kernel_rfl⟩
 ·exact .inl ⟨[97],by kernel_rfl,by kernel_rfl⟩
 ·exact .inl ⟨[98],by kernel_rfl,by kernel_rfl⟩
 ·exact .inl ⟨[117],by kernel_rfl,by kernel_rfl⟩
 ·exact .inr ⟨[97],[113],by kernel_rfl,by kernel_rfl,by kernel_rfl⟩
theorem bDh (n:Int):aLq (aHn n):=by
 unfold aHn
 by_cases hb:aBy n 8=true
 ·rw [if_pos hb]; exact aPg (aZi n) (aZi _)
 ·rw [if_neg hb,List.append_nil]; exact aPf (aZi n)
theorem bDi (n:Int):aLq (jB (sT n)):=by
 have h:=b91 n
 generalize sT n=w at h
 simp only [ssT,List.mem_cons,List.not_mem_nil,or_false] at h
 rcases h with rfl | rfl | rfl | rfl
 ·exact aPf (.inl ⟨[97],by kernel_rfl,by kernel_rfl⟩)
 ·exact aPf (.inl ⟨[98],by kernel_rfl,by kernel_rfl⟩)
 ·exact aPg (A:=[(1,[97])]) (B:=[(1,[98])]) (.inl ⟨[97],by kernel_rfl,rfl⟩) (.inl ⟨[98],by kernel_rfl,rfl⟩)
 ·exact aPg (A:=[(1,[117])]) (B:=[(1,[97])]) (.inl ⟨[117],by kernel_rfl,rfl⟩) (.inl ⟨[97],by kernel_rfl,rfl⟩)
def a8o (A:List KT):Prop:=∀ s T R (l:List Rel),T.map kt=A→s.l=T++R→l.length < 200→s.d=0→bDg s R (l.length+1) (cP s l)
theorem aZj {nm:List UInt8} {S:List KT} (hn:p9 nm=true) (hS:aLq S):a8o ([(1,nm),(2,[58])]++S++[(2,[59])]):=by
 intro s T R l hT hl hm hd
 obtain ⟨T',T3,rfl,hT,h3⟩:=oQ hT
 obtain ⟨t,T',rfl,hk1,hT⟩:=eP hT
 obtain ⟨u,T2,rfl,hk2,h2⟩:=eP hT
 obtain ⟨v,T4,rfl,hk3,h4⟩:=eP h3
 obtain rfl:T4=[]:=by simpa using h4
 have hl:s.l=t::(u::(T2++v::R)):=by rw [hl]; simp
 have e1:=rE (R:=u::(T2++v::R)) hl hk1 hn
 have e2:=a3w (g:=[61]) (s:=aI s) (by rw [e1.2]; exact lH (by rw [hk2]; simp))
 have e3:=aHo (g:=[58]) (s:=aI s) e1.2 hk2
 obtain ⟨m,hs⟩:=hS (aI (aI s)) T2 v R h2 e3.2 hk3
 unfold cP
 simp only [zR (show (l.length:Int) < 200 by omega),if_true,e1.1,e2,zuy,if_false,e3.1]
 generalize sG (aI (aI s)) []=r at *
 obtain ⟨b,s1,sb⟩:=r
 obtain ⟨g1,g2,g3,g4,g5,g6,g7⟩:=hs
 simp only at g1 g2 g3 g4 g5 g6 g7
 subst g1
 have e4:=aHo (g:=[59]) (s:=s1) g2 hk3
 simp only [if_true,e4.1]
 exact ⟨rfl,e4.2,g3,g4,g5,g6,by simp⟩
theorem bDj {S:List KT} (hS:aHp 21 0 S) {s:aW} {T R:List gZ} (h1:T.map kt=S) (h2:s.l=T++R) (h3:NoS R) (h4:s.x.length+S.length≤200) (h5:s.d=0):Ate s R S.length (pT s):=by
 unfold pT
 exact hS s T R h1 h2 h3 h4 h5
theorem aZk {nm:List UInt8} {S:List KT} (hn:p9 nm=true) (hS:aHp 21 0 S) (hS2:S.length≤200):a8o ([(1,nm),(2,[61])]++S++[(2,[59])]):=by
 intro s T R l hT hl hm hd
 obtain ⟨T',T3,rfl,hT,h3⟩:=oQ hT
 obtain ⟨t,T',rfl,hk1,hT⟩:=eP hT
 obtain ⟨u,T2,rfl,hk2,h2⟩:=eP hT
 obtain ⟨v,T4,rfl,hk3,h4⟩:=eP h3
 obtain rfl:T4=[]:=by simpa using h4
 have hl:s.l=t::(u::(T2++v::R)):=by rw [hl]; simp
 have e1:=rE (R:=u::(T2++v::R)) hl hk1 hn
 have e2:=a2k (g:=[61]) (s:=aI s) e1.2 hk2
 have hno:NoS (v::R):=by
  refine ⟨⟨lH ?_,lH ?_⟩,lH ?_,lH ?_⟩ <;> rw [hk3] <;> simp
 have hs:=bDj hS (s:={ aI (aI s) with x:=[] }) (T:=T2) (R:=v::R) h2 e2.2 hno (by show 0+S.length≤200; omega) hd
 unfold cP
 simp only [zR (show (l.length:Int) < 200 by omega),if_true,e1.1,e2.1]
 generalize pT { aI (aI s) with x:=[] } = r at *
 obtain ⟨b,s1⟩:=r
 obtain ⟨g1,g2,g3,g4,g5,g6,g7⟩:=hs
 simp only at g1 g2 g3 g4 g5 g6 g7
 subst g1
 have e4:=aHo (g:=[59]) (s:=s1) g2 hk3
 simp only [if_true,e4.1]
 exact ⟨rfl,e4.2,g3,g4,g5,g6,by simp⟩
theorem aZl : ∀ (As : List (List KT)) (s : aW) (T : List gZ) (u : gZ) (R : List gZ) (l : List Rel) (k : Nat),(∀ A ∈ As,a8o A ∧ A.head? ≠ some (2,[125]) ∧ A ≠ []) → T.map kt = As.flatten → s.l = T ++ u :: R → kt u = (2,[125]) → l.length + As.length < 200 → s.d = 0 → s.l.length < k → bDg s R (l.length + As.length) (jF k s l)
 | [],s,T,u,R,l,k,_,hT,hl,hu,_,_,hk=>by
  obtain rfl:T=[]:=by simpa using hT
  obtain ⟨k,rfl⟩:∃ m,k=m+1:=⟨k - 1,by omega⟩
  have e:=a2k (g:=[125]) (s:=s) hl hu
  unfold jF
  simp only [e.1,if_true]
  exact ⟨rfl,e.2,rfl,rfl,rfl,rfl,rfl⟩
 | A::As,s,T,u,R,l,k,hA,hT,hl,hu,hm,hd,hk=>by
  obtain ⟨h1,h2,h3⟩:=hA A (List.mem_cons_self ..)
  rw [List.flatten_cons] at hT
  obtain ⟨T1,T2,rfl,g1,g2⟩:=oQ hT
  obtain ⟨k,rfl⟩:∃ m,k=m+1:=⟨k - 1,by omega⟩
  simp only [zwx] at hm
  have hne:T1≠[]:=by rintro rfl; exact h3 (by simpa using g1.symm)
  have e:=a3w (g:=[125]) (s:=s) (by
   rw [hl]
   cases T1 with
   | nil=>exact absurd rfl hne
   | cons a r =>
    refine lH fun e=>h2 ?_
    rw [← g1,zsx,e]; rfl)
  have hr:=h1 s T1 (T2++u::R) l g1 (by rw [hl,zty]) (by omega) hd
  unfold jF
  simp only [e,zuy,if_false]
  generalize cP s l=r at *
  obtain ⟨b,s1,l1⟩:=r
  obtain ⟨f1,f2,f3,f4,f5,f6,f7⟩:=hr
  simp only at f1 f2 f3 f4 f5 f6 f7
  subst f1
  simp only [if_true]
  have hlen:s1.l.length < k:=by
   rw [f2]
   have:1≤T1.length:=by cases T1 with | nil=>exact absurd rfl hne | cons=>simp
   rw [hl] at hk
   simp only [zwy,zwx] at hk ⊢; omega
  have:=aZl As s1 T2 u R l1 k (fun B hB=>hA B (List.mem_cons_of_mem _ hB)) g2 f2 hu (by omega) (by rw [f6]; exact hd) hlen
  refine ⟨this.ok,this.l,this.n.trans f3,this.at_.trans f4,this.e.trans f5,this.d.trans f6,?_⟩
  rw [this.m,f7,zwx]; omega
end Go.Fbs
namespace Go.Fbs
open Go.Proofs
attribute [local irreducible] pT bK cP
structure bDk (s:aW) (R:List gZ) (r:Bool×aW×gI):Prop where
 ok:r.1=true
 l:r.2.1.l=R
 n:r.2.1.n=s.n
 at_:r.2.1.at_=s.at_
 e:r.2.1.e=s.e
 d:r.2.1.d=s.d
theorem aHq {s:aW} {t:gZ} {R:List gZ} (h:s.l=t::R) (hk:kt t=(1,[116,121,112,101])):a7o s=true∧(aI s).l=R:=by
 simp only [kt,zvy] at hk
 refine ⟨?_,by show s.l.tail=R; rw [h]; rfl⟩
 unfold a7o cH
 rw [h]
 simp [hk.1,hk.2]
theorem bDl {nm:List UInt8} (hn:p9 nm=true) {n:Int} (h200:n < 200) {s:aW} {T R:List gZ} (hT:T.map kt=[(1,[116,121,112,101]),(1,nm)]) (hl:s.l=T++R) (hR:noB [123] R):bDk s R (lE n s):=by
 obtain ⟨t,T',rfl,hk1,hT⟩:=eP hT
 obtain ⟨u,T',rfl,hk2,hT⟩:=eP hT
 obtain rfl:T'=[]:=by simpa using hT
 have hw:=aHq (R:=u::R) hl hk1
 have e1:=rE (R:=R) hw.2 hk2 hn
 have e2:=a3w (g:=[123]) (s:=aI (aI s)) (by rw [e1.2]; exact hR)
 unfold lE
 simp only [zR h200,if_true,hw.1,e1.1,e2,zuy,if_false]
 exact ⟨rfl,e1.2,rfl,rfl,rfl,rfl⟩
theorem b3a {nm : List UInt8} (hn : p9 nm = true) {n : Int} (h200 : n < 200) {As : List (List KT)} (hA : ∀ A ∈ As,a8o A ∧ A.head? ≠ some (2,[125]) ∧ A ≠ []) (hm : As.length < 200) {s : aW} {T R : List gZ}
  (hT:T.map kt=[(1,[116,121,112,101]),(1,nm),(2,[123])]++As.flatten++[(2,[125])]) (hl:s.l=T++R) (hd:s.d=0):bDk s R (lE n s):=by
 obtain ⟨T',T3,rfl,hT,h3⟩:=oQ hT
 obtain ⟨t,T',rfl,hk1,hT⟩:=eP hT
 obtain ⟨u,T',rfl,hk2,hT⟩:=eP hT
 obtain ⟨q,T2,rfl,hk3,h2⟩:=eP hT
 obtain ⟨v,T4,rfl,hk4,h4⟩:=eP h3
 obtain rfl:T4=[]:=by simpa using h4
 have hl:s.l=t::(u::(q::(T2++v::R))):=by rw [hl]; simp
 have hw:=aHq hl hk1
 have e1:=rE hw.2 hk2 hn
 have e2:=a2k (g:=[123]) (s:=aI (aI s)) e1.2 hk3
 have e3:=aZl As (aI (aI (aI s))) T2 v R [] ((aI (aI (aI s))).l.length+1) hA h2 e2.2 hk4 (by simpa using hm) hd (Nat.lt_succ_self _)
 unfold lE
 simp only [zR h200,if_true,hw.1,e1.1,e2.1]
 exact ⟨e3.ok,e3.l,e3.n,e3.at_,e3.e,e3.d⟩
theorem a67 {L:List (List UInt8)} {m:Nat} (h:(L.all fun w=>decide ((jB w).length≤m))=true) {w:List UInt8} (hw:w ∈ L):(jB w).length≤m:=by
 have:=List.all_eq_true.1 h w hw
 simpa using this
theorem b3b (n:Int):(aS5 n).length≤200:=by
 have h1:=a67 (m:=3) (L:=wV) (by kernel_rfl) (rY n)
 have h2:=a67 (m:=3) (L:=wV) (by kernel_rfl) (rY (jA n 8))
 have h3:=a67 (m:=3) (L:=wV) (by kernel_rfl) (rY (jA n 16))
 have h4:=a67 (m:=3) (L:=wV) (by kernel_rfl) (rY (jA n 20))
 have h5:=a67 (m:=2) (L:=aDe) (by kernel_rfl) (aO9 n)
 have h6:=a67 (m:=2) (L:=aHf) (by kernel_rfl) (aZb n)
 unfold aS5 aLl
 split <;> (try split) <;> simp only [zwy,zwx,List.length_nil] <;> omega
def a7r (l:List Int) (i:Nat):List (List KT) :=
 [[(1,[114]),(2,[58])]++aHn (lP l (3*i))++[(2,[59])],[(1,[115]),(2,[58])]++jB (sT (lP l (3*i)))++[(2,[59])],a30 0 (lP l (3*i+1)),a30 1 (lP l (3*i+2))]
theorem aS8 (l : List Int) (i : Nat) : ∀ A ∈ a7r l i,a8o A ∧ A.head? ≠ some (2,[125]) ∧ A ≠ []:=by
 intro A hA
 simp only [a7r,List.mem_cons,List.not_mem_nil,or_false] at hA
 rcases hA with rfl | rfl | rfl | rfl
 ·exact ⟨aZj (by kernel_rfl) (bDh _),by simp,by simp⟩
 ·exact ⟨aZj (by kernel_rfl) (bDi _),by simp,by simp⟩
 ·exact ⟨aZk (nm:=[112]) (by kernel_rfl) (aZh _) (b3b _),by simp [a30],by simp [a30]⟩
 ·exact ⟨aZk (nm:=[113]) (by kernel_rfl) (aZh _) (b3b _),by simp [a30],by simp [a30]⟩
theorem bDm (l:List Int) (i:Nat):aMz l i=[(1,[116,121,112,101]),(1,abT.getD i []),(2,[123])]++(a7r l i).flatten++[(2,[125])]:=by
 simp only [aMz,a7r,List.flatten_cons,List.flatten_nil,zty,List.cons_append,List.nil_append,List.append_nil]
theorem b3c {T:List gZ} {ks:List KT} {R:List gZ} (h:T.map kt=(1,[116,121,112,101])::ks):noB [123] (T++R):=by
 obtain ⟨t,T',rfl,hk,_⟩:=eP h
 exact lH (by rw [hk]; simp)
end Go.Fbs

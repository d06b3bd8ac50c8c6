import Derived.Test.YtngdbicnabbplaaPI
import Derived.Test.YtngdbicnabbplaaPQ
set_option linter.unusedSimpArgs false
set_option linter.unusedVariables false
set_option linter.unusedSectionVars false
set_option maxRecDepth 100000
namespace Go.Fbs
open Go.Proofs
structure Ate (s:bQ) (R:List eP) (c:Nat) (r:Bool×bQ):Prop where
 ok:r.1=true
 l:r.2.l=R
 n:r.2.n=s.n
 at_:r.2.at_=s.at_
 e:r.2.e=s.e
 d:r.2.d=s.d
 x:r.2.x.length≤s.x.length+c
def noB (g : List UInt8) (R : List eP) : Prop:=∀ t,R.head? = some t → kt t ≠ (2,g)
theorem b1u {g:List UInt8} {s:bQ} (h:noB g s.l):uA g s=false:=by
 unfold uA fF
 cases e:s.l with
 | nil=>simp
 | cons t r =>
  have:=h t (by rw [e]; rfl)
  simp only [List.headD_cons]
  by_cases h1:t.1=2
  ·have h2:¬ t.2.2=g:=fun h2=>this (by simp [kt,h1,h2])
   simp [h2]
  ·simp [h1]
theorem bFf {g:List UInt8} {s:bQ} {t:eP} {R:List eP} (h:s.l=t::R) (hk:kt t=(2,g)):uA g s=true:=by
 unfold uA fF
 rw [h]
 simp only [kt,zvy] at hk
 simp [hk.1,hk.2]
theorem bFg {g:List UInt8} {s:bQ} (h:noB g s.l):bX g s=(false,s):=by
 unfold bX; rw [b1u h]; rfl
theorem bCo {g:List UInt8} {s:bQ} {t:eP} {R:List eP} (h:s.l=t::R) (hk:kt t=(2,g)):bX g s=(true,aP s)∧(aP s).l=R:=by
 unfold bX; rw [bFf h hk]; exact ⟨rfl,by show s.l.tail=R; rw [h]; rfl⟩
def a00 (w:List UInt8):Bool:=wY (1,0,w)
theorem aKy {s:bQ} {t:eP} {R:List eP} {w:List UInt8} (h:s.l=t::R) (hk:kt t=(1,w)) (hw:a00 w=true):aX s=(true,aP s,some w)∧(aP s).l=R:=by
 have e:fF s=t:=by unfold fF; rw [h]; rfl
 simp only [kt,zvy] at hk
 have hn:wY (fF s)=true:=by
  rw [e]
  unfold a00 wY at hw
  unfold wY
  rw [hk.1,hk.2]
  exact hw
 rw [b8g hn,e,hk.2]
 exact ⟨rfl,by show s.l.tail=R; rw [h]; rfl⟩
theorem aYw {p:cV} {a:Nat} {s:bQ} (h:s.x.length < 200):jZ p a s=(true,{ s with x:=s.x++[p] }):=by
 unfold jZ; rw [if_neg (by omega)]
theorem oO {T:List eP} {A B:List KT} (h:T.map kt=A++B):∃ T1 T2,T=T1++T2∧T1.map kt=A∧T2.map kt=B:=by
 obtain ⟨T1,T2,rfl,h1,h2⟩:=List.map_eq_append_iff.1 h
 exact ⟨T1,T2,rfl,h1,h2⟩
theorem dN {T:List eP} {a:KT} {B:List KT} (h:T.map kt=a::B):∃ t T2,T=t::T2∧kt t=a∧T2.map kt=B:=by
 obtain ⟨t,T2,rfl,h1,h2⟩:=List.map_eq_cons_iff.1 h
 exact ⟨t,T2,rfl,h1,h2⟩
def b8q (f d:Nat) (A:List KT):Prop:=∀ s T R,T.map kt=A→s.l=T++R→noB [45,62] R→s.x.length+A.length≤200→s.d=d→Ate s R A.length (gR f s)
theorem a4a {f d:Nat} {w:List UInt8} (hw:a00 w=true):b8q (f+1) d [(1,w)]:=by
 intro s T R hT hl hR hx hd
 obtain ⟨t,T',rfl,hk,hT⟩:=dN hT
 obtain rfl:T'=[]:=by simpa using hT
 have hn:=aKy (R:=R) hl hk hw
 have hb:uA [40] s=false:=b1u fun t' h=>by
  rw [hl] at h
  simp only [List.cons_append,List.head?_cons,zzz] at h
  subst h; rw [hk]; simp
 have hm:=bFg (g:=[45,62]) (s:=aP s) (by rw [hn.2]; exact hR)
 simp only [List.length_singleton] at hx
 have hp:=aYw (p:=(1,w,[])) (a:=(fF s).2.1) (s:=aP s) (by show s.x.length < 200; omega)
 show Ate s R 1 (lW _ s)
 unfold lW
 rw [hb]
 simp only [zuy,if_false,hn.1,if_true,hm,Option.getD_some,hp]
 exact ⟨rfl,hn.2,rfl,rfl,rfl,rfl,by simp [aP]⟩
theorem aQj {f d:Nat} {w v:List UInt8} (hw:a00 w=true) (hv:a00 v=true):b8q (f+1) d [(1,w),(2,[45,62]),(1,v)]:=by
 intro s T R hT hl hR hx hd
 obtain ⟨t,T',rfl,hk,hT⟩:=dN hT
 obtain ⟨u,T',rfl,hk2,hT⟩:=dN hT
 obtain ⟨q,T',rfl,hk3,hT⟩:=dN hT
 obtain rfl:T'=[]:=by simpa using hT
 have hn:=aKy (R:=u::q::R) hl hk hw
 have hb:uA [40] s=false:=b1u fun t' h=>by
  rw [hl] at h
  simp only [List.cons_append,List.head?_cons,zzz] at h
  subst h; rw [hk]; simp
 have hm:=bCo (g:=[45,62]) (s:=aP s) hn.2 hk2
 have hn2:=aKy (s:=aP (aP s)) hm.2 hk3 hv
 simp only [zwx,List.length_nil] at hx
 have hp:=aYw (p:=(2,w,v)) (a:=(fF s).2.1) (s:=aP (aP (aP s))) (by show s.x.length < 200; omega)
 show Ate s R 3 (lW _ s)
 unfold lW
 rw [hb]
 simp only [zuy,if_false,hn.1,if_true,hm.1,hn2.1,Option.getD_some,hp]
 exact ⟨rfl,hn2.2,rfl,rfl,rfl,rfl,by simp [aP]⟩
structure NoT (R:List eP):Prop where
 a:noB [45,62] R
 b:noB [38] R
structure NoS (R:List eP):Prop where
 t:NoT R
 p:noB [43] R
 m:noB [45] R
theorem iJ {g:List UInt8} {t:eP} {R:List eP} (h:kt t≠(2,g)):noB g (t::R):=fun t' e=>by
 simp only [List.head?_cons,zzz] at e; subst e; exact h
def aKz (C : List KT) : Prop:=C.head? ≠ some (2,[45,62])
theorem b42 {T R:List eP} {C:List KT} (hT:T.map kt=C) (hC:aKz C) (hR:noB [45,62] R):noB [45,62] (T++R):=by
 cases T with
 | nil=>exact hR
 | cons t r =>
  refine iJ fun e=>hC ?_
  rw [← hT,zsx,e]; rfl
def hdT (C : List KT) : Prop:=C.head? ≠ some (2,[45,62]) ∧ C.head? ≠ some (2,[38])
theorem b43 {T R:List eP} {C:List KT} (hT:T.map kt=C) (hC:hdT C) (hR:NoT R):NoT (T++R):=by
 cases T with
 | nil=>exact hR
 | cons t r =>
  refine ⟨iJ fun e=>hC.1 ?_,iJ fun e=>hC.2 ?_⟩ <;> rw [← hT,zsx,e] <;> rfl
end Go.Fbs

namespace Go.Fbs
open Go.Proofs
def isOp (g:List UInt8):Prop:=g=[43]∨g=[45]∨g=[38]
theorem b1v {g:List UInt8} (h:isOp g) (C:List KT):aKz ((2,g)::C):=by
 unfold aKz; rcases h with rfl | rfl | rfl <;> simp
theorem aUv:aKz []:=by unfold aKz; simp
theorem aO1:hdT []:=by unfold hdT; simp
theorem aUw {g:List UInt8} (h:g=[43]∨g=[45]) (C:List KT):hdT ((2,g)::C):=by
 unfold hdT; rcases h with rfl | rfl <;> simp
theorem aSb {g:List UInt8} (h:isOp g):(g=[43]∨g=[45])∨g=[38]:=by
 rcases h with h | h | h
 ·exact .inl (.inl h)
 ·exact .inl (.inr h)
 ·exact .inr h
theorem bKp {f d:Nat} (n:Int):b8q (f+1) d (eV (oS n)):=by
 have h:=jT n
 generalize oS n=w at h
 simp only [rD,List.mem_cons,List.not_mem_nil,or_false] at h
 rcases h with rfl | rfl | rfl | rfl | rfl | rfl | rfl | rfl
 ·exact a4a (w:=[114]) (by kernel_rfl)
 ·exact a4a (w:=[115]) (by kernel_rfl)
 ·exact a4a (w:=[114]) (by kernel_rfl)
 ·exact a4a (w:=[115]) (by kernel_rfl)
 ·exact aQj (w:=[115]) (v:=[114]) (by kernel_rfl) (by kernel_rfl)
 ·exact aQj (w:=[115]) (v:=[112]) (by kernel_rfl) (by kernel_rfl)
 ·exact a4a (w:=[112]) (by kernel_rfl)
 ·exact a4a (w:=[113]) (by kernel_rfl)
theorem bFh (n:Int):∃ g,isOp g∧eV (aGr n)=[(2,g)]:=by
 have h:=aC9 n
 generalize aGr n=w at h
 simp only [a6z,List.mem_cons,List.not_mem_nil,or_false] at h
 rcases h with rfl | rfl | rfl | rfl
 ·exact ⟨[43],.inl rfl,by kernel_rfl⟩
 ·exact ⟨[38],.inr (.inr rfl),by kernel_rfl⟩
 ·exact ⟨[45],.inr (.inl rfl),by kernel_rfl⟩
 ·exact ⟨[43],.inl rfl,by kernel_rfl⟩
theorem bFi (n:Int):if decide ((((gG n 13) % 4).toNat:Int)=3)=true then eV (aC6 n)=[(2,[45]),(2,[40])] else ∃ g,isOp g∧eV (aC6 n)=[(2,g)]:=by
 unfold aC6
 have h:=m4 (gG n 13)
 generalize ((gG n 13) % 4).toNat=k at h
 match k,h with
 | 0,_=>exact ⟨[43],.inl rfl,by kernel_rfl⟩
 | 1,_=>exact ⟨[38],.inr (.inr rfl),by kernel_rfl⟩
 | 2,_=>exact ⟨[45],.inr (.inl rfl),by kernel_rfl⟩
 | 3,_=>show eV [32,45,32,40]=_; kernel_rfl
end Go.Fbs

namespace Go.Fbs
open Go.Proofs
def dR (s:aY):List eP:=s.l.drop s.i
structure aK0 (s:aY) (R:List eP) (c:Nat) (r:Option aY):Prop where
 ex:∃ t,r=some t∧dR t=R∧t.d=s.d∧t.o.length≤s.o.length+c
theorem aBl {s : aY} {t : eP} {R : List eP} (h : dR s = t :: R) : s.l[s.i]? = some t ∧ dR (aE s) = R:=by
 unfold dR at h
 have h1 : (s.l.drop s.i)[0]? = some t:=by rw [h]; rfl
 rw [List.getElem?_drop,Nat.add_zero] at h1
 refine ⟨h1,?_⟩
 show s.l.drop (s.i+1)=R
 rw [← List.drop_drop,h]; rfl
theorem b44 {s : aY} (h : dR s = []) : s.l[s.i]? = none:=by
 unfold dR at h
 have h1 : (s.l.drop s.i)[0]? = none:=by rw [h]; rfl
 rw [List.getElem?_drop,Nat.add_zero] at h1
 exact h1
theorem aDg (s:aY):(dR s).length≤s.l.length:=by unfold dR; rw [List.length_drop]; omega
theorem x8 {g:List UInt8} {s:aY} (h:noB g (dR s)):fC g s=false:=by
 unfold fC
 cases e:dR s with
 | nil=>rw [b44 e]
 | cons t r =>
  rw [(aBl e).1]
  have:=h t (by rw [e]; rfl)
  by_cases h1:t.1=2
  ·have h2:¬ t.2.2=g:=fun h2=>this (by simp [kt,h1,h2])
   simp [h2]
  ·simp [h1]
theorem p9 {g:List UInt8} {s:aY} {t:eP} {R:List eP} (h:dR s=t::R) (hk:kt t=(2,g)):fC g s=true∧dR (aE s)=R:=by
 obtain ⟨h1,h2⟩:=aBl h
 refine ⟨?_,h2⟩
 unfold fC
 rw [h1]
 simp only [kt,zvy] at hk
 simp [hk.1,hk.2]
def a01 (w:List UInt8):Bool:=a38 w && decide (w.length≤1000)
theorem rU {s:aY} {t:eP} {R:List eP} {w:List UInt8} (h:dR s=t::R) (hk:kt t=(1,w)) (hw:a01 w=true):kF s=some w∧dR (aE s)=R:=by
 obtain ⟨h1,h2⟩:=aBl h
 refine ⟨?_,h2⟩
 unfold kF
 rw [h1]
 simp only [kt,zvy] at hk
 simp only [a01,zxz,decide_eq_true_eq] at hw
 simp only
 rw [if_pos ⟨hk.1,by rw [hk.2]; exact hw.1,by rw [hk.2]; unfold mL; omega⟩,hk.2]
theorem aDh {p:cV} {s:aY} (h:s.o.length < 200):a8c p s=some { s with o:=s.o++[p] }:=by
 unfold a8c; rw [if_pos h]
def xX (f d:Nat) (A:List KT):Prop:=∀ s T R,T.map kt=A→dR s=T++R→noB [45,62] R→s.o.length+A.length≤200→s.d=d→aK0 s R A.length (j4 f s)
theorem a1r {f d:Nat} {w:List UInt8} (hw:a01 w=true):xX (f+1) d [(1,w)]:=by
 intro s T R hT hl hR hx hd
 obtain ⟨t,T',rfl,hk,hT⟩:=dN hT
 obtain rfl:T'=[]:=by simpa using hT
 have hn:=rU (R:=R) hl hk hw
 have hb:fC [40] s=false:=x8 (by rw [hl]; exact iJ (by rw [hk]; simp))
 have hm:fC [45,62] (aE s)=false:=x8 (by rw [hn.2]; exact hR)
 simp only [List.length_singleton] at hx
 show aK0 s R 1 (p8 _ s)
 unfold p8
 rw [hb,hn.1,Option.bind_some,hm]
 simp only [zuy,if_false]
 rw [aDh (by show s.o.length < 200; omega)]
 exact ⟨_,rfl,hn.2,rfl,by simp [aE]⟩
theorem aM7 {f d:Nat} {w v:List UInt8} (hw:a01 w=true) (hv:a01 v=true):xX (f+1) d [(1,w),(2,[45,62]),(1,v)]:=by
 intro s T R hT hl hR hx hd
 obtain ⟨t,T',rfl,hk,hT⟩:=dN hT
 obtain ⟨u,T',rfl,hk2,hT⟩:=dN hT
 obtain ⟨q,T',rfl,hk3,hT⟩:=dN hT
 obtain rfl:T'=[]:=by simpa using hT
 have hn:=rU (R:=u::q::R) hl hk hw
 have hb:fC [40] s=false:=x8 (by rw [hl]; exact iJ (by rw [hk]; simp))
 have hm:=p9 (g:=[45,62]) hn.2 hk2
 have hn2:=rU hm.2 hk3 hv
 simp only [zwx,List.length_nil] at hx
 show aK0 s R 3 (p8 _ s)
 unfold p8
 rw [hb,hn.1,Option.bind_some,hm.1]
 simp only [zuy,if_false,if_true]
 rw [hn2.1,Option.bind_some,aDh (by show s.o.length < 200; omega)]
 exact ⟨_,rfl,hn2.2,rfl,by simp [aE]⟩
def aM8 (f d:Nat) (A:List KT):Prop:=∀ k s T R,T.map kt=A→dR s=T++R→NoT R→s.o.length+A.length≤200→s.d=d→(dR s).length < k→aK0 s R A.length (jU (j4 f) k s)
theorem aG0 {f d:Nat} : aM8 f d []:=by
 intro k s T R hT hl hR hx hd hk
 obtain rfl:T=[]:=by simpa using hT
 simp only [List.nil_append] at hl
 obtain ⟨k,rfl⟩:∃ m,k=m+1:=⟨k - 1,by omega⟩
 unfold jU
 rw [x8 (by rw [hl]; exact hR.b)]
 exact ⟨_,rfl,hl,rfl,by simp⟩
theorem aDi {f d:Nat} {B C:List KT} (hB:xX f d B) (hC:aM8 f d C) (hc:aKz C):aM8 f d ((2,[38])::(B++C)):=by
 intro k s T R hT hl hR hx hd hk
 obtain ⟨t,T',rfl,hkt,hT⟩:=dN hT
 obtain ⟨T1,T2,rfl,h1,h2⟩:=oO hT
 simp only [zwx,zwy] at hx
 obtain ⟨k,rfl⟩:∃ m,k=m+1:=⟨k - 1,by omega⟩
 have hm:=p9 (g:=[38]) (R:=T1++T2++R) hl hkt
 obtain ⟨s1,e1,g2,g3,g4⟩:=(hB (aE s) T1 (T2++R) h1 (by rw [hm.2,zty]) (b42 h2 hc hR.a) (by show s.o.length+_≤200; omega) hd).ex
 have g4':s1.o.length≤s.o.length+B.length:=g4
 have g3':s1.d=s.d:=g3
 unfold jU
 rw [if_pos hm.1,e1,Option.bind_some,aDh (by omega),Option.bind_some]
 have hl1:(dR s1).length < k:=by
  rw [hl] at hk
  simp only [zwy,zwx] at hk
  rw [g2]; simp only [zwy]; omega
 obtain ⟨s2,e2,q2,q3,q4⟩:=(hC k { s1 with o:=s1.o++[(5,[],[])] } T2 R h2 g2 hR (by simp only [zwy,List.length_singleton]; omega) (by show s1.d=d; omega) hl1).ex
 simp only [zwy,List.length_singleton] at q4
 exact ⟨s2,e2,q2,by show s2.d=s.d; rw [q3]; exact g3',by simp only [zwx,zwy]; omega⟩
def a9r (f d:Nat) (A:List KT):Prop:=∀ s T R,T.map kt=A→dR s=T++R→NoT R→s.o.length+A.length≤200→s.d=d→aK0 s R A.length (wZ (j4 f) s)
theorem aG1 {f d:Nat} {A C:List KT} (hA:xX f d A) (hC:aM8 f d C) (hc:aKz C):a9r f d (A++C):=by
 intro s T R hT hl hR hx hd
 obtain ⟨T1,T2,rfl,h1,h2⟩:=oO hT
 simp only [zwy] at hx
 obtain ⟨s1,e1,g2,g3,g4⟩:=(hA s T1 (T2++R) h1 (by rw [hl,zty]) (b42 h2 hc hR.a) (by omega) hd).ex
 obtain ⟨s2,e2,q2,q3,q4⟩:=(hC (s1.l.length+1) s1 T2 R h2 g2 hR (by omega) (by omega) (Nat.lt_succ_of_le (aDg s1))).ex
 refine ⟨s2,?_,q2,by omega,by simp only [zwy]; omega⟩
 show (j4 f s).bind (fun r=>jU (j4 f) (r.l.length+1) r)=some s2
 rw [e1,Option.bind_some,e2]
def aM9 (f d:Nat) (A:List KT):Prop:=∀ k s T R,T.map kt=A→dR s=T++R→NoS R→s.o.length+A.length≤200→s.d=d→(dR s).length < k→aK0 s R A.length (lZ (wZ (j4 f)) k s)
theorem aG2 {f d:Nat} : aM9 f d []:=by
 intro k s T R hT hl hR hx hd hk
 obtain rfl:T=[]:=by simpa using hT
 simp only [List.nil_append] at hl
 obtain ⟨k,rfl⟩:∃ m,k=m+1:=⟨k - 1,by omega⟩
 unfold lZ
 rw [x8 (g:=[43]) (by rw [hl]; exact hR.p),x8 (g:=[45]) (by rw [hl]; exact hR.m)]
 exact ⟨_,rfl,hl,rfl,by simp⟩
theorem aDj {f d:Nat} {g:List UInt8} {B C:List KT} (hg:g=[43]∨g=[45]) (hB:a9r f d B) (hC:aM9 f d C) (hc:hdT C):aM9 f d ((2,g)::(B++C)):=by
 intro k s T R hT hl hR hx hd hk
 obtain ⟨t,T',rfl,hkt,hT⟩:=dN hT
 obtain ⟨T1,T2,rfl,h1,h2⟩:=oO hT
 simp only [zwx,zwy] at hx
 obtain ⟨k,rfl⟩:∃ m,k=m+1:=⟨k - 1,by omega⟩
 have hm:dR (aE s)=T1++T2++R:=(aBl hl).2
 have hi:(fC [43] s || fC [45] s)=true:=by
  rcases hg with rfl | rfl
  ·rw [(p9 hl hkt).1]; rfl
  ·rw [(p9 (g:=[45]) hl hkt).1]; simp
 obtain ⟨s1,e1,g2,g3,g4⟩:=(hB (aE s) T1 (T2++R) h1 (by rw [hm,zty]) (b43 h2 hc hR.t) (by show s.o.length+_≤200; omega) hd).ex
 have g4':s1.o.length≤s.o.length+B.length:=g4
 have g3':s1.d=s.d:=g3
 unfold lZ
 rw [if_pos hi,e1,Option.bind_some,aDh (by omega),Option.bind_some]
 have hl1:(dR s1).length < k:=by
  rw [hl] at hk
  simp only [zwy,zwx] at hk
  rw [g2]; simp only [zwy]; omega
 generalize ((if fC [45] s=true then 4 else 3,[],[]):cV)=st
 obtain ⟨s2,e2,q2,q3,q4⟩:=(hC k { s1 with o:=s1.o++[st] } T2 R h2 g2 hR (by simp only [zwy,List.length_singleton]; omega) (by show s1.d=d; omega) hl1).ex
 simp only [zwy,List.length_singleton] at q4
 exact ⟨s2,e2,q2,by show s2.d=s.d; rw [q3]; exact g3',by simp only [zwx,zwy]; omega⟩
def a9s (f d:Nat) (A:List KT):Prop:=∀ s T R,T.map kt=A→dR s=T++R→NoS R→s.o.length+A.length≤200→s.d=d→aK0 s R A.length (a5i (wZ (j4 f)) s)
theorem aK1 {f d:Nat} {A C:List KT} (hA:a9r f d A) (hC:aM9 f d C) (hc:hdT C):a9s f d (A++C):=by
 intro s T R hT hl hR hx hd
 obtain ⟨T1,T2,rfl,h1,h2⟩:=oO hT
 simp only [zwy] at hx
 obtain ⟨s1,e1,g2,g3,g4⟩:=(hA s T1 (T2++R) h1 (by rw [hl,zty]) (b43 h2 hc hR.t) (by omega) hd).ex
 obtain ⟨s2,e2,q2,q3,q4⟩:=(hC (s1.l.length+1) s1 T2 R h2 g2 hR (by omega) (by omega) (Nat.lt_succ_of_le (aDg s1))).ex
 refine ⟨s2,?_,q2,by omega,by simp only [zwy]; omega⟩
 show (wZ (j4 f) s).bind (fun r=>lZ (wZ (j4 f)) (r.l.length+1) r)=some s2
 rw [e1,Option.bind_some,e2]
theorem b1w {f d:Nat} {A:List KT} (hd20:d≠20) (hA:a9s f (d+1) A):xX (f+1) d ((2,[40])::(A++[(2,[41])])):=by
 intro s T R hT hl hR hx hd
 obtain ⟨t,T',rfl,hkt,hT⟩:=dN hT
 obtain ⟨T1,T2,rfl,h1,h2⟩:=oO hT
 obtain ⟨u,T3,rfl,hku,h3⟩:=dN h2
 obtain rfl:T3=[]:=by simpa using h3
 simp only [zwx,zwy,List.length_nil] at hx
 have hy:=p9 (g:=[40]) hl hkt
 have hm:dR { s with i:=s.i+1,d:=s.d+1 } = T1++([u]++R):=by
  have:dR { s with i:=s.i+1,d:=s.d+1 } = dR (aE s):=rfl
  rw [this,hy.2]; simp
 have hno:NoS ([u]++R):=by
  refine ⟨⟨iJ ?_,iJ ?_⟩,iJ ?_,iJ ?_⟩ <;> rw [hku] <;> simp
 obtain ⟨s1,e1,g2,g3,g4⟩:=(hA { s with i:=s.i+1,d:=s.d+1 } T1 ([u]++R) h1 hm hno (by show s.o.length+_≤200; omega) (by show s.d+1=d+1; omega)).ex
 have g3':s1.d=s.d+1:=g3
 have hs:=p9 (g:=[41]) (s:=s1) (R:=R) (t:=u) g2 hku
 refine ⟨{ s1 with i:=s1.i+1,d:=s1.d - 1 },?_,hs.2,by show s1.d - 1=s.d; omega,?_⟩
 ·show p8 (a5i (wZ (j4 f))) s=_
  unfold p8
  rw [if_pos hy.1,if_neg (by omega),e1,Option.bind_some,if_pos hs.1]
 ·have g4':s1.o.length≤s.o.length+A.length:=g4
  show s1.o.length≤_
  simp only [zwx,zwy,List.length_nil]; omega
theorem a4b {f d:Nat} {A:List KT} (hA:xX f d A):a9r f d A:=by
 have:=aG1 hA aG0 aUv
 rwa [List.append_nil] at this
theorem aIe {f d:Nat} {A B:List KT} (hA:xX f d A) (hB:xX f d B):a9r f d (A++(2,[38])::B):=by
 have:=aG1 hA (aDi hB aG0 aUv) (b1v (.inr (.inr rfl)) _)
 rwa [List.append_nil] at this
theorem aO2 {f d:Nat} {A:List KT} (hA:a9r f d A):a9s f d A:=by
 have:=aK1 hA aG2 aO1
 rwa [List.append_nil] at this
theorem aO3 {f d:Nat} {g:List UInt8} (hg:g=[43]∨g=[45]) {A B:List KT} (hA:a9r f d A) (hB:a9r f d B):a9s f d (A++(2,g)::B):=by
 have:=aK1 hA (aDj hg hB aG2 aO1) (aUw hg _)
 rwa [List.append_nil] at this
theorem b8r {f d:Nat} {g:List UInt8} (hg:isOp g) {A B:List KT} (hA:xX f d A) (hB:xX f d B):a9s f d (A++(2,g)::B):=by
 rcases aSb hg with h | rfl
 ·exact aO3 h (a4b hA) (a4b hB)
 ·exact aO2 (aIe hA hB)
theorem aNa {f d:Nat} {g h:List UInt8} (hg:isOp g) (hh:isOp h) {A B C:List KT} (hA:xX f d A) (hB:xX f d B) (hC:xX f d C):a9s f d (A++(2,g)::(B++(2,h)::C)):=by
 rcases aSb hg with h1 | rfl
 ·rcases aSb hh with h2 | rfl
  ·have:=aK1 (a4b hA) (aDj h1 (a4b hB) (aDj h2 (a4b hC) aG2 aO1) (aUw h2 _)) (aUw h1 _)
   rwa [List.append_nil] at this
  ·exact aO3 h1 (a4b hA) (aIe hB hC)
 ·rcases aSb hh with h2 | rfl
  ·have:=aO3 h2 (aIe hA hB) (a4b hC)
   simpa only [zty,List.cons_append] using this
  ·have:=aG1 hA (aDi hB (aDi hC aG0 aUv) (b1v (.inr (.inr rfl)) _)) (b1v (.inr (.inr rfl)) _)
   rw [List.append_nil] at this
   exact aO2 this
theorem zK {f d:Nat} (n:Int):xX (f+1) d (eV (oS n)):=by
 have h:=jT n
 generalize oS n=w at h
 simp only [rD,List.mem_cons,List.not_mem_nil,or_false] at h
 rcases h with rfl | rfl | rfl | rfl | rfl | rfl | rfl | rfl
 ·exact a1r (w:=[114]) (by kernel_rfl)
 ·exact a1r (w:=[115]) (by kernel_rfl)
 ·exact a1r (w:=[114]) (by kernel_rfl)
 ·exact a1r (w:=[115]) (by kernel_rfl)
 ·exact aM7 (w:=[115]) (v:=[114]) (by kernel_rfl) (by kernel_rfl)
 ·exact aM7 (w:=[115]) (v:=[112]) (by kernel_rfl) (by kernel_rfl)
 ·exact a1r (w:=[112]) (by kernel_rfl)
 ·exact a1r (w:=[113]) (by kernel_rfl)
theorem aQk (n:Int):a9s 21 0 (aKv n):=by
 obtain ⟨g,hg,e1⟩:=bFh n
 unfold aKv aBi
 rw [e1]
 by_cases hb:a79 n 12=true
 ·rw [if_pos hb]
  have h2:=bFi n
  by_cases h3:decide ((((gG n 13) % 4).toNat:Int)=3)=true
  ·rw [if_pos h3] at h2
   rw [if_pos h3,h2]
   have hp:=b1w (f:=20) (d:=0) (by omega) (aO2 (aIe (zK (f:=19) (d:=0+1) (gG n 16)) (zK (gG n 20))))
   have:=aNa hg (.inr (.inl rfl)) (zK (f:=20) (d:=0) n) (zK (gG n 8)) hp
   simpa only [zty,List.cons_append,List.nil_append] using this
  ·rw [if_neg h3] at h2
   obtain ⟨h,hh,e2⟩:=h2
   rw [if_neg h3,e2]
   have:=aNa hg hh (zK (f:=20) (d:=0) n) (zK (gG n 8)) (zK (gG n 16))
   simpa only [zty,List.cons_append,List.nil_append,List.append_nil] using this
 ·rw [if_neg hb]
  have:=b8r hg (zK (f:=20) (d:=0) n) (zK (gG n 8))
  simpa only [zty,List.cons_append,List.nil_append,List.append_nil] using this
end Go.Fbs

namespace Go.Fbs
open Go.Proofs
attribute [local irreducible] sP gR
structure bKz {α:Type} (s:bQ) (R:List eP) (m:Nat) (r:Bool×bQ×List α):Prop where
 ok:r.1=true
 l:r.2.1.l=R
 n:r.2.1.n=s.n
 at_:r.2.1.at_=s.at_
 e:r.2.1.e=s.e
 d:r.2.1.d=s.d
 m:r.2.2.length=m
structure Far (s t:bQ) (R:List eP):Prop where
 l:t.l=R
 n:t.n=s.n
 at_:t.at_=s.at_
 e:t.e=s.e
 d:t.d=s.d
end Go.Fbs

namespace Go.Fbs
open Go.Proofs
attribute [local irreducible] sP gR gS
structure bK0 (s:bQ) (R:List eP) (r:Bool×bQ×fM):Prop where
 ok:r.1=true
 l:r.2.1.l=R
 n:r.2.1.n=s.n
 at_:r.2.1.at_=s.at_
 e:r.2.1.e=s.e
 d:r.2.1.d=s.d
theorem a4c {L:List (List UInt8)} {m:Nat} (h:(L.all fun w=>decide ((eV w).length≤m))=true) {w:List UInt8} (hw:w ∈ L):(eV w).length≤m:=by
 have:=List.all_eq_true.1 h w hw
 simpa using this
theorem aYy (n:Int):(aKv n).length≤200:=by
 have h1:=a4c (m:=3) (L:=rD) (by kernel_rfl) (jT n)
 have h2:=a4c (m:=3) (L:=rD) (by kernel_rfl) (jT (gG n 8))
 have h3:=a4c (m:=3) (L:=rD) (by kernel_rfl) (jT (gG n 16))
 have h4:=a4c (m:=3) (L:=rD) (by kernel_rfl) (jT (gG n 20))
 have h5:=a4c (m:=2) (L:=a6z) (by kernel_rfl) (aC9 n)
 have h6:=a4c (m:=2) (L:=a9m) (by kernel_rfl) (aKu n)
 unfold aKv aBi
 split <;> (try split) <;> simp only [zwy,zwx,List.length_nil] <;> omega
theorem bCp {T:List eP} {ks:List KT} {R:List eP} (h:T.map kt=(1,[116,121,112,101])::ks):noB [123] (T++R):=by
 obtain ⟨t,T',rfl,hk,_⟩:=dN h
 exact iJ (by rw [hk]; simp)
end Go.Fbs

namespace Go.Fbs
open Go.Proofs
def aG3 (A:List KT):Prop:=(∃ a,a01 a=true∧A=[(1,a)])∨∃ a b,a01 a=true∧a01 b=true∧A=[(1,a),(2,[35]),(1,b)]
theorem aG4 {A:List KT} (hA:aG3 A) {s:aY} {T R:List eP} (hT:T.map kt=A) (hl:dR s=T++R) (hR:noB [35] R):∃ u sb,aId s=some (u,sb)∧dR u=R∧u.d=s.d:=by
 rcases hA with ⟨a,ha,rfl⟩ | ⟨a,b,ha,hb,rfl⟩
 ·obtain ⟨t,T',rfl,hk,hT⟩:=dN hT
  obtain rfl:T'=[]:=by simpa using hT
  have hn:=rU (R:=R) hl hk ha
  have hm:fC [35] (aE s)=false:=x8 (by rw [hn.2]; exact hR)
  refine ⟨aE s,(a,[],[]),?_,hn.2,rfl⟩
  unfold aId
  rw [hn.1,Option.bind_some,hm]
  simp
 ·obtain ⟨t,T',rfl,hk,hT⟩:=dN hT
  obtain ⟨u,T',rfl,hk2,hT⟩:=dN hT
  obtain ⟨q,T',rfl,hk3,hT⟩:=dN hT
  obtain rfl:T'=[]:=by simpa using hT
  have hn:=rU (R:=u::q::R) hl hk ha
  have hm:=p9 (g:=[35]) hn.2 hk2
  have hn2:=rU hm.2 hk3 hb
  refine ⟨_,(a,[],b),?_,hn2.2,rfl⟩
  unfold aId
  rw [hn.1,Option.bind_some,if_pos hm.1,hn2.1,Option.bind_some]
def aBm (S:List KT):Prop:=∀ s T t R k,T.map kt=S→dR s=T++t::R→kt t=(2,[59])→(dR s).length < k→∃ u l,pZ k s []=some (u,l)∧dR u=R∧u.d=s.d
theorem aG5 {A:List KT} (hA:aG3 A):aBm A:=by
 intro s T t R k hT hl ht hk
 obtain ⟨u,sb,e1,e2,e3⟩:=aG4 hA hT hl (iJ (by rw [ht]; simp))
 obtain ⟨k,rfl⟩:∃ m,k=m+1:=⟨k - 1,by omega⟩
 have h1:fC [124] u=false:=x8 (by rw [e2]; exact iJ (by rw [ht]; simp))
 have h2:=p9 (g:=[59]) e2 ht
 refine ⟨aE u,[sb],?_,h2.2,e3⟩
 unfold pZ
 rw [if_neg (by simp),e1,Option.bind_some]
 simp only [h1,zuy,if_false,h2.1,if_true,List.nil_append]
theorem aG6 {A B:List KT} (hA:aG3 A) (hB:aG3 B):aBm (A++(2,[124])::B):=by
 intro s T t R k hT hl ht hk
 obtain ⟨T1,T2,rfl,h1,h2⟩:=oO hT
 obtain ⟨v,T3,rfl,hv,h3⟩:=dN h2
 obtain ⟨u,sb,e1,e2,e3⟩:=aG4 (R:=v::(T3++t::R)) hA h1 (by rw [hl]; simp) (iJ (by rw [hv]; simp))
 obtain ⟨k,rfl⟩:∃ m,k=m+1:=⟨k - 1,by omega⟩
 have hy:=p9 (g:=[124]) e2 hv
 obtain ⟨u2,sb2,f1,f2,f3⟩:=aG4 hB h3 hy.2 (iJ (by rw [ht]; simp))
 have hlen:(dR s).length=T1.length+(1+(T3.length+(1+R.length))):=by rw [hl]; simp; omega
 obtain ⟨k,rfl⟩:∃ m,k=m+1:=⟨k - 1,by omega⟩
 have h4:fC [124] u2=false:=x8 (by rw [f2]; exact iJ (by rw [ht]; simp))
 have h5:=p9 (g:=[59]) f2 ht
 refine ⟨aE u2,[sb,sb2],?_,h5.2,f3.trans e3⟩
 unfold pZ
 rw [if_neg (by simp),e1,Option.bind_some]
 simp only [hy.1,if_true]
 unfold pZ
 rw [if_neg (by simp),f1,Option.bind_some]
 simp only [h4,zuy,if_false,h5.1,if_true,List.nil_append,List.singleton_append]
theorem aO4 (n:Int):aG3 (eV (a2x n)):=by
 have h:=a36 n
 generalize a2x n=w at h
 simp only [a9l,List.mem_cons,List.not_mem_nil,or_false] at h
 rcases h with rfl | rfl | rfl | rfl | rfl | rfl | rfl | rfl | rfl | rfl
 ·exact .inl ⟨[117],by kernel_rfl,by kernel_rfl⟩
 ·exact .inl ⟨[117],by kernel_rfl,by kernel_rfl⟩
 ·exact .inr ⟨[97],[114],by kernel_rfl,by kernel_rfl,by kernel_rfl⟩
 ·exact .inr ⟨[98],[114],by kernel_rfl,by kernel_rfl,by kernel_rfl⟩
 ·exact .inr ⟨[97],[115],by kernel_rfl,by kernel_rfl,by kernel_rfl⟩
 ·exact .inr ⟨[98],[112],by kernel_rfl,by kernel_rfl,by kernel_rfl⟩
 ·exact .inl ⟨[97],by kernel_rfl,by kernel_rfl⟩
 ·exact .inl ⟨[98],by kernel_rfl,by kernel_rfl⟩
 ·exact .inl ⟨[117],by kernel_rfl,by kernel_rfl⟩
 ·exact .inr ⟨[97],[113],by kernel_rfl,by kernel_rfl,by kernel_rfl⟩
theorem b45 (n:Int):aBm (aDa n):=by
 unfold aDa
 by_cases hb:a79 n 8=true
 ·rw [if_pos hb]; exact aG6 (aO4 n) (aO4 _)
 ·rw [if_neg hb,List.append_nil]; exact aG5 (aO4 n)
theorem b46 (n:Int):aBm (eV (sT n)):=by
 have h:=aUm n
 generalize sT n=w at h
 simp only [ssT,List.mem_cons,List.not_mem_nil,or_false] at h
 rcases h with rfl | rfl | rfl | rfl
 ·exact aG5 (.inl ⟨[97],by kernel_rfl,by kernel_rfl⟩)
 ·exact aG5 (.inl ⟨[98],by kernel_rfl,by kernel_rfl⟩)
 ·exact aG6 (A:=[(1,[97])]) (B:=[(1,[98])]) (.inl ⟨[97],by kernel_rfl,rfl⟩) (.inl ⟨[98],by kernel_rfl,rfl⟩)
 ·exact aG6 (A:=[(1,[117])]) (B:=[(1,[97])]) (.inl ⟨[117],by kernel_rfl,rfl⟩) (.inl ⟨[97],by kernel_rfl,rfl⟩)
def aBn (q:List UInt8×List KT):Prop:=∀ s T R,T.map kt=q.2→dR s=T++R→s.d=0→∃ u r,wD s=some (u,r)∧r.1=q.1∧dR u=R∧u.d=0
theorem aQl {nm:List UInt8} {S:List KT} (hn:a01 nm=true) (hS:aBm S):aBn (nm,[(1,nm),(2,[58])]++S++[(2,[59])]):=by
 intro s T R hT hl hd
 obtain ⟨T',T3,rfl,hT,h3⟩:=oO hT
 obtain ⟨t,T',rfl,hk1,hT⟩:=dN hT
 obtain ⟨u,T2,rfl,hk2,h2⟩:=dN hT
 obtain ⟨v,T4,rfl,hk3,h4⟩:=dN h3
 obtain rfl:T4=[]:=by simpa using h4
 have hl:dR s=t::(u::(T2++v::R)):=by rw [hl]; simp
 have e1:=rU (R:=u::(T2++v::R)) hl hk1 hn
 have e2:fC [61] (aE s)=false:=x8 (by rw [e1.2]; exact iJ (by rw [hk2]; simp))
 have e3:=p9 (g:=[58]) e1.2 hk2
 obtain ⟨w,l,f1,f2,f3⟩:=hS (aE (aE s)) T2 v R (s.l.length+1) h2 e3.2 hk3 (Nat.lt_succ_of_le (aDg (aE (aE s))))
 refine ⟨w,(nm,l,[]),?_,rfl,f2,f3.trans hd⟩
 unfold wD
 rw [e1.1,Option.bind_some,e2]
 simp only [zuy,if_false,e3.1,if_true]
 rw [f1,Option.bind_some]
theorem aQm {nm:List UInt8} {S:List KT} (hn:a01 nm=true) (hS:a9s 21 0 S) (hS2:S.length≤200):aBn (nm,[(1,nm),(2,[61])]++S++[(2,[59])]):=by
 intro s T R hT hl hd
 obtain ⟨T',T3,rfl,hT,h3⟩:=oO hT
 obtain ⟨t,T',rfl,hk1,hT⟩:=dN hT
 obtain ⟨u,T2,rfl,hk2,h2⟩:=dN hT
 obtain ⟨v,T4,rfl,hk3,h4⟩:=dN h3
 obtain rfl:T4=[]:=by simpa using h4
 have hl:dR s=t::(u::(T2++v::R)):=by rw [hl]; simp
 have e1:=rU (R:=u::(T2++v::R)) hl hk1 hn
 have e2:=p9 (g:=[61]) e1.2 hk2
 have hno:NoS (v::R):=by
  refine ⟨⟨iJ ?_,iJ ?_⟩,iJ ?_,iJ ?_⟩ <;> rw [hk3] <;> simp
 obtain ⟨w,f1,f2,f3,f4⟩:=(hS { aE (aE s) with o:=[] } T2 (v::R) h2 e2.2 hno (by show 0+S.length≤200; omega) hd).ex
 have f3':w.d=s.d:=f3
 have e4:=p9 (g:=[59]) f2 hk3
 refine ⟨aE w,(nm,[],w.o),?_,rfl,e4.2,by show w.d=0; omega⟩
 unfold wD
 rw [e1.1,Option.bind_some,if_pos e2.1]
 have f1':kQ { aE (aE s) with o:=[] } = some w:=f1
 rw [f1',Option.bind_some,if_pos e4.1]
theorem aQn : ∀ (As : List (List UInt8 × List KT)) (s : aY) (T : List eP) (u : eP) (R : List eP) (l : List Rel) (k : Nat),(∀ A ∈ As,aBn A ∧ A.2.head? ≠ some (2,[125]) ∧ A.2 ≠ []) → T.map kt = (As.map (·.2)).flatten → dR s = T ++ u :: R → kt u = (2,[125]) → l.length + As.length < 200 → s.d = 0 → (dR s).length < k →
  ∃ v l',sQ k s l=some (v,l')∧l'.map (·.1)=l.map (·.1)++As.map (·.1)∧dR v=R∧v.d=0
 | [],s,T,u,R,l,k,_,hT,hl,hu,_,hd,hk=>by
  obtain rfl:T=[]:=by simpa using hT
  obtain ⟨k,rfl⟩:∃ m,k=m+1:=⟨k - 1,by omega⟩
  have e:=p9 (g:=[125]) (s:=s) hl hu
  refine ⟨aE s,l,?_,by simp,e.2,hd⟩
  unfold sQ
  rw [if_pos e.1]
 | A::As,s,T,u,R,l,k,hA,hT,hl,hu,hm,hd,hk=>by
  obtain ⟨h1,h2,h3⟩:=hA A (List.mem_cons_self ..)
  rw [zsx,List.flatten_cons] at hT
  obtain ⟨T1,T2,rfl,g1,g2⟩:=oO hT
  obtain ⟨k,rfl⟩:∃ m,k=m+1:=⟨k - 1,by omega⟩
  simp only [zwx] at hm
  have hne:T1≠[]:=by rintro rfl; exact h3 (by simpa using g1.symm)
  have e:fC [125] s=false:=x8 (by
   rw [hl]
   cases T1 with
   | nil=>exact absurd rfl hne
   | cons a r =>
    refine iJ fun e=>h2 ?_
    rw [← g1,zsx,e]; rfl)
  obtain ⟨s1,r1,f1,f2,f3,f4⟩:=h1 s T1 (T2++u::R) g1 (by rw [hl,zty]) hd
  have hlen:(dR s1).length < k:=by
   rw [f3]
   have:1≤T1.length:=by cases T1 with | nil=>exact absurd rfl hne | cons=>simp
   rw [hl] at hk
   simp only [zwy,zwx] at hk ⊢; omega
  obtain ⟨v,l',q1,q2,q3,q4⟩:=aQn As s1 T2 u R (l++[r1]) k (fun B hB=>hA B (List.mem_cons_of_mem _ hB)) g2 f3 hu (by simp only [zwy,List.length_singleton]; omega) f4 hlen
  refine ⟨v,l',?_,?_,q3,q4⟩
  ·unfold sQ
   rw [e]
   simp only [zuy,if_false]
   rw [if_neg (by omega),f1,Option.bind_some]
   exact q1
  ·rw [q2,List.map_append,zsx,List.map_nil,f2,zsx,zty]; rfl
theorem aQo {s:aY} {t:eP} {R:List eP} (h:dR s=t::R) (hk:kt t=(1,[116,121,112,101])):aM6 s=true∧dR (aE s)=R:=by
 obtain ⟨h1,h2⟩:=aBl h
 refine ⟨?_,h2⟩
 unfold aM6
 rw [h1]
 simp only [kt,zvy] at hk
 simp [hk.1,hk.2]
theorem b47 {nm:List UInt8} (hn:a01 nm=true) {s:aY} {T R:List eP} (hT:T.map kt=[(1,[116,121,112,101]),(1,nm)]) (hl:dR s=T++R) (hR:noB [123] R) (hd:s.d=0):∃ u y,a62 s=some (u,y)∧y.1=nm∧y.2=[]∧dR u=R∧u.d=0:=by
 obtain ⟨t,T',rfl,hk1,hT⟩:=dN hT
 obtain ⟨u,T',rfl,hk2,hT⟩:=dN hT
 obtain rfl:T'=[]:=by simpa using hT
 have hw:=aQo (R:=u::R) hl hk1
 have e1:=rU (R:=R) hw.2 hk2 hn
 have e2:fC [123] (aE (aE s))=false:=x8 (by rw [e1.2]; exact hR)
 refine ⟨aE (aE s),(nm,[]),?_,rfl,rfl,e1.2,hd⟩
 unfold a62
 rw [if_pos hw.1,e1.1,Option.bind_some,e2]
 simp
theorem aUx {nm : List UInt8} (hn : a01 nm = true) {As : List (List UInt8 × List KT)} (hA : ∀ A ∈ As,aBn A ∧ A.2.head? ≠ some (2,[125]) ∧ A.2 ≠ []) (hm : As.length < 200) {s : aY} {T R : List eP}
  (hT:T.map kt=[(1,[116,121,112,101]),(1,nm),(2,[123])]++(As.map (·.2)).flatten++[(2,[125])]) (hl:dR s=T++R) (hd:s.d=0):∃ u y,a62 s=some (u,y)∧y.1=nm∧y.2.map (·.1)=As.map (·.1)∧dR u=R∧u.d=0:=by
 obtain ⟨T',T3,rfl,hT,h3⟩:=oO hT
 obtain ⟨t,T',rfl,hk1,hT⟩:=dN hT
 obtain ⟨u,T',rfl,hk2,hT⟩:=dN hT
 obtain ⟨q,T2,rfl,hk3,h2⟩:=dN hT
 obtain ⟨v,T4,rfl,hk4,h4⟩:=dN h3
 obtain rfl:T4=[]:=by simpa using h4
 have hl:dR s=t::(u::(q::(T2++v::R))):=by rw [hl]; simp
 have hw:=aQo hl hk1
 have e1:=rU hw.2 hk2 hn
 have e2:=p9 (g:=[123]) e1.2 hk3
 obtain ⟨w,l',f1,f2,f3,f4⟩:=aQn As (aE (aE (aE s))) T2 v R [] (s.l.length+1) hA h2 e2.2 hk4 (by simpa using hm) hd (Nat.lt_succ_of_le (aDg (aE (aE (aE s)))))
 refine ⟨w,(nm,l'),?_,rfl,by simpa using f2,f3,f4⟩
 unfold a62
 rw [if_pos hw.1,e1.1,Option.bind_some,if_pos e2.1,f1,Option.bind_some]
def aBo (l:List Int) (i:Nat):List (List UInt8×List KT) :=
 [([114],[(1,[114]),(2,[58])]++aDa (kE l (3*i))++[(2,[59])]),([115],[(1,[115]),(2,[58])]++eV (sT (kE l (3*i)))++[(2,[59])]),([112],a0y 0 (kE l (3*i+1))),([113],a0y 1 (kE l (3*i+2)))]
theorem aUy (l : List Int) (i : Nat) : ∀ A ∈ aBo l i,aBn A ∧ A.2.head? ≠ some (2,[125]) ∧ A.2 ≠ []:=by
 intro A hA
 simp only [aBo,List.mem_cons,List.not_mem_nil,or_false] at hA
 rcases hA with rfl | rfl | rfl | rfl
 ·exact ⟨aQl (by kernel_rfl) (b45 _),by simp,by simp⟩
 ·exact ⟨aQl (by kernel_rfl) (b46 _),by simp,by simp⟩
 ·exact ⟨aQm (nm:=[112]) (by kernel_rfl) (aQk _) (aYy _),by simp [a0y],by simp [a0y]⟩
 ·exact ⟨aQm (nm:=[113]) (by kernel_rfl) (aQk _) (aYy _),by simp [a0y],by simp [a0y]⟩
theorem b48 (l:List Int) (i:Nat):a9q l i=[(1,[116,121,112,101]),(1,abT.getD i []),(2,[123])]++((aBo l i).map (·.2)).flatten++[(2,[125])]:=by
 simp only [a9q,aBo,zsx,List.map_nil,List.flatten_cons,List.flatten_nil,zty,List.cons_append,List.nil_append,List.append_nil]
theorem aG7 {l:List UInt8} (h:l.length≤100000):cP l=match (nK 0 l).2 with | some k=>([],k,7) | none=>((nK 0 l).1,0,0):=by
 unfold cP
 rw [if_neg (by omega)]
 have e:iE l.length (dV false l) (l.drop (dV false l))=nK 0 l:=by unfold nK; rw [Nat.zero_add]
 simp only [e]
 cases (nK 0 l).2 <;> rfl
theorem b1x (l:List Int):∃ x y z:fM,hO (wC l)=some [x,y,z]∧x.1=[117]∧x.2=[]∧y.1=[97]∧y.2.map (·.1)=[[114],[115],[112],[113]]∧z.1=[98]∧z.2.map (·.1)=[[114],[115],[112],[113]]:=by
 have hlen:(wC l).length≤100000:=by have:=aGt l 2; unfold wC; omega
 have hm:=aYs l
 have htk:=aG7 hlen
 rw [hm.ok 0] at htk
 unfold hO
 rw [htk]
 rw [if_pos rfl]
 generalize hT0:(nK 0 (wC l)).1=T0
 have hT:T0.map kt=aM1 l:=by rw [← hT0]; exact hm.kd 0
 generalize hs0:(⟨T0,0,(wC l).length,0,[]⟩:aY)=s
 have hr:dR s=T0:=by rw [← hs0]; rfl
 have hd:s.d=0:=by rw [← hs0]
 have hsl:s.l=T0:=by rw [← hs0]
 have hi:s.i=0:=by rw [← hs0]
 unfold aM1 at hT
 obtain ⟨T',T3,rfl,hT,h3⟩:=oO hT
 obtain ⟨T1,T2,rfl,h1,h2⟩:=oO hT
 rw [b48] at h2 h3
 have n1:T1.length=2:=by rw [← zsy (f:=kt),h1]; rfl
 have n2:1≤T2.length:=by rw [← zsy (f:=kt),h2]; simp
 have n3:1≤T3.length:=by rw [← zsy (f:=kt),h3]; simp
 have restpos:∀ {u:aY} {R:List eP},dR u=R→1≤R.length→u.i < u.l.length:=fun {u R} h1 h2=>by
  rw [← h1] at h2; unfold dR at h2; rw [List.length_drop] at h2; omega
 obtain ⟨u1,x,e1,e2,e3,e4,e5⟩:=b47 (nm:=[117]) (by kernel_rfl) (s:=s) (T:=T1) (R:=T2++(T3++[])) h1 (by rw [hr]; simp) (bCp (by rw [h2]; rfl)) hd
 obtain ⟨u2,y,f1,f2,f3,f4,f5⟩:=aUx (nm:=[97]) (by kernel_rfl) (aUy l 0) (by simp [aBo]) (s:=u1) (T:=T2) (R:=T3++[]) h2 e4 e5
 obtain ⟨u3,z,g1,g2,g3,g4,g5⟩:=aUx (nm:=[98]) (by kernel_rfl) (aUy l 1) (by simp [aBo]) (s:=u2) (T:=T3) (R:=[]) h3 f4 f5
 have k3:¬ u3.i < u3.l.length:=by
  unfold dR at g4
  have:=congrArg List.length g4
  rw [List.length_drop,List.length_nil] at this
  omega
 have hn:(T1++T2++T3).length+1=(T1.length+T2.length+T3.length - 4)+1+1+1+1+1:=by
  simp only [zwy]; omega
 refine ⟨x,y,z,?_,e2,e3,f2,f3,g2,g3⟩
 rw [hn]
 unfold rY
 rw [if_pos (by rw [hsl,hi]; simp only [zwy]; omega),if_neg (by simp),e1,Option.bind_some]
 simp only
 unfold rY
 rw [if_pos (restpos e4 (by simp only [zwy]; omega)),if_neg (by simp),f1,Option.bind_some]
 simp only
 unfold rY
 rw [if_pos (restpos f4 (by simp only [zwy]; omega)),if_neg (by simp),g1,Option.bind_some]
 simp only
 unfold rY
 rw [if_neg k3]
 rfl
end Go.Fbs

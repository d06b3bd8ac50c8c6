/- The document's reader: what it reads of pieces. -/
import Derived.Test.YtnmcilaebamncaaLL
import Derived.Test.YtnmcilaebamncaaKQ
set_option linter.unusedVariables false
set_option linter.unusedSimpArgs false
set_option linter.unusedSectionVars false
set_option maxRecDepth 100000
namespace Go.Fbs
open Go.Proofs
def dL (s:cA):List iH:=s.l.drop s.i
structure aI0 (s:cA) (R:List iH) (c:Nat) (r:Option cA):Prop where
 ex:∃ t,r=some t∧dL t=R∧t.d=s.d∧t.o.length≤s.o.length+c
theorem a9f {s : cA} {t : iH} {R : List iH} (h : dL s = t :: R) : s.l[s.i]? = some t ∧ dL (aS s) = R:=by
 unfold dL at h
 have h1 : (s.l.drop s.i)[0]? = some t:=by rw [h]; rfl
 rw [List.getElem?_drop,Nat.add_zero] at h1
 refine ⟨h1,?_⟩
 show s.l.drop (s.i+1)=R
 rw [← List.drop_drop,h]; rfl
theorem b2n {s : cA} (h : dL s = []) : s.l[s.i]? = none:=by
 unfold dL at h
 have h1 : (s.l.drop s.i)[0]? = none:=by rw [h]; rfl
 rw [List.getElem?_drop,Nat.add_zero] at h1
 exact h1
theorem aBq (s:cA):(dL s).length≤s.l.length:=by unfold dL; rw [List.length_drop]; omega
theorem uI {g:List UInt8} {s:cA} (h:noB g (dL s)):gY g s=false:=by
 unfold gY
 cases e:dL s with
 | nil=>rw [b2n e]
 | cons t r =>
  rw [(a9f e).1]
  have:=h t (by rw [e]; rfl)
  by_cases h1:t.1=2
  ·have h2:¬ t.2.2=g:=fun h2=>this (by simp [kt,h1,h2])
   simp [h2]
  ·simp [h1]
theorem nB {g:List UInt8} {s:cA} {t:iH} {R:List iH} (h:dL s=t::R) (hk:kt t=(2,g)):gY g s=true∧dL (aS s)=R:=by
 obtain ⟨h1,h2⟩:=a9f h
 refine ⟨?_,h2⟩
 unfold gY
 rw [h1]
 simp only [kt,zvy] at hk
 simp [hk.1,hk.2]
def yU (w:List UInt8):Bool:=a5d w && decide (w.length≤1000)
theorem pQ {s:cA} {t:iH} {R:List iH} {w:List UInt8} (h:dL s=t::R) (hk:kt t=(1,w)) (hw:yU w=true):nK s=some w∧dL (aS s)=R:=by
 obtain ⟨h1,h2⟩:=a9f h
 refine ⟨?_,h2⟩
 unfold nK
 rw [h1]
 simp only [kt,zvy] at hk
 simp only [yU,zxz,decide_eq_true_eq] at hw
 simp only
 rw [if_pos ⟨hk.1,by rw [hk.2]; exact hw.1,by rw [hk.2]; unfold big; omega⟩,hk.2]
theorem aBr {p:zV} {s:cA} (h:s.o.length < 200):aE0 p s=some { s with o:=s.o++[p] }:=by
 unfold aE0; rw [if_pos h]
def vO (f d:Nat) (A:List KT):Prop:=∀ s T R,T.map kt=A→dL s=T++R→noB [45,62] R→s.o.length+A.length≤200→s.d=d→aI0 s R A.length (iV f s)
theorem zY {f d:Nat} {w:List UInt8} (hw:yU w=true):vO (f+1) d [(1,w)]:=by
 intro s T R hT hl hR hx hd
 obtain ⟨t,T',rfl,hk,hT⟩:=dF hT
 obtain rfl:T'=[]:=by simpa using hT
 have hn:=pQ (R:=R) hl hk hw
 have hb:gY [40] s=false:=uI (by rw [hl]; exact hP (by rw [hk]; simp))
 have hm:gY [45,62] (aS s)=false:=uI (by rw [hn.2]; exact hR)
 simp only [List.length_singleton] at hx
 show aI0 s R 1 (qH _ s)
 unfold qH
 rw [hb,hn.1,Option.bind_some,hm]
 simp only [Bool.false_eq_true,if_false]
 rw [aBr (by show s.o.length < 200; omega)]
 exact ⟨_,rfl,hn.2,rfl,by simp [aS]⟩
theorem aLi {f d:Nat} {w v:List UInt8} (hw:yU w=true) (hv:yU v=true):vO (f+1) d [(1,w),(2,[45,62]),(1,v)]:=by
 intro s T R hT hl hR hx hd
 obtain ⟨t,T',rfl,hk,hT⟩:=dF hT
 obtain ⟨u,T',rfl,hk2,hT⟩:=dF hT
 obtain ⟨q,T',rfl,hk3,hT⟩:=dF hT
 obtain rfl:T'=[]:=by simpa using hT
 have hn:=pQ (R:=u::q::R) hl hk hw
 have hb:gY [40] s=false:=uI (by rw [hl]; exact hP (by rw [hk]; simp))
 have hm:=nB (g:=[45,62]) hn.2 hk2
 have hn2:=pQ hm.2 hk3 hv
 simp only [zwx,List.length_nil] at hx
 show aI0 s R 3 (qH _ s)
 unfold qH
 rw [hb,hn.1,Option.bind_some,hm.1]
 simp only [Bool.false_eq_true,if_false,if_true]
 rw [hn2.1,Option.bind_some,aBr (by show s.o.length < 200; omega)]
 exact ⟨_,rfl,hn2.2,rfl,by simp [aS]⟩
def aLj (f d:Nat) (A:List KT):Prop:=∀ k s T R,T.map kt=A→dL s=T++R→NoT R→s.o.length+A.length≤200→s.d=d→(dL s).length < k→aI0 s R A.length (kR (iV f) k s)
theorem aE4 {f d:Nat} : aLj f d []:=by
 intro k s T R hT hl hR hx hd hk
 obtain rfl:T=[]:=by simpa using hT
 simp only [List.nil_append] at hl
 obtain ⟨k,rfl⟩:∃ m,k=m+1:=⟨k - 1,by omega⟩
 unfold kR
 rw [uI (by rw [hl]; exact hR.b)]
 exact ⟨_,rfl,hl,rfl,by simp⟩
theorem aBs {f d:Nat} {B C:List KT} (hB:vO f d B) (hC:aLj f d C) (hc:aIy C):aLj f d ((2,[38])::(B++C)):=by
 intro k s T R hT hl hR hx hd hk
 obtain ⟨t,T',rfl,hkt,hT⟩:=dF hT
 obtain ⟨T1,T2,rfl,h1,h2⟩:=mH hT
 simp only [zwx,zwy] at hx
 obtain ⟨k,rfl⟩:∃ m,k=m+1:=⟨k - 1,by omega⟩
 have hm:=nB (g:=[38]) (R:=T1++T2++R) hl hkt
 obtain ⟨s1,e1,g2,g3,g4⟩:=(hB (aS s) T1 (T2++R) h1 (by rw [hm.2,List.append_assoc]) (b2c h2 hc hR.a) (by show s.o.length+_≤200; omega) hd).ex
 have g4':s1.o.length≤s.o.length+B.length:=g4
 have g3':s1.d=s.d:=g3
 unfold kR
 rw [if_pos hm.1,e1,Option.bind_some,aBr (by omega),Option.bind_some]
 have hl1:(dL s1).length < k:=by
  rw [hl] at hk
  simp only [zwy,zwx] at hk
  rw [g2]; simp only [zwy]; omega
 obtain ⟨s2,e2,q2,q3,q4⟩:=(hC k { s1 with o:=s1.o++[(5,[],[])] } T2 R h2 g2 hR (by simp only [zwy,List.length_singleton]; omega) (by show s1.d=d; omega) hl1).ex
 simp only [zwy,List.length_singleton] at q4
 exact ⟨s2,e2,q2,by show s2.d=s.d; rw [q3]; exact g3',by simp only [zwx,zwy]; omega⟩
def a7h (f d:Nat) (A:List KT):Prop:=∀ s T R,T.map kt=A→dL s=T++R→NoT R→s.o.length+A.length≤200→s.d=d→aI0 s R A.length (wW (iV f) s)
theorem aE5 {f d:Nat} {A C:List KT} (hA:vO f d A) (hC:aLj f d C) (hc:aIy C):a7h f d (A++C):=by
 intro s T R hT hl hR hx hd
 obtain ⟨T1,T2,rfl,h1,h2⟩:=mH hT
 simp only [zwy] at hx
 obtain ⟨s1,e1,g2,g3,g4⟩:=(hA s T1 (T2++R) h1 (by rw [hl,List.append_assoc]) (b2c h2 hc hR.a) (by omega) hd).ex
 obtain ⟨s2,e2,q2,q3,q4⟩:=(hC (s1.l.length+1) s1 T2 R h2 g2 hR (by omega) (by omega) (Nat.lt_succ_of_le (aBq s1))).ex
 refine ⟨s2,?_,q2,by omega,by simp only [zwy]; omega⟩
 show (iV f s).bind (fun r=>kR (iV f) (r.l.length+1) r)=some s2
 rw [e1,Option.bind_some,e2]
def aLk (f d:Nat) (A:List KT):Prop:=∀ k s T R,T.map kt=A→dL s=T++R→NoS R→s.o.length+A.length≤200→s.d=d→(dL s).length < k→aI0 s R A.length (mC (wW (iV f)) k s)
theorem aE6 {f d:Nat} : aLk f d []:=by
 intro k s T R hT hl hR hx hd hk
 obtain rfl:T=[]:=by simpa using hT
 simp only [List.nil_append] at hl
 obtain ⟨k,rfl⟩:∃ m,k=m+1:=⟨k - 1,by omega⟩
 unfold mC
 rw [uI (g:=[43]) (by rw [hl]; exact hR.p),uI (g:=[45]) (by rw [hl]; exact hR.m)]
 exact ⟨_,rfl,hl,rfl,by simp⟩
theorem aBt {f d:Nat} {g:List UInt8} {B C:List KT} (hg:g=[43]∨g=[45]) (hB:a7h f d B) (hC:aLk f d C) (hc:hdT C):aLk f d ((2,g)::(B++C)):=by
 intro k s T R hT hl hR hx hd hk
 obtain ⟨t,T',rfl,hkt,hT⟩:=dF hT
 obtain ⟨T1,T2,rfl,h1,h2⟩:=mH hT
 simp only [zwx,zwy] at hx
 obtain ⟨k,rfl⟩:∃ m,k=m+1:=⟨k - 1,by omega⟩
 have hm:dL (aS s)=T1++T2++R:=(a9f hl).2
 have hi:(gY [43] s || gY [45] s)=true:=by
  rcases hg with rfl | rfl
  ·rw [(nB hl hkt).1]; rfl
  ·rw [(nB (g:=[45]) hl hkt).1]; simp
 obtain ⟨s1,e1,g2,g3,g4⟩:=(hB (aS s) T1 (T2++R) h1 (by rw [hm,List.append_assoc]) (b2d h2 hc hR.t) (by show s.o.length+_≤200; omega) hd).ex
 have g4':s1.o.length≤s.o.length+B.length:=g4
 have g3':s1.d=s.d:=g3
 unfold mC
 rw [if_pos hi,e1,Option.bind_some,aBr (by omega),Option.bind_some]
 have hl1:(dL s1).length < k:=by
  rw [hl] at hk
  simp only [zwy,zwx] at hk
  rw [g2]; simp only [zwy]; omega
 generalize ((if gY [45] s=true then 4 else 3,[],[]):zV)=st
 obtain ⟨s2,e2,q2,q3,q4⟩:=(hC k { s1 with o:=s1.o++[st] } T2 R h2 g2 hR (by simp only [zwy,List.length_singleton]; omega) (by show s1.d=d; omega) hl1).ex
 simp only [zwy,List.length_singleton] at q4
 exact ⟨s2,e2,q2,by show s2.d=s.d; rw [q3]; exact g3',by simp only [zwx,zwy]; omega⟩
def a7i (f d:Nat) (A:List KT):Prop:=∀ s T R,T.map kt=A→dL s=T++R→NoS R→s.o.length+A.length≤200→s.d=d→aI0 s R A.length (a6e (wW (iV f)) s)
theorem aI1 {f d:Nat} {A C:List KT} (hA:a7h f d A) (hC:aLk f d C) (hc:hdT C):a7i f d (A++C):=by
 intro s T R hT hl hR hx hd
 obtain ⟨T1,T2,rfl,h1,h2⟩:=mH hT
 simp only [zwy] at hx
 obtain ⟨s1,e1,g2,g3,g4⟩:=(hA s T1 (T2++R) h1 (by rw [hl,List.append_assoc]) (b2d h2 hc hR.t) (by omega) hd).ex
 obtain ⟨s2,e2,q2,q3,q4⟩:=(hC (s1.l.length+1) s1 T2 R h2 g2 hR (by omega) (by omega) (Nat.lt_succ_of_le (aBq s1))).ex
 refine ⟨s2,?_,q2,by omega,by simp only [zwy]; omega⟩
 show (wW (iV f) s).bind (fun r=>mC (wW (iV f)) (r.l.length+1) r)=some s2
 rw [e1,Option.bind_some,e2]
theorem aZx {f d:Nat} {A:List KT} (hd20:d≠20) (hA:a7i f (d+1) A):vO (f+1) d ((2,[40])::(A++[(2,[41])])):=by
 intro s T R hT hl hR hx hd
 obtain ⟨t,T',rfl,hkt,hT⟩:=dF hT
 obtain ⟨T1,T2,rfl,h1,h2⟩:=mH hT
 obtain ⟨u,T3,rfl,hku,h3⟩:=dF h2
 obtain rfl:T3=[]:=by simpa using h3
 simp only [zwx,zwy,List.length_nil] at hx
 have hy:=nB (g:=[40]) hl hkt
 have hm:dL { s with i:=s.i+1,d:=s.d+1 } = T1++([u]++R):=by
  have:dL { s with i:=s.i+1,d:=s.d+1 } = dL (aS s):=rfl
  rw [this,hy.2]; simp
 have hno:NoS ([u]++R):=by
  refine ⟨⟨hP ?_,hP ?_⟩,hP ?_,hP ?_⟩ <;> rw [hku] <;> simp
 obtain ⟨s1,e1,g2,g3,g4⟩:=(hA { s with i:=s.i+1,d:=s.d+1 } T1 ([u]++R) h1 hm hno (by show s.o.length+_≤200; omega) (by show s.d+1=d+1; omega)).ex
 have g3':s1.d=s.d+1:=g3
 have hs:=nB (g:=[41]) (s:=s1) (R:=R) (t:=u) g2 hku
 refine ⟨{ s1 with i:=s1.i+1,d:=s1.d - 1 },?_,hs.2,by show s1.d - 1=s.d; omega,?_⟩
 ·show qH (a6e (wW (iV f))) s=_
  unfold qH
  rw [if_pos hy.1,if_neg (by omega),e1,Option.bind_some,if_pos hs.1]
 ·have g4':s1.o.length≤s.o.length+A.length:=g4
  show s1.o.length≤_
  simp only [zwx,zwy,List.length_nil]; omega
theorem a18 {f d:Nat} {A:List KT} (hA:vO f d A):a7h f d A:=by
 have:=aE5 hA aE4 aS9
 rwa [List.append_nil] at this
theorem aGi {f d:Nat} {A B:List KT} (hA:vO f d A) (hB:vO f d B):a7h f d (A++(2,[38])::B):=by
 have:=aE5 hA (aBs hB aE4 aS9) (aZq (.inr (.inr rfl)) _)
 rwa [List.append_nil] at this
theorem aMu {f d:Nat} {A:List KT} (hA:a7h f d A):a7i f d A:=by
 have:=aI1 hA aE6 aMs
 rwa [List.append_nil] at this
theorem aMv {f d:Nat} {g:List UInt8} (hg:g=[43]∨g=[45]) {A B:List KT} (hA:a7h f d A) (hB:a7h f d B):a7i f d (A++(2,g)::B):=by
 have:=aI1 hA (aBt hg hB aE6 aMs) (aTa hg _)
 rwa [List.append_nil] at this
theorem b56 {f d:Nat} {g:List UInt8} (hg:isOp g) {A B:List KT} (hA:vO f d A) (hB:vO f d B):a7i f d (A++(2,g)::B):=by
 rcases aPa hg with h | rfl
 ·exact aMv h (a18 hA) (a18 hB)
 ·exact aMu (aGi hA hB)
theorem aLl {f d:Nat} {g h:List UInt8} (hg:isOp g) (hh:isOp h) {A B C:List KT} (hA:vO f d A) (hB:vO f d B) (hC:vO f d C):a7i f d (A++(2,g)::(B++(2,h)::C)):=by
 rcases aPa hg with h1 | rfl
 ·rcases aPa hh with h2 | rfl
  ·have:=aI1 (a18 hA) (aBt h1 (a18 hB) (aBt h2 (a18 hC) aE6 aMs) (aTa h2 _)) (aTa h1 _)
   rwa [List.append_nil] at this
  ·exact aMv h1 (a18 hA) (aGi hB hC)
 ·rcases aPa hh with h2 | rfl
  ·have:=aMv h2 (aGi hA hB) (a18 hC)
   simpa only [List.append_assoc,List.cons_append] using this
  ·have:=aE5 hA (aBs hB (aBs hC aE4 aS9) (aZq (.inr (.inr rfl)) _)) (aZq (.inr (.inr rfl)) _)
   rw [List.append_nil] at this
   exact aMu this
theorem xL {f d:Nat} (n:Int):vO (f+1) d (fV (mN n)):=by
 have h:=mG n
 generalize mN n=w at h
 simp only [qG,List.mem_cons,List.not_mem_nil,or_false] at h
 rcases h with rfl | rfl | rfl | rfl | rfl | rfl | rfl | rfl
 ·exact zY (w:=[114]) (by kernel_rfl)
 ·exact zY (w:=[115]) (by kernel_rfl)
 ·exact zY (w:=[114]) (by kernel_rfl)
 ·exact zY (w:=[115]) (by kernel_rfl)
 ·exact aLi (w:=[115]) (v:=[114]) (by kernel_rfl) (by kernel_rfl)
 ·exact aLi (w:=[115]) (v:=[112]) (by kernel_rfl) (by kernel_rfl)
 ·exact zY (w:=[112]) (by kernel_rfl)
 ·exact zY (w:=[113]) (by kernel_rfl)
theorem aN6 (n:Int):a7i 21 0 (aMr n):=by
 obtain ⟨g,hg,e1⟩:=bCr n
 unfold aMr aEy
 rw [e1]
 by_cases hb:a6a n 12=true
 ·rw [if_pos hb]
  have h2:=bCs n
  by_cases h3:decide ((((fU n 13) % 4).toNat:Int)=3)=true
  ·rw [if_pos h3] at h2
   rw [if_pos h3,h2]
   have hp:=aZx (f:=20) (d:=0) (by omega) (aMu (aGi (xL (f:=19) (d:=0+1) (fU n 16)) (xL (fU n 20))))
   have:=aLl hg (.inr (.inl rfl)) (xL (f:=20) (d:=0) n) (xL (fU n 8)) hp
   simpa only [List.append_assoc,List.cons_append,List.nil_append] using this
  ·rw [if_neg h3] at h2
   obtain ⟨h,hh,e2⟩:=h2
   rw [if_neg h3,e2]
   have:=aLl hg hh (xL (f:=20) (d:=0) n) (xL (fU n 8)) (xL (fU n 16))
   simpa only [List.append_assoc,List.cons_append,List.nil_append,List.append_nil] using this
 ·rw [if_neg hb]
  have:=b56 hg (xL (f:=20) (d:=0) n) (xL (fU n 8))
  simpa only [List.append_assoc,List.cons_append,List.nil_append,List.append_nil] using this
end Go.Fbs

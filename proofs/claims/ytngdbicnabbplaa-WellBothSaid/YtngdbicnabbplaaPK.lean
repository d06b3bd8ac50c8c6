import Derived.Test.YtngdbicnabbplaaPH
import Derived.Test.YtngdbicnabbplaaPJ
import Derived.Test.YtngdbicnabbplaaPI
set_option linter.unusedSimpArgs false
set_option linter.unusedVariables false
set_option linter.unusedSectionVars false
set_option maxRecDepth 100000

namespace Go.Fbs
def aNl (k:Int):Int:=if k=3 then 1 else if k=4 then 1 else 2
def Tr.dep:Tr→Int→Nat
 | .nm _,_=>0
 | .ar _ _,_=>0
 | .op k x y,l=>(if aNl k < l then 1 else 0)+max (x.dep (aNl k)) (y.dep (aNl k+1))
theorem aVt (t:Tr) {l l':Int} (h:l≤l'):t.dep l≤t.dep l':=by
 cases t with
 | nm a=>exact zxy _
 | ar a b=>exact zxy _
 | op k x y =>
  simp only [Tr.dep]
  split <;> split <;> omega
theorem bFv (t:Tr) (l:Int):t.dep l≤1+t.dep 1:=by
 cases t with
 | nm a=>exact Nat.zero_le _
 | ar a b=>exact Nat.zero_le _
 | op k x y =>
  simp only [Tr.dep]
  split <;> split <;> omega
def Tr.pC:Tr→Prop
 | .nm a=>a00 a=true
 | .ar a b=>a00 a=true∧a00 b=true
 | .op _ x y=>x.pC∧y.pC
theorem a9w {s:bQ} (h:(aX s).1=true):a00 ((aX s).2.2.getD [])=true:=by
 unfold aX at h ⊢
 split at h
 ·rename_i h1
  rw [if_pos h1]
  show wY (1,0,(fF s).2.2)=true
  unfold wY at h1 ⊢
  simp only [zxz,decide_eq_true_eq] at h1 ⊢
  exact ⟨trivial,h1.2⟩
 ·simp at h
structure Rtr (l:Int) (f:Rd):Prop where
 t:∀ s,s.d≤20→(f s).1=true→∃ t:Tr,(t.ok∧t.pC)∧(f s).2.x=s.x++t.steps∧t.dep l+s.d≤20
theorem b53 (e:Int) (s:bQ):(xV e s).x=s.x:=by unfold xV; split <;> rfl
theorem aBs (s:bQ):(aX s).2.1.x=s.x:=by unfold aX; split; rfl; exact b53 _ _
theorem a9x (g:List UInt8) (s:bQ):(bX g s).2.x=s.x:=by unfold bX; split <;> rfl
theorem b54 (g:List UInt8) (s:bQ):(mE g s).2.x=s.x:=by unfold mE; split; rfl; exact b53 _ _
theorem a9y {p:cV} {a:Nat} {s:bQ} (h:(jZ p a s).1=true):(jZ p a s).2.x=s.x++[p]:=by
 unfold jZ at h ⊢
 split at h
 ·simp at h
 ·rename_i h1; rw [if_neg h1]
theorem b2i {sum:Rd} (h:Rtr 1 sum) (g:Good sum):Rtr 3 (lW sum):=by
 refine ⟨fun s hd hs=>?_⟩
 unfold lW at hs ⊢
 by_cases h1:uA [40] s=true
 ·rw [if_pos h1] at hs ⊢
  by_cases h2:s.d=20
  ·rw [if_pos h2] at hs; simp at hs
  ·rw [if_neg h2] at hs ⊢
   simp only at hs ⊢
   cases hr:(sum (aP { s with d:=s.d+1 })).1 with
   | false=>rw [hr] at hs; simp at hs
   | true =>
    rw [hr] at hs
    simp only [if_true] at hs ⊢
    obtain ⟨t,t1,t2,t3⟩:=h.t (aP { s with d:=s.d+1 }) (by show s.d+1≤20; omega) hr
    refine ⟨t,t1,?_,?_⟩
    ·show (mE [41] _).2.x=_
     rw [b54,t2]; rfl
    ·have t3:t.dep 1+(s.d+1)≤20:=t3
     have:=bFv t 3
     omega
 ·rw [if_neg h1] at hs ⊢
  simp only at hs ⊢
  cases hn:(aX s).1 with
  | false=>rw [hn] at hs; simp at hs
  | true =>
   rw [hn] at hs
   simp only [if_true] at hs ⊢
   cases hm:(bX [45,62] (aX s).2.1).1 with
   | true =>
    rw [hm] at hs
    simp only [if_true] at hs ⊢
    cases hq:(aX (bX [45,62] (aX s).2.1).2).1 with
    | false=>rw [hq] at hs; simp at hs
    | true =>
     rw [hq] at hs
     simp only [if_true] at hs ⊢
     refine ⟨.ar ((aX s).2.2.getD []) ((aX (bX [45,62] (aX s).2.1).2).2.2.getD []),⟨trivial,a9w hn,a9w hq⟩,?_,by simp only [Tr.dep]; omega⟩
     rw [a9y hs,aBs,a9x,aBs]; rfl
   | false =>
    rw [hm] at hs
    simp only [zuy,if_false] at hs ⊢
    refine ⟨.nm ((aX s).2.2.getD []),⟨trivial,a9w hn⟩,?_,by simp only [Tr.dep]; omega⟩
    rw [a9y hs,a9x,aBs]; rfl
theorem b55 (p:cV) (a:Nat) (s:bQ):(jZ p a s).2.d=s.d:=by unfold jZ; split <;> rfl
theorem aVu (g:List UInt8) (s:bQ):(bX g s).2.d=s.d:=by unfold bX; split <;> rfl
theorem aHg {fac:Rd} (h:Rtr 3 fac) (g:Good fac):∀ (k a:Nat) (s:bQ) (X:List cV) (t0:Tr),s.d≤20→t0.ok∧t0.pC→s.x=X++t0.steps→t0.dep 2+s.d≤20→(j3 fac k a s).1=true →
  ∃ t:Tr,(t.ok∧t.pC)∧(j3 fac k a s).2.x=X++t.steps∧t.dep 2+s.d≤20
 | 0,a,s,X,t0,hd,h0,hx,hp,hs=>by simp [j3] at hs
 | k+1,a,s,X,t0,hd,h0,hx,hp,hs=>by
  unfold j3 at hs ⊢
  simp only at hs ⊢
  cases hm:(bX [38] s).1 with
  | false=>exact ⟨t0,h0,by simp only [hm,zuy,if_false]; rw [a9x,hx],hp⟩
  | true =>
   simp only [hm,if_true] at hs ⊢
   cases hr:(fac (bX [38] s).2).1 with
   | false=>simp [hr] at hs
   | true =>
    simp only [hr,if_true] at hs ⊢
    cases hq:(jZ (5,[],[]) a (fac (bX [38] s).2).2).1 with
    | false=>simp [hq] at hs
    | true =>
     simp only [hq,if_true] at hs ⊢
     obtain ⟨t,t1,t2,t3⟩:=h.t (bX [38] s).2 (by rw [aVu]; exact hd) hr
     rw [aVu] at t3
     have hd':(jZ (5,[],[]) a (fac (bX [38] s).2).2).2.d=s.d:=by rw [b55,g.d,aVu]
     obtain ⟨u,u1,u2,u3⟩:=aHg h g k _ (jZ (5,[],[]) a (fac (bX [38] s).2).2).2 X (.op 5 t0 t) (by rw [hd']; exact hd) ⟨⟨by decide,h0.1,t1.1⟩,h0.2,t1.2⟩
      (by rw [a9y hq,t2,a9x,hx]; simp [Tr.steps,zty])
      (by rw [hd']; simp only [Tr.dep,aNl]; simp; omega) hs
     exact ⟨u,u1,u2,by rw [hd'] at u3; exact u3⟩
theorem aVv {fac:Rd} (h:Rtr 3 fac) (g:Good fac):Rtr 2 (nA fac):=by
 refine ⟨fun s hd hs=>?_⟩
 unfold nA at hs ⊢
 simp only at hs ⊢
 cases hr:(fac s).1 with
 | false=>simp [hr] at hs
 | true =>
  simp only [hr,if_true] at hs ⊢
  obtain ⟨t,t1,t2,t3⟩:=h.t s hd hr
  have hd':=g.d s
  obtain ⟨u,u1,u2,u3⟩:=aHg h g _ _ (fac s).2 s.x t (by rw [hd']; exact hd) t1 t2 (by rw [hd']; have:=aVt t (show (2:Int)≤3 by decide); omega) hs
  exact ⟨u,u1,u2,by rw [hd'] at u3; exact u3⟩
theorem aJr {ter:Rd} (h:Rtr 2 ter) (g:Good ter):∀ (k:Nat) (s:bQ) (X:List cV) (t0:Tr),s.d≤20→t0.ok∧t0.pC→s.x=X++t0.steps→t0.dep 1+s.d≤20→(kO ter k s).1=true →
  ∃ t:Tr,(t.ok∧t.pC)∧(kO ter k s).2.x=X++t.steps∧t.dep 1+s.d≤20
 | 0,s,X,t0,hd,h0,hx,hp,hs=>by simp [kO] at hs
 | k+1,s,X,t0,hd,h0,hx,hp,hs=>by
  unfold kO at hs ⊢
  cases hm:(uA [43] s || uA [45] s) with
  | false=>exact ⟨t0,h0,by simp only [zuy,if_false]; exact hx,hp⟩
  | true =>
   simp only [hm,if_true] at hs ⊢
   cases hr:(ter (aP s)).1 with
   | false=>simp [hr] at hs
   | true =>
    simp only [hr,if_true] at hs ⊢
    generalize hk:(if uA [43] s=true then (3:Int) else 4)=kd at *
    have hkd:kd=3∨kd=4:=by split at hk <;> omega
    cases hq:(jZ (kd,[],[]) (fF s).2.1 (ter (aP s)).2).1 with
    | false=>simp [hq] at hs
    | true =>
     simp only [hq,if_true] at hs ⊢
     obtain ⟨t,t1,t2,t3⟩:=h.t (aP s) hd hr
     have t3:t.dep 2+s.d≤20:=t3
     have hd':(jZ (kd,[],[]) (fF s).2.1 (ter (aP s)).2).2.d=s.d:=by rw [b55,g.d]; rfl
     obtain ⟨u,u1,u2,u3⟩:=aJr h g k (jZ (kd,[],[]) (fF s).2.1 (ter (aP s)).2).2 X (.op kd t0 t) (by rw [hd']; exact hd) ⟨⟨by omega,h0.1,t1.1⟩,h0.2,t1.2⟩
      (by rw [a9y hq,t2,show (aP s).x=s.x from rfl,hx]; simp [Tr.steps,zty])
      (by rw [hd']; rcases hkd with rfl | rfl <;> (simp only [Tr.dep,aNl]; simp; omega)) hs
     exact ⟨u,u1,u2,by rw [hd'] at u3; exact u3⟩
theorem aZb {ter:Rd} (h:Rtr 2 ter) (g:Good ter):Rtr 1 (rL ter):=by
 refine ⟨fun s hd hs=>?_⟩
 unfold rL at hs ⊢
 simp only at hs ⊢
 cases hr:(ter s).1 with
 | false=>simp [hr] at hs
 | true =>
  simp only [hr,if_true] at hs ⊢
  obtain ⟨t,t1,t2,t3⟩:=h.t s hd hr
  have hd':=g.d s
  obtain ⟨u,u1,u2,u3⟩:=aJr h g _ (ter s).2 s.x t (by rw [hd']; exact hd) t1 t2 (by rw [hd']; have:=aVt t (show (1:Int)≤2 by decide); omega) hs
  exact ⟨u,u1,u2,by rw [hd'] at u3; exact u3⟩
theorem bAy:∀ f,Rtr 3 (gR f)
 | 0=>⟨fun s _ hs=>by simp [gR] at hs⟩
 | f+1=>b2i (aZb (aVv (bAy f) (a77 f)) (a5g (a77 f))) (aKq (a5g (a77 f)))
theorem b9e (f:Nat) (s:bQ) (hd:s.d≤20) (hs:(rL (nA (gR f)) s).1=true):∃ t:Tr,(t.ok∧t.pC)∧(rL (nA (gR f)) s).2.x=s.x++t.steps∧t.dep 1+s.d≤20 :=
 (aZb (aVv (bAy f) (a77 f)) (a5g (a77 f))).t s hd hs
end Go.Fbs

namespace Go.Fbs
structure bFw (s:bQ) (R:List eP) (X:List cV) (r:Bool×bQ):Prop where
 ok:r.1=true
 l:r.2.l=R
 n:r.2.n=s.n
 at_:r.2.at_=s.at_
 e:r.2.e=s.e
 d:r.2.d=s.d
 x:r.2.x=s.x++X
def b2j (f d:Nat) (A:List KT) (X:List cV):Prop:=∀ s T R,T.map kt=A→s.l=T++R→noB [45,62] R→s.x.length+X.length≤200→s.d=d→bFw s R X (gR f s)
abbrev FL:=List (List KT×List cV)
def bH8 (L:FL):List KT:=L.flatMap fun q=>(2,[38])::q.1
def bH9 (L:FL):List cV:=L.flatMap fun q=>q.2++[(5,[],[])]
def bAz (f d:Nat) (A:List KT) (X:List cV):Prop:=∀ s T R,T.map kt=A→s.l=T++R→NoT R→s.x.length+X.length≤200→s.d=d→bFw s R X (nA (gR f) s)
abbrev SL:=List (Int×List KT×List cV)
def sgK (k:Int):List UInt8:=if k=3 then [43] else [45]
def bIa (L:SL):List KT:=L.flatMap fun q=>(2,sgK q.1)::q.2.1
def bIb (L:SL):List cV:=L.flatMap fun q=>q.2.2++[(q.1,[],[])]
end Go.Fbs

namespace Go.Fbs
def Tr.src (l:List eP):Tr→Prop
 | .nm a=>∃ t ∈ l,t.1=1∧t.2.2=a
 | .ar a b=>(∃ t ∈ l,t.1=1∧t.2.2=a)∧∃ t ∈ l,t.1=1∧t.2.2=b
 | .op _ x y=>x.src l∧y.src l
theorem a4g {l l':List eP} (h:∀ t ∈ l,t ∈ l'):∀ {t:Tr},t.src l→t.src l'
 | .nm _,⟨t,h1,h2⟩=>⟨t,h t h1,h2⟩
 | .ar _ _,⟨⟨t,h1,h2⟩,⟨u,h3,h4⟩⟩=>⟨⟨t,h t h1,h2⟩,⟨u,h u h3,h4⟩⟩
 | .op _ _ _,⟨h1,h2⟩=>⟨a4g h h1,a4g h h2⟩
abbrev In (s1 s:bQ):Prop:=∀ t ∈ s1.l,t ∈ s.l
theorem aPe (e:Int) (s:bQ):In (xV e s) s:=by unfold xV; split <;> exact fun _ h=>h
theorem jO (s:bQ):In (aP s) s:=fun _ h=>List.mem_of_mem_tail h
theorem a4h (s:bQ):In (aX s).2.1 s:=by unfold aX; split; exact jO s; exact aPe _ _
theorem a8g (g:List UInt8) (s:bQ):In (bX g s).2 s:=by unfold bX; split; exact jO s; exact fun _ h=>h
theorem bC4 (g:List UInt8) (s:bQ):In (mE g s).2 s:=by unfold mE; split; exact jO s; exact aPe _ _
theorem aNn (p:cV) (a:Nat) (s:bQ):In (jZ p a s).2 s:=by unfold jZ; split <;> exact fun _ h=>h
theorem aD0 {s:bQ} (h:(aX s).1=true):∃ t ∈ s.l,t.1=1∧t.2.2=(aX s).2.2.getD []:=by
 unfold aX at h ⊢
 split at h
 ·rename_i h1
  rw [if_pos h1]
  refine ⟨fF s,b8f (aKp h1),?_,rfl⟩
  unfold wY at h1
  simp only [zxz,decide_eq_true_eq] at h1
  exact h1.1
 ·simp at h
structure Rsr (f:Rd):Prop where
 i:∀ s,In (f s).2 s
 t:∀ s,(f s).1=true→∃ t:Tr,(t.ok∧t.src s.l)∧(f s).2.x=s.x++t.steps
theorem b2l {sum:Rd} (h:Rsr sum):Rsr (lW sum):=by
 refine ⟨fun s=>?_,fun s hs=>?_⟩
 ·unfold lW
  split
  ·split
   ·exact aPe _ _
   ·simp only
    have h1:In (sum (aP { s with d:=s.d+1 })).2 s:=fun t ht=>List.mem_of_mem_tail (h.i _ t ht)
    split
    ·exact fun t ht=>h1 t (bC4 _ _ t ht)
    ·exact h1
  ·simp only
   split
   ·split
    ·split
     ·exact fun t ht=>a4h s t (a8g _ _ t (a4h _ t (aNn _ _ _ t ht)))
     ·exact fun t ht=>a4h s t (a8g _ _ t (a4h _ t ht))
    ·exact fun t ht=>a4h s t (a8g _ _ t (aNn _ _ _ t ht))
   ·exact a4h s
 ·unfold lW at hs ⊢
  by_cases h1:uA [40] s=true
  ·rw [if_pos h1] at hs ⊢
   by_cases h2:s.d=20
   ·rw [if_pos h2] at hs; simp at hs
   ·rw [if_neg h2] at hs ⊢
    simp only at hs ⊢
    cases hr:(sum (aP { s with d:=s.d+1 })).1 with
    | false=>rw [hr] at hs; simp at hs
    | true =>
     rw [hr] at hs
     simp only [if_true] at hs ⊢
     obtain ⟨t,t1,t2⟩:=h.t (aP { s with d:=s.d+1 }) hr
     refine ⟨t,⟨t1.1,a4g (fun _ h=>List.mem_of_mem_tail h) t1.2⟩,?_⟩
     show (mE [41] _).2.x=_
     rw [b54,t2]; rfl
  ·rw [if_neg h1] at hs ⊢
   simp only at hs ⊢
   cases hn:(aX s).1 with
   | false=>rw [hn] at hs; simp at hs
   | true =>
    rw [hn] at hs
    simp only [if_true] at hs ⊢
    cases hm:(bX [45,62] (aX s).2.1).1 with
    | true =>
     rw [hm] at hs
     simp only [if_true] at hs ⊢
     cases hq:(aX (bX [45,62] (aX s).2.1).2).1 with
     | false=>rw [hq] at hs; simp at hs
     | true =>
      rw [hq] at hs
      simp only [if_true] at hs ⊢
      obtain ⟨u,u1,u2⟩:=aD0 hq
      refine ⟨.ar ((aX s).2.2.getD []) ((aX (bX [45,62] (aX s).2.1).2).2.2.getD []),⟨trivial,aD0 hn,u,a4h s u (a8g _ _ u u1),u2⟩,?_⟩
      rw [a9y hs,aBs,a9x,aBs]; rfl
    | false =>
     rw [hm] at hs
     simp only [zuy,if_false] at hs ⊢
     refine ⟨.nm ((aX s).2.2.getD []),⟨trivial,aD0 hn⟩,?_⟩
     rw [a9y hs,a9x,aBs]; rfl
theorem a8h {fac:Rd} (h:Rsr fac):∀ (k a:Nat) (s:bQ),In (j3 fac k a s).2 s∧∀ (Y:List eP) (X:List cV) (t0:Tr),(∀ t ∈ s.l,t ∈ Y)→t0.ok∧t0.src Y→s.x=X++t0.steps→(j3 fac k a s).1=true →
  ∃ t:Tr,(t.ok∧t.src Y)∧(j3 fac k a s).2.x=X++t.steps
 | 0,a,s=>⟨fun _ h=>h,fun Y X t0 hy h0 hx hs=>by simp [j3] at hs⟩
 | k+1,a,s=>by
  unfold j3
  simp only
  cases hm:(bX [38] s).1 with
  | false =>
   simp only [zuy,if_false]
   exact ⟨a8g _ s,fun Y X t0 hy h0 hx _=>⟨t0,h0,by rw [a9x,hx]⟩⟩
  | true =>
   simp only [if_true]
   have i1:In (fac (bX [38] s).2).2 s:=fun t ht=>a8g _ s t (h.i _ t ht)
   cases hr:(fac (bX [38] s).2).1 with
   | false =>
    simp only [zuy,if_false]
    exact ⟨i1,fun Y X t0 hy h0 hx hs=>by simp at hs⟩
   | true =>
    simp only [if_true]
    have i2:In (jZ (5,[],[]) a (fac (bX [38] s).2).2).2 s:=fun t ht=>i1 t (aNn _ _ _ t ht)
    cases hq:(jZ (5,[],[]) a (fac (bX [38] s).2).2).1 with
    | false =>
     simp only [zuy,if_false]
     exact ⟨i2,fun Y X t0 hy h0 hx hs=>by simp at hs⟩
    | true =>
     simp only [if_true]
     have ih:=a8h h k (fF (jZ (5,[],[]) a (fac (bX [38] s).2).2).2).2.1 (jZ (5,[],[]) a (fac (bX [38] s).2).2).2
     refine ⟨fun t ht=>i2 t (ih.1 t ht),fun Y X t0 hy h0 hx hs=>?_⟩
     obtain ⟨t,t1,t2⟩:=h.t (bX [38] s).2 hr
     exact ih.2 Y X (.op 5 t0 t) (fun u hu=>hy u (i2 u hu)) ⟨⟨by decide,h0.1,t1.1⟩,h0.2,a4g (fun u hu=>hy u (a8g _ s u hu)) t1.2⟩ (by rw [a9y hq,t2,a9x,hx]; simp [Tr.steps,zty]) hs
theorem aLb {fac:Rd} (h:Rsr fac):Rsr (nA fac):=by
 refine ⟨fun s=>?_,fun s hs=>?_⟩
 ·unfold nA
  simp only
  split
  ·exact fun t ht=>h.i s t ((a8h h _ _ _).1 t ht)
  ·exact h.i s
 ·unfold nA at hs ⊢
  simp only at hs ⊢
  cases hr:(fac s).1 with
  | false=>simp [hr] at hs
  | true =>
   simp only [hr,if_true] at hs ⊢
   obtain ⟨t,t1,t2⟩:=h.t s hr
   exact (a8h h _ _ (fac s).2).2 s.l s.x t (h.i s) t1 t2 hs
theorem aAp {ter:Rd} (h:Rsr ter):∀ (k:Nat) (s:bQ),In (kO ter k s).2 s∧∀ (Y:List eP) (X:List cV) (t0:Tr),(∀ t ∈ s.l,t ∈ Y)→t0.ok∧t0.src Y→s.x=X++t0.steps→(kO ter k s).1=true →
  ∃ t:Tr,(t.ok∧t.src Y)∧(kO ter k s).2.x=X++t.steps
 | 0,s=>⟨fun _ h=>h,fun Y X t0 hy h0 hx hs=>by simp [kO] at hs⟩
 | k+1,s=>by
  unfold kO
  cases hm:(uA [43] s || uA [45] s) with
  | false =>
   simp only [zuy,if_false]
   exact ⟨fun _ h=>h,fun Y X t0 hy h0 hx _=>⟨t0,h0,hx⟩⟩
  | true =>
   simp only [if_true]
   have i1:In (ter (aP s)).2 s:=fun t ht=>jO s t (h.i _ t ht)
   generalize hk:(if uA [43] s=true then (3:Int) else 4)=kd
   have hkd:kd=3∨kd=4:=by split at hk <;> omega
   cases hr:(ter (aP s)).1 with
   | false =>
    simp only [zuy,if_false]
    exact ⟨i1,fun Y X t0 hy h0 hx hs=>by simp at hs⟩
   | true =>
    simp only [if_true]
    have i2:In (jZ (kd,[],[]) (fF s).2.1 (ter (aP s)).2).2 s:=fun t ht=>i1 t (aNn _ _ _ t ht)
    cases hq:(jZ (kd,[],[]) (fF s).2.1 (ter (aP s)).2).1 with
    | false =>
     simp only [zuy,if_false]
     exact ⟨i2,fun Y X t0 hy h0 hx hs=>by simp at hs⟩
    | true =>
     simp only [if_true]
     have ih:=aAp h k (jZ (kd,[],[]) (fF s).2.1 (ter (aP s)).2).2
     refine ⟨fun t ht=>i2 t (ih.1 t ht),fun Y X t0 hy h0 hx hs=>?_⟩
     obtain ⟨t,t1,t2⟩:=h.t (aP s) hr
     exact ih.2 Y X (.op kd t0 t) (fun u hu=>hy u (i2 u hu)) ⟨⟨by omega,h0.1,t1.1⟩,h0.2,a4g (fun u hu=>hy u (jO s u hu)) t1.2⟩ (by rw [a9y hq,t2,show (aP s).x=s.x from rfl,hx]; simp [Tr.steps,zty]) hs
theorem aPf {ter:Rd} (h:Rsr ter):Rsr (rL ter):=by
 refine ⟨fun s=>?_,fun s hs=>?_⟩
 ·unfold rL
  simp only
  split
  ·exact fun t ht=>h.i s t ((aAp h _ _).1 t ht)
  ·exact h.i s
 ·unfold rL at hs ⊢
  simp only at hs ⊢
  cases hr:(ter s).1 with
  | false=>simp [hr] at hs
  | true =>
   simp only [hr,if_true] at hs ⊢
   obtain ⟨t,t1,t2⟩:=h.t s hr
   exact (aAp h _ (ter s).2).2 s.l s.x t (h.i s) t1 t2 hs
theorem b2m:∀ f,Rsr (gR f)
 | 0=>⟨fun _ _ h=>h,fun s hs=>by simp [gR] at hs⟩
 | f+1=>b2l (aPf (aLb (b2m f)))
def goT:List cV→List Tr→Option (List Tr)
 | [],st=>some st
 | (k,a,b)::r,st =>
  if k=1 then goT r (.nm a::st) else
  if k=2 then goT r (.ar a b::st) else
  match st with
  | y::x::st'=>goT r (.op k x y::st')
  | _=>none
theorem aNq:∀ {t:Tr} {r:List cV} {st:List Tr},t.ok→goT (t.steps++r) st=goT r (t::st)
 | .nm a,r,st,_=>by simp only [Tr.steps,List.cons_append,List.nil_append,goT,if_true]
 | .ar a b,r,st,_=>by
  simp only [Tr.steps,List.cons_append,List.nil_append,goT,if_true]
  rw [if_neg (by decide)]
 | .op k x y,r,st,⟨hk,hx,hy⟩=>by
  simp only [Tr.steps,zty]
  rw [aNq hx,aNq hy]
  simp only [List.cons_append,List.nil_append,goT]
  rw [if_neg (by omega),if_neg (by omega)]
theorem b56 {t u:Tr} (ht:t.ok) (hu:u.ok) (h:t.steps=u.steps):t=u:=by
 have h1:=aNq (r:=[]) (st:=[]) ht
 have h2:=aNq (r:=[]) (st:=[]) hu
 rw [h,h2] at h1
 simp only [goT,zzz,List.cons.injEq,and_true] at h1
 exact h1.symm
theorem b9f (f:Nat) (s:bQ) (hd:s.d≤20) (hs:(rL (nA (gR f)) s).1=true) :
  ∃ t:Tr,t.ok∧t.pC∧t.src s.l∧(rL (nA (gR f)) s).2.x=s.x++t.steps∧t.dep 1+s.d≤20:=by
 obtain ⟨t,t1,t2,t3⟩:=b9e f s hd hs
 obtain ⟨u,u1,u2⟩:=(aPf (aLb (b2m f))).t s hs
 have:=b56 t1.1 u1.1 (List.append_cancel_left (t2.symm.trans u2))
 subst this
 exact ⟨t,t1.1,t1.2,u1.2,t2,t3⟩
end Go.Fbs

namespace Go.Fbs
def aHh (c:UInt8):Bool:=jG c.toNat
structure Lx (w:List UInt8) (ks:List (Int×List UInt8)):Prop where
 sl:(47:UInt8) ∉ w
 en : w.getLast? ≠ some 45
 ok:∀ k,(nK k w).2=none
 kd:∀ k,(nK k w).1.map kt=ks
end Go.Fbs

namespace Go.Fbs
def Tr.lets:Tr→Prop
 | .nm a=>a≠[]∧∀ c ∈ a,aHh c=true
 | .ar a b=>(a≠[]∧∀ c ∈ a,aHh c=true)∧b≠[]∧∀ c ∈ b,aHh c=true
 | .op _ x y=>x.lets∧y.lets
theorem b57 {l:List UInt8} (h:(eU l).1=1):(eU l).2.1≠[]∧∀ c ∈ (eU l).2.1,aHh c=true:=by
 unfold eU at h ⊢
 split at h
 ·rename_i h1
  rw [if_pos h1]
  have e:l.take (pX l)=l.takeWhile fun c=>jG c.toNat:=by
   unfold pX
   exact (List.prefix_iff_eq_take.1 (List.takeWhile_prefix _)).symm
  refine ⟨fun h2=>?_,fun c hc=>?_⟩
  ·have h2:l.take (pX l)=[]:=h2
   have:(l.take (pX l)).length=0:=by rw [h2]; rfl
   rw [e] at this
   unfold pX at h1
   omega
  ·have hc:c ∈ l.take (pX l):=hc
   rw [e] at hc
   exact aUl hc
 ·split at h <;> simp at h
theorem aQ4:∀ (f k:Nat) (l:List UInt8) (t:eP),t ∈ (iE f k l).1→t.1=1→t.2.2≠[]∧∀ c ∈ t.2.2,aHh c=true
 | 0,k,l,t,h,_=>by simp [iE] at h
 | f+1,k,[],t,h,_=>by simp [iE] at h
 | f+1,k,c::l,t,h,h1=>by
  simp only [iE] at h
  split at h
  ·simp at h
  ·simp only [List.mem_cons] at h
   rcases h with rfl | h
   ·exact b57 h1
   ·exact aQ4 f _ _ t h h1
theorem aLc {l:List eP} (hl:∀ t ∈ l,t.1=1→t.2.2≠[]∧∀ c ∈ t.2.2,aHh c=true):∀ {t:Tr},t.src l→t.lets
 | .nm _,⟨u,h1,h2,h3⟩=>h3 ▸ hl u h1 h2
 | .ar _ _,⟨⟨u,h1,h2,h3⟩,⟨v,h4,h5,h6⟩⟩=>⟨h3 ▸ hl u h1 h2,h6 ▸ hl v h4 h5⟩
 | .op _ _ _,⟨h1,h2⟩=>⟨aLc hl h1,aLc hl h2⟩
end Go.Fbs

namespace Go.Fbs
def nmG (a:List UInt8):Prop:=a00 a=true∧a≠[]∧∀ c ∈ a,aHh c=true
def aVw (s:Sub):Prop:=nmG s.1∧s.2.1=[]∧(s.2.2=[]∨nmG s.2.2)
def aVx (r:Rel):Prop:=nmG r.1∧((r.2.2=[]∧r.2.1≠[]∧r.2.1.length≤50∧∀ s ∈ r.2.1,aVw s)∨(r.2.1=[]∧∃ t:Tr,t.ok∧t.pC∧t.lets∧t.steps=r.2.2∧t.steps.length≤200∧t.dep 1≤20))
def aPg (t:fM):Prop:=nmG t.1∧t.2.length≤200∧∀ r ∈ t.2,aVx r
def a4i (l:List eP):Prop:=∀ t ∈ l,t.1=1→t.2.2≠[]∧∀ c ∈ t.2.2,aHh c=true
theorem a4i.of {l l':List eP} (h:a4i l) (i:∀ t ∈ l',t ∈ l):a4i l':=fun t ht=>h t (i t ht)
theorem aNr {s:bQ} (h:(aX s).1=true) (hl:a4i s.l):nmG ((aX s).2.2.getD []):=by
 obtain ⟨t,h1,h2,h3⟩:=aD0 h
 refine ⟨a9w h,?_⟩
 rw [← h3]; exact hl t h1 h2
theorem a7h {s:bQ} (h:(aX s).1=true):(aX s).2.1=aP s∧s.l≠[]:=by
 unfold aX at h ⊢
 split at h
 ·rename_i h1; rw [if_pos h1]; exact ⟨rfl,aKp h1⟩
 ·simp at h
theorem lR {s:bQ} (h:s.l≠[]):(aP s).l.length+1=s.l.length:=by
 show s.l.tail.length+1=_
 cases hl:s.l with
 | nil=>exact absurd hl h
 | cons a r=>simp
theorem a5k {g:List UInt8} {s:bQ} (h:(bX g s).1=true):(bX g s).2=aP s∧s.l≠[]:=by
 unfold bX at h ⊢
 split at h
 ·rename_i h1; rw [if_pos h1]; exact ⟨rfl,b1k h1⟩
 ·simp at h
theorem a5l {g:List UInt8} {s:bQ} (h:(bX g s).1=false):(bX g s).2=s:=by
 unfold bX at h ⊢
 split at h
 ·simp at h
 ·rename_i h1; rw [if_neg h1]
theorem aIi {g:List UInt8} {s:bQ} (h:(mE g s).1=true):(mE g s).2=aP s∧s.l≠[]:=by
 unfold mE at h ⊢
 split at h
 ·rename_i h1; rw [if_pos h1]; exact ⟨rfl,b1k h1⟩
 ·simp at h
theorem aPh {n most:Int} {s:bQ} (h:(eR n most s).1=true):n < most∧(eR n most s).2=s:=(aMv n most s).2.2 h
theorem aNs {p:cV} {a:Nat} {s:bQ} (h:(jZ p a s).1=true):s.x.length < 200∧(jZ p a s).2 = { s with x:=s.x++[p] }:=by
 unfold jZ at h ⊢
 split at h
 ·simp at h
 ·rename_i h1; rw [if_neg h1]; exact ⟨by omega,rfl⟩
structure Rwt (f:Rd):Prop where
 w:∀ s,(f s).1=true→(f s).2.x.length+(f s).2.l.length≤s.x.length+s.l.length∧(s.x.length≤200→(f s).2.x.length≤200)
theorem b2n {sum:Rd} (h:Rwt sum):Rwt (lW sum):=by
 refine ⟨fun s hs=>?_⟩
 unfold lW at hs ⊢
 by_cases h1:uA [40] s=true
 ·rw [if_pos h1] at hs ⊢
  by_cases h2:s.d=20
  ·rw [if_pos h2] at hs; simp at hs
  ·rw [if_neg h2] at hs ⊢
   simp only at hs ⊢
   cases hr:(sum (aP { s with d:=s.d+1 })).1 with
   | false=>rw [hr] at hs; simp at hs
   | true =>
    rw [hr] at hs
    simp only [if_true] at hs ⊢
    have:=h.w (aP { s with d:=s.d+1 }) hr
    have hp:(aP { s with d:=s.d+1 }).l.length≤s.l.length:=(aC0 { s with d:=s.d+1 }).2
    have hx:(aP { s with d:=s.d+1 }).x=s.x:=rfl
    rw [hx] at this
    have hq:=aIi (g:=[41]) (s:=(sum (aP { s with d:=s.d+1 })).2) hs
    rw [hq.1]
    have hp2:=(aC0 (sum (aP { s with d:=s.d+1 })).2).2
    show (aP _).x.length+(aP _).l.length≤_∧(_→(aP _).x.length≤200)
    have hx2:(aP (sum (aP { s with d:=s.d+1 })).2).x=(sum (aP { s with d:=s.d+1 })).2.x:=rfl
    rw [hx2]
    exact ⟨by omega,this.2⟩
 ·rw [if_neg h1] at hs ⊢
  simp only at hs ⊢
  cases hn:(aX s).1 with
  | false=>rw [hn] at hs; simp at hs
  | true =>
   rw [hn] at hs
   obtain ⟨n1,n2⟩:=a7h hn
   have hpl:=lR n2
   simp only [if_true] at hs ⊢
   rw [n1] at hs ⊢
   have hpx:(aP s).x=s.x:=rfl
   cases hm:(bX [45,62] (aP s)).1 with
   | true =>
    rw [hm] at hs
    obtain ⟨m1,m2⟩:=a5k hm
    have hpl2:=lR m2
    simp only [if_true] at hs ⊢
    rw [m1] at hs ⊢
    cases hq:(aX (aP (aP s))).1 with
    | false=>rw [hq] at hs; simp at hs
    | true =>
     rw [hq] at hs
     obtain ⟨q1,q2⟩:=a7h hq
     have hpl3:=lR q2
     simp only [if_true] at hs ⊢
     rw [q1] at hs ⊢
     obtain ⟨p1,p2⟩:=aNs hs
     rw [p2]
     have e:(aP (aP (aP s))).x=s.x:=rfl
     simp only [e,zwy,List.length_singleton] at p1 ⊢
     exact ⟨by omega,fun _=>by omega⟩
   | false =>
    rw [hm] at hs
    have m1:=a5l hm
    simp only [zuy,if_false] at hs ⊢
    rw [m1] at hs ⊢
    obtain ⟨p1,p2⟩:=aNs hs
    rw [p2]
    simp only [hpx,zwy,List.length_singleton] at p1 ⊢
    exact ⟨by omega,fun _=>by omega⟩
theorem aHi {fac:Rd} (h:Rwt fac):∀ (k a:Nat) (s:bQ),(j3 fac k a s).1=true→(j3 fac k a s).2.x.length+(j3 fac k a s).2.l.length≤s.x.length+s.l.length∧(s.x.length≤200→(j3 fac k a s).2.x.length≤200)
 | 0,a,s,hs=>by simp [j3] at hs
 | k+1,a,s,hs=>by
  unfold j3 at hs ⊢
  simp only at hs ⊢
  cases hm:(bX [38] s).1 with
  | false=>simp only [hm,zuy,if_false]; rw [a5l hm]; exact ⟨zxy _,id⟩
  | true =>
   simp only [hm,if_true] at hs ⊢
   obtain ⟨m1,m2⟩:=a5k hm
   have hpl:=lR m2
   rw [m1] at hs ⊢
   cases hr:(fac (aP s)).1 with
   | false=>simp [hr] at hs
   | true =>
    simp only [hr,if_true] at hs ⊢
    have h1:=h.w (aP s) hr
    have hpx:(aP s).x=s.x:=rfl
    rw [hpx] at h1
    cases hq:(jZ (5,[],[]) a (fac (aP s)).2).1 with
    | false=>simp [hq] at hs
    | true =>
     simp only [hq,if_true] at hs ⊢
     obtain ⟨p1,p2⟩:=aNs hq
     rw [p2] at hs ⊢
     have ih:=aHi h k _ _ hs
     simp only [zwy,List.length_singleton] at ih
     exact ⟨by omega,fun _=>ih.2 (by omega)⟩
theorem aVy {fac:Rd} (h:Rwt fac):Rwt (nA fac):=by
 refine ⟨fun s hs=>?_⟩
 unfold nA at hs ⊢
 simp only at hs ⊢
 cases hr:(fac s).1 with
 | false=>simp [hr] at hs
 | true =>
  simp only [hr,if_true] at hs ⊢
  have h1:=h.w s hr
  have h2:=aHi h _ _ _ hs
  exact ⟨by omega,fun h9=>h2.2 (h1.2 h9)⟩
theorem aJs {ter:Rd} (h:Rwt ter):∀ (k:Nat) (s:bQ),(kO ter k s).1=true→(kO ter k s).2.x.length+(kO ter k s).2.l.length≤s.x.length+s.l.length∧(s.x.length≤200→(kO ter k s).2.x.length≤200)
 | 0,s,hs=>by simp [kO] at hs
 | k+1,s,hs=>by
  unfold kO at hs ⊢
  cases hm:(uA [43] s || uA [45] s) with
  | false=>simp only [hm,zuy,if_false]; exact ⟨zxy _,id⟩
  | true =>
   simp only [hm,if_true] at hs ⊢
   have hne:s.l≠[]:=by
    simp only [Bool.or_eq_true] at hm
    rcases hm with hm | hm <;> exact b1k hm
   have hpl:=lR hne
   cases hr:(ter (aP s)).1 with
   | false=>simp [hr] at hs
   | true =>
    simp only [hr,if_true] at hs ⊢
    have h1:=h.w (aP s) hr
    have hpx:(aP s).x=s.x:=rfl
    rw [hpx] at h1
    generalize ((if uA [43] s=true then 3 else 4,[],[]):cV)=st at *
    cases hq:(jZ st (fF s).2.1 (ter (aP s)).2).1 with
    | false=>simp [hq] at hs
    | true =>
     simp only [hq,if_true] at hs ⊢
     obtain ⟨p1,p2⟩:=aNs hq
     rw [p2] at hs ⊢
     have ih:=aJs h k _ hs
     simp only [zwy,List.length_singleton] at ih
     exact ⟨by omega,fun _=>ih.2 (by omega)⟩
theorem aZc {ter:Rd} (h:Rwt ter):Rwt (rL ter):=by
 refine ⟨fun s hs=>?_⟩
 unfold rL at hs ⊢
 simp only at hs ⊢
 cases hr:(ter s).1 with
 | false=>simp [hr] at hs
 | true =>
  simp only [hr,if_true] at hs ⊢
  have h1:=h.w s hr
  have h2:=aJs h _ _ hs
  exact ⟨by omega,fun h9=>h2.2 (h1.2 h9)⟩
theorem bA0:∀ f,Rwt (gR f)
 | 0=>⟨fun s hs=>by simp [gR] at hs⟩
 | f+1=>b2n (aZc (aVy (bA0 f)))
theorem b59 {s:bQ} (hd:s.d≤20) (hx:s.x=[]) (h:(sP s).1=true) :
  (∃ t:Tr,t.ok∧t.pC∧t.src s.l∧(sP s).2.x=t.steps∧t.steps.length≤200∧t.dep 1+s.d≤20)∧In (sP s).2 s∧(sP s).2.x.length+(sP s).2.l.length≤s.l.length:=by
 unfold sP at h ⊢
 obtain ⟨t,t1,t2,t3,t4,t5⟩:=b9f 21 s hd h
 have hw:=(aZc (aVy (bA0 21))).w s h
 rw [hx] at t4 hw
 rw [List.nil_append] at t4
 refine ⟨⟨t,t1,t2,t3,t4,by rw [← t4]; exact hw.2 (by simp),t5⟩,(aPf (aLb (b2m 21))).i s,by simpa using hw.1⟩
attribute [local irreducible] sP gR
theorem aHj:∀ (k:Nat) (s:bQ) (l:List Sub),a4i s.l→(∀ x ∈ l,aVw x)→(nB k s l).1=true →
  In (nB k s l).2.1 s∧(∀ x ∈ (nB k s l).2.2,aVw x)∧(nB k s l).2.2.length≤50∧(nB k s l).2.2≠[]∧(nB k s l).2.2.length+(nB k s l).2.1.l.length≤l.length+s.l.length
 | 0,s,l,_,_,hs=>by simp [nB] at hs
 | k+1,s,l,hl,hG,hs=>by
  unfold nB at hs ⊢
  simp only at hs ⊢
  cases ha:(eR l.length 50 s).1 with
  | false=>simp [ha] at hs
  | true =>
   obtain ⟨a1,a2⟩:=aPh ha
   simp only [ha,if_true] at hs ⊢
   rw [a2] at hs ⊢
   cases hn:(aX s).1 with
   | false=>simp [hn] at hs
   | true =>
    obtain ⟨n1,n2⟩:=a7h hn
    have g1:=aNr hn hl
    have hpl:=lR n2
    simp only [hn,if_true] at hs ⊢
    rw [n1] at hs ⊢
    cases hm:(bX [35] (aP s)).1 with
    | true =>
     obtain ⟨m1,m2⟩:=a5k hm
     have hpl2:=lR m2
     simp only [hm,if_true] at hs ⊢
     rw [m1] at hs ⊢
     have hl2:a4i (aP (aP s)).l:=hl.of fun t ht=>jO s t (jO _ t ht)
     cases hq:(aX (aP (aP s))).1 with
     | false=>simp [hq] at hs
     | true =>
      obtain ⟨q1,q2⟩:=a7h hq
      have g2:=aNr hq hl2
      have hpl3:=lR q2
      simp only [hq,if_true] at hs ⊢
      rw [q1] at hs ⊢
      have hG':∀ x ∈ l++[((aX s).2.2.getD [],[],(aX (aP (aP s))).2.2.getD [])],aVw x:=fun x hx=>by
       rcases List.mem_append.1 hx with hx | hx
       ·exact hG x hx
       ·simp only [List.mem_singleton] at hx; subst hx; exact ⟨g1,rfl,.inr g2⟩
      have i3:In (aP (aP (aP s))) s:=fun t ht=>jO s t (jO _ t (jO _ t ht))
      cases hb:(bX [124] (aP (aP (aP s)))).1 with
      | true =>
       obtain ⟨b1,b2⟩:=a5k hb
       have hpl4:=lR b2
       simp only [hb,if_true] at hs ⊢
       rw [b1] at hs ⊢
       have i4:In (aP (aP (aP (aP s)))) s:=fun t ht=>i3 t (jO _ t ht)
       obtain ⟨r1,r2,r3,r4,r5⟩:=aHj k _ _ (hl.of i4) hG' hs
       refine ⟨fun t ht=>i4 t (r1 t ht),r2,r3,r4,?_⟩
       simp only [zwy,List.length_singleton] at r5
       omega
      | false =>
       have b1:=a5l hb
       simp only [hb,zuy,if_false] at hs ⊢
       rw [b1]
       refine ⟨i3,hG',by simp only [zwy,List.length_singleton]; omega,by simp,?_⟩
       simp only [zwy,List.length_singleton]; omega
    | false =>
     have m1:=a5l hm
     simp only [hm,zuy,if_false] at hs ⊢
     rw [m1] at hs ⊢
     have hG':∀ x ∈ l++[((aX s).2.2.getD [],([]:List UInt8),([]:List UInt8))],aVw x:=fun x hx=>by
      rcases List.mem_append.1 hx with hx | hx
      ·exact hG x hx
      ·simp only [List.mem_singleton] at hx; subst hx; exact ⟨g1,rfl,.inl rfl⟩
     cases hb:(bX [124] (aP s)).1 with
     | true =>
      obtain ⟨b1,b2⟩:=a5k hb
      have hpl4:=lR b2
      simp only [hb,if_true] at hs ⊢
      rw [b1] at hs ⊢
      have i4:In (aP (aP s)) s:=fun t ht=>jO s t (jO _ t ht)
      obtain ⟨r1,r2,r3,r4,r5⟩:=aHj k _ _ (hl.of i4) hG' hs
      refine ⟨fun t ht=>i4 t (r1 t ht),r2,r3,r4,?_⟩
      simp only [zwy,List.length_singleton] at r5
      omega
     | false =>
      have b1:=a5l hb
      simp only [hb,zuy,if_false] at hs ⊢
      rw [b1]
      refine ⟨jO s,hG',by simp only [zwy,List.length_singleton]; omega,by simp,?_⟩
      simp only [zwy,List.length_singleton]; omega
def aVz (r:Rel):Nat:=1+(r.2.1.length+r.2.2.length)
def a9z (l:List Rel):Nat:=(l.map aVz).sum
def aV0 (t:fM):Nat:=1+a9z t.2
def a67 (l:List fM):Nat:=(l.map aV0).sum
theorem b6a (l:List Rel) (r:Rel):a9z (l++[r])=a9z l+aVz r:=by simp [a9z]
theorem b6b (l:List fM) (r:fM):a67 (l++[r])=a67 l+aV0 r:=by simp [a67]
theorem b2o {s:bQ} {l:List Rel} (hd:s.d=0) (hl:a4i s.l) (hs:(gS s l).1=true) :
  In (gS s l).2.1 s∧∃ r,(gS s l).2.2=l++[r]∧aVx r∧l.length < 200∧aVz r+(gS s l).2.1.l.length≤s.l.length:=by
 unfold gS at hs ⊢
 simp only at hs ⊢
 cases ha:(eR l.length 200 s).1 with
 | false=>simp [ha] at hs
 | true =>
  obtain ⟨a1,a2⟩:=aPh ha
  have a1:l.length < 200:=by omega
  simp only [ha,if_true] at hs ⊢
  rw [a2] at hs ⊢
  cases hn:(aX s).1 with
  | false=>simp [hn] at hs
  | true =>
   obtain ⟨n1,n2⟩:=a7h hn
   have g1:=aNr hn hl
   have hpl:=lR n2
   simp only [hn,if_true] at hs ⊢
   rw [n1] at hs ⊢
   cases hm:(bX [61] (aP s)).1 with
   | true =>
    obtain ⟨m1,m2⟩:=a5k hm
    have hpl2:=lR m2
    simp only [hm,if_true] at hs ⊢
    rw [m1] at hs ⊢
    cases hq:(sP { aP (aP s) with x:=[] }).1 with
    | false=>simp [hq] at hs
    | true =>
     simp only [hq,if_true] at hs ⊢
     obtain ⟨⟨t,t1,t2,t3,t4,t5,t6⟩,i1,w1⟩:=b59 (s:={ aP (aP s) with x:=[] }) (by show s.d≤20; omega) rfl hq
     obtain ⟨z1,z2⟩:=aIi hs
     have hpl3:=lR z2
     rw [z1]
     have i2:In { aP (aP s) with x:=[] } s:=fun t ht=>jO s t (jO _ t ht)
     have w1:(sP { aP (aP s) with x:=[] }).2.x.length+(sP { aP (aP s) with x:=[] }).2.l.length≤(aP (aP s)).l.length:=w1
     generalize sP { aP (aP s) with x:=[] } = Q at *
     refine ⟨fun t ht=>i2 t (i1 t (jO _ t ht)),_,rfl,⟨g1,.inr ⟨rfl,t,t1,t2,aLc hl (a4g i2 t3),t4.symm,t5,?_⟩⟩,a1,?_⟩
     ·have:t.dep 1+s.d≤20:=t6
      omega
     ·simp only [aVz,List.length_nil]
      omega
   | false =>
    have m1:=a5l hm
    simp only [hm,zuy,if_false] at hs ⊢
    rw [m1] at hs ⊢
    cases hc:(mE [58] (aP s)).1 with
    | false=>simp [hc] at hs
    | true =>
     obtain ⟨c1,c2⟩:=aIi hc
     have hpl2:=lR c2
     simp only [hc,if_true] at hs ⊢
     rw [c1] at hs ⊢
     have i2:In (aP (aP s)) s:=fun t ht=>jO s t (jO _ t ht)
     cases hq:(a9k (aP (aP s)) []).1 with
     | false=>simp [hq] at hs
     | true =>
      simp only [hq,if_true] at hs ⊢
      obtain ⟨z1,z2⟩:=aIi hs
      have hpl3:=lR z2
      have hS:=aHj ((aP (aP s)).l.length+1) (aP (aP s)) [] (hl.of i2) (fun x hx=>by simp at hx) hq
      obtain ⟨i1,r2,r3,r4,r5⟩:=hS
      rw [z1]
      refine ⟨fun t ht=>i2 t (i1 t (jO _ t ht)),_,rfl,⟨g1,.inl ⟨rfl,r4,r3,r2⟩⟩,a1,?_⟩
      have e1:(nB ((aP (aP s)).l.length+1) (aP (aP s)) [])=a9k (aP (aP s)) []:=rfl
      rw [e1] at r5
      simp only [aVz,List.length_nil] at r5 ⊢
      omega
attribute [local irreducible] gS
theorem aQ5:∀ (k:Nat) (s:bQ) (l:List Rel),s.d=0→a4i s.l→(∀ r ∈ l,aVx r)→l.length≤200→(rX k s l).1=true →
  In (rX k s l).2.1 s∧(∀ r ∈ (rX k s l).2.2,aVx r)∧(rX k s l).2.2.length≤200∧a9z (rX k s l).2.2+(rX k s l).2.1.l.length≤a9z l+s.l.length
 | 0,s,l,_,_,_,_,hs=>by simp [rX] at hs
 | k+1,s,l,hd,hl,hG,h200,hs=>by
  unfold rX at hs ⊢
  simp only at hs ⊢
  cases hm:(bX [125] s).1 with
  | true =>
   obtain ⟨m1,m2⟩:=a5k hm
   have:=lR m2
   simp only [hm,if_true]
   rw [m1]
   exact ⟨jO s,hG,h200,by omega⟩
  | false =>
   have m1:=a5l hm
   simp only [hm,zuy,if_false] at hs ⊢
   rw [m1] at hs ⊢
   cases hr:(gS s l).1 with
   | false=>simp [hr] at hs
   | true =>
    simp only [hr,if_true] at hs ⊢
    obtain ⟨i1,r,e1,g1,w0,w1⟩:=b2o hd hl hr
    have hd':=(aMw s l).1
    rw [e1] at hs ⊢
    obtain ⟨r1,r2,r3,r4⟩:=aQ5 k _ _ (by rw [hd',hd]) (hl.of i1) (fun x hx=>by
     rcases List.mem_append.1 hx with hx | hx
     ·exact hG x hx
     ·simp only [List.mem_singleton] at hx; subst hx; exact g1) (by simp only [zwy,List.length_singleton]; omega) hs
    rw [b6a] at r4
    exact ⟨fun t ht=>i1 t (r1 t ht),r2,r3,by omega⟩
theorem bIc {n:Int} {s:bQ} (hd:s.d=0) (hl:a4i s.l) (hs:(a1b n s).1=true):In (a1b n s).2.1 s∧aPg (a1b n s).2.2∧aV0 (a1b n s).2.2+(a1b n s).2.1.l.length≤s.l.length:=by
 unfold a1b at hs ⊢
 simp only at hs ⊢
 cases ha:(eR n 200 s).1 with
 | false=>simp [ha] at hs
 | true =>
  obtain ⟨a1,a2⟩:=aPh ha
  simp only [ha,if_true] at hs ⊢
  rw [a2] at hs ⊢
  cases hw:aR5 s with
  | false=>simp [hw] at hs
  | true =>
   have w2:=aYe hw
   have hpl:=lR w2
   simp only [hw,if_true] at hs ⊢
   have hl1:a4i (aP s).l:=hl.of (jO s)
   cases hn:(aX (aP s)).1 with
   | false=>simp [hn] at hs
   | true =>
    obtain ⟨n1,n2⟩:=a7h hn
    have g1:=aNr hn hl1
    have hpl2:=lR n2
    simp only [hn,if_true] at hs ⊢
    rw [n1] at hs ⊢
    have i2:In (aP (aP s)) s:=fun t ht=>jO s t (jO _ t ht)
    cases hm:(bX [123] (aP (aP s))).1 with
    | true =>
     obtain ⟨m1,m2⟩:=a5k hm
     have hpl3:=lR m2
     simp only [hm,if_true] at hs ⊢
     rw [m1] at hs ⊢
     have i3:In (aP (aP (aP s))) s:=fun t ht=>i2 t (jO _ t ht)
     obtain ⟨r1,r2,r3,r4⟩:=aQ5 _ (aP (aP (aP s))) [] hd (hl.of i3) (fun r hr=>by simp at hr) (by simp) hs
     refine ⟨fun t ht=>i3 t (r1 t ht),⟨g1,r3,r2⟩,?_⟩
     have:a9z []=0:=rfl
     simp only [aV0]
     omega
    | false =>
     have m1:=a5l hm
     simp only [hm,zuy,if_false] at hs ⊢
     rw [m1]
     refine ⟨i2,⟨g1,by simp,fun r hr=>by simp at hr⟩,?_⟩
     simp only [aV0,a9z,List.map_nil,List.sum_nil]
     omega
attribute [local irreducible] a1b
theorem aJt:∀ (k:Nat) (s:bQ) (l:List fM),s.d=0→a4i s.l→(∀ t ∈ l,aPg t)→l.length≤200→(uV k s l).1=true →
  (∀ t ∈ (uV k s l).2.2,aPg t)∧(uV k s l).2.2.length≤200∧a67 (uV k s l).2.2≤a67 l+s.l.length
 | 0,s,l,_,_,_,_,hs=>by simp [uV] at hs
 | k+1,s,l,hd,hl,hG,h200,hs=>by
  unfold uV at hs ⊢
  by_cases he:s.l=[]
  ·rw [if_pos he]; exact ⟨hG,h200,Nat.le_add_right _ _⟩
  ·rw [if_neg he] at hs ⊢
   simp only at hs ⊢
   cases hr:(a1b l.length s).1 with
   | false=>simp [hr] at hs
   | true =>
    simp only [hr,if_true] at hs ⊢
    obtain ⟨i1,g1,w1⟩:=bIc hd hl hr
    have hd':=bHl l.length s
    have:=(hd'.2.2 hr).2
    obtain ⟨r1,r2,r3⟩:=aJt k _ _ (by rw [hd'.1,hd]) (hl.of i1) (fun x hx=>by
     rcases List.mem_append.1 hx with hx | hx
     ·exact hG x hx
     ·simp only [List.mem_singleton] at hx; subst hx; exact g1) (by simp only [zwy,List.length_singleton]; omega) hs
    rw [b6b] at r3
    exact ⟨r1,r2,by omega⟩
theorem aV1:∀ (f k:Nat) (l:List UInt8),(iE f k l).1.length≤f
 | 0,k,l=>by simp [iE]
 | f+1,k,[]=>by simp [iE]
 | f+1,k,c::l=>by
  simp only [iE]
  split
  ·simp
  ·simp only [zwx]
   have:=aV1 f
   exact Nat.succ_le_succ (this _ _)
theorem b6c (l:List UInt8):a4i (cP l).1∧(cP l).1.length≤l.length:=by
 unfold cP
 split
 ·exact ⟨fun t ht=>by simp at ht,by simp⟩
 ·simp only
  split
  ·exact ⟨fun t ht=>by simp at ht,by simp⟩
  ·exact ⟨fun t ht h1=>aQ4 _ _ _ t ht h1,aV1 _ _ _⟩
theorem bC5 (l:List UInt8):(∀ t ∈ (a78 l).1,aPg t)∧(a78 l).1.length≤200∧a67 (a78 l).1≤l.length:=by
 have nil:(∀ t ∈ ([]:List fM),aPg t)∧([]:List fM).length≤200∧a67 ([]:List fM)≤l.length:=⟨fun t ht=>by simp at ht,by simp,by simp [a67]⟩
 obtain ⟨h1,h2⟩:=b6c l
 unfold a78
 split
 ·exact nil
 ·unfold bEs
  split
  ·rename_i hp
   obtain ⟨r1,r2,r3⟩:=aJt _ _ _ (show (aMx l).d=0 from rfl) (show a4i (aMx l).l from h1) (fun t ht=>by simp at ht) (by simp) hp
   have e:(aMx l).l.length=(cP l).1.length:=rfl
   have e0:a67 []=0:=rfl
   exact ⟨r1,r2,Nat.le_trans r3 (by rw [e0,e]; omega)⟩
  ·exact nil
end Go.Fbs

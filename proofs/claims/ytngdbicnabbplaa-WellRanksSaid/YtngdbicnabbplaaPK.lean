import Derived.Test.YtngdbicnabbplaaPH
import Derived.Test.YtngdbicnabbplaaPJ
import Derived.Test.YtngdbicnabbplaaPI
set_option linter.unusedSimpArgs false
set_option linter.unusedVariables false
set_option maxRecDepth 100000
namespace Go.Fbs
def aRg (k:Int):Int:=if k=3 then 1 else if k=4 then 1 else 2
def Tr.dep:Tr→Int→Nat
 | .nm _,_=>0
 | .ar _ _,_=>0
 | .op k x y,l=>(if aRg k < l then 1 else 0)+max (x.dep (aRg k)) (y.dep (aRg k+1))
theorem aZm (t:Tr) {l l':Int} (h:l≤l'):t.dep l≤t.dep l':=by
 cases t with
 | nm a=>exact zxy _
 | ar a b=>exact zxy _
 | op k x y =>
  simp only [Tr.dep]
  split <;> split <;> omega
theorem bJy (t:Tr) (l:Int):t.dep l≤1+t.dep 1:=by
 cases t with
 | nm a=>exact Nat.zero_le _
 | ar a b=>exact Nat.zero_le _
 | op k x y =>
  simp only [Tr.dep]
  split <;> split <;> omega
def Tr.a4g:Tr→Prop
 | .nm a=>p9 a=true
 | .ar a b=>p9 a=true∧p9 b=true
 | .op _ x y=>x.a4g∧y.a4g
theorem aDh {s:aW} (h:(aL s).1=true):p9 ((aL s).2.2.getD [])=true:=by
 unfold aL at h ⊢
 split at h
 ·rename_i h1
  rw [if_pos h1]
  show oV (1,0,(cH s).2.2)=true
  unfold oV at h1 ⊢
  simp only [zxz,decide_eq_true_eq] at h1 ⊢
  exact ⟨trivial,h1.2⟩
 ·simp at h
structure Rtr (l:Int) (f:Rd):Prop where
 t:∀ s,s.d≤20→(f s).1=true→∃ t:Tr,(t.ok∧t.a4g)∧(f s).2.x=s.x++t.steps∧t.dep l+s.d≤20
theorem b96 (e:Int) (s:aW):(uO e s).x=s.x:=by unfold uO; split <;> rfl
theorem aFk (s:aW):(aL s).2.1.x=s.x:=by unfold aL; split; rfl; exact b96 _ _
theorem aDi (g:List UInt8) (s:aW):(bH g s).2.x=s.x:=by unfold bH; split <;> rfl
theorem b97 (g:List UInt8) (s:aW):(jT g s).2.x=s.x:=by unfold jT; split; rfl; exact b96 _ _
theorem aDj {p:dQ} {a:Nat} {s:aW} (h:(jY p a s).1=true):(jY p a s).2.x=s.x++[p]:=by
 unfold jY at h ⊢
 split at h
 ·simp at h
 ·rename_i h1; rw [if_neg h1]
theorem b6g {sum:Rd} (h:Rtr 1 sum) (g:Good sum):Rtr 3 (lD sum):=by
 refine ⟨fun s hd hs=>?_⟩
 unfold lD at hs ⊢
 by_cases h1:mN [40] s=true
 ·rw [if_pos h1] at hs ⊢
  by_cases h2:s.d=20
  ·rw [if_pos h2] at hs; simp at hs
  ·rw [if_neg h2] at hs ⊢
   simp only at hs ⊢
   cases hr:(sum (aI { s with d:=s.d+1 })).1 with
   | false=>rw [hr] at hs; simp at hs
   | true =>
    rw [hr] at hs
    simp only [if_true] at hs ⊢
    obtain ⟨t,t1,t2,t3⟩:=h.t (aI { s with d:=s.d+1 }) (by show s.d+1≤20; omega) hr
    refine ⟨t,t1,?_,?_⟩
    ·show (jT [41] _).2.x=_
     rw [b97,t2]; rfl
    ·have t3:t.dep 1+(s.d+1)≤20:=t3
     have:=bJy t 3
     omega
 ·rw [if_neg h1] at hs ⊢
  simp only at hs ⊢
  cases hn:(aL s).1 with
  | false=>rw [hn] at hs; simp at hs
  | true =>
   rw [hn] at hs
   simp only [if_true] at hs ⊢
   cases hm:(bH [45,62] (aL s).2.1).1 with
   | true =>
    rw [hm] at hs
    simp only [if_true] at hs ⊢
    cases hq:(aL (bH [45,62] (aL s).2.1).2).1 with
    | false=>rw [hq] at hs; simp at hs
    | true =>
     rw [hq] at hs
     simp only [if_true] at hs ⊢
     refine ⟨.ar ((aL s).2.2.getD []) ((aL (bH [45,62] (aL s).2.1).2).2.2.getD []),⟨trivial,aDh hn,aDh hq⟩,?_,by simp only [Tr.dep]; omega⟩
     rw [aDj hs,aFk,aDi,aFk]; rfl
   | false =>
    rw [hm] at hs
    simp only [zuy,if_false] at hs ⊢
    refine ⟨.nm ((aL s).2.2.getD []),⟨trivial,aDh hn⟩,?_,by simp only [Tr.dep]; omega⟩
    rw [aDj hs,aDi,aFk]; rfl
theorem b98 (p:dQ) (a:Nat) (s:aW):(jY p a s).2.d=s.d:=by unfold jY; split <;> rfl
theorem aZn (g:List UInt8) (s:aW):(bH g s).2.d=s.d:=by unfold bH; split <;> rfl
theorem aLr {fac:Rd} (h:Rtr 3 fac) (g:Good fac):∀ (k a:Nat) (s:aW) (X:List dQ) (t0:Tr),s.d≤20→t0.ok∧t0.a4g→s.x=X++t0.steps→t0.dep 2+s.d≤20→(fW fac k a s).1=true →
  ∃ t:Tr,(t.ok∧t.a4g)∧(fW fac k a s).2.x=X++t.steps∧t.dep 2+s.d≤20
 | 0,a,s,X,t0,hd,h0,hx,hp,hs=>by simp [fW] at hs
 | k+1,a,s,X,t0,hd,h0,hx,hp,hs=>by
  unfold fW at hs ⊢
  simp only at hs ⊢
  cases hm:(bH [38] s).1 with
  | false=>exact ⟨t0,h0,by simp only [hm,zuy,if_false]; rw [aDi,hx],hp⟩
  | true =>
   simp only [hm,if_true] at hs ⊢
   cases hr:(fac (bH [38] s).2).1 with
   | false=>simp [hr] at hs
   | true =>
    simp only [hr,if_true] at hs ⊢
    cases hq:(jY (5,[],[]) a (fac (bH [38] s).2).2).1 with
    | false=>simp [hq] at hs
    | true =>
     simp only [hq,if_true] at hs ⊢
     obtain ⟨t,t1,t2,t3⟩:=h.t (bH [38] s).2 (by rw [aZn]; exact hd) hr
     rw [aZn] at t3
     have hd':(jY (5,[],[]) a (fac (bH [38] s).2).2).2.d=s.d:=by rw [b98,g.d,aZn]
     obtain ⟨u,u1,u2,u3⟩:=aLr h g k _ (jY (5,[],[]) a (fac (bH [38] s).2).2).2 X (.op 5 t0 t) (by rw [hd']; exact hd) ⟨⟨by decide,h0.1,t1.1⟩,h0.2,t1.2⟩
      (by rw [aDj hq,t2,aDi,hx]; simp [Tr.steps,zty])
      (by rw [hd']; simp only [Tr.dep,aRg]; simp; omega) hs
     exact ⟨u,u1,u2,by rw [hd'] at u3; exact u3⟩
theorem aZo {fac:Rd} (h:Rtr 3 fac) (g:Good fac):Rtr 2 (eN fac):=by
 refine ⟨fun s hd hs=>?_⟩
 unfold eN at hs ⊢
 simp only at hs ⊢
 cases hr:(fac s).1 with
 | false=>simp [hr] at hs
 | true =>
  simp only [hr,if_true] at hs ⊢
  obtain ⟨t,t1,t2,t3⟩:=h.t s hd hr
  have hd':=g.d s
  obtain ⟨u,u1,u2,u3⟩:=aLr h g _ _ (fac s).2 s.x t (by rw [hd']; exact hd) t1 t2 (by rw [hd']; have:=aZm t (show (2:Int)≤3 by decide); omega) hs
  exact ⟨u,u1,u2,by rw [hd'] at u3; exact u3⟩
theorem aN4 {ter:Rd} (h:Rtr 2 ter) (g:Good ter):∀ (k:Nat) (s:aW) (X:List dQ) (t0:Tr),s.d≤20→t0.ok∧t0.a4g→s.x=X++t0.steps→t0.dep 1+s.d≤20→(fS ter k s).1=true →
  ∃ t:Tr,(t.ok∧t.a4g)∧(fS ter k s).2.x=X++t.steps∧t.dep 1+s.d≤20
 | 0,s,X,t0,hd,h0,hx,hp,hs=>by simp [fS] at hs
 | k+1,s,X,t0,hd,h0,hx,hp,hs=>by
  unfold fS at hs ⊢
  cases hm:(mN [43] s || mN [45] s) with
  | false=>exact ⟨t0,h0,by simp only [zuy,if_false]; exact hx,hp⟩
  | true =>
   simp only [hm,if_true] at hs ⊢
   cases hr:(ter (aI s)).1 with
   | false=>simp [hr] at hs
   | true =>
    simp only [hr,if_true] at hs ⊢
    generalize hk:(if mN [43] s=true then (3:Int) else 4)=kd at *
    have hkd:kd=3∨kd=4:=by split at hk <;> omega
    cases hq:(jY (kd,[],[]) (cH s).2.1 (ter (aI s)).2).1 with
    | false=>simp [hq] at hs
    | true =>
     simp only [hq,if_true] at hs ⊢
     obtain ⟨t,t1,t2,t3⟩:=h.t (aI s) hd hr
     have t3:t.dep 2+s.d≤20:=t3
     have hd':(jY (kd,[],[]) (cH s).2.1 (ter (aI s)).2).2.d=s.d:=by rw [b98,g.d]; rfl
     obtain ⟨u,u1,u2,u3⟩:=aN4 h g k (jY (kd,[],[]) (cH s).2.1 (ter (aI s)).2).2 X (.op kd t0 t) (by rw [hd']; exact hd) ⟨⟨by omega,h0.1,t1.1⟩,h0.2,t1.2⟩
      (by rw [aDj hq,t2,show (aI s).x=s.x from rfl,hx]; simp [Tr.steps,zty])
      (by rw [hd']; rcases hkd with rfl | rfl <;> (simp only [Tr.dep,aRg]; simp; omega)) hs
     exact ⟨u,u1,u2,by rw [hd'] at u3; exact u3⟩
theorem b3d {ter:Rd} (h:Rtr 2 ter) (g:Good ter):Rtr 1 (mO ter):=by
 refine ⟨fun s hd hs=>?_⟩
 unfold mO at hs ⊢
 simp only at hs ⊢
 cases hr:(ter s).1 with
 | false=>simp [hr] at hs
 | true =>
  simp only [hr,if_true] at hs ⊢
  obtain ⟨t,t1,t2,t3⟩:=h.t s hd hr
  have hd':=g.d s
  obtain ⟨u,u1,u2,u3⟩:=aN4 h g _ (ter s).2 s.x t (by rw [hd']; exact hd) t1 t2 (by rw [hd']; have:=aZm t (show (1:Int)≤2 by decide); omega) hs
  exact ⟨u,u1,u2,by rw [hd'] at u3; exact u3⟩
theorem bE1:∀ f,Rtr 3 (bK f)
 | 0=>⟨fun s _ hs=>by simp [bK] at hs⟩
 | f+1=>b6g (b3d (aZo (bE1 f) (a3u f)) (a1q (a3u f))) (aG3 (a1q (a3u f)))
theorem bDn (f:Nat) (s:aW) (hd:s.d≤20) (hs:(mO (eN (bK f)) s).1=true):∃ t:Tr,(t.ok∧t.a4g)∧(mO (eN (bK f)) s).2.x=s.x++t.steps∧t.dep 1+s.d≤20 :=
 (b3d (aZo (bE1 f) (a3u f)) (a1q (a3u f))).t s hd hs
end Go.Fbs
namespace Go.Fbs
structure bJz (s:aW) (R:List gZ) (X:List dQ) (r:Bool×aW):Prop where
 ok:r.1=true
 l:r.2.l=R
 n:r.2.n=s.n
 at_:r.2.at_=s.at_
 e:r.2.e=s.e
 d:r.2.d=s.d
 x:r.2.x=s.x++X
def b6h (f d:Nat) (A:List KT) (X:List dQ):Prop:=∀ s T R,T.map kt=A→s.l=T++R→noB [45,62] R→s.x.length+X.length≤200→s.d=d→bJz s R X (bK f s)
abbrev FL:=List (List KT×List dQ)
def bMf (L:FL):List KT:=L.flatMap fun q=>(2,[38])::q.1
def bMg (L:FL):List dQ:=L.flatMap fun q=>q.2++[(5,[],[])]
def bE2 (f d:Nat) (A:List KT) (X:List dQ):Prop:=∀ s T R,T.map kt=A→s.l=T++R→NoT R→s.x.length+X.length≤200→s.d=d→bJz s R X (eN (bK f) s)
abbrev SL:=List (Int×List KT×List dQ)
def sgK (k:Int):List UInt8:=if k=3 then [43] else [45]
def bMh (L:SL):List KT:=L.flatMap fun q=>(2,sgK q.1)::q.2.1
def bMi (L:SL):List dQ:=L.flatMap fun q=>q.2.2++[(q.1,[],[])]
end Go.Fbs
namespace Go.Fbs
end Go.Fbs
namespace Go.Fbs
def Tr.src (l:List gZ):Tr→Prop
 | .nm a=>∃ t ∈ l,t.1=1∧t.2.2=a
 | .ar a b=>(∃ t ∈ l,t.1=1∧t.2.2=a)∧∃ t ∈ l,t.1=1∧t.2.2=b
 | .op _ x y=>x.src l∧y.src l
theorem a68 {l l':List gZ} (h:∀ t ∈ l,t ∈ l'):∀ {t:Tr},t.src l→t.src l'
 | .nm _,⟨t,h1,h2⟩=>⟨t,h t h1,h2⟩
 | .ar _ _,⟨⟨t,h1,h2⟩,⟨u,h3,h4⟩⟩=>⟨⟨t,h t h1,h2⟩,⟨u,h u h3,h4⟩⟩
 | .op _ _ _,⟨h1,h2⟩=>⟨a68 h h1,a68 h h2⟩
abbrev In (s1 s:aW):Prop:=∀ t ∈ s1.l,t ∈ s.l
theorem aS9 (e:Int) (s:aW):In (uO e s) s:=by unfold uO; split <;> exact fun _ h=>h
theorem mE (s:aW):In (aI s) s:=fun _ h=>List.mem_of_mem_tail h
theorem a69 (s:aW):In (aL s).2.1 s:=by unfold aL; split; exact mE s; exact aS9 _ _
theorem aB3 (g:List UInt8) (s:aW):In (bH g s).2 s:=by unfold bH; split; exact mE s; exact fun _ h=>h
theorem bHa (g:List UInt8) (s:aW):In (jT g s).2 s:=by unfold jT; split; exact mE s; exact aS9 _ _
theorem aRi (p:dQ) (a:Nat) (s:aW):In (jY p a s).2 s:=by unfold jY; split <;> exact fun _ h=>h
theorem aHr {s:aW} (h:(aL s).1=true):∃ t ∈ s.l,t.1=1∧t.2.2=(aL s).2.2.getD []:=by
 unfold aL at h ⊢
 split at h
 ·rename_i h1
  rw [if_pos h1]
  refine ⟨cH s,aYe (a1p h1),?_,rfl⟩
  unfold oV at h1
  simp only [zxz,decide_eq_true_eq] at h1
  exact h1.1
 ·simp at h
structure Rsr (f:Rd):Prop where
 i:∀ s,In (f s).2 s
 t:∀ s,(f s).1=true→∃ t:Tr,(t.ok∧t.src s.l)∧(f s).2.x=s.x++t.steps
theorem b6j {sum:Rd} (h:Rsr sum):Rsr (lD sum):=by
 refine ⟨fun s=>?_,fun s hs=>?_⟩
 ·unfold lD
  split
  ·split
   ·exact aS9 _ _
   ·simp only
    have h1:In (sum (aI { s with d:=s.d+1 })).2 s:=fun t ht=>List.mem_of_mem_tail (h.i _ t ht)
    split
    ·exact fun t ht=>h1 t (bHa _ _ t ht)
    ·exact h1
  ·simp only
   split
   ·split
    ·split
     ·exact fun t ht=>a69 s t (aB3 _ _ t (a69 _ t (aRi _ _ _ t ht)))
     ·exact fun t ht=>a69 s t (aB3 _ _ t (a69 _ t ht))
    ·exact fun t ht=>a69 s t (aB3 _ _ t (aRi _ _ _ t ht))
   ·exact a69 s
 ·unfold lD at hs ⊢
  by_cases h1:mN [40] s=true
  ·rw [if_pos h1] at hs ⊢
   by_cases h2:s.d=20
   ·rw [if_pos h2] at hs; simp at hs
   ·rw [if_neg h2] at hs ⊢
    simp only at hs ⊢
    cases hr:(sum (aI { s with d:=s.d+1 })).1 with
    | false=>rw [hr] at hs; simp at hs
    | true =>
     rw [hr] at hs
     simp only [if_true] at hs ⊢
     obtain ⟨t,t1,t2⟩:=h.t (aI { s with d:=s.d+1 }) hr
     refine ⟨t,⟨t1.1,a68 (fun _ h=>List.mem_of_mem_tail h) t1.2⟩,?_⟩
     show (jT [41] _).2.x=_
     rw [b97,t2]; rfl
  ·rw [if_neg h1] at hs ⊢
   simp only at hs ⊢
   cases hn:(aL s).1 with
   | false=>rw [hn] at hs; simp at hs
   | true =>
    rw [hn] at hs
    simp only [if_true] at hs ⊢
    cases hm:(bH [45,62] (aL s).2.1).1 with
    | true =>
     rw [hm] at hs
     simp only [if_true] at hs ⊢
     cases hq:(aL (bH [45,62] (aL s).2.1).2).1 with
     | false=>rw [hq] at hs; simp at hs
     | true =>
      rw [hq] at hs
      simp only [if_true] at hs ⊢
      obtain ⟨u,u1,u2⟩:=aHr hq
      refine ⟨.ar ((aL s).2.2.getD []) ((aL (bH [45,62] (aL s).2.1).2).2.2.getD []),⟨trivial,aHr hn,u,a69 s u (aB3 _ _ u u1),u2⟩,?_⟩
      rw [aDj hs,aFk,aDi,aFk]; rfl
    | false =>
     rw [hm] at hs
     simp only [zuy,if_false] at hs ⊢
     refine ⟨.nm ((aL s).2.2.getD []),⟨trivial,aHr hn⟩,?_⟩
     rw [aDj hs,aDi,aFk]; rfl
theorem aB4 {fac:Rd} (h:Rsr fac):∀ (k a:Nat) (s:aW),In (fW fac k a s).2 s∧∀ (Y:List gZ) (X:List dQ) (t0:Tr),(∀ t ∈ s.l,t ∈ Y)→t0.ok∧t0.src Y→s.x=X++t0.steps→(fW fac k a s).1=true →
  ∃ t:Tr,(t.ok∧t.src Y)∧(fW fac k a s).2.x=X++t.steps
 | 0,a,s=>⟨fun _ h=>h,fun Y X t0 hy h0 hx hs=>by simp [fW] at hs⟩
 | k+1,a,s=>by
  unfold fW
  simp only
  cases hm:(bH [38] s).1 with
  | false =>
   simp only [zuy,if_false]
   exact ⟨aB3 _ s,fun Y X t0 hy h0 hx _=>⟨t0,h0,by rw [aDi,hx]⟩⟩
  | true =>
   simp only [if_true]
   have i1:In (fac (bH [38] s).2).2 s:=fun t ht=>aB3 _ s t (h.i _ t ht)
   cases hr:(fac (bH [38] s).2).1 with
   | false =>
    simp only [zuy,if_false]
    exact ⟨i1,fun Y X t0 hy h0 hx hs=>by simp at hs⟩
   | true =>
    simp only [if_true]
    have i2:In (jY (5,[],[]) a (fac (bH [38] s).2).2).2 s:=fun t ht=>i1 t (aRi _ _ _ t ht)
    cases hq:(jY (5,[],[]) a (fac (bH [38] s).2).2).1 with
    | false =>
     simp only [zuy,if_false]
     exact ⟨i2,fun Y X t0 hy h0 hx hs=>by simp at hs⟩
    | true =>
     simp only [if_true]
     have ih:=aB4 h k (cH (jY (5,[],[]) a (fac (bH [38] s).2).2).2).2.1 (jY (5,[],[]) a (fac (bH [38] s).2).2).2
     refine ⟨fun t ht=>i2 t (ih.1 t ht),fun Y X t0 hy h0 hx hs=>?_⟩
     obtain ⟨t,t1,t2⟩:=h.t (bH [38] s).2 hr
     exact ih.2 Y X (.op 5 t0 t) (fun u hu=>hy u (i2 u hu)) ⟨⟨by decide,h0.1,t1.1⟩,h0.2,a68 (fun u hu=>hy u (aB3 _ s u hu)) t1.2⟩ (by rw [aDj hq,t2,aDi,hx]; simp [Tr.steps,zty]) hs
theorem aPh {fac:Rd} (h:Rsr fac):Rsr (eN fac):=by
 refine ⟨fun s=>?_,fun s hs=>?_⟩
 ·unfold eN
  simp only
  split
  ·exact fun t ht=>h.i s t ((aB4 h _ _ _).1 t ht)
  ·exact h.i s
 ·unfold eN at hs ⊢
  simp only at hs ⊢
  cases hr:(fac s).1 with
  | false=>simp [hr] at hs
  | true =>
   simp only [hr,if_true] at hs ⊢
   obtain ⟨t,t1,t2⟩:=h.t s hr
   exact (aB4 h _ _ (fac s).2).2 s.l s.x t (h.i s) t1 t2 hs
theorem aEk {ter:Rd} (h:Rsr ter):∀ (k:Nat) (s:aW),In (fS ter k s).2 s∧∀ (Y:List gZ) (X:List dQ) (t0:Tr),(∀ t ∈ s.l,t ∈ Y)→t0.ok∧t0.src Y→s.x=X++t0.steps→(fS ter k s).1=true →
  ∃ t:Tr,(t.ok∧t.src Y)∧(fS ter k s).2.x=X++t.steps
 | 0,s=>⟨fun _ h=>h,fun Y X t0 hy h0 hx hs=>by simp [fS] at hs⟩
 | k+1,s=>by
  unfold fS
  cases hm:(mN [43] s || mN [45] s) with
  | false =>
   simp only [zuy,if_false]
   exact ⟨fun _ h=>h,fun Y X t0 hy h0 hx _=>⟨t0,h0,hx⟩⟩
  | true =>
   simp only [if_true]
   have i1:In (ter (aI s)).2 s:=fun t ht=>mE s t (h.i _ t ht)
   generalize hk:(if mN [43] s=true then (3:Int) else 4)=kd
   have hkd:kd=3∨kd=4:=by split at hk <;> omega
   cases hr:(ter (aI s)).1 with
   | false =>
    simp only [zuy,if_false]
    exact ⟨i1,fun Y X t0 hy h0 hx hs=>by simp at hs⟩
   | true =>
    simp only [if_true]
    have i2:In (jY (kd,[],[]) (cH s).2.1 (ter (aI s)).2).2 s:=fun t ht=>i1 t (aRi _ _ _ t ht)
    cases hq:(jY (kd,[],[]) (cH s).2.1 (ter (aI s)).2).1 with
    | false =>
     simp only [zuy,if_false]
     exact ⟨i2,fun Y X t0 hy h0 hx hs=>by simp at hs⟩
    | true =>
     simp only [if_true]
     have ih:=aEk h k (jY (kd,[],[]) (cH s).2.1 (ter (aI s)).2).2
     refine ⟨fun t ht=>i2 t (ih.1 t ht),fun Y X t0 hy h0 hx hs=>?_⟩
     obtain ⟨t,t1,t2⟩:=h.t (aI s) hr
     exact ih.2 Y X (.op kd t0 t) (fun u hu=>hy u (i2 u hu)) ⟨⟨by omega,h0.1,t1.1⟩,h0.2,a68 (fun u hu=>hy u (mE s u hu)) t1.2⟩ (by rw [aDj hq,t2,show (aI s).x=s.x from rfl,hx]; simp [Tr.steps,zty]) hs
theorem aTa {ter:Rd} (h:Rsr ter):Rsr (mO ter):=by
 refine ⟨fun s=>?_,fun s hs=>?_⟩
 ·unfold mO
  simp only
  split
  ·exact fun t ht=>h.i s t ((aEk h _ _).1 t ht)
  ·exact h.i s
 ·unfold mO at hs ⊢
  simp only at hs ⊢
  cases hr:(ter s).1 with
  | false=>simp [hr] at hs
  | true =>
   simp only [hr,if_true] at hs ⊢
   obtain ⟨t,t1,t2⟩:=h.t s hr
   exact (aEk h _ (ter s).2).2 s.l s.x t (h.i s) t1 t2 hs
theorem b6k:∀ f,Rsr (bK f)
 | 0=>⟨fun _ _ h=>h,fun s hs=>by simp [bK] at hs⟩
 | f+1=>b6j (aTa (aPh (b6k f)))
def goT:List dQ→List Tr→Option (List Tr)
 | [],st=>some st
 | (k,a,b)::r,st =>
  if k=1 then goT r (.nm a::st) else
  if k=2 then goT r (.ar a b::st) else
  match st with
  | y::x::st'=>goT r (.op k x y::st')
  | _=>none
theorem aRl:∀ {t:Tr} {r:List dQ} {st:List Tr},t.ok→goT (t.steps++r) st=goT r (t::st)
 | .nm a,r,st,_=>by simp only [Tr.steps,List.cons_append,List.nil_append,goT,if_true]
 | .ar a b,r,st,_=>by
  simp only [Tr.steps,List.cons_append,List.nil_append,goT,if_true]
  rw [if_neg (by decide)]
 | .op k x y,r,st,⟨hk,hx,hy⟩=>by
  simp only [Tr.steps,zty]
  rw [aRl hx,aRl hy]
  simp only [List.cons_append,List.nil_append,goT]
  rw [if_neg (by omega),if_neg (by omega)]
theorem b99 {t u:Tr} (ht:t.ok) (hu:u.ok) (h:t.steps=u.steps):t=u:=by
 have h1:=aRl (r:=[]) (st:=[]) ht
 have h2:=aRl (r:=[]) (st:=[]) hu
 rw [h,h2] at h1
 simp only [goT,zzz,List.cons.injEq,and_true] at h1
 exact h1.symm
theorem bDo (f:Nat) (s:aW) (hd:s.d≤20) (hs:(mO (eN (bK f)) s).1=true) :
  ∃ t:Tr,t.ok∧t.a4g∧t.src s.l∧(mO (eN (bK f)) s).2.x=s.x++t.steps∧t.dep 1+s.d≤20:=by
 obtain ⟨t,t1,t2,t3⟩:=bDn f s hd hs
 obtain ⟨u,u1,u2⟩:=(aTa (aPh (b6k f))).t s hs
 have:=b99 t1.1 u1.1 (List.append_cancel_left (t2.symm.trans u2))
 subst this
 exact ⟨t,t1.1,t1.2,u1.2,t2,t3⟩
end Go.Fbs
namespace Go.Fbs
def aLs (c:UInt8):Bool:=kB c.toNat
structure Lx (w:List UInt8) (ks:List (Int×List UInt8)):Prop where
 sl:(47:UInt8) ∉ w
 en : w.getLast? ≠ some 45
 ok:∀ k,(pF k w).2=none
 kd:∀ k,(pF k w).1.map kt=ks
end Go.Fbs
namespace Go.Fbs
def Tr.lets:Tr→Prop
 | .nm a=>a≠[]∧∀ c ∈ a,aLs c=true
 | .ar a b=>(a≠[]∧∀ c ∈ a,aLs c=true)∧b≠[]∧∀ c ∈ b,aLs c=true
 | .op _ x y=>x.lets∧y.lets
theorem bAa {l:List UInt8} (h:(cZ l).1=1):(cZ l).2.1≠[]∧∀ c ∈ (cZ l).2.1,aLs c=true:=by
 unfold cZ at h ⊢
 split at h
 ·rename_i h1
  rw [if_pos h1]
  have e:l.take (mS l)=l.takeWhile fun c=>kB c.toNat:=by
   unfold mS
   exact (List.prefix_iff_eq_take.1 (List.takeWhile_prefix _)).symm
  refine ⟨fun h2=>?_,fun c hc=>?_⟩
  ·have h2:l.take (mS l)=[]:=h2
   have:(l.take (mS l)).length=0:=by rw [h2]; rfl
   rw [e] at this
   unfold mS at h1
   omega
  ·have hc:c ∈ l.take (mS l):=hc
   rw [e] at hc
   exact aZa hc
 ·split at h <;> simp at h
theorem aUp:∀ (f k:Nat) (l:List UInt8) (t:gZ),t ∈ (kG f k l).1→t.1=1→t.2.2≠[]∧∀ c ∈ t.2.2,aLs c=true
 | 0,k,l,t,h,_=>by simp [kG] at h
 | f+1,k,[],t,h,_=>by simp [kG] at h
 | f+1,k,c::l,t,h,h1=>by
  simp only [kG] at h
  split at h
  ·simp at h
  ·simp only [List.mem_cons] at h
   rcases h with rfl | h
   ·exact bAa h1
   ·exact aUp f _ _ t h h1
theorem aPi {l:List gZ} (hl:∀ t ∈ l,t.1=1→t.2.2≠[]∧∀ c ∈ t.2.2,aLs c=true):∀ {t:Tr},t.src l→t.lets
 | .nm _,⟨u,h1,h2,h3⟩=>h3 ▸ hl u h1 h2
 | .ar _ _,⟨⟨u,h1,h2,h3⟩,⟨v,h4,h5,h6⟩⟩=>⟨h3 ▸ hl u h1 h2,h6 ▸ hl v h4 h5⟩
 | .op _ _ _,⟨h1,h2⟩=>⟨aPi hl h1,aPi hl h2⟩
end Go.Fbs
namespace Go.Fbs
def nmG (a:List UInt8):Prop:=p9 a=true∧a≠[]∧∀ c ∈ a,aLs c=true
def aZp (s:Sub):Prop:=nmG s.1∧s.2.1=[]∧(s.2.2=[]∨nmG s.2.2)
def aZq (r:Rel):Prop:=nmG r.1∧((r.2.2=[]∧r.2.1≠[]∧r.2.1.length≤50∧∀ s ∈ r.2.1,aZp s)∨(r.2.1=[]∧∃ t:Tr,t.ok∧t.a4g∧t.lets∧t.steps=r.2.2∧t.steps.length≤200∧t.dep 1≤20))
def aPj (t:gI):Prop:=nmG t.1∧t.2.length≤200∧∀ r ∈ t.2,aZq r
def a7a (l:List gZ):Prop:=∀ t ∈ l,t.1=1→t.2.2≠[]∧∀ c ∈ t.2.2,aLs c=true
theorem a7a.of {l l':List gZ} (h:a7a l) (i:∀ t ∈ l',t ∈ l):a7a l':=fun t ht=>h t (i t ht)
theorem aRm {s:aW} (h:(aL s).1=true) (hl:a7a s.l):nmG ((aL s).2.2.getD []):=by
 obtain ⟨t,h1,h2,h3⟩:=aHr h
 refine ⟨aDh h,?_⟩
 rw [← h3]; exact hl t h1 h2
theorem aAv {s:aW} (h:(aL s).1=true):(aL s).2.1=aI s∧s.l≠[]:=by
 unfold aL at h ⊢
 split at h
 ·rename_i h1; rw [if_pos h1]; exact ⟨rfl,a1p h1⟩
 ·simp at h
theorem nR {s:aW} (h:s.l≠[]):(aI s).l.length+1=s.l.length:=by
 show s.l.tail.length+1=_
 cases hl:s.l with
 | nil=>exact absurd hl h
 | cons a r=>simp
theorem a8p {g:List UInt8} {s:aW} (h:(bH g s).1=true):(bH g s).2=aI s∧s.l≠[]:=by
 unfold bH at h ⊢
 split at h
 ·rename_i h1; rw [if_pos h1]; exact ⟨rfl,aG0 h1⟩
 ·simp at h
theorem a8q {g:List UInt8} {s:aW} (h:(bH g s).1=false):(bH g s).2=s:=by
 unfold bH at h ⊢
 split at h
 ·simp at h
 ·rename_i h1; rw [if_neg h1]
theorem aM1 {g:List UInt8} {s:aW} (h:(jT g s).1=true):(jT g s).2=aI s∧s.l≠[]:=by
 unfold jT at h ⊢
 split at h
 ·rename_i h1; rw [if_pos h1]; exact ⟨rfl,aG0 h1⟩
 ·simp at h
theorem aTb {n most:Int} {s:aW} (h:(dV n most s).1=true):n < most∧(dV n most s).2=s:=(a8l n most s).2.2 h
theorem aRn {p:dQ} {a:Nat} {s:aW} (h:(jY p a s).1=true):s.x.length < 200∧(jY p a s).2 = { s with x:=s.x++[p] }:=by
 unfold jY at h ⊢
 split at h
 ·simp at h
 ·rename_i h1; rw [if_neg h1]; exact ⟨by omega,rfl⟩
structure Rwt (f:Rd):Prop where
 w:∀ s,(f s).1=true→(f s).2.x.length+(f s).2.l.length≤s.x.length+s.l.length∧(s.x.length≤200→(f s).2.x.length≤200)
theorem b6l {sum:Rd} (h:Rwt sum):Rwt (lD sum):=by
 refine ⟨fun s hs=>?_⟩
 unfold lD at hs ⊢
 by_cases h1:mN [40] s=true
 ·rw [if_pos h1] at hs ⊢
  by_cases h2:s.d=20
  ·rw [if_pos h2] at hs; simp at hs
  ·rw [if_neg h2] at hs ⊢
   simp only at hs ⊢
   cases hr:(sum (aI { s with d:=s.d+1 })).1 with
   | false=>rw [hr] at hs; simp at hs
   | true =>
    rw [hr] at hs
    simp only [if_true] at hs ⊢
    have:=h.w (aI { s with d:=s.d+1 }) hr
    have hp:(aI { s with d:=s.d+1 }).l.length≤s.l.length:=(aG2 { s with d:=s.d+1 }).2
    have hx:(aI { s with d:=s.d+1 }).x=s.x:=rfl
    rw [hx] at this
    have hq:=aM1 (g:=[41]) (s:=(sum (aI { s with d:=s.d+1 })).2) hs
    rw [hq.1]
    have hp2:=(aG2 (sum (aI { s with d:=s.d+1 })).2).2
    show (aI _).x.length+(aI _).l.length≤_∧(_→(aI _).x.length≤200)
    have hx2:(aI (sum (aI { s with d:=s.d+1 })).2).x=(sum (aI { s with d:=s.d+1 })).2.x:=rfl
    rw [hx2]
    exact ⟨by omega,this.2⟩
 ·rw [if_neg h1] at hs ⊢
  simp only at hs ⊢
  cases hn:(aL s).1 with
  | false=>rw [hn] at hs; simp at hs
  | true =>
   rw [hn] at hs
   obtain ⟨n1,n2⟩:=aAv hn
   have hpl:=nR n2
   simp only [if_true] at hs ⊢
   rw [n1] at hs ⊢
   have hpx:(aI s).x=s.x:=rfl
   cases hm:(bH [45,62] (aI s)).1 with
   | true =>
    rw [hm] at hs
    obtain ⟨m1,m2⟩:=a8p hm
    have hpl2:=nR m2
    simp only [if_true] at hs ⊢
    rw [m1] at hs ⊢
    cases hq:(aL (aI (aI s))).1 with
    | false=>rw [hq] at hs; simp at hs
    | true =>
     rw [hq] at hs
     obtain ⟨q1,q2⟩:=aAv hq
     have hpl3:=nR q2
     simp only [if_true] at hs ⊢
     rw [q1] at hs ⊢
     obtain ⟨p1,p2⟩:=aRn hs
     rw [p2]
     have e:(aI (aI (aI s))).x=s.x:=rfl
     simp only [e,zwy,List.length_singleton] at p1 ⊢
     exact ⟨by omega,fun _=>by omega⟩
   | false =>
    rw [hm] at hs
    have m1:=a8q hm
    simp only [zuy,if_false] at hs ⊢
    rw [m1] at hs ⊢
    obtain ⟨p1,p2⟩:=aRn hs
    rw [p2]
    simp only [hpx,zwy,List.length_singleton] at p1 ⊢
    exact ⟨by omega,fun _=>by omega⟩
theorem aLt {fac:Rd} (h:Rwt fac):∀ (k a:Nat) (s:aW),(fW fac k a s).1=true→(fW fac k a s).2.x.length+(fW fac k a s).2.l.length≤s.x.length+s.l.length∧(s.x.length≤200→(fW fac k a s).2.x.length≤200)
 | 0,a,s,hs=>by simp [fW] at hs
 | k+1,a,s,hs=>by
  unfold fW at hs ⊢
  simp only at hs ⊢
  cases hm:(bH [38] s).1 with
  | false=>simp only [hm,zuy,if_false]; rw [a8q hm]; exact ⟨zxy _,id⟩
  | true =>
   simp only [hm,if_true] at hs ⊢
   obtain ⟨m1,m2⟩:=a8p hm
   have hpl:=nR m2
   rw [m1] at hs ⊢
   cases hr:(fac (aI s)).1 with
   | false=>simp [hr] at hs
   | true =>
    simp only [hr,if_true] at hs ⊢
    have h1:=h.w (aI s) hr
    have hpx:(aI s).x=s.x:=rfl
    rw [hpx] at h1
    cases hq:(jY (5,[],[]) a (fac (aI s)).2).1 with
    | false=>simp [hq] at hs
    | true =>
     simp only [hq,if_true] at hs ⊢
     obtain ⟨p1,p2⟩:=aRn hq
     rw [p2] at hs ⊢
     have ih:=aLt h k _ _ hs
     simp only [zwy,List.length_singleton] at ih
     exact ⟨by omega,fun _=>ih.2 (by omega)⟩
theorem aZr {fac:Rd} (h:Rwt fac):Rwt (eN fac):=by
 refine ⟨fun s hs=>?_⟩
 unfold eN at hs ⊢
 simp only at hs ⊢
 cases hr:(fac s).1 with
 | false=>simp [hr] at hs
 | true =>
  simp only [hr,if_true] at hs ⊢
  have h1:=h.w s hr
  have h2:=aLt h _ _ _ hs
  exact ⟨by omega,fun h9=>h2.2 (h1.2 h9)⟩
theorem aN5 {ter:Rd} (h:Rwt ter):∀ (k:Nat) (s:aW),(fS ter k s).1=true→(fS ter k s).2.x.length+(fS ter k s).2.l.length≤s.x.length+s.l.length∧(s.x.length≤200→(fS ter k s).2.x.length≤200)
 | 0,s,hs=>by simp [fS] at hs
 | k+1,s,hs=>by
  unfold fS at hs ⊢
  cases hm:(mN [43] s || mN [45] s) with
  | false=>simp only [hm,zuy,if_false]; exact ⟨zxy _,id⟩
  | true =>
   simp only [hm,if_true] at hs ⊢
   have hne:s.l≠[]:=by
    simp only [Bool.or_eq_true] at hm
    rcases hm with hm | hm <;> exact aG0 hm
   have hpl:=nR hne
   cases hr:(ter (aI s)).1 with
   | false=>simp [hr] at hs
   | true =>
    simp only [hr,if_true] at hs ⊢
    have h1:=h.w (aI s) hr
    have hpx:(aI s).x=s.x:=rfl
    rw [hpx] at h1
    generalize ((if mN [43] s=true then 3 else 4,[],[]):dQ)=st at *
    cases hq:(jY st (cH s).2.1 (ter (aI s)).2).1 with
    | false=>simp [hq] at hs
    | true =>
     simp only [hq,if_true] at hs ⊢
     obtain ⟨p1,p2⟩:=aRn hq
     rw [p2] at hs ⊢
     have ih:=aN5 h k _ hs
     simp only [zwy,List.length_singleton] at ih
     exact ⟨by omega,fun _=>ih.2 (by omega)⟩
theorem b3e {ter:Rd} (h:Rwt ter):Rwt (mO ter):=by
 refine ⟨fun s hs=>?_⟩
 unfold mO at hs ⊢
 simp only at hs ⊢
 cases hr:(ter s).1 with
 | false=>simp [hr] at hs
 | true =>
  simp only [hr,if_true] at hs ⊢
  have h1:=h.w s hr
  have h2:=aN5 h _ _ hs
  exact ⟨by omega,fun h9=>h2.2 (h1.2 h9)⟩
theorem bE3:∀ f,Rwt (bK f)
 | 0=>⟨fun s hs=>by simp [bK] at hs⟩
 | f+1=>b6l (b3e (aZr (bE3 f)))
theorem bAc {s:aW} (hd:s.d≤20) (hx:s.x=[]) (h:(pT s).1=true) :
  (∃ t:Tr,t.ok∧t.a4g∧t.src s.l∧(pT s).2.x=t.steps∧t.steps.length≤200∧t.dep 1+s.d≤20)∧In (pT s).2 s∧(pT s).2.x.length+(pT s).2.l.length≤s.l.length:=by
 unfold pT at h ⊢
 obtain ⟨t,t1,t2,t3,t4,t5⟩:=bDo 21 s hd h
 have hw:=(b3e (aZr (bE3 21))).w s h
 rw [hx] at t4 hw
 rw [List.nil_append] at t4
 refine ⟨⟨t,t1,t2,t3,t4,by rw [← t4]; exact hw.2 (by simp),t5⟩,(aTa (aPh (b6k 21))).i s,by simpa using hw.1⟩
attribute [local irreducible] pT bK
theorem aLu:∀ (k:Nat) (s:aW) (l:List Sub),a7a s.l→(∀ x ∈ l,aZp x)→(iQ k s l).1=true →
  In (iQ k s l).2.1 s∧(∀ x ∈ (iQ k s l).2.2,aZp x)∧(iQ k s l).2.2.length≤50∧(iQ k s l).2.2≠[]∧(iQ k s l).2.2.length+(iQ k s l).2.1.l.length≤l.length+s.l.length
 | 0,s,l,_,_,hs=>by simp [iQ] at hs
 | k+1,s,l,hl,hG,hs=>by
  unfold iQ at hs ⊢
  simp only at hs ⊢
  cases ha:(dV l.length 50 s).1 with
  | false=>simp [ha] at hs
  | true =>
   obtain ⟨a1,a2⟩:=aTb ha
   simp only [ha,if_true] at hs ⊢
   rw [a2] at hs ⊢
   cases hn:(aL s).1 with
   | false=>simp [hn] at hs
   | true =>
    obtain ⟨n1,n2⟩:=aAv hn
    have g1:=aRm hn hl
    have hpl:=nR n2
    simp only [hn,if_true] at hs ⊢
    rw [n1] at hs ⊢
    cases hm:(bH [35] (aI s)).1 with
    | true =>
     obtain ⟨m1,m2⟩:=a8p hm
     have hpl2:=nR m2
     simp only [hm,if_true] at hs ⊢
     rw [m1] at hs ⊢
     have hl2:a7a (aI (aI s)).l:=hl.of fun t ht=>mE s t (mE _ t ht)
     cases hq:(aL (aI (aI s))).1 with
     | false=>simp [hq] at hs
     | true =>
      obtain ⟨q1,q2⟩:=aAv hq
      have g2:=aRm hq hl2
      have hpl3:=nR q2
      simp only [hq,if_true] at hs ⊢
      rw [q1] at hs ⊢
      have hG':∀ x ∈ l++[((aL s).2.2.getD [],[],(aL (aI (aI s))).2.2.getD [])],aZp x:=fun x hx=>by
       rcases List.mem_append.1 hx with hx | hx
       ·exact hG x hx
       ·simp only [List.mem_singleton] at hx; subst hx; exact ⟨g1,rfl,.inr g2⟩
      have i3:In (aI (aI (aI s))) s:=fun t ht=>mE s t (mE _ t (mE _ t ht))
      cases hb:(bH [124] (aI (aI (aI s)))).1 with
      | true =>
       obtain ⟨b1,b2⟩:=a8p hb
       have hpl4:=nR b2
       simp only [hb,if_true] at hs ⊢
       rw [b1] at hs ⊢
       have i4:In (aI (aI (aI (aI s)))) s:=fun t ht=>i3 t (mE _ t ht)
       obtain ⟨r1,r2,r3,r4,r5⟩:=aLu k _ _ (hl.of i4) hG' hs
       refine ⟨fun t ht=>i4 t (r1 t ht),r2,r3,r4,?_⟩
       simp only [zwy,List.length_singleton] at r5
       omega
      | false =>
       have b1:=a8q hb
       simp only [hb,zuy,if_false] at hs ⊢
       rw [b1]
       refine ⟨i3,hG',by simp only [zwy,List.length_singleton]; omega,by simp,?_⟩
       simp only [zwy,List.length_singleton]; omega
    | false =>
     have m1:=a8q hm
     simp only [hm,zuy,if_false] at hs ⊢
     rw [m1] at hs ⊢
     have hG':∀ x ∈ l++[((aL s).2.2.getD [],([]:List UInt8),([]:List UInt8))],aZp x:=fun x hx=>by
      rcases List.mem_append.1 hx with hx | hx
      ·exact hG x hx
      ·simp only [List.mem_singleton] at hx; subst hx; exact ⟨g1,rfl,.inl rfl⟩
     cases hb:(bH [124] (aI s)).1 with
     | true =>
      obtain ⟨b1,b2⟩:=a8p hb
      have hpl4:=nR b2
      simp only [hb,if_true] at hs ⊢
      rw [b1] at hs ⊢
      have i4:In (aI (aI s)) s:=fun t ht=>mE s t (mE _ t ht)
      obtain ⟨r1,r2,r3,r4,r5⟩:=aLu k _ _ (hl.of i4) hG' hs
      refine ⟨fun t ht=>i4 t (r1 t ht),r2,r3,r4,?_⟩
      simp only [zwy,List.length_singleton] at r5
      omega
     | false =>
      have b1:=a8q hb
      simp only [hb,zuy,if_false] at hs ⊢
      rw [b1]
      refine ⟨mE s,hG',by simp only [zwy,List.length_singleton]; omega,by simp,?_⟩
      simp only [zwy,List.length_singleton]; omega
def aZs (r:Rel):Nat:=1+(r.2.1.length+r.2.2.length)
def aDk (l:List Rel):Nat:=(l.map aZs).sum
def aZt (t:gI):Nat:=1+aDk t.2
def aAk (l:List gI):Nat:=(l.map aZt).sum
theorem bAd (l:List Rel) (r:Rel):aDk (l++[r])=aDk l+aZs r:=by simp [aDk]
theorem bAe (l:List gI) (r:gI):aAk (l++[r])=aAk l+aZt r:=by simp [aAk]
theorem b6m {s:aW} {l:List Rel} (hd:s.d=0) (hl:a7a s.l) (hs:(cP s l).1=true) :
  In (cP s l).2.1 s∧∃ r,(cP s l).2.2=l++[r]∧aZq r∧l.length < 200∧aZs r+(cP s l).2.1.l.length≤s.l.length:=by
 unfold cP at hs ⊢
 simp only at hs ⊢
 cases ha:(dV l.length 200 s).1 with
 | false=>simp [ha] at hs
 | true =>
  obtain ⟨a1,a2⟩:=aTb ha
  have a1:l.length < 200:=by omega
  simp only [ha,if_true] at hs ⊢
  rw [a2] at hs ⊢
  cases hn:(aL s).1 with
  | false=>simp [hn] at hs
  | true =>
   obtain ⟨n1,n2⟩:=aAv hn
   have g1:=aRm hn hl
   have hpl:=nR n2
   simp only [hn,if_true] at hs ⊢
   rw [n1] at hs ⊢
   cases hm:(bH [61] (aI s)).1 with
   | true =>
    obtain ⟨m1,m2⟩:=a8p hm
    have hpl2:=nR m2
    simp only [hm,if_true] at hs ⊢
    rw [m1] at hs ⊢
    cases hq:(pT { aI (aI s) with x:=[] }).1 with
    | false=>simp [hq] at hs
    | true =>
     simp only [hq,if_true] at hs ⊢
     obtain ⟨⟨t,t1,t2,t3,t4,t5,t6⟩,i1,w1⟩:=bAc (s:={ aI (aI s) with x:=[] }) (by show s.d≤20; omega) rfl hq
     obtain ⟨z1,z2⟩:=aM1 hs
     have hpl3:=nR z2
     rw [z1]
     have i2:In { aI (aI s) with x:=[] } s:=fun t ht=>mE s t (mE _ t ht)
     have w1:(pT { aI (aI s) with x:=[] }).2.x.length+(pT { aI (aI s) with x:=[] }).2.l.length≤(aI (aI s)).l.length:=w1
     generalize pT { aI (aI s) with x:=[] } = Q at *
     refine ⟨fun t ht=>i2 t (i1 t (mE _ t ht)),_,rfl,⟨g1,.inr ⟨rfl,t,t1,t2,aPi hl (a68 i2 t3),t4.symm,t5,?_⟩⟩,a1,?_⟩
     ·have:t.dep 1+s.d≤20:=t6
      omega
     ·simp only [aZs,List.length_nil]
      omega
   | false =>
    have m1:=a8q hm
    simp only [hm,zuy,if_false] at hs ⊢
    rw [m1] at hs ⊢
    cases hc:(jT [58] (aI s)).1 with
    | false=>simp [hc] at hs
    | true =>
     obtain ⟨c1,c2⟩:=aM1 hc
     have hpl2:=nR c2
     simp only [hc,if_true] at hs ⊢
     rw [c1] at hs ⊢
     have i2:In (aI (aI s)) s:=fun t ht=>mE s t (mE _ t ht)
     cases hq:(sG (aI (aI s)) []).1 with
     | false=>simp [hq] at hs
     | true =>
      simp only [hq,if_true] at hs ⊢
      obtain ⟨z1,z2⟩:=aM1 hs
      have hpl3:=nR z2
      have hS:=aLu ((aI (aI s)).l.length+1) (aI (aI s)) [] (hl.of i2) (fun x hx=>by simp at hx) hq
      obtain ⟨i1,r2,r3,r4,r5⟩:=hS
      rw [z1]
      refine ⟨fun t ht=>i2 t (i1 t (mE _ t ht)),_,rfl,⟨g1,.inl ⟨rfl,r4,r3,r2⟩⟩,a1,?_⟩
      have e1:(iQ ((aI (aI s)).l.length+1) (aI (aI s)) [])=sG (aI (aI s)) []:=rfl
      rw [e1] at r5
      simp only [aZs,List.length_nil] at r5 ⊢
      omega
attribute [local irreducible] cP
theorem aUq:∀ (k:Nat) (s:aW) (l:List Rel),s.d=0→a7a s.l→(∀ r ∈ l,aZq r)→l.length≤200→(jF k s l).1=true →
  In (jF k s l).2.1 s∧(∀ r ∈ (jF k s l).2.2,aZq r)∧(jF k s l).2.2.length≤200∧aDk (jF k s l).2.2+(jF k s l).2.1.l.length≤aDk l+s.l.length
 | 0,s,l,_,_,_,_,hs=>by simp [jF] at hs
 | k+1,s,l,hd,hl,hG,h200,hs=>by
  unfold jF at hs ⊢
  simp only at hs ⊢
  cases hm:(bH [125] s).1 with
  | true =>
   obtain ⟨m1,m2⟩:=a8p hm
   have:=nR m2
   simp only [hm,if_true]
   rw [m1]
   exact ⟨mE s,hG,h200,by omega⟩
  | false =>
   have m1:=a8q hm
   simp only [hm,zuy,if_false] at hs ⊢
   rw [m1] at hs ⊢
   cases hr:(cP s l).1 with
   | false=>simp [hr] at hs
   | true =>
    simp only [hr,if_true] at hs ⊢
    obtain ⟨i1,r,e1,g1,w0,w1⟩:=b6m hd hl hr
    have hd':=(aAc s l).1
    rw [e1] at hs ⊢
    obtain ⟨r1,r2,r3,r4⟩:=aUq k _ _ (by rw [hd',hd]) (hl.of i1) (fun x hx=>by
     rcases List.mem_append.1 hx with hx | hx
     ·exact hG x hx
     ·simp only [List.mem_singleton] at hx; subst hx; exact g1) (by simp only [zwy,List.length_singleton]; omega) hs
    rw [bAd] at r4
    exact ⟨fun t ht=>i1 t (r1 t ht),r2,r3,by omega⟩
theorem bMj {n:Int} {s:aW} (hd:s.d=0) (hl:a7a s.l) (hs:(lE n s).1=true):In (lE n s).2.1 s∧aPj (lE n s).2.2∧aZt (lE n s).2.2+(lE n s).2.1.l.length≤s.l.length:=by
 unfold lE at hs ⊢
 simp only at hs ⊢
 cases ha:(dV n 200 s).1 with
 | false=>simp [ha] at hs
 | true =>
  obtain ⟨a1,a2⟩:=aTb ha
  simp only [ha,if_true] at hs ⊢
  rw [a2] at hs ⊢
  cases hw:a7o s with
  | false=>simp [hw] at hs
  | true =>
   have w2:=aSz hw
   have hpl:=nR w2
   simp only [hw,if_true] at hs ⊢
   have hl1:a7a (aI s).l:=hl.of (mE s)
   cases hn:(aL (aI s)).1 with
   | false=>simp [hn] at hs
   | true =>
    obtain ⟨n1,n2⟩:=aAv hn
    have g1:=aRm hn hl1
    have hpl2:=nR n2
    simp only [hn,if_true] at hs ⊢
    rw [n1] at hs ⊢
    have i2:In (aI (aI s)) s:=fun t ht=>mE s t (mE _ t ht)
    cases hm:(bH [123] (aI (aI s))).1 with
    | true =>
     obtain ⟨m1,m2⟩:=a8p hm
     have hpl3:=nR m2
     simp only [hm,if_true] at hs ⊢
     rw [m1] at hs ⊢
     have i3:In (aI (aI (aI s))) s:=fun t ht=>i2 t (mE _ t ht)
     obtain ⟨r1,r2,r3,r4⟩:=aUq _ (aI (aI (aI s))) [] hd (hl.of i3) (fun r hr=>by simp at hr) (by simp) hs
     refine ⟨fun t ht=>i3 t (r1 t ht),⟨g1,r3,r2⟩,?_⟩
     have:aDk []=0:=rfl
     simp only [aZt]
     omega
    | false =>
     have m1:=a8q hm
     simp only [hm,zuy,if_false] at hs ⊢
     rw [m1]
     refine ⟨i2,⟨g1,by simp,fun r hr=>by simp at hr⟩,?_⟩
     simp only [aZt,aDk,List.map_nil,List.sum_nil]
     omega
attribute [local irreducible] lE
theorem aN6:∀ (k:Nat) (s:aW) (l:List gI),s.d=0→a7a s.l→(∀ t ∈ l,aPj t)→l.length≤200→(iX k s l).1=true →
  (∀ t ∈ (iX k s l).2.2,aPj t)∧(iX k s l).2.2.length≤200∧aAk (iX k s l).2.2≤aAk l+s.l.length
 | 0,s,l,_,_,_,_,hs=>by simp [iX] at hs
 | k+1,s,l,hd,hl,hG,h200,hs=>by
  unfold iX at hs ⊢
  by_cases he:s.l=[]
  ·rw [if_pos he]; exact ⟨hG,h200,Nat.le_add_right _ _⟩
  ·rw [if_neg he] at hs ⊢
   simp only at hs ⊢
   cases hr:(lE l.length s).1 with
   | false=>simp [hr] at hs
   | true =>
    simp only [hr,if_true] at hs ⊢
    obtain ⟨i1,g1,w1⟩:=bMj hd hl hr
    have hd':=b5s l.length s
    have:=(hd'.2.2 hr).2
    obtain ⟨r1,r2,r3⟩:=aN6 k _ _ (by rw [hd'.1,hd]) (hl.of i1) (fun x hx=>by
     rcases List.mem_append.1 hx with hx | hx
     ·exact hG x hx
     ·simp only [List.mem_singleton] at hx; subst hx; exact g1) (by simp only [zwy,List.length_singleton]; omega) hs
    rw [bAe] at r3
    exact ⟨r1,r2,by omega⟩
theorem aZu:∀ (f k:Nat) (l:List UInt8),(kG f k l).1.length≤f
 | 0,k,l=>by simp [kG]
 | f+1,k,[]=>by simp [kG]
 | f+1,k,c::l=>by
  simp only [kG]
  split
  ·simp
  ·simp only [zwx]
   have:=aZu f
   exact Nat.succ_le_succ (this _ _)
theorem bAf (l:List UInt8):a7a (dN l).1∧(dN l).1.length≤l.length:=by
 unfold dN
 split
 ·exact ⟨fun t ht=>by simp at ht,by simp⟩
 ·simp only
  split
  ·exact ⟨fun t ht=>by simp at ht,by simp⟩
  ·exact ⟨fun t ht h1=>aUp _ _ _ t ht h1,aZu _ _ _⟩
theorem b3f (l:List UInt8):(∀ t ∈ (pK l).1,aPj t)∧(pK l).1.length≤200∧aAk (pK l).1≤l.length:=by
 have nil:(∀ t ∈ ([]:List gI),aPj t)∧([]:List gI).length≤200∧aAk ([]:List gI)≤l.length:=⟨fun t ht=>by simp at ht,by simp,by simp [aAk]⟩
 obtain ⟨h1,h2⟩:=bAf l
 unfold pK
 split
 ·exact nil
 ·unfold b5v
  split
  ·rename_i hp
   obtain ⟨r1,r2,r3⟩:=aN6 _ _ _ (show (qW l).d=0 from rfl) (show a7a (qW l).l from h1) (fun t ht=>by simp at ht) (by simp) hp
   have e:(qW l).l.length=(dN l).1.length:=rfl
   have e0:aAk []=0:=rfl
   exact ⟨r1,r2,Nat.le_trans r3 (by rw [e0,e]; omega)⟩
  ·exact nil
end Go.Fbs

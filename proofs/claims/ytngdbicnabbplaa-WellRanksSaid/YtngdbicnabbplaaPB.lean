import Derived.Test.YtngdbicnabbplaaPA
set_option linter.unusedSimpArgs false
set_option linter.unusedVariables false
set_option maxRecDepth 100000
namespace Go.Fbs
open Go.Proofs
abbrev Rd:=aW→Bool×aW
def lD (sum:Rd) (s:aW):Bool×aW :=
 if mN [40] s then
  if s.d=20 then (false,uO 10 s)
  else
   let r:=sum (aI { s with d:=s.d+1 })
   if r.1 then
    let q:=jT [41] r.2
    (q.1,{ q.2 with d:=q.2.d - 1 })
   else (false,{ r.2 with d:=r.2.d - 1 })
 else
  let r:=aL s
  if r.1 then
   let m:=bH [45,62] r.2.1
   if m.1 then
    let q:=aL m.2
    if q.1 then jY (2,r.2.2.getD [],q.2.2.getD []) (cH s).2.1 q.2.1 else (false,q.2.1)
   else jY (1,r.2.2.getD [],[]) (cH s).2.1 m.2
  else (false,r.2.1)
def fW (fac:Rd):Nat→Nat→aW→Bool×aW
 | 0,_,s=>(false,s)
 | k+1,a,s =>
  let m:=bH [38] s
  if m.1 then
   let r:=fac m.2
   if r.1 then
    let q:=jY (5,[],[]) a r.2
    if q.1 then fW fac k (cH q.2).2.1 q.2 else (false,q.2)
   else (false,r.2)
  else (true,m.2)
def eN (fac:Rd) (s:aW):Bool×aW :=
 let r:=fac s
 if r.1 then fW fac (r.2.l.length+1) (cH r.2).2.1 r.2 else (false,r.2)
def fS (ter:Rd):Nat→aW→Bool×aW
 | 0,s=>(false,s)
 | k+1,s =>
  if mN [43] s || mN [45] s then
   let r:=ter (aI s)
   if r.1 then
    let q:=jY (if mN [43] s then 3 else 4,[],[]) (cH s).2.1 r.2
    if q.1 then fS ter k q.2 else (false,q.2)
   else (false,r.2)
  else (true,s)
def mO (ter:Rd) (s:aW):Bool×aW :=
 let r:=ter s
 if r.1 then fS ter (r.2.l.length+1) r.2 else (false,r.2)
def bK:Nat→Rd
 | 0=>fun s=>(false,s)
 | f+1=>lD (mO (eN (bK f)))
structure Good (f:Rd):Prop where
 d:∀ s,(f s).2.d=s.d
 l:∀ s,(f s).2.l.length≤s.l.length
theorem aKz (e:Int) (s:aW):(uO e s).d=s.d∧(uO e s).l=s.l:=by unfold uO; split <;> exact ⟨rfl,rfl⟩
theorem aG2 (s:aW):(aI s).d=s.d∧(aI s).l.length≤s.l.length:=⟨rfl,by show s.l.tail.length≤_; simp⟩
theorem aK0 {s:aW} (h:s.l≠[]):(aI s).l.length < s.l.length:=by
 show s.l.tail.length < _
 cases hl:s.l with
 | nil=>exact absurd hl h
 | cons a r=>simp
theorem a3t (s:aW):(aL s).2.1.d=s.d∧(aL s).2.1.l.length≤s.l.length:=by
 unfold aL
 split
 ·exact aG2 s
 ·have:=aKz 9 s; exact ⟨this.1,by rw [this.2]; exact zxy _⟩
theorem aK1 (g:List UInt8) (s:aW):(jT g s).2.d=s.d∧(jT g s).2.l.length≤s.l.length:=by
 unfold jT
 split
 ·exact aG2 s
 ·have:=aKz 9 s; exact ⟨this.1,by rw [this.2]; exact zxy _⟩
theorem uP (g:List UInt8) (s:aW):(bH g s).2.d=s.d∧(bH g s).2.l.length≤s.l.length:=by
 unfold bH
 split
 ·exact aG2 s
 ·exact ⟨rfl,zxy _⟩
theorem b8w {g:List UInt8} {s:aW} (h:(bH g s).1=true):(bH g s).2.l.length < s.l.length:=by
 unfold bH at h ⊢
 split
 ·rename_i hi; exact aK0 (aG0 hi)
 ·rename_i hi; rw [if_neg hi] at h; simp at h
theorem aC9 (p:dQ) (a:Nat) (s:aW):(jY p a s).2.d=s.d∧(jY p a s).2.l=s.l:=by unfold jY; split <;> exact ⟨rfl,rfl⟩
theorem b1e {sum:Rd} (h:Good sum):Good (lD sum):=by
 have key:∀ s,(lD sum s).2.d=s.d∧(lD sum s).2.l.length≤s.l.length:=fun s=>by
  unfold lD
  split
  ·split
   ·have:=aKz 10 s; exact ⟨this.1,by rw [this.2]; exact zxy _⟩
   ·have h1:=h.d (aI { s with d:=s.d+1 })
    have h2:=h.l (aI { s with d:=s.d+1 })
    have h3:=(aG2 { s with d:=s.d+1 }).2
    have h4:(aI { s with d:=s.d+1 }).d=s.d+1:=rfl
    simp only
    split
    ·have h5:=aK1 [41] (sum (aI { s with d:=s.d+1 })).2
     exact ⟨by show _ - 1=_; rw [h5.1,h1,h4]; rfl,by show (jT _ _).2.l.length≤_; simp only at h3; omega⟩
    ·exact ⟨by show _ - 1=_; rw [h1,h4]; rfl,by show (sum _).2.l.length≤_; simp only at h3; omega⟩
  ·have h1:=a3t s
   simp only
   split
   ·have h2:=uP [45,62] (aL s).2.1
    split
    ·have h3:=a3t (bH [45,62] (aL s).2.1).2
     split
     ·have h4:=aC9 (2,(aL s).2.2.getD [],(aL (bH [45,62] (aL s).2.1).2).2.2.getD []) (cH s).2.1 (aL (bH [45,62] (aL s).2.1).2).2.1
      exact ⟨by rw [h4.1,h3.1,h2.1,h1.1],by rw [h4.2]; omega⟩
     ·exact ⟨by rw [h3.1,h2.1,h1.1],by simp only; omega⟩
    ·have h4:=aC9 (1,(aL s).2.2.getD [],[]) (cH s).2.1 (bH [45,62] (aL s).2.1).2
     exact ⟨by rw [h4.1,h2.1,h1.1],by rw [h4.2]; omega⟩
   ·exact h1
 exact ⟨fun s=>(key s).1,fun s=>(key s).2⟩
theorem aIl {fac:Rd} (h:Good fac):∀ (k a:Nat) (s:aW),(fW fac k a s).2.d=s.d∧(fW fac k a s).2.l.length≤s.l.length
 | 0,a,s=>⟨rfl,zxy _⟩
 | k+1,a,s=>by
  unfold fW
  have h1:=uP [38] s
  simp only
  split
  ·have h2:=h.d (bH [38] s).2
   have h3:=h.l (bH [38] s).2
   split
   ·have h4:=aC9 (5,[],[]) a (fac (bH [38] s).2).2
    split
    ·have h5:=aIl h k (cH (jY (5,[],[]) a (fac (bH [38] s).2).2).2).2.1 (jY (5,[],[]) a (fac (bH [38] s).2).2).2
     rw [h4.2] at h5
     exact ⟨by rw [h5.1,h4.1,h2,h1.1],by omega⟩
    ·exact ⟨by rw [h4.1,h2,h1.1],by rw [h4.2]; omega⟩
   ·exact ⟨by rw [h2,h1.1],by simp only; omega⟩
  ·exact h1
theorem a1q {fac:Rd} (h:Good fac):Good (eN fac):=by
 have key:∀ s,(eN fac s).2.d=s.d∧(eN fac s).2.l.length≤s.l.length:=fun s=>by
  unfold eN
  have h2:=h.d s
  have h3:=h.l s
  simp only
  split
  ·have h5:=aIl h ((fac s).2.l.length+1) (cH (fac s).2).2.1 (fac s).2
   exact ⟨by rw [h5.1,h2],by omega⟩
  ·exact ⟨h2,h3⟩
 exact ⟨fun s=>(key s).1,fun s=>(key s).2⟩
theorem aK2 {ter:Rd} (h:Good ter):∀ (k:Nat) (s:aW),(fS ter k s).2.d=s.d∧(fS ter k s).2.l.length≤s.l.length
 | 0,s=>⟨rfl,zxy _⟩
 | k+1,s=>by
  unfold fS
  split
  ·have h1:=aG2 s
   have h2:=h.d (aI s)
   have h3:=h.l (aI s)
   simp only
   generalize (if mN [43] s=true then (3:Int) else 4)=kd
   split
   ·have h4:=aC9 (kd,[],[]) (cH s).2.1 (ter (aI s)).2
    split
    ·have h5:=aK2 h k (jY (kd,[],[]) (cH s).2.1 (ter (aI s)).2).2
     rw [h4.2] at h5
     exact ⟨by rw [h5.1,h4.1,h2,h1.1],by omega⟩
    ·exact ⟨by rw [h4.1,h2,h1.1],by rw [h4.2]; omega⟩
   ·exact ⟨by rw [h2,h1.1],by simp only; omega⟩
  ·exact ⟨rfl,zxy _⟩
theorem aG3 {ter:Rd} (h:Good ter):Good (mO ter):=by
 have key:∀ s,(mO ter s).2.d=s.d∧(mO ter s).2.l.length≤s.l.length:=fun s=>by
  unfold mO
  have h2:=h.d s
  have h3:=h.l s
  simp only
  split
  ·have h5:=aK2 h ((ter s).2.l.length+1) (ter s).2
   exact ⟨by rw [h5.1,h2],by omega⟩
  ·exact ⟨h2,h3⟩
 exact ⟨fun s=>(key s).1,fun s=>(key s).2⟩
theorem a3u:∀ f,Good (bK f)
 | 0=>⟨fun _=>rfl,fun _=>zxy _⟩
 | f+1=>b1e (aG3 (a1q (a3u f)))
theorem aIm {fac:Rd} (h:Good fac):∀ (n k1 k2 a:Nat) (s:aW),s.l.length≤n→s.l.length < k1→s.l.length < k2→fW fac k1 a s=fW fac k2 a s
 | n,0,_,_,_,_,h1,_=>by omega
 | n,_,0,_,_,_,_,h2=>by omega
 | n,k1+1,k2+1,a,s,hn,h1,h2=>by
  unfold fW
  simp only
  split
  ·rename_i hm
   have h3:=b8w hm
   have h4:=h.l (bH [38] s).2
   split
   ·have h5:=aC9 (5,[],[]) a (fac (bH [38] s).2).2
    split
    ·cases n with
     | zero=>omega
     | succ n=>exact aIm h n k1 k2 _ _ (by rw [h5.2]; omega) (by rw [h5.2]; omega) (by rw [h5.2]; omega)
    ·rfl
   ·rfl
  ·rfl
theorem aK3 {ter:Rd} (h:Good ter):∀ (n k1 k2:Nat) (s:aW),s.l.length≤n→s.l.length < k1→s.l.length < k2→fS ter k1 s=fS ter k2 s
 | n,0,_,_,_,h1,_=>by omega
 | n,_,0,_,_,_,h2=>by omega
 | n,k1+1,k2+1,s,hn,h1,h2=>by
  unfold fS
  split
  ·rename_i hm
   have hne:s.l≠[]:=by
    simp only [Bool.or_eq_true] at hm
    rcases hm with hm | hm <;> exact aG0 hm
   have h3:=aK0 hne
   have h4:=h.l (aI s)
   simp only
   generalize (if mN [43] s=true then (3:Int) else 4)=kd
   split
   ·have h5:=aC9 (kd,[],[]) (cH s).2.1 (ter (aI s)).2
    split
    ·cases n with
     | zero=>omega
     | succ n=>exact aK3 h n k1 k2 _ (by rw [h5.2]; omega) (by rw [h5.2]; omega) (by rw [h5.2]; omega)
    ·rfl
   ·rfl
  ·rfl
end Go.Fbs
namespace Go.Fbs
open Go.Proofs
def okF (f:Nat) (s:aW):Prop:=s.d≤20∧21≤s.d+f
noncomputable def a4d (f:Nat):Spec:=fG (fun s:aW=>[bF s]) (okF f) (fun s=>.aH [.bool (bK f s).1,bF (bK f s).2])
noncomputable def aBp (f:Nat):Spec:=fG (fun s:aW=>[bF s]) (okF f) (fun s=>.aH [.bool (eN (bK f) s).1,bF (eN (bK f) s).2])
noncomputable def a7p (f:Nat):Spec:=fG (fun s:aW=>[bF s]) (okF f) (fun s=>.aH [.bool (mO (eN (bK f)) s).1,bF (mO (eN (bK f)) s).2])
theorem b2o {f:Nat} {s:aW} (h:okF f s):a4d f [bF s]=some (.aH [.bool (bK f s).1,bF (bK f s).2]):=cK aYg h
theorem bEp {f:Nat} {s:aW} (h:okF f s):aBp f [bF s]=some (.aH [.bool (eN (bK f) s).1,bF (eN (bK f) s).2]):=cK aYg h
theorem bI8 {f:Nat} {s:aW} (h:okF f s):a7p f [bF s]=some (.aH [.bool (mO (eN (bK f)) s).1,bF (mO (eN (bK f)) s).2]):=cK aYg h
theorem bCs (p:dQ):aD [aA (jX p) 0,aA (jX p) 1,aA (jX p) 2]=some (jX p):=nr rfl
theorem bI9 (p:dQ):aJ 3 (jX p)=some (jX p):=nr rfl
theorem bL0 (p:dQ) (k:Int):aD [vI k,aA (jX p) 1,aA (jX p) 2]=some (jX (k,p.2.1,p.2.2)):=nr rfl
theorem b5r (k:Int):aD [vI k,.str [],.str []]=some (jX (k,[],[])):=nr rfl
theorem a60 (o:Option (List UInt8)) (x:List UInt8):rC o (.str x) = .str (o.getD x):=by cases o <;> rfl
theorem bGj (s:aW) (p:dQ):oZ [bF s,jX p]=some (.aH [.bool (aL s).1,bF (aL s).2.1,jX (p.1,(aL s).2.2.getD p.2.1,p.2.2)]):=by
 have:=bI7 s (b0:=vI p.1) (b1:=.str p.2.1) (b2:=.str p.2.2) rfl rfl rfl rfl rfl rfl
 rw [a60] at this; exact this
theorem bGk (s:aW) (p:dQ):j9 [bF s,jX p]=some (.aH [.bool (aL s).1,bF (aL s).2.1,jX (p.1,p.2.1,(aL s).2.2.getD p.2.2)]):=by
 have:=b8v s (b0:=vI p.1) (b1:=.str p.2.1) (b2:=.str p.2.2) rfl rfl rfl rfl rfl rfl
 rw [a60] at this; exact this
theorem agD (s:aW) (d:Nat):aD [aA (bF s) 0,aA (bF s) 1,aA (bF s) 2,aA (bF s) 3,vI d,aA (bF s) 5]=some (bF { s with d:=d }):=nr rfl
theorem eqD (s:aW):aF .eql (aA (bF s) 4) (vI 20)=some (.bool (decide (s.d=20))):=by
 have:aA (bF s) 4=vI s.d:=rfl
 rw [this,uV]
 congr 2
 rw [decide_eq_decide]; omega
theorem bN1 {s:aW} (h:s.d≤30):aF .add (aA (bF s) 4) (vI 1)=some (vI (s.d+1:Nat)):=by
 have:aA (bF s) 4=vI s.d:=rfl
 rw [this,aGg,jC (by omega) (by omega)]; rfl
theorem bJb {s:aW} (h:1≤s.d) (h2:s.d≤30):aF .sub (aA (bF s) 4) (vI 1)=some (vI (s.d - 1:Nat)):=by
 have:aA (bF s) 4=vI s.d:=rfl
 rw [this,bCm,jC (by omega) (by omega)]
 congr 2; omega
noncomputable abbrev TF (f:Nat):List (FuncId×Spec):=[(iB,j8),(aO,bI),(bR,cO),(iS,kI),(bY,fF),
 (zE,oZ),(nP,j9),(iY,l3),(qM,a7p f)]
theorem b8x (f:Nat) (hsum:bX Try.prog tD fR (a7p f)):bX Try.prog qD dZ (a4d (f+1)):=by
 refine a2p (T:=TF f) (aE.cC wR (aE.cC gR (aE.cC j3 (aE.cC zM (aE.cC oS (aE.cC aEe (aE.cC a3s (aE.cC a0w (aE.cC hsum aE.nil))))))))) fun words v hv=>?_
 have c1:∀ args,aM (TF f) iB args=j8 args:=fun _=>rfl
 have c2:∀ args,aM (TF f) aO args=bI args:=fun _=>rfl
 have c3:∀ args,aM (TF f) bR args=cO args:=fun _=>rfl
 have c4:∀ args,aM (TF f) iS args=kI args:=fun _=>rfl
 have c5:∀ args,aM (TF f) bY args=fF args:=fun _=>rfl
 have c6:∀ args,aM (TF f) zE args=oZ args:=fun _=>rfl
 have c7:∀ args,aM (TF f) nP args=j9 args:=fun _=>rfl
 have c8:∀ args,aM (TF f) iY args=l3 args:=fun _=>rfl
 have c9:∀ args,aM (TF f) qM args=a7p f args:=fun _=>rfl
 obtain ⟨s,rfl,⟨hd,hf⟩,rfl⟩:=bO hv
 refine ⟨_,rfl,rfl,by simp [aG,dX,V.aN],by simp [aG,dX,V.aN],rfl,rfl,?_⟩
 refine Eq.mpr (aD7 (aM _) _ (aP s.l) (vI s.n) (vI s.at_) (vI s.e) (vI s.d) (bT s.x)) ?_
 rw [show bK (f+1) s=lD (mO (eN (bK f))) s from rfl]
 simp only [sS,if_true,if_false,reduceCtorEq,a4c,c1,Fis,zux,zvx,lC,lY]
 unfold lD
 cases hi:mN [40] s with
 | true =>
  simp only [Bool.not_true,zuy,if_false,if_true,eqD,aB,aQ]
  by_cases h20:s.d=20
  ·simp only [h20,decide_true,if_true,c3,aAa,aB,dR,zux,zvx,lC,lY]
  ·simp only [h20,decide_false,zuy,if_false,bN1 (show s.d≤30 by omega),aB,agD]
   have hs:jT [40] { s with d:=s.d+1 } = (true,aI { s with d:=s.d+1 }):=by
    unfold jT
    rw [if_pos (show mN [40] { s with d:=s.d+1 } = true from hi)]
   have hok:okF f (aI { s with d:=s.d+1 }):=⟨by show s.d+1≤20; omega,by show 21≤s.d+1+f; omega⟩
   simp only [c4,aMr,hs,aB,dR,zux,zvx,lC,lY,ckB,wJ,c9,bI8 hok]
   have hgd:(mO (eN (bK f)) (aI { s with d:=s.d+1 })).2.d=s.d+1:=(aG3 (a1q (a3u f))).d _
   generalize mO (eN (bK f)) (aI { s with d:=s.d+1 })=r at *
   obtain ⟨b,s2⟩:=r
   simp only at hgd ⊢
   cases b with
   | true =>
    have h5:=(aK1 [41] s2).1
    simp only [wJ,if_true,aB,aMr,dR,zux,zvx,lC,bJb (s:=(jT [41] s2).2) (by omega) (by omega),agD]
   | false =>
    simp only [z8,zuy,if_false,aB,bJb (s:=s2) (by omega) (by omega),agD]
 | false =>
  simp only [Bool.not_false,zuy,if_false,if_true,aB,b5r,c2,a2h,dR,zux,zvx,lC,lY,pT1,bCs,c6,bGj,bI9,gJ]
  generalize hr:aL s=r
  obtain ⟨b,s1,o⟩:=r
  simp only [aQ]
  cases b with
  | false=>simp only [Bool.not_false,if_true,zuy,if_false]
  | true =>
   simp only [Bool.not_true,zuy,if_false,if_true,c5,aEa,aB,dR,zux,zvx,lC,lY,x7,aQ]
   generalize hm:bH [45,62] s1=m
   obtain ⟨b2,s2⟩:=m
   simp only
   cases b2 with
   | false =>
    simp only [zuy,if_false,zwx,List.length_nil,jM,jW,bCs,lY,aB,c8,b5q,dR,zux,zvx,lC,true_and]
   | true =>
    simp only [if_true,bL0,aB,c7,bGk,dR,zux,zvx,lC,bI9,gJ,aQ]
    generalize hq:aL s2=q
    obtain ⟨b3,s3,o3⟩:=q
    simp only
    cases b3 with
    | false=>simp only [Bool.not_false,if_true,lY,aB,zuy,if_false]
    | true =>
     simp only [Bool.not_true,zuy,if_false,if_true,zwx,List.length_nil,jM,jW,bCs,lY,aB,c8,b5q,dR,zux,zvx,lC,true_and]
end Go.Fbs
namespace Go.Fbs
open Go.Proofs
theorem aK4 (s:aW):aD [aP s.l,vI s.n,vI s.at_,vI s.e,vI s.d,bT s.x]=some (bF s):=nr rfl
theorem fL (s:aW):aA (bF s) 0=aP s.l∧aA (bF s) 1=vI s.n∧aA (bF s) 2=vI s.at_∧aA (bF s) 3=vI s.e∧aA (bF s) 4=vI s.d∧aA (bF s) 5=bT s.x:=⟨rfl,rfl,rfl,rfl,rfl,rfl⟩
noncomputable abbrev TT1 (f:Nat):List (FuncId×Spec):=[(tJ,a4d f),(aO,bI),(bY,fF),(iY,l3)]
theorem aMt (f:Nat) (hfac:bX Try.prog qD dZ (a4d f)):bX Try.prog wL gD (aBp f):=by
 refine aFe (T:=TT1 f) (aE.cC hfac (aE.cC gR (aE.cC oS (aE.cC a0w aE.nil)))) fun words v hv=>?_
 have c1:∀ args,aM (TT1 f) tJ args=a4d f args:=fun _=>rfl
 have c2:∀ args,aM (TT1 f) aO args=bI args:=fun _=>rfl
 have c5:∀ args,aM (TT1 f) bY args=fF args:=fun _=>rfl
 have c8:∀ args,aM (TT1 f) iY args=l3 args:=fun _=>rfl
 obtain ⟨s,rfl,⟨hd,hf⟩,rfl⟩:=bO hv
 refine ⟨_,rfl,rfl,by simp [aG,dX,V.aN],by simp [aG,dX,V.aN],rfl,rfl,?_⟩
 refine Eq.mpr (aGw (aM _) _ (aP s.l) (vI s.n) (vI s.at_) (vI s.e) (vI s.d) (bT s.x)) ?_
 have gd:=a3u f
 simp only [a4c,aB,c1,b2o (show okF f s from ⟨hd,hf⟩),dR,zux,zvx,lC,lY,gJ,aQ]
 unfold eN
 have hd1:=gd.d s
 generalize hr:bK f s=r at *
 obtain ⟨b,s1⟩:=r
 simp only at hd1 ⊢
 cases b with
 | false=>simp only [Bool.not_false,if_true,zuy,if_false]
 | true =>
  simp only [Bool.not_true,zuy,if_false,if_true,c2,a2h,aB,dR,zux,zvx,lC,pT1]
  refine fX (fun vs=>∃ (a:Nat) (t:aW),vs=[bT t.x,vI a,aP t.l,vI t.n,vI t.at_,vI t.e,vI t.d]∧t.d=s.d∧t.l.length≤s1.l.length∧fW (bK f) (t.l.length+1) a t=fW (bK f) (s1.l.length+1) (cH s1).2.1 s1)
   (fun vs=>match gv vs 2 with | .sl _ es=>es.length | _=>0) ⟨_,s1,rfl,hd1,zxy _,rfl⟩ ?_
  rintro r _ ⟨a,t,rfl,htd,htl,ht⟩ hr
  refine ⟨rfl,?_⟩
  rw [← ht]
  simp only [jM,jW,aK4,aB,c5,aEa,dR,zux,zvx,lC,aQ]
  unfold fW
  have hm1:=uP [38] t
  have hm2:=b8w (g:=[38]) (s:=t)
  generalize hm:bH [38] t=m at *
  obtain ⟨b2,t2⟩:=m
  simp only at hm1 hm2 ⊢
  cases b2 with
  | false=>simp only [zuy,if_false,lY,aB]
  | true =>
   have hm2:=hm2 rfl
   have hok:okF f t2:=⟨by omega,by omega⟩
   have e1:=gd.d t2
   have e2:=gd.l t2
   simp only [if_true,lY,aB,c1,b2o hok,dR,zux,zvx,lC,gJ,b5r,aQ]
   generalize hq:bK f t2=q at *
   obtain ⟨b3,t3⟩:=q
   simp only at e1 e2 ⊢
   cases b3 with
   | false=>simp only [Bool.not_false,if_true,zuy,if_false]
   | true =>
    have e3:=aC9 (5,[],[]) a t3
    simp only [Bool.not_true,zuy,if_false,if_true,c8,b5q,aB,dR,zux,zvx,lC,lY,gJ,aQ]
    generalize hp:jY (5,[],[]) a t3=u at *
    obtain ⟨b4,t4⟩:=u
    simp only at e3 ⊢
    cases b4 with
    | false=>simp only [Bool.not_false,if_true,zuy,if_false]
    | true =>
     simp only [Bool.not_true,zuy,if_false,if_true,c2,a2h,aB,dR,zux,zvx,lC,pT1]
     rw [(fL t4).1,(fL t4).2.1,(fL t4).2.2.1,(fL t4).2.2.2.1,(fL t4).2.2.2.2.1,(fL t4).2.2.2.2.2]
     have hl4:t4.l.length < t.l.length:=by rw [e3.2]; omega
     have e5:=aIm gd t4.l.length t.l.length (t4.l.length+1) (cH t4).2.1 t4 (zxy _) hl4 (Nat.lt_succ_self _)
     have ht':fW (bK f) (t4.l.length+1) (cH t4).2.1 t4=fW (bK f) (s1.l.length+1) (cH s1).2.1 s1:=by
      rw [← ht]
      conv=>rhs; unfold fW
      simp only [hm,if_true,hq,hp]
      rw [e5]
     exact hr _ ⟨_,t4,rfl,by rw [e3.1,e1]; omega,by omega,ht'⟩ (by simp only [jM,jW,aP,zsy]; exact hl4)
noncomputable abbrev TS1 (f:Nat):List (FuncId×Spec):=[(rV,aBp f),(iB,j8),(aO,bI),(bY,fF),(iY,l3)]
theorem bGl {s:aW} (h:mN [43] s=true):mN [45] s=false:=by
 simp only [mN,zxz,beq_iff_eq] at h
 simp [mN,h.2]
theorem b8z (f:Nat) (hter:bX Try.prog wL gD (aBp f)):bX Try.prog tD fR (a7p f):=by
 refine aGv (T:=TS1 f) (aE.cC hter (aE.cC wR (aE.cC gR (aE.cC oS (aE.cC a0w aE.nil))))) fun words v hv=>?_
 have c1:∀ args,aM (TS1 f) rV args=aBp f args:=fun _=>rfl
 have c2:∀ args,aM (TS1 f) aO args=bI args:=fun _=>rfl
 have c3:∀ args,aM (TS1 f) iB args=j8 args:=fun _=>rfl
 have c5:∀ args,aM (TS1 f) bY args=fF args:=fun _=>rfl
 have c8:∀ args,aM (TS1 f) iY args=l3 args:=fun _=>rfl
 obtain ⟨s,rfl,⟨hd,hf⟩,rfl⟩:=bO hv
 refine ⟨_,rfl,rfl,by simp [aG,dX,V.aN],by simp [aG,dX,V.aN],rfl,rfl,?_⟩
 refine Eq.mpr (aI7 (aM _) _ (aP s.l) (vI s.n) (vI s.at_) (vI s.e) (vI s.d) (bT s.x)) ?_
 have gd:=a1q (a3u f)
 simp only [a4c,aB,c1,bEp (show okF f s from ⟨hd,hf⟩),dR,zux,zvx,lC,lY,gJ,aQ]
 unfold mO
 have hd1:=gd.d s
 generalize hr:eN (bK f) s=r at *
 obtain ⟨b,s1⟩:=r
 simp only at hd1 ⊢
 cases b with
 | false=>simp only [Bool.not_false,if_true,zuy,if_false]
 | true =>
  simp only [Bool.not_true,zuy,if_false,if_true]
  refine fX (fun vs=>∃ (t:aW),vs=[bT t.x,aP t.l,vI t.n,vI t.at_,vI t.e,vI t.d]∧t.d=s.d∧t.l.length≤s1.l.length∧fS (eN (bK f)) (t.l.length+1) t=fS (eN (bK f)) (s1.l.length+1) s1)
   (fun vs=>match gv vs 1 with | .sl _ es=>es.length | _=>0) ⟨s1,rfl,hd1,zxy _,rfl⟩ ?_
  rintro r _ ⟨t,rfl,htd,htl,ht⟩ hr
  refine ⟨rfl,?_⟩
  rw [← ht]
  simp only [jM,jW,aK4,aB,c3,Fis,dR,zux,zvx,lC,lY,ckB,aQ]
  have step:∀ (kd:Int),mN [43] t=true∨mN [45] t=true→kd=(if mN [43] t=true then 3 else 4) →
    (opt (aBp f [bF (aI t)]) fun y40=>opt (aC y40 0) fun y41=>opt (aC y40 1) fun y42=>opt (aJ 6 y42) fun y43=>opt (kL .not y41) fun y44=>opt (aD [vI kd,.str [],.str []]) fun y45 =>
     aV y44 (opt (aD [(aA y43 0),(aA y43 1),(aA y43 2),(aA y43 3),(aA y43 4),(aA y43 5)]) fun y46=>(.aH [(.bool false),y46]=V.aH [.bool (fS (eN (bK f)) (t.l.length+1) t).1,bF (fS (eN (bK f)) (t.l.length+1) t).2]))
     (opt (aD [(aA y43 0),(aA y43 1),(aA y43 2),(aA y43 3),(aA y43 4),(aA y43 5)]) fun y46=>opt (aM (TS1 f) iY [y46,y45,vI (cH t).2.1]) fun y47=>opt (aC y47 0) fun y48=>opt (aC y47 1) fun y49=>opt (aJ 6 y49) fun y50=>opt (kL .not y48) fun y51 =>
      aV y51 (opt (aD [(aA y50 0),(aA y50 1),(aA y50 2),(aA y50 3),(aA y50 4),(aA y50 5)]) fun y52=>(.aH [(.bool false),y52]=V.aH [.bool (fS (eN (bK f)) (t.l.length+1) t).1,bF (fS (eN (bK f)) (t.l.length+1) t).2]))
      (r [(aA y50 5),(aA y50 0),(aA y50 1),(aA y50 2),(aA y50 3),(aA y50 4)]))):=by
   intro kd hsg hkd
   have hne:t.l≠[]:=by rcases hsg with h | h <;> exact aG0 h
   have h3:=aK0 hne
   have hok:okF f (aI t):=⟨by show t.d≤20; omega,by show 21≤t.d+f; omega⟩
   have e1:=gd.d (aI t)
   have e2:=gd.l (aI t)
   have hsum:fS (eN (bK f)) (t.l.length+1) t=(let r:=eN (bK f) (aI t); if r.1 then let q:=jY (kd,[],[]) (cH t).2.1 r.2; if q.1 then fS (eN (bK f)) t.l.length q.2 else (false,q.2) else (false,r.2)):=by
    conv=>lhs; unfold fS
    rw [if_pos (by simpa using hsg),← hkd]
   rw [hsum]
   simp only [aB,bEp hok,dR,zux,zvx,lC,gJ,b5r,aQ,lY]
   generalize hq:eN (bK f) (aI t)=q at *
   obtain ⟨b3,t3⟩:=q
   simp only at e1 e2 ⊢
   cases b3 with
   | false=>simp only [Bool.not_false,if_true,zuy,if_false]
   | true =>
    have e3:=aC9 (kd,[],[]) (cH t).2.1 t3
    simp only [Bool.not_true,zuy,if_false,if_true,c8,b5q,aB,dR,zux,zvx,lC,lY,gJ,aQ]
    generalize hp:jY (kd,[],[]) (cH t).2.1 t3=u at *
    obtain ⟨b4,t4⟩:=u
    simp only at e3 ⊢
    cases b4 with
    | false=>simp only [Bool.not_false,if_true,zuy,if_false]
    | true =>
     simp only [Bool.not_true,zuy,if_false]
     rw [(fL t4).1,(fL t4).2.1,(fL t4).2.2.1,(fL t4).2.2.2.1,(fL t4).2.2.2.2.1,(fL t4).2.2.2.2.2]
     have hl4:t4.l.length < t.l.length:=by rw [e3.2]; omega
     have e5:=aK3 gd t4.l.length t.l.length (t4.l.length+1) t4 (zxy _) hl4 (Nat.lt_succ_self _)
     refine hr _ ⟨t4,rfl,?_,by omega,?_⟩ (by simp only [jM,jW,aP,zsy]; exact hl4)
     ·rw [e3.1,e1]; exact htd
     ·rw [← ht,hsum]
      simp only [hq,hp,if_true]
      exact e5.symm
  have pm:∀ g,mN g t=true→bH g t=(true,aI t):=fun g h=>by simp [bH,h]
  have pf:∀ g,mN g t=false→bH g t=(false,t):=fun g h=>by simp [bH,h]
  cases h1:mN [43] t with
  | true =>
   have h2:=bGl h1
   simp only [if_true,c2,a2h,aB,dR,zux,zvx,lC,lY,pT1,c5,aEa,pm _ h1,gJ,Bool.not_true,x7,aQ,zuy,if_false,zwx,List.length_nil,jM,jW,true_and]
   have:=step 3 (.inl h1) (by rw [if_pos h1])
   exact this
  | false =>
   cases h2:mN [45] t with
   | true =>
    simp only [zuy,if_false,if_true,c3,Fis,h2,c2,a2h,aB,dR,zux,zvx,lC,lY,pT1,c5,aEa,pf _ h1,pm _ h2,gJ,Bool.not_false,x7,aQ,zwx,List.length_nil,jM,jW,true_and]
    have:=step 4 (.inr h2) (by rw [if_neg (by rw [h1]; simp)])
    exact this
   | false =>
    have hend:fS (eN (bK f)) (t.l.length+1) t=(true,t):=by
     unfold fS
     rw [if_neg (by rw [h1,h2]; simp)]
    rw [hend]
    simp only [zuy,if_false,c3,Fis,h2,aB,dR,zux,zvx,lC,lY,aQ]
theorem b80:∀ f,bX Try.prog qD dZ (a4d f)∧bX Try.prog wL gD (aBp f)∧bX Try.prog tD fR (a7p f)
 | 0=>by
  have h:bX Try.prog qD dZ (a4d 0):=by
   refine a2p (T:=[]) aE.nil fun words v hv=>?_
   obtain ⟨s,rfl,⟨h1,h2⟩,rfl⟩:=bO hv
   omega
  exact ⟨h,aMt 0 h,b8z 0 (aMt 0 h)⟩
 | f+1=>by
  have h:=b8x f (b80 f).2.2
  exact ⟨h,aMt (f+1) h,b8z (f+1) (aMt (f+1) h)⟩
end Go.Fbs
namespace Go.Fbs
open Go.Proofs
abbrev Sub:=List UInt8×List UInt8×List UInt8
abbrev Rel:=List UInt8×List Sub×List dQ
abbrev gI:=List UInt8×List Rel
def kW (s:Sub):V:=.agg [.str s.1,.str s.2.1,.str s.2.2]
def lV (l:List Sub):V:=.sl .ro (l.map kW)
def jE (r:Rel):V:=.agg [.str r.1,lV r.2.1,bT r.2.2]
def lW (l:List Rel):V:=.sl .ro (l.map jE)
def kJ (t:gI):V:=.agg [.str t.1,lW t.2]
def gQ (l:List gI):V:=.sl .ro (l.map kJ)
theorem aO2 {a b:Sub} (h:kW a=kW b):a=b:=by
 obtain ⟨k,n,x⟩:=a
 obtain ⟨k',n',x'⟩:=b
 simp only [kW,V.agg.injEq,List.cons.injEq,V.str.injEq,and_true] at h
 obtain ⟨h1,h2,h3⟩:=h
 rw [h1,h2,h3]
theorem aG4 {a b:Rel} (h:jE a=jE b):a=b:=by
 obtain ⟨k,n,x⟩:=a
 obtain ⟨k',n',x'⟩:=b
 simp only [jE,lV,bT,V.agg.injEq,List.cons.injEq,V.str.injEq,V.sl.injEq,and_true,true_and] at h
 obtain ⟨h1,h2,h3⟩:=h
 rw [h1,rB (fun _ _=>aO2) h2,rB (fun _ _=>aBm) h3]
theorem aAb (l:List Sub):(lV l).aN=true:=by
 simp only [lV,V.aN]; exact yL fun _=>rfl
theorem aG5 (l:List dQ):(bT l).aN=true:=by
 simp only [bT,V.aN]; exact yL fun _=>rfl
theorem a8j (r:Rel):(jE r).aN=true:=by
 simp only [jE,V.aN,aG,aAb,aG5,Bool.and_true]
theorem aG6 (l:List Rel):(lW l).aN=true:=by
 simp only [lW,V.aN]; exact yL a8j
theorem a8k (t:gI):(kJ t).aN=true:=by
 simp only [kJ,V.aN,aG,aG6,Bool.and_true]
theorem a5u (l:List gI):(gQ l).aN=true:=by
 simp only [gQ,V.aN]; exact yL a8k
def iQ:Nat→aW→List Sub→Bool×aW×List Sub
 | 0,s,l=>(false,s,l)
 | k+1,s,l =>
  let a:=dV l.length 50 s
  if a.1 then
   let n:=aL a.2
   if n.1 then
    let m:=bH [35] n.2.1
    if m.1 then
     let q:=aL m.2
     if q.1 then
      let b:=bH [124] q.2.1
      let l':=l++[(n.2.2.getD [],[],q.2.2.getD [])]
      if b.1 then iQ k b.2 l' else (true,b.2,l')
     else (false,q.2.1,l)
    else
     let b:=bH [124] m.2
     let l':=l++[(n.2.2.getD [],[],[])]
     if b.1 then iQ k b.2 l' else (true,b.2,l')
   else (false,n.2.1,l)
  else (false,a.2,l)
def sG (s:aW) (l:List Sub):Bool×aW×List Sub:=iQ (s.l.length+1) s l
def pT:Rd:=mO (eN (bK 21))
def cP (s:aW) (bP:List Rel):Bool×aW×List Rel :=
 let a:=dV bP.length 200 s
 if a.1 then
  let n:=aL a.2
  if n.1 then
   let m:=bH [61] n.2.1
   if m.1 then
    let q:=pT { m.2 with x:=[] }
    if q.1 then
     let z:=jT [59] q.2
     (z.1,z.2,bP++[(n.2.2.getD [],[],q.2.x)])
    else (false,q.2,bP)
   else
    let c:=jT [58] m.2
    if c.1 then
     let q:=sG c.2 []
     if q.1 then
      let z:=jT [59] q.2.1
      (z.1,z.2,bP++[(n.2.2.getD [],q.2.2,[])])
     else (false,q.2.1,bP)
    else (false,c.2,bP)
  else (false,n.2.1,bP)
 else (false,a.2,bP)
def jF:Nat→aW→List Rel→Bool×aW×List Rel
 | 0,s,l=>(false,s,l)
 | k+1,s,l =>
  let m:=bH [125] s
  if m.1 then (true,m.2,l)
  else
   let r:=cP m.2 l
   if r.1 then jF k r.2.1 r.2.2 else (false,r.2.1,r.2.2)
def lE (n:Int) (s:aW):Bool×aW×gI :=
 let a:=dV n 200 s
 if a.1 then
  if a7o a.2 then
   let q:=aL (aI a.2)
   if q.1 then
    let m:=bH [123] q.2.1
    if m.1 then
     let r:=jF (m.2.l.length+1) m.2 []
     (r.1,r.2.1,(q.2.2.getD [],r.2.2))
    else (true,m.2,(q.2.2.getD [],[]))
   else (false,q.2.1,([],[]))
  else (false,uO 9 a.2,([],[]))
 else (false,a.2,([],[]))
def iX:Nat→aW→List gI→Bool×aW×List gI
 | 0,s,l=>(false,s,l)
 | k+1,s,l =>
  if s.l=[] then (true,s,l)
  else
   let r:=lE l.length s
   if r.1 then iX k r.2.1 (l++[r.2.2]) else (false,r.2.1,l)
theorem aSz {s:aW} (h:a7o s=true):s.l≠[]:=by
 intro e
 simp [a7o,cH,e] at h
theorem a8l (n most:Int) (s:aW):(dV n most s).2.d=s.d∧(dV n most s).2.l=s.l∧((dV n most s).1=true→n < most∧(dV n most s).2=s):=by
 unfold dV
 split
 ·rename_i h; exact ⟨rfl,rfl,fun _=>⟨h,rfl⟩⟩
 ·have:=aKz 8 s; exact ⟨this.1,this.2,fun h=>by simp at h⟩
theorem aS0 {s:aW} (h:(aL s).1=true):(aL s).2.1.l.length < s.l.length:=by
 unfold aL at h ⊢
 split
 ·rename_i hn; exact aK0 (a1p hn)
 ·rename_i hn; rw [if_neg hn] at h; simp at h
theorem aK5:∀ (k:Nat) (s:aW) (l:List Sub),(iQ k s l).2.1.d=s.d∧(iQ k s l).2.1.l.length≤s.l.length
 | 0,s,l=>⟨rfl,zxy _⟩
 | k+1,s,l=>by
  unfold iQ
  have h1:=a8l l.length 50 s
  simp only
  split
  ·have h2:=a3t (dV l.length 50 s).2
   split
   ·have h3:=uP [35] (aL (dV l.length 50 s).2).2.1
    split
    ·have h4:=a3t (bH [35] (aL (dV l.length 50 s).2).2.1).2
     split
     ·have h5:=uP [124] (aL (bH [35] (aL (dV l.length 50 s).2).2.1).2).2.1
      split
      ·have h6:=aK5 k (bH [124] (aL (bH [35] (aL (dV l.length 50 s).2).2.1).2).2.1).2 (l++[((aL (dV l.length 50 s).2).2.2.getD [],[],(aL (bH [35] (aL (dV l.length 50 s).2).2.1).2).2.2.getD [])])
       exact ⟨by rw [h6.1,h5.1,h4.1,h3.1,h2.1,h1.1],by rw [h1.2.1] at h2; omega⟩
      ·exact ⟨by rw [h5.1,h4.1,h3.1,h2.1,h1.1],by rw [h1.2.1] at h2; simp only; omega⟩
     ·exact ⟨by rw [h4.1,h3.1,h2.1,h1.1],by rw [h1.2.1] at h2; simp only; omega⟩
    ·have h5:=uP [124] (bH [35] (aL (dV l.length 50 s).2).2.1).2
     split
     ·have h6:=aK5 k (bH [124] (bH [35] (aL (dV l.length 50 s).2).2.1).2).2 (l++[((aL (dV l.length 50 s).2).2.2.getD [],[],[])])
      exact ⟨by rw [h6.1,h5.1,h3.1,h2.1,h1.1],by rw [h1.2.1] at h2; omega⟩
     ·exact ⟨by rw [h5.1,h3.1,h2.1,h1.1],by rw [h1.2.1] at h2; simp only; omega⟩
   ·exact ⟨by rw [h2.1,h1.1],by rw [h1.2.1] at h2; simp only; omega⟩
  ·exact ⟨h1.1,by show (dV _ _ s).2.l.length≤_; rw [h1.2.1]; exact zxy _⟩
theorem aBq:∀ (n k1 k2:Nat) (s:aW) (l:List Sub),s.l.length≤n→s.l.length < k1→s.l.length < k2→iQ k1 s l=iQ k2 s l
 | n,0,_,_,_,_,h1,_=>by omega
 | n,_,0,_,_,_,_,h2=>by omega
 | n,k1+1,k2+1,s,l,hn,h1,h2=>by
  unfold iQ
  have g1:=a8l l.length 50 s
  simp only
  split
  ·split
   ·rename_i hnm
    have h3:=aS0 hnm
    rw [g1.2.1] at h3
    have h4:=uP [35] (aL (dV l.length 50 s).2).2.1
    obtain ⟨n,rfl⟩:∃ m,n=m+1:=⟨n - 1,by omega⟩
    split
    ·have h5:=a3t (bH [35] (aL (dV l.length 50 s).2).2.1).2
     split
     ·have h6:=uP [124] (aL (bH [35] (aL (dV l.length 50 s).2).2.1).2).2.1
      split
      ·exact aBq n k1 k2 _ _ (by omega) (by omega) (by omega)
      ·rfl
     ·rfl
    ·have h6:=uP [124] (bH [35] (aL (dV l.length 50 s).2).2.1).2
     split
     ·exact aBq n k1 k2 _ _ (by omega) (by omega) (by omega)
     ·rfl
   ·rfl
  ·rfl
theorem aT2:Good pT:=aG3 (a1q (a3u 21))
theorem aAc (s:aW) (l:List Rel):(cP s l).2.1.d=s.d∧(cP s l).2.1.l.length≤s.l.length∧((cP s l).1=true→(cP s l).2.1.l.length < s.l.length):=by
 unfold cP
 have h1:=a8l l.length 200 s
 simp only
 split
 ·have h2:=a3t (dV l.length 200 s).2
  have h2':=aS0 (s:=(dV l.length 200 s).2)
  split
  ·rename_i hnm
   have h2':=h2' hnm
   rw [h1.2.1] at h2 h2'
   have h3:=uP [61] (aL (dV l.length 200 s).2).2.1
   split
   ·have h4:(pT { (bH [61] (aL (dV l.length 200 s).2).2.1).2 with x:=[] }).2.d=(bH [61] (aL (dV l.length 200 s).2).2.1).2.d:=aT2.d _
    have h5:(pT { (bH [61] (aL (dV l.length 200 s).2).2.1).2 with x:=[] }).2.l.length≤(bH [61] (aL (dV l.length 200 s).2).2.1).2.l.length:=aT2.l _
    generalize pT { (bH [61] (aL (dV l.length 200 s).2).2.1).2 with x:=[] } = q at *
    split
    ·have h6:=aK1 [59] q.2
     exact ⟨by rw [h6.1,h4,h3.1,h2.1,h1.1],by simp only; omega,fun _=>by simp only; omega⟩
    ·exact ⟨by rw [h4,h3.1,h2.1,h1.1],by simp only; omega,fun h=>by simp at h⟩
   ·have h4:=aK1 [58] (bH [61] (aL (dV l.length 200 s).2).2.1).2
    split
    ·have h5:=aK5 ((jT [58] (bH [61] (aL (dV l.length 200 s).2).2.1).2).2.l.length+1) (jT [58] (bH [61] (aL (dV l.length 200 s).2).2.1).2).2 []
     have e5:sG (jT [58] (bH [61] (aL (dV l.length 200 s).2).2.1).2).2 []=iQ ((jT [58] (bH [61] (aL (dV l.length 200 s).2).2.1).2).2.l.length+1) (jT [58] (bH [61] (aL (dV l.length 200 s).2).2.1).2).2 []:=rfl
     rw [← e5] at h5
     split
     ·have h6:=aK1 [59] (sG (jT [58] (bH [61] (aL (dV l.length 200 s).2).2.1).2).2 []).2.1
      exact ⟨by rw [h6.1,h5.1,h4.1,h3.1,h2.1,h1.1],by simp only; omega,fun _=>by simp only; omega⟩
     ·exact ⟨by rw [h5.1,h4.1,h3.1,h2.1,h1.1],by simp only; omega,fun h=>by simp at h⟩
    ·exact ⟨by rw [h4.1,h3.1,h2.1,h1.1],by simp only; omega,fun h=>by simp at h⟩
  ·rw [h1.2.1] at h2
   exact ⟨by rw [h2.1,h1.1],by simp only; omega,fun h=>by simp at h⟩
 ·exact ⟨h1.1,by show (dV _ _ s).2.l.length≤_; rw [h1.2.1]; exact zxy _,fun h=>by simp at h⟩
theorem aT3:∀ (k:Nat) (s:aW) (l:List Rel),(jF k s l).2.1.d=s.d∧(jF k s l).2.1.l.length≤s.l.length
 | 0,s,l=>⟨rfl,zxy _⟩
 | k+1,s,l=>by
  unfold jF
  have h1:=uP [125] s
  simp only
  split
  ·exact h1
  ·have h2:=aAc (bH [125] s).2 l
   split
   ·have h3:=aT3 k (cP (bH [125] s).2 l).2.1 (cP (bH [125] s).2 l).2.2
    exact ⟨by rw [h3.1,h2.1,h1.1],by omega⟩
   ·exact ⟨by rw [h2.1,h1.1],by simp only; omega⟩
theorem aK6:∀ (n k1 k2:Nat) (s:aW) (l:List Rel),s.l.length≤n→s.l.length < k1→s.l.length < k2→jF k1 s l=jF k2 s l
 | n,0,_,_,_,_,h1,_=>by omega
 | n,_,0,_,_,_,_,h2=>by omega
 | n,k1+1,k2+1,s,l,hn,h1,h2=>by
  unfold jF
  have h3:=uP [125] s
  simp only
  split
  ·rfl
  ·have h4:=aAc (bH [125] s).2 l
   split
   ·rename_i hr
    have h5:=h4.2.2 hr
    obtain ⟨n,rfl⟩:∃ m,n=m+1:=⟨n - 1,by omega⟩
    exact aK6 n k1 k2 _ _ (by omega) (by omega) (by omega)
   ·rfl
theorem b5s (n:Int) (s:aW):(lE n s).2.1.d=s.d∧(lE n s).2.1.l.length≤s.l.length∧((lE n s).1=true→(lE n s).2.1.l.length < s.l.length∧n < 200):=by
 unfold lE
 have h1:=a8l n 200 s
 simp only
 split
 ·rename_i ha
  have hn:=(h1.2.2 ha).1
  split
  ·rename_i hw
   have h2:=aK0 (aSz hw)
   have h3:=a3t (aI (dV n 200 s).2)
   have h3':(aI (dV n 200 s).2).d=(dV n 200 s).2.d:=rfl
   rw [h1.2.1] at h2
   split
   ·have h4:=uP [123] (aL (aI (dV n 200 s).2)).2.1
    split
    ·have h5:=aT3 ((bH [123] (aL (aI (dV n 200 s).2)).2.1).2.l.length+1) (bH [123] (aL (aI (dV n 200 s).2)).2.1).2 []
     exact ⟨by rw [h5.1,h4.1,h3.1,h3',h1.1],by simp only; omega,fun _=>⟨by simp only; omega,hn⟩⟩
    ·exact ⟨by rw [h4.1,h3.1,h3',h1.1],by simp only; omega,fun _=>⟨by simp only; omega,hn⟩⟩
   ·exact ⟨by rw [h3.1,h3',h1.1],by simp only; omega,fun h=>by simp at h⟩
  ·have h2:=aKz 9 (dV n 200 s).2
   exact ⟨by rw [h2.1,h1.1],by show (uO 9 _).l.length≤_; rw [h2.2,h1.2.1]; exact zxy _,fun h=>by simp at h⟩
 ·exact ⟨h1.1,by show (dV _ _ s).2.l.length≤_; rw [h1.2.1]; exact zxy _,fun h=>by simp at h⟩
theorem a61:∀ (n k1 k2:Nat) (s:aW) (l:List gI),s.l.length≤n→s.l.length < k1→s.l.length < k2→iX k1 s l=iX k2 s l
 | n,0,_,_,_,_,h1,_=>by omega
 | n,_,0,_,_,_,_,h2=>by omega
 | n,k1+1,k2+1,s,l,hn,h1,h2=>by
  unfold iX
  split
  ·rfl
  ·have h4:=b5s l.length s
   simp only
   split
   ·rename_i hr
    have h5:=(h4.2.2 hr).1
    obtain ⟨n,rfl⟩:∃ m,n=m+1:=⟨n - 1,by omega⟩
    exact a61 n k1 k2 _ _ (by omega) (by omega) (by omega)
   ·rfl
end Go.Fbs
namespace Go.Fbs
open Go.Proofs
theorem b2p (l:List Sub):(l.map kW).all (fun e=>e.cells.length == 3)=true:=by simp [kW,V.cells]
theorem b2q (l:List Rel):(l.map jE).all (fun e=>e.cells.length == 3)=true:=by simp [jE,V.cells]
theorem b2r (l:List gI):(l.map kJ).all (fun e=>e.cells.length == 2)=true:=by simp [kJ,V.cells]
theorem aYi (l:List Sub):gX (lV l)=some (vI l.length):=by simp [gX,lV]
theorem aQz (l:List Rel):gX (lW l)=some (vI l.length):=by simp [gX,lW]
theorem aK7 (l:List gI):gX (gQ l)=some (vI l.length):=by simp [gX,gQ]
theorem aYj {l:List Sub} (h:l.length < 1000) (x:Sub):nU 3 48 (lV l) (.sl .ro [kW x])=some (lV (l++[x])):=by
 show nU 3 48 (.sl .ro (l.map kW)) (.sl .ro ([x].map kW))=some (.sl .ro ((l++[x]).map kW))
 rw [aGh (by simp only [zsy,List.length_singleton]; omega) (b2p _) (b2p [x]),List.map_append]
theorem aYk {l:List Rel} (h:l.length < 1000) (x:Rel):nU 3 64 (lW l) (.sl .ro [jE x])=some (lW (l++[x])):=by
 show nU 3 64 (.sl .ro (l.map jE)) (.sl .ro ([x].map jE))=some (.sl .ro ((l++[x]).map jE))
 rw [aGh (by simp only [zsy,List.length_singleton]; omega) (b2q _) (b2q [x]),List.map_append]
theorem b81 {l:List gI} (h:l.length < 1000) (x:gI):nU 2 40 (gQ l) (.sl .ro [kJ x])=some (gQ (l++[x])):=by
 show nU 2 40 (.sl .ro (l.map kJ)) (.sl .ro ([x].map kJ))=some (.sl .ro ((l++[x]).map kJ))
 rw [aGh (by simp only [zsy,List.length_singleton]; omega) (b2r _) (b2r [x]),List.map_append]
theorem aYl (x:Sub):l8 3 [kW x]=some (.sl .ro [kW x]):=nr rfl
theorem aYm (x:Rel):l8 3 [jE x]=some (.sl .ro [jE x]):=nr rfl
theorem b82 (x:gI):l8 2 [kJ x]=some (.sl .ro [kJ x]):=nr rfl
theorem bJc:aD [.str [],.str [],.str []]=some (kW ([],[],[])):=nr rfl
theorem bL1 (p:Sub):aD [aA (kW p) 0,aA (kW p) 1,aA (kW p) 2]=some (kW p):=nr rfl
theorem aVq (p:Sub):aJ 3 (kW p)=some (kW p):=nr rfl
theorem aVr (n:List UInt8) (l:List Sub) (x:List dQ):aD [.str n,lV l,bT x]=some (jE (n,l,x)):=nr rfl
theorem bGm (s:aW) (p:Sub):oY [bF s,kW p]=some (.aH [.bool (aL s).1,bF (aL s).2.1,kW ((aL s).2.2.getD p.1,p.2.1,p.2.2)]):=by
 have:=bI6 s (b0:=.str p.1) (b1:=.str p.2.1) (b2:=.str p.2.2) rfl rfl rfl rfl rfl rfl
 rw [a60] at this; exact this
theorem bGn (s:aW) (p:Sub):j9 [bF s,kW p]=some (.aH [.bool (aL s).1,bF (aL s).2.1,kW (p.1,p.2.1,(aL s).2.2.getD p.2.2)]):=by
 have:=b8v s (b0:=.str p.1) (b1:=.str p.2.1) (b2:=.str p.2.2) rfl rfl rfl rfl rfl rfl
 rw [a60] at this; exact this
noncomputable def aAd:Spec:=fG (fun q:aW×Rel=>[bF q.1,jE q.2]) (fun _=>True) (fun q=>.aH [.bool (sG q.1 q.2.2.1).1,bF (sG q.1 q.2.2.1).2.1,jE (q.2.1,(sG q.1 q.2.2.1).2.2,q.2.2.2)])
theorem b83 (s:aW) (r:Rel):aAd [bF s,jE r]=some (.aH [.bool (sG s r.2.1).1,bF (sG s r.2.1).2.1,jE (r.1,(sG s r.2.1).2.2,r.2.2)]):=cK (a:=(s,r)) (fun a b h=>by
 simp only [List.cons.injEq,and_true] at h
 exact Prod.ext (vU h.1) (aG4 h.2)) trivial
noncomputable abbrev TB1:List (FuncId×Spec):=[(kF,kH),(zD,oY),(nP,j9),(bY,fF)]
theorem b1f:bX Try.prog a3o fT aAd:=by
 refine a98 (T:=TB1) (aE.cC zL (aE.cC aEd (aE.cC a3s (aE.cC oS aE.nil)))) fun words v hv=>?_
 have c1:∀ args,aM TB1 kF args=kH args:=fun _=>rfl
 have c2:∀ args,aM TB1 zD args=oY args:=fun _=>rfl
 have c3:∀ args,aM TB1 nP args=j9 args:=fun _=>rfl
 have c5:∀ args,aM TB1 bY args=fF args:=fun _=>rfl
 obtain ⟨⟨s,nm,aY,ex⟩,rfl,_,rfl⟩:=bO hv
 refine ⟨_,rfl,rfl,by simp [aG,dX,a8j],by simp [aG,dX,a8j,V.aN],rfl,rfl,?_⟩
 refine Eq.mpr (aBk (aM _) _ (aP s.l) (vI s.n) (vI s.at_) (vI s.e) (vI s.d) (bT s.x) (.str nm) (lV aY) (bT ex)) ?_
 dsimp only
 refine fX (fun vs=>∃ (t:aW) (l:List Sub) (more:Bool),vs=[bT t.x,lV l,.bool more,aP t.l,vI t.n,vI t.at_,vI t.e,vI t.d]∧(if more then iQ (t.l.length+1) t l else (true,t,l))=sG s aY)
  (fun vs=>match gv vs 3 with | .sl _ es=>es.length | _=>0) ⟨s,aY,true,rfl,rfl⟩ ?_
 rintro r _ ⟨t,l,more,rfl,ht⟩ hr
 refine ⟨rfl,?_⟩
 rw [← ht]
 simp only [jM,jW,aQ]
 cases more with
 | false=>simp only [zuy,if_false,aK4,aB,aVr]
 | true =>
  simp only [if_true,aYi,aK4,aB,c1,b5p,dR,zux,zvx,lC,lY,gJ,aQ]
  simp only [if_true] at ht
  have hstep:iQ (t.l.length+1) t l=iQ (t.l.length+1) t l:=rfl
  conv at hstep=>rhs; unfold iQ
  have g1:=a8l l.length 50 t
  generalize ha:dV l.length 50 t=a at *
  obtain ⟨b1,t1⟩:=a
  simp only at g1 hstep ⊢
  cases b1 with
  | false =>
   simp only [zuy,if_false] at hstep
   rw [hstep]
   simp only [Bool.not_false,if_true,aVr,aB]
  | true =>
   have hlt:l.length < 1000:=by have:=(g1.2.2 rfl).1; omega
   simp only [if_true] at hstep
   simp only [Bool.not_true,zuy,if_false,bJc,aB,c2,bGm,dR,zux,zvx,lC,lY,aVq,gJ,aQ]
   have g2:=aS0 (s:=t1)
   generalize hn:aL t1=n at *
   obtain ⟨b2,t2,o2⟩:=n
   simp only at g2 hstep ⊢
   cases b2 with
   | false =>
    simp only [zuy,if_false] at hstep
    rw [hstep]
    simp only [Bool.not_false,if_true,aVr,aB]
   | true =>
    have g2:=g2 rfl
    simp only [if_true] at hstep
    simp only [Bool.not_true,zuy,if_false,aB,c5,aEa,dR,zux,zvx,lC,lY,ckB,aQ]
    have g3:=uP [35] t2
    generalize hm:bH [35] t2=m at *
    obtain ⟨b3,t3⟩:=m
    simp only at g3 hstep ⊢
    have next:∀ (x:Sub) (t4:aW),t4.l.length < t.l.length→iQ (t.l.length+1) t l=(let b:=bH [124] t4; if b.1 then iQ t.l.length b.2 (l++[x]) else (true,b.2,l++[x])) →
      r [aA (bF (bH [124] t4).2) 5,lV (l++[x]),.bool (bH [124] t4).1,aA (bF (bH [124] t4).2) 0,aA (bF (bH [124] t4).2) 1,aA (bF (bH [124] t4).2) 2,aA (bF (bH [124] t4).2) 3,aA (bF (bH [124] t4).2) 4]:=by
     intro x t4 h4 hs
     have g5:=uP [124] t4
     generalize bH [124] t4=q at *
     obtain ⟨b5,t5⟩:=q
     simp only at g5 hs ⊢
     refine hr _ ⟨t5,l++[x],b5,rfl,?_⟩ (by
      rw [(fL t5).1]
      simp only [jM,jW,aP,zsy]; omega)
     rw [← ht,hs]
     cases b5 with
     | false=>rfl
     | true =>
      simp only [if_true]
      exact aBq t5.l.length _ _ _ _ (zxy _) (Nat.lt_succ_self _) (by omega)
    have hl1:t1.l.length=t.l.length:=by rw [g1.2.1]
    cases b3 with
    | false =>
     simp only [zuy,if_false] at hstep
     simp only [zuy,if_false,aYl,aYj hlt,aB,lY,c5,aEa,dR,zux,zvx,lC]
     exact next _ t3 (by omega) hstep
    | true =>
     simp only [if_true] at hstep
     simp only [if_true,bL1,aB,c3,bGn,dR,zux,zvx,lC,aVq,lY,gJ,aQ]
     have g4:=a3t t3
     generalize hq:aL t3=q at *
     obtain ⟨b4,t4,o4⟩:=q
     simp only at g4 hstep ⊢
     cases b4 with
     | false =>
      simp only [zuy,if_false] at hstep
      rw [hstep]
      simp only [Bool.not_false,if_true,aVr,aB]
     | true =>
      simp only [if_true] at hstep
      simp only [Bool.not_true,zuy,if_false,aYl,aYj hlt,aB,c5,aEa,dR,zux,zvx,lC]
      exact next _ t4 (by omega) hstep
end Go.Fbs
namespace Go.Fbs
open Go.Proofs
theorem aG7 {a b:gI} (h:kJ a=kJ b):a=b:=by
 obtain ⟨k,n⟩:=a
 obtain ⟨k',n'⟩:=b
 simp only [kJ,lW,V.agg.injEq,List.cons.injEq,V.str.injEq,V.sl.injEq,and_true,true_and] at h
 obtain ⟨h1,h2⟩:=h
 rw [h1,rB (fun _ _=>aG4) h2]
theorem aAe (n:List UInt8) (l:List Rel):aD [.str n,lW l]=some (kJ (n,l)):=nr rfl
theorem aVs (p:gI):aJ 2 (kJ p)=some (kJ p):=nr rfl
theorem b5t (p:Rel):aJ 3 (jE p)=some (jE p):=nr rfl
theorem bJd:aD [.str [],.sl .ro [],.sl .ro []]=some (jE ([],[],[])):=nr rfl
theorem b85 (p:Rel):aD [aA (jE p) 0,aA (jE p) 1,aA (jE p) 2]=some (jE p):=nr rfl
theorem bJe (p:Rel) (x:List dQ):aD [aA (jE p) 0,aA (jE p) 1,bT x]=some (jE (p.1,p.2.1,x)):=nr rfl
theorem bL2 (s:aW):aD [aA (bF s) 0,aA (bF s) 1,aA (bF s) 2,aA (bF s) 3,aA (bF s) 4,.sl .ro []]=some (bF { s with x:=[] }):=nr rfl
theorem bGo (s:aW) (p:Rel):oW [bF s,jE p]=some (.aH [.bool (aL s).1,bF (aL s).2.1,jE ((aL s).2.2.getD p.1,p.2.1,p.2.2)]):=by
 have:=bI4 s (b0:=.str p.1) (b1:=lV p.2.1) (b2:=bT p.2.2) rfl rfl rfl (aAb _) rfl (aG5 _) ⟨_,rfl⟩
 rw [a60] at this; exact this
theorem bGp (s:aW) (p:gI):oX [bF s,kJ p]=some (.aH [.bool (aL s).1,bF (aL s).2.1,kJ ((aL s).2.2.getD p.1,p.2)]):=by
 have:=bI5 s (b0:=.str p.1) (b1:=lW p.2) rfl rfl rfl (aG6 _) ⟨_,rfl⟩
 rw [a60] at this; exact this
noncomputable def a4u:Spec:=a7p 21
theorem bCt:bX Try.prog tD fR a4u:=(b80 21).2.2
theorem bJf {s:aW} (h:s.d=0):a4u [bF s]=some (.aH [.bool (pT s).1,bF (pT s).2]):=by
 unfold a4u pT
 exact bI8 (f:=21) (s:=s) ⟨by omega,by omega⟩
attribute [local irreducible] bD opt pT bK a7p a4u cP sG
noncomputable def aAf:Spec:=fG (fun q:aW×gI=>[bF q.1,kJ q.2]) (fun q=>q.1.d=0) (fun q=>.aH [.bool (cP q.1 q.2.2).1,bF (cP q.1 q.2.2).2.1,kJ (q.2.1,(cP q.1 q.2.2).2.2)])
theorem b86 {s:aW} (h:s.d=0) (r:gI):aAf [bF s,kJ r]=some (.aH [.bool (cP s r.2).1,bF (cP s r.2).2.1,kJ (r.1,(cP s r.2).2.2)]):=cK (a:=(s,r)) (fun a b h=>by
 simp only [List.cons.injEq,and_true] at h
 exact Prod.ext (vU h.1) (aG7 h.2)) h
noncomputable abbrev TR1:List (FuncId×Spec):=[(kF,kH),(zB,oW),(bY,fF),(qM,a4u),(iS,kI),(xA,aAd)]
theorem b1g (s:aW) (nm:List UInt8) (bP:List Rel) (hd:s.d=0):bD aZ (aM TR1) 53 qE [.tmp 4] eU (cB Try.f48) [bF s,kJ (nm,bP)] (fun r=>r=V.aH [.bool (cP s bP).1,bF (cP s bP).2.1,kJ (nm,(cP s bP).2.2)]):=by
 have c1:∀ args,aM TR1 kF args=kH args:=fun _=>rfl
 have c2:∀ args,aM TR1 zB args=oW args:=fun _=>rfl
 have c3:∀ args,aM TR1 bY args=fF args:=fun _=>rfl
 have c4:∀ args,aM TR1 qM args=a4u args:=fun _=>rfl
 have c5:∀ args,aM TR1 iS args=kI args:=fun _=>rfl
 have c6:∀ args,aM TR1 xA args=aAd args:=fun _=>rfl
 refine Eq.mpr (aBi (aM _) _ (aP s.l) (vI s.n) (vI s.at_) (vI s.e) (vI s.d) (bT s.x) (.str nm) (lW bP)) ?_
 unfold cP
 simp only [aQz,aK4,aB,c1,b5p,dR,zux,zvx,lC,lY,gJ,aQ]
 have g1:=a8l bP.length 200 s
 generalize dV bP.length 200 s=a at *
 obtain ⟨b1,t1⟩:=a
 simp only at g1 ⊢
 cases b1 with
 | false=>simp only [Bool.not_false,if_true,zuy,if_false,aAe,aB]
 | true =>
 have hlt:bP.length < 1000:=by have:=(g1.2.2 rfl).1; omega
 simp only [Bool.not_true,zuy,if_false,if_true,bJd,aB,c2,bGo,dR,zux,zvx,lC,lY,b5t,gJ,aQ]
 have g2:=a3t t1
 generalize aL t1=n at *
 obtain ⟨b2,t2,o2⟩:=n
 simp only at g2 ⊢
 cases b2 with
 | false=>simp only [Bool.not_false,if_true,zuy,if_false,aAe,aB]
 | true =>
 simp only [Bool.not_true,zuy,if_false,if_true,aB,c3,aEa,dR,zux,zvx,lC,lY,ckB,aQ]
 have g3:=uP [61] t2
 generalize bH [61] t2=m at *
 obtain ⟨b3,t3⟩:=m
 simp only at g3 ⊢
 have hd3:t3.d=0:=by rw [g3.1,g2.1,g1.1,hd]
 cases b3 with
 | true =>
  have hd4:({ t3 with x:=[] } : aW).d=0:=hd3
  simp only [if_true,bL2,aB,c4,bJf hd4,dR,zux,zvx,lC,lY,gJ,aQ]
  generalize pT { t3 with x:=[] } = q at *
  obtain ⟨b4,t4⟩:=q
  simp only
  cases b4 with
  | false=>simp only [Bool.not_false,if_true,zuy,if_false,aAe,aB,x7]
  | true =>
   rw [(fL t4).2.2.2.2.2]
   simp only [Bool.not_true,zuy,if_false,if_true,x7,zwx,List.length_nil,jM,jW,true_and,bJe,aB,aYm,aYk hlt,c5]
   rw [← (fL t4).2.2.2.2.2]
   simp only [lY,aMr,aB,dR,zux,zvx,lC,aAe]
 | false =>
  simp only [zuy,if_false,aB,c5,aMr,dR,zux,zvx,lC,lY,gJ,aQ]
  generalize jT [58] t3=c at *
  obtain ⟨b4,t4⟩:=c
  simp only
  cases b4 with
  | false=>simp only [Bool.not_false,if_true,zuy,if_false,aAe,aB,x7]
  | true =>
   simp only [Bool.not_true,zuy,if_false,if_true,b85,aB,c6,b83,dR,zux,zvx,lC,lY,b5t,gJ,aQ]
   generalize sG t4 []=q at *
   obtain ⟨b5,t5,sb⟩:=q
   simp only
   cases b5 with
   | false=>simp only [Bool.not_false,if_true,zuy,if_false,aAe,aB,x7]
   | true =>
    simp only [Bool.not_true,zuy,if_false,if_true,x7,zwx,List.length_nil,jM,jW,true_and,b85,aB,aYm,aYk hlt,c5,lY,aMr,dR,zux,zvx,lC,aAe]
theorem b1h:bX Try.prog a3n eU aAf:=by
 refine a97 (T:=TR1) (aE.cC zL (aE.cC aEb (aE.cC oS (aE.cC bCt (aE.cC zM (aE.cC b1f aE.nil)))))) fun words v hv=>?_
 obtain ⟨⟨s,nm,bP⟩,rfl,hd,rfl⟩:=bO hv
 exact ⟨_,rfl,rfl,by simp [aG,dX,a8k],by simp [aG,dX,a8k,V.aN],rfl,rfl,b1g s nm bP hd⟩
end Go.Fbs
namespace Go.Fbs
open Go.Proofs
attribute [local irreducible] bD opt pT bK a7p a4u cP sG
theorem b87 {s:aW} (h:(aL s).1=false):(aL s).2.2=none:=by
 unfold aL at h ⊢
 split at h
 ·simp at h
 ·rename_i hn; rw [if_neg hn]
theorem aYn:aD [.str [],.sl .ro []]=some (kJ ([],[])):=nr rfl
noncomputable def aVt:Spec:=fG (fun q:aW×Int=>[bF q.1,vI q.2]) (fun q=>q.1.d=0) (fun q=>.aH [kJ (lE q.2 q.1).2.2,.bool (lE q.2 q.1).1,bF (lE q.2 q.1).2.1])
theorem bN2 {s:aW} (h:s.d=0) (n:Int):aVt [bF s,vI n]=some (.aH [kJ (lE n s).2.2,.bool (lE n s).1,bF (lE n s).2.1]):=cK (a:=(s,n)) bEo h
noncomputable abbrev TO1:List (FuncId×Spec):=[(kF,kH),(a1j,tL),(bR,cO),(zC,oX),(bY,fF),(xB,aAf)]
theorem bJg (s:aW) (n:Int) (hd:s.d=0):bD aZ (aM TO1) 43 uN [.cell 4 28,.tmp 5] hJ (cB Try.f23) [bF s,vI n] (fun r=>r=V.aH [kJ (lE n s).2.2,.bool (lE n s).1,bF (lE n s).2.1]):=by
 have c1:∀ args,aM TO1 kF args=kH args:=fun _=>rfl
 have c2:∀ args,aM TO1 a1j args=tL args:=fun _=>rfl
 have c3:∀ args,aM TO1 bR args=cO args:=fun _=>rfl
 have c4:∀ args,aM TO1 zC args=oX args:=fun _=>rfl
 have c5:∀ args,aM TO1 bY args=fF args:=fun _=>rfl
 have c6:∀ args,aM TO1 xB args=aAf args:=fun _=>rfl
 refine Eq.mpr (aI2 (aM _) _ (aP s.l) (vI s.n) (vI s.at_) (vI s.e) (vI s.d) (bT s.x) (vI n)) ?_
 unfold lE
 simp only [aK4,aB,c1,b5p,dR,zux,zvx,lC,lY,gJ,aQ]
 have g1:=a8l n 200 s
 generalize dV n 200 s=a at *
 obtain ⟨b1,t1⟩:=a
 simp only at g1 ⊢
 cases b1 with
 | false=>simp only [Bool.not_false,if_true,zuy,if_false,aYn,aB]
 | true =>
 simp only [Bool.not_true,zuy,if_false,if_true,aB,c2,bLz,dR,zux,zvx,lC,lY,gJ,aQ]
 have hne:=@aSz t1
 generalize a7o t1=w at *
 cases w with
 | false=>simp only [Bool.not_false,if_true,zuy,if_false,aYn,aB,c3,aAa,dR,zux,zvx,lC,lY]
 | true =>
 have hne:=hne rfl
 simp only [Bool.not_true,zuy,if_false,if_true,sl0 hne,aBn,aYn,aB,c4,bGp,dR,zux,zvx,lC,lY,aVs,gJ,aQ]
 have g2:=a3t (aI t1)
 have g2':(aI t1).d=t1.d:=rfl
 have g2n:=@b87 (aI t1)
 generalize aL (aI t1)=q at *
 obtain ⟨b2,t2,o2⟩:=q
 simp only at g2 g2n ⊢
 cases b2 with
 | false =>
  have e2:o2=none:=g2n rfl
  subst e2
  simp only [Bool.not_false,if_true,zuy,if_false,lY,aB,Option.getD_none]
 | true =>
 simp only [Bool.not_true,zuy,if_false,if_true,aB,c5,aEa,dR,zux,zvx,lC,lY,gJ,aQ]
 have g3:=uP [123] t2
 generalize bH [123] t2=m at *
 obtain ⟨b3,t3⟩:=m
 simp only at g3 ⊢
 have hd3:t3.d=0:=by rw [g3.1,g2.1,g2',g1.1,hd]
 cases b3 with
 | false=>simp only [Bool.not_false,if_true,zuy,if_false,aB]
 | true =>
 simp only [Bool.not_true,zuy,if_false,if_true]
 rw [(fL t3).1,(fL t3).2.1,(fL t3).2.2.1,(fL t3).2.2.2.1,(fL t3).2.2.2.2.1,(fL t3).2.2.2.2.2]
 refine fX (fun vs=>∃ (t:aW) (l:List Rel),vs=[bT t.x,lW l,aP t.l,vI t.n,vI t.at_,vI t.e,vI t.d,.str (o2.getD [])]∧t.d=0∧jF (t.l.length+1) t l=jF (t3.l.length+1) t3 [])
  (fun vs=>match gv vs 2 with | .sl _ es=>es.length | _=>0) ⟨t3,[],rfl,hd3,rfl⟩ ?_
 rintro r _ ⟨t,l,rfl,htd,ht⟩ hr
 refine ⟨rfl,?_⟩
 rw [← ht]
 have hstep:jF (t.l.length+1) t l=jF (t.l.length+1) t l:=rfl
 conv at hstep=>rhs; unfold jF
 simp only [jM,jW,aK4,aB,c5,aEa,dR,zux,zvx,lC,lY,gJ,aQ]
 have g4:=uP [125] t
 generalize bH [125] t=m at *
 obtain ⟨b4,t4⟩:=m
 simp only at g4 hstep ⊢
 cases b4 with
 | true =>
  simp only [if_true] at hstep
  rw [hstep]
  simp only [Bool.not_true,zuy,if_false,aAe,aB,lY]
 | false =>
  simp only [zuy,if_false] at hstep
  have g5:=aAc t4 l
  have hd4:t4.d=0:=by rw [g4.1,htd]
  simp only [Bool.not_false,if_true,aAe,aB,c6,b86 hd4,dR,zux,zvx,lC,aVs,lY,gJ,aQ]
  generalize cP t4 l=q at *
  obtain ⟨b5,t5,l5⟩:=q
  simp only at g5 hstep ⊢
  cases b5 with
  | false =>
   simp only [zuy,if_false] at hstep
   rw [hstep]
   simp only [Bool.not_false,if_true,lY,aB]
  | true =>
   have g6:=g5.2.2 rfl
   simp only [if_true] at hstep
   simp only [Bool.not_true,zuy,if_false]
   rw [(fL t5).1,(fL t5).2.1,(fL t5).2.2.1,(fL t5).2.2.2.1,(fL t5).2.2.2.2.1,(fL t5).2.2.2.2.2]
   refine hr _ ⟨t5,l5,rfl,by rw [g5.1,hd4],?_⟩ (by simp only [jM,jW,aP,zsy]; omega)
   rw [← ht,hstep]
   exact aK6 t5.l.length _ _ _ _ (zxy _) (Nat.lt_succ_self _) (by omega)
theorem bJh:bX Try.prog a9i hJ aVt:=by
 refine aGl (T:=TO1) (aE.cC zL (aE.cC aG1 (aE.cC j3 (aE.cC aEc (aE.cC oS (aE.cC b1h aE.nil)))))) fun words v hv=>?_
 obtain ⟨⟨s,n⟩,rfl,hd,rfl⟩:=bO hv
 exact ⟨_,rfl,rfl,by simp [aG,dX,V.aN],by simp [aG,dX,a8k,V.aN],rfl,rfl,bJg s n hd⟩
end Go.Fbs
namespace Go.Fbs
open Go.Proofs
attribute [local irreducible] bD bV opt pT bK a7p a4u cP sG lE
theorem b2s:∀ (f k:Nat) (l:List UInt8),∀ t ∈ (kG f k l).1,aGz t
 | 0,_,_,t,h=>by simp [kG] at h
 | f+1,_,[],t,h=>by simp [kG] at h
 | f+1,k,c::l,t,h=>by
  unfold kG at h
  split at h
  ·simp at h
  ·rcases List.mem_cons.1 h with rfl | h
   ·intro _ e
    have:=(a1o (l:=c::l) (by simp)).1
    simp only at e
    rw [e] at this
    simp at this
   ·exact b2s f _ _ t h
theorem b5u (l:List UInt8):∀ t ∈ (dN l).1,aGz t:=by
 unfold dN
 split
 ·simp
 ·simp only
  split
  ·simp
  ·exact b2s _ _ _
def qW (l:List UInt8):aW:=⟨(dN l).1,b5u l,l.length,0,0,0,[]⟩
def b5v (r:Bool×aW×List gI):List gI×Nat×Int:=if r.1 then (r.2.2,0,0) else ([],r.2.1.at_,r.2.1.e)
def pK (l:List UInt8):List gI×Nat×Int :=
 if (dN l).2.2≠0 then ([],(dN l).2.1,(dN l).2.2)
 else b5v (iX ((dN l).1.length+1) (qW l) [])
def yG:Spec
 | [.str l]=>if l.length≤kT then some (.aH [gQ (pK l).1,vI (pK l).2.1,vI (pK l).2.2]) else none
 | _=>none
theorem bJi (l:List gZ):kP (aP l)=some (aP l):=nr rfl
theorem bGq (l:List UInt8):aD [aP (dN l).1,.int .i64 l.length,.int .i64 0,.int .i64 0,.int .i64 0,.sl .ro []]=some (bF (qW l)):=nr rfl
theorem bCe (a b c:V):kC 2 (.aH [a,b,c])=some (.aH [a,b]):=nr rfl
theorem bGr {l:List UInt8} (h:l.length≤kT):vT [.str l]=some (.aH [aP (dN l).1,vI (dN l).2.1,vI (dN l).2.2]):=by
 simp only [vT,if_pos h]
noncomputable abbrev TP1:List (FuncId×Spec):=[(a0e,vT),(a2x,aVt)]
theorem bCu (l:List UInt8) (hl:l.length≤kT):bV aZ (aM TP1) 55 a5o [.tmp 2,.tmp 3,.tmp 4] (cB Try.f11) [.str l] (fun r=>r = .aH [gQ (pK l).1,vI (pK l).2.1,vI (pK l).2.2]):=by
 have c1:∀ args,aM TP1 a0e args=vT args:=fun _=>rfl
 have c2:∀ args,aM TP1 a2x args=aVt args:=fun _=>rfl
 refine Eq.mpr (aX7 (aM _) _ (.str l)) ?_
 unfold pK
 simp only [c1,bGr hl,aB,dR,zux,zvx,aKi,aQ]
 by_cases he:(dN l).2.2=0
 ·have e1:decide ((dN l).2.2≠0)=false:=by simp [he]
  simp only [he,ne_eq,not_true_eq_false,decide_false,zuy,if_false,aXx,aB,bJi,bGq]
  rw [(fL (qW l)).1,(fL (qW l)).2.1,(fL (qW l)).2.2.1,(fL (qW l)).2.2.2.1,(fL (qW l)).2.2.2.2.1]
  refine fX (fun vs=>∃ (t:aW) (ts:List gI),vs=[gQ ts,aP t.l,vI t.n,vI t.at_,vI t.e,vI t.d,bT t.x]∧t.d=0∧iX (t.l.length+1) t ts=iX ((dN l).1.length+1) (qW l) [])
   (fun vs=>match gv vs 1 with | .sl _ es=>es.length | _=>0) ⟨qW l,[],rfl,rfl,rfl⟩ ?_
  rintro r _ ⟨t,ts,rfl,htd,ht⟩ hr
  refine ⟨rfl,?_⟩
  rw [← ht]
  have hstep:iX (t.l.length+1) t ts=iX (t.l.length+1) t ts:=rfl
  conv at hstep=>rhs; unfold iX
  have eL:gX (aP t.l)=some (vI t.l.length):=by simp [gX,aP]
  simp only [jM,jW,eL,aB,bIe,aQ]
  by_cases hn:t.l=[]
  ·have e2:decide ((t.l.length:Int) > 0)=false:=by simp [hn]
   rw [if_pos hn] at hstep
   rw [hstep]
   simp only [e2,zuy,if_false,b5v,if_true]
   rfl
  ·have h0:0 < t.l.length:=List.length_pos_iff.2 hn
   have e2:decide ((t.l.length:Int) > 0)=true:=by simp; omega
   rw [if_neg hn] at hstep
   have g1:=b5s ts.length t
   simp only [e2,if_true,aK7,aK4,aB,c2,bN2 htd,bCe,dR,zux,zvx,lC,aVs,gJ,aQ]
   generalize lE ts.length t=q at *
   obtain ⟨b,t1,x⟩:=q
   simp only at g1 hstep ⊢
   cases b with
   | false =>
    simp only [zuy,if_false] at hstep
    rw [hstep]
    simp only [Bool.not_false,if_true,b5v,zuy,if_false]
    rfl
   | true =>
    have g2:=g1.2.2 rfl
    simp only [if_true] at hstep
    simp only [Bool.not_true,zuy,if_false,b82,b81 (show ts.length < 1000 by omega),aB]
    rw [(fL t1).1,(fL t1).2.1,(fL t1).2.2.1,(fL t1).2.2.2.1,(fL t1).2.2.2.2.1,(fL t1).2.2.2.2.2]
    refine hr _ ⟨t1,ts++[x],rfl,by rw [g1.1,htd],?_⟩ (by simp only [jM,jW,aP,zsy]; omega)
    rw [← ht,hstep]
    exact a61 t1.l.length _ _ _ _ (zxy _) (Nat.lt_succ_self _) (by omega)
 ·have e1:decide ((dN l).2.2≠0)=true:=by simp [he]
  simp only [he,ne_eq,not_false_eq_true,decide_true,if_true]
  rfl
theorem aVd:cU Try.prog a1f yG:=by
 refine aU9 (T:=TP1) (aE.cons aSy (aE.cC bJh aE.nil)) fun args v hv=>?_
 unfold yG at hv
 split at hv <;> (try simp only [Option.ite_none_right_eq_some,zzz,reduceCtorEq] at hv)
 rename_i l
 obtain ⟨hl,rfl⟩:=hv
 exact ⟨rfl,rfl,by simp only [V.aN,aG,a5u,Bool.and_true],bCu l hl⟩
end Go.Fbs

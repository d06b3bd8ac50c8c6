/- Schemas read: factors, terms, sums: plainly. -/
import Derived.Test.YtnmcilaebamncaaKC
set_option linter.unusedVariables false
set_option linter.unusedSimpArgs false
set_option linter.unusedSectionVars false
set_option maxRecDepth 100000
namespace Go.Fbs
open Go.Proofs
abbrev Rd:=bG→Bool×bG
def nK (sum:Rd) (s:bG):Bool×bG :=
 if nD [40] s then
  if s.d=20 then (false,wI 10 s)
  else
   let r:=sum (bW { s with d:=s.d+1 })
   if r.1 then
    let q:=lK [41] r.2
    (q.1,{ q.2 with d:=q.2.d - 1 })
   else (false,{ r.2 with d:=r.2.d - 1 })
 else
  let r:=aW s
  if r.1 then
   let m:=cJ [45,62] r.2.1
   if m.1 then
    let q:=aW m.2
    if q.1 then tC (2,r.2.2.getD [],q.2.2.getD []) (cI s).2.1 q.2.1 else (false,q.2.1)
   else tC (1,r.2.2.getD [],[]) (cI s).2.1 m.2
  else (false,r.2.1)
def kX (fac:Rd):Nat→Nat→bG→Bool×bG
 | 0,_,s=>(false,s)
 | k+1,a,s =>
  let m:=cJ [38] s
  if m.1 then
   let r:=fac m.2
   if r.1 then
    let q:=tC (5,[],[]) a r.2
    if q.1 then kX fac k (cI q.2).2.1 q.2 else (false,q.2)
   else (false,r.2)
  else (true,m.2)
def fS (fac:Rd) (s:bG):Bool×bG :=
 let r:=fac s
 if r.1 then kX fac (r.2.l.length+1) (cI r.2).2.1 r.2 else (false,r.2)
def jV (ter:Rd):Nat→bG→Bool×bG
 | 0,s=>(false,s)
 | k+1,s =>
  if nD [43] s || nD [45] s then
   let r:=ter (bW s)
   if r.1 then
    let q:=tC (if nD [43] s then 3 else 4,[],[]) (cI s).2.1 r.2
    if q.1 then jV ter k q.2 else (false,q.2)
   else (false,r.2)
  else (true,s)
def qP (ter:Rd) (s:bG):Bool×bG :=
 let r:=ter s
 if r.1 then jV ter (r.2.l.length+1) r.2 else (false,r.2)
def bY:Nat→Rd
 | 0=>fun s=>(false,s)
 | f+1=>nK (qP (fS (bY f)))
structure Good (f:Rd):Prop where
 d:∀ s,(f s).2.d=s.d
 l:∀ s,(f s).2.l.length≤s.l.length
theorem aCz (e:Int) (s:bG):(wI e s).d=s.d∧(wI e s).l=s.l:=by unfold wI; split <;> exact ⟨rfl,rfl⟩
theorem aH1 (s:bG):(bW s).d=s.d∧(bW s).l.length≤s.l.length:=⟨rfl,by show s.l.tail.length≤_; simp⟩
theorem aC0 {s:bG} (h:s.l≠[]):(bW s).l.length < s.l.length:=by
 show s.l.tail.length < _
 cases hl:s.l with
 | nil=>exact absurd hl h
 | cons a r=>simp
theorem yO (s:bG):(aW s).2.1.d=s.d∧(aW s).2.1.l.length≤s.l.length:=by
 unfold aW
 split
 ·exact aH1 s
 ·have:=aCz 9 s; exact ⟨this.1,by rw [this.2]; exact Nat.le_refl _⟩
theorem aC1 (g:List UInt8) (s:bG):(lK g s).2.d=s.d∧(lK g s).2.l.length≤s.l.length:=by
 unfold lK
 split
 ·exact aH1 s
 ·have:=aCz 9 s; exact ⟨this.1,by rw [this.2]; exact Nat.le_refl _⟩
theorem qQ (g:List UInt8) (s:bG):(cJ g s).2.d=s.d∧(cJ g s).2.l.length≤s.l.length:=by
 unfold cJ
 split
 ·exact aH1 s
 ·exact ⟨rfl,Nat.le_refl _⟩
theorem aX1 {g:List UInt8} {s:bG} (h:(cJ g s).1=true):(cJ g s).2.l.length < s.l.length:=by
 unfold cJ at h ⊢
 split
 ·rename_i hi; exact aC0 (aMr hi)
 ·rename_i hi; rw [if_neg hi] at h; simp at h
theorem a6x (p:yM) (a:Nat) (s:bG):(tC p a s).2.d=s.d∧(tC p a s).2.l=s.l:=by unfold tC; split <;> exact ⟨rfl,rfl⟩
theorem aRl {sum:Rd} (h:Good sum):Good (nK sum):=by
 have key:∀ s,(nK sum s).2.d=s.d∧(nK sum s).2.l.length≤s.l.length:=fun s=>by
  unfold nK
  split
  ·split
   ·have:=aCz 10 s; exact ⟨this.1,by rw [this.2]; exact Nat.le_refl _⟩
   ·have h1:=h.d (bW { s with d:=s.d+1 })
    have h2:=h.l (bW { s with d:=s.d+1 })
    have h3:=(aH1 { s with d:=s.d+1 }).2
    have h4:(bW { s with d:=s.d+1 }).d=s.d+1:=rfl
    simp only
    split
    ·have h5:=aC1 [41] (sum (bW { s with d:=s.d+1 })).2
     exact ⟨by show _ - 1=_; rw [h5.1,h1,h4]; rfl,by show (lK _ _).2.l.length≤_; simp only at h3; omega⟩
    ·exact ⟨by show _ - 1=_; rw [h1,h4]; rfl,by show (sum _).2.l.length≤_; simp only at h3; omega⟩
  ·have h1:=yO s
   simp only
   split
   ·have h2:=qQ [45,62] (aW s).2.1
    split
    ·have h3:=yO (cJ [45,62] (aW s).2.1).2
     split
     ·have h4:=a6x (2,(aW s).2.2.getD [],(aW (cJ [45,62] (aW s).2.1).2).2.2.getD []) (cI s).2.1 (aW (cJ [45,62] (aW s).2.1).2).2.1
      exact ⟨by rw [h4.1,h3.1,h2.1,h1.1],by rw [h4.2]; omega⟩
     ·exact ⟨by rw [h3.1,h2.1,h1.1],by simp only; omega⟩
    ·have h4:=a6x (1,(aW s).2.2.getD [],[]) (cI s).2.1 (cJ [45,62] (aW s).2.1).2
     exact ⟨by rw [h4.1,h2.1,h1.1],by rw [h4.2]; omega⟩
   ·exact h1
 exact ⟨fun s=>(key s).1,fun s=>(key s).2⟩
theorem aB2 {fac:Rd} (h:Good fac):∀ (k a:Nat) (s:bG),(kX fac k a s).2.d=s.d∧(kX fac k a s).2.l.length≤s.l.length
 | 0,a,s=>⟨rfl,Nat.le_refl _⟩
 | k+1,a,s=>by
  unfold kX
  have h1:=qQ [38] s
  simp only
  split
  ·have h2:=h.d (cJ [38] s).2
   have h3:=h.l (cJ [38] s).2
   split
   ·have h4:=a6x (5,[],[]) a (fac (cJ [38] s).2).2
    split
    ·have h5:=aB2 h k (cI (tC (5,[],[]) a (fac (cJ [38] s).2).2).2).2.1 (tC (5,[],[]) a (fac (cJ [38] s).2).2).2
     rw [h4.2] at h5
     exact ⟨by rw [h5.1,h4.1,h2,h1.1],by omega⟩
    ·exact ⟨by rw [h4.1,h2,h1.1],by rw [h4.2]; omega⟩
   ·exact ⟨by rw [h2,h1.1],by simp only; omega⟩
  ·exact h1
theorem a6y {fac:Rd} (h:Good fac):Good (fS fac):=by
 have key:∀ s,(fS fac s).2.d=s.d∧(fS fac s).2.l.length≤s.l.length:=fun s=>by
  unfold fS
  have h2:=h.d s
  have h3:=h.l s
  simp only
  split
  ·have h5:=aB2 h ((fac s).2.l.length+1) (cI (fac s).2).2.1 (fac s).2
   exact ⟨by rw [h5.1,h2],by omega⟩
  ·exact ⟨h2,h3⟩
 exact ⟨fun s=>(key s).1,fun s=>(key s).2⟩
theorem aC2 {ter:Rd} (h:Good ter):∀ (k:Nat) (s:bG),(jV ter k s).2.d=s.d∧(jV ter k s).2.l.length≤s.l.length
 | 0,s=>⟨rfl,Nat.le_refl _⟩
 | k+1,s=>by
  unfold jV
  split
  ·have h1:=aH1 s
   have h2:=h.d (bW s)
   have h3:=h.l (bW s)
   simp only
   generalize (if nD [43] s=true then (3:Int) else 4)=kd
   split
   ·have h4:=a6x (kd,[],[]) (cI s).2.1 (ter (bW s)).2
    split
    ·have h5:=aC2 h k (tC (kd,[],[]) (cI s).2.1 (ter (bW s)).2).2
     rw [h4.2] at h5
     exact ⟨by rw [h5.1,h4.1,h2,h1.1],by omega⟩
    ·exact ⟨by rw [h4.1,h2,h1.1],by rw [h4.2]; omega⟩
   ·exact ⟨by rw [h2,h1.1],by simp only; omega⟩
  ·exact ⟨rfl,Nat.le_refl _⟩
theorem aGr {ter:Rd} (h:Good ter):Good (qP ter):=by
 have key:∀ s,(qP ter s).2.d=s.d∧(qP ter s).2.l.length≤s.l.length:=fun s=>by
  unfold qP
  have h2:=h.d s
  have h3:=h.l s
  simp only
  split
  ·have h5:=aC2 h ((ter s).2.l.length+1) (ter s).2
   exact ⟨by rw [h5.1,h2],by omega⟩
  ·exact ⟨h2,h3⟩
 exact ⟨fun s=>(key s).1,fun s=>(key s).2⟩
theorem aC3:∀ f,Good (bY f)
 | 0=>⟨fun _=>rfl,fun _=>Nat.le_refl _⟩
 | f+1=>aRl (aGr (a6y (aC3 f)))
theorem aB3 {fac:Rd} (h:Good fac):∀ (n k1 k2 a:Nat) (s:bG),s.l.length≤n→s.l.length < k1→s.l.length < k2→kX fac k1 a s=kX fac k2 a s
 | n,0,_,_,_,_,h1,_=>by omega
 | n,_,0,_,_,_,_,h2=>by omega
 | n,k1+1,k2+1,a,s,hn,h1,h2=>by
  unfold kX
  simp only
  split
  ·rename_i hm
   have h3:=aX1 hm
   have h4:=h.l (cJ [38] s).2
   split
   ·have h5:=a6x (5,[],[]) a (fac (cJ [38] s).2).2
    split
    ·cases n with
     | zero=>omega
     | succ n=>exact aB3 h n k1 k2 _ _ (by rw [h5.2]; omega) (by rw [h5.2]; omega) (by rw [h5.2]; omega)
    ·rfl
   ·rfl
  ·rfl
theorem aC4 {ter:Rd} (h:Good ter):∀ (n k1 k2:Nat) (s:bG),s.l.length≤n→s.l.length < k1→s.l.length < k2→jV ter k1 s=jV ter k2 s
 | n,0,_,_,_,h1,_=>by omega
 | n,_,0,_,_,_,h2=>by omega
 | n,k1+1,k2+1,s,hn,h1,h2=>by
  unfold jV
  split
  ·rename_i hm
   have hne:s.l≠[]:=by
    simp only [Bool.or_eq_true] at hm
    rcases hm with hm | hm <;> exact aMr hm
   have h3:=aC0 hne
   have h4:=h.l (bW s)
   simp only
   generalize (if nD [43] s=true then (3:Int) else 4)=kd
   split
   ·have h5:=a6x (kd,[],[]) (cI s).2.1 (ter (bW s)).2
    split
    ·cases n with
     | zero=>omega
     | succ n=>exact aC4 h n k1 k2 _ (by rw [h5.2]; omega) (by rw [h5.2]; omega) (by rw [h5.2]; omega)
    ·rfl
   ·rfl
  ·rfl
end Go.Fbs

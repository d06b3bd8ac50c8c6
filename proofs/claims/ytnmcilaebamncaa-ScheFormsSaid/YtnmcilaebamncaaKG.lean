/- Schemas read: subjects, relations, types: plainly. -/
import Derived.Test.YtnmcilaebamncaaKF
set_option linter.unusedVariables false
set_option linter.unusedSimpArgs false
set_option linter.unusedSectionVars false
set_option maxRecDepth 100000
namespace Go.Fbs
open Go.Proofs
abbrev Sub:=List UInt8×List UInt8×List UInt8
abbrev Rel:=List UInt8×List Sub×List yM
abbrev sR:=List UInt8×List Rel
def qE (s:Sub):V:=.agg [.str s.1,.str s.2.1,.str s.2.2]
def xR (l:List Sub):V:=.sl .ro (l.map qE)
def mC (r:Rel):V:=.agg [.str r.1,xR r.2.1,eJ r.2.2]
def z8 (l:List Rel):V:=.sl .ro (l.map mC)
def mO (t:sR):V:=.agg [.str t.1,z8 t.2]
def a2w (l:List sR):V:=.sl .ro (l.map mO)
theorem b0t {a b:Sub} (h:qE a=qE b):a=b:=by
 obtain ⟨k,n,x⟩:=a
 obtain ⟨k',n',x'⟩:=b
 simp only [qE,V.agg.injEq,List.cons.injEq,V.str.injEq,and_true] at h
 obtain ⟨h1,h2,h3⟩:=h
 rw [h1,h2,h3]
theorem aNt {a b:Rel} (h:mC a=mC b):a=b:=by
 obtain ⟨k,n,x⟩:=a
 obtain ⟨k',n',x'⟩:=b
 simp only [mC,xR,eJ,V.agg.injEq,List.cons.injEq,V.str.injEq,V.sl.injEq,and_true,true_and] at h
 obtain ⟨h1,h2,h3⟩:=h
 rw [h1,zL (fun _ _=>b0t) h2,zL (fun _ _=>aGq) h3]
theorem aH2 (l:List Sub):(xR l).aV=true:=by
 simp only [xR,V.aV]; exact tQ fun _=>rfl
theorem aH3 (l:List yM):(eJ l).aV=true:=by
 simp only [eJ,V.aV]; exact tQ fun _=>rfl
theorem aC6 (r:Rel):(mC r).aV=true:=by
 simp only [mC,V.aV,aN,aH2,aH3,Bool.and_true]
theorem aH4 (l:List Rel):(z8 l).aV=true:=by
 simp only [z8,V.aV]; exact tQ aC6
theorem a6z (t:sR):(mO t).aV=true:=by
 simp only [mO,V.aV,aN,aH4,Bool.and_true]
theorem aU3 (l:List sR):(a2w l).aV=true:=by
 simp only [a2w,V.aV]; exact tQ a6z
def kT:Nat→bG→List Sub→Bool×bG×List Sub
 | 0,s,l=>(false,s,l)
 | k+1,s,l =>
  let a:=dL l.length 50 s
  if a.1 then
   let n:=aW a.2
   if n.1 then
    let m:=cJ [35] n.2.1
    if m.1 then
     let q:=aW m.2
     if q.1 then
      let b:=cJ [124] q.2.1
      let l':=l++[(n.2.2.getD [],[],q.2.2.getD [])]
      if b.1 then kT k b.2 l' else (true,b.2,l')
     else (false,q.2.1,l)
    else
     let b:=cJ [124] m.2
     let l':=l++[(n.2.2.getD [],[],[])]
     if b.1 then kT k b.2 l' else (true,b.2,l')
   else (false,n.2.1,l)
  else (false,a.2,l)
def qR (s:bG) (l:List Sub):Bool×bG×List Sub:=kT (s.l.length+1) s l
def wD:Rd:=qP (fS (bY 21))
def eV (s:bG) (rels:List Rel):Bool×bG×List Rel :=
 let a:=dL rels.length 200 s
 if a.1 then
  let n:=aW a.2
  if n.1 then
   let m:=cJ [61] n.2.1
   if m.1 then
    let q:=wD { m.2 with x:=[] }
    if q.1 then
     let z:=lK [59] q.2
     (z.1,z.2,rels++[(n.2.2.getD [],[],q.2.x)])
    else (false,q.2,rels)
   else
    let c:=lK [58] m.2
    if c.1 then
     let q:=qR c.2 []
     if q.1 then
      let z:=lK [59] q.2.1
      (z.1,z.2,rels++[(n.2.2.getD [],q.2.2,[])])
     else (false,q.2.1,rels)
    else (false,c.2,rels)
  else (false,n.2.1,rels)
 else (false,a.2,rels)
def mZ:Nat→bG→List Rel→Bool×bG×List Rel
 | 0,s,l=>(false,s,l)
 | k+1,s,l =>
  let m:=cJ [125] s
  if m.1 then (true,m.2,l)
  else
   let r:=eV m.2 l
   if r.1 then mZ k r.2.1 r.2.2 else (false,r.2.1,r.2.2)
def oX (n:Int) (s:bG):Bool×bG×sR :=
 let a:=dL n 200 s
 if a.1 then
  if a4l a.2 then
   let q:=aW (bW a.2)
   if q.1 then
    let m:=cJ [123] q.2.1
    if m.1 then
     let r:=mZ (m.2.l.length+1) m.2 []
     (r.1,r.2.1,(q.2.2.getD [],r.2.2))
    else (true,m.2,(q.2.2.getD [],[]))
   else (false,q.2.1,([],[]))
  else (false,wI 9 a.2,([],[]))
 else (false,a.2,([],[]))
def kG:Nat→bG→List sR→Bool×bG×List sR
 | 0,s,l=>(false,s,l)
 | k+1,s,l =>
  if s.l=[] then (true,s,l)
  else
   let r:=oX l.length s
   if r.1 then kG k r.2.1 (l++[r.2.2]) else (false,r.2.1,l)
theorem aSx {s:bG} (h:a4l s=true):s.l≠[]:=by
 intro e
 simp [a4l,cI,e] at h
theorem a5v (n most:Int) (s:bG):(dL n most s).2.d=s.d∧(dL n most s).2.l=s.l∧((dL n most s).1=true→n < most∧(dL n most s).2=s):=by
 unfold dL
 split
 ·rename_i h; exact ⟨rfl,rfl,fun _=>⟨h,rfl⟩⟩
 ·have:=aCz 8 s; exact ⟨this.1,this.2,fun h=>by simp at h⟩
theorem aJ8 {s:bG} (h:(aW s).1=true):(aW s).2.1.l.length < s.l.length:=by
 unfold aW at h ⊢
 split
 ·rename_i hn; exact aC0 (a1z hn)
 ·rename_i hn; rw [if_neg hn] at h; simp at h
theorem aC7:∀ (k:Nat) (s:bG) (l:List Sub),(kT k s l).2.1.d=s.d∧(kT k s l).2.1.l.length≤s.l.length
 | 0,s,l=>⟨rfl,Nat.le_refl _⟩
 | k+1,s,l=>by
  unfold kT
  have h1:=a5v l.length 50 s
  simp only
  split
  ·have h2:=yO (dL l.length 50 s).2
   split
   ·have h3:=qQ [35] (aW (dL l.length 50 s).2).2.1
    split
    ·have h4:=yO (cJ [35] (aW (dL l.length 50 s).2).2.1).2
     split
     ·have h5:=qQ [124] (aW (cJ [35] (aW (dL l.length 50 s).2).2.1).2).2.1
      split
      ·have h6:=aC7 k (cJ [124] (aW (cJ [35] (aW (dL l.length 50 s).2).2.1).2).2.1).2 (l++[((aW (dL l.length 50 s).2).2.2.getD [],[],(aW (cJ [35] (aW (dL l.length 50 s).2).2.1).2).2.2.getD [])])
       exact ⟨by rw [h6.1,h5.1,h4.1,h3.1,h2.1,h1.1],by rw [h1.2.1] at h2; omega⟩
      ·exact ⟨by rw [h5.1,h4.1,h3.1,h2.1,h1.1],by rw [h1.2.1] at h2; simp only; omega⟩
     ·exact ⟨by rw [h4.1,h3.1,h2.1,h1.1],by rw [h1.2.1] at h2; simp only; omega⟩
    ·have h5:=qQ [124] (cJ [35] (aW (dL l.length 50 s).2).2.1).2
     split
     ·have h6:=aC7 k (cJ [124] (cJ [35] (aW (dL l.length 50 s).2).2.1).2).2 (l++[((aW (dL l.length 50 s).2).2.2.getD [],[],[])])
      exact ⟨by rw [h6.1,h5.1,h3.1,h2.1,h1.1],by rw [h1.2.1] at h2; omega⟩
     ·exact ⟨by rw [h5.1,h3.1,h2.1,h1.1],by rw [h1.2.1] at h2; simp only; omega⟩
   ·exact ⟨by rw [h2.1,h1.1],by rw [h1.2.1] at h2; simp only; omega⟩
  ·exact ⟨h1.1,by show (dL _ _ s).2.l.length≤_; rw [h1.2.1]; exact Nat.le_refl _⟩
theorem a5w:∀ (n k1 k2:Nat) (s:bG) (l:List Sub),s.l.length≤n→s.l.length < k1→s.l.length < k2→kT k1 s l=kT k2 s l
 | n,0,_,_,_,_,h1,_=>by omega
 | n,_,0,_,_,_,_,h2=>by omega
 | n,k1+1,k2+1,s,l,hn,h1,h2=>by
  unfold kT
  have g1:=a5v l.length 50 s
  simp only
  split
  ·split
   ·rename_i hnm
    have h3:=aJ8 hnm
    rw [g1.2.1] at h3
    have h4:=qQ [35] (aW (dL l.length 50 s).2).2.1
    obtain ⟨n,rfl⟩:∃ m,n=m+1:=⟨n - 1,by omega⟩
    split
    ·have h5:=yO (cJ [35] (aW (dL l.length 50 s).2).2.1).2
     split
     ·have h6:=qQ [124] (aW (cJ [35] (aW (dL l.length 50 s).2).2.1).2).2.1
      split
      ·exact a5w n k1 k2 _ _ (by omega) (by omega) (by omega)
      ·rfl
     ·rfl
    ·have h6:=qQ [124] (cJ [35] (aW (dL l.length 50 s).2).2.1).2
     split
     ·exact a5w n k1 k2 _ _ (by omega) (by omega) (by omega)
     ·rfl
   ·rfl
  ·rfl
theorem aK7:Good wD:=aGr (a6y (aC3 21))
theorem aAi (s:bG) (l:List Rel):(eV s l).2.1.d=s.d∧(eV s l).2.1.l.length≤s.l.length∧((eV s l).1=true→(eV s l).2.1.l.length < s.l.length):=by
 unfold eV
 have h1:=a5v l.length 200 s
 simp only
 split
 ·have h2:=yO (dL l.length 200 s).2
  have h2':=aJ8 (s:=(dL l.length 200 s).2)
  split
  ·rename_i hnm
   have h2':=h2' hnm
   rw [h1.2.1] at h2 h2'
   have h3:=qQ [61] (aW (dL l.length 200 s).2).2.1
   split
   ·have h4:(wD { (cJ [61] (aW (dL l.length 200 s).2).2.1).2 with x:=[] }).2.d=(cJ [61] (aW (dL l.length 200 s).2).2.1).2.d:=aK7.d _
    have h5:(wD { (cJ [61] (aW (dL l.length 200 s).2).2.1).2 with x:=[] }).2.l.length≤(cJ [61] (aW (dL l.length 200 s).2).2.1).2.l.length:=aK7.l _
    generalize wD { (cJ [61] (aW (dL l.length 200 s).2).2.1).2 with x:=[] } = q at *
    split
    ·have h6:=aC1 [59] q.2
     exact ⟨by rw [h6.1,h4,h3.1,h2.1,h1.1],by simp only; omega,fun _=>by simp only; omega⟩
    ·exact ⟨by rw [h4,h3.1,h2.1,h1.1],by simp only; omega,fun h=>by simp at h⟩
   ·have h4:=aC1 [58] (cJ [61] (aW (dL l.length 200 s).2).2.1).2
    split
    ·have h5:=aC7 ((lK [58] (cJ [61] (aW (dL l.length 200 s).2).2.1).2).2.l.length+1) (lK [58] (cJ [61] (aW (dL l.length 200 s).2).2.1).2).2 []
     have e5:qR (lK [58] (cJ [61] (aW (dL l.length 200 s).2).2.1).2).2 []=kT ((lK [58] (cJ [61] (aW (dL l.length 200 s).2).2.1).2).2.l.length+1) (lK [58] (cJ [61] (aW (dL l.length 200 s).2).2.1).2).2 []:=rfl
     rw [← e5] at h5
     split
     ·have h6:=aC1 [59] (qR (lK [58] (cJ [61] (aW (dL l.length 200 s).2).2.1).2).2 []).2.1
      exact ⟨by rw [h6.1,h5.1,h4.1,h3.1,h2.1,h1.1],by simp only; omega,fun _=>by simp only; omega⟩
     ·exact ⟨by rw [h5.1,h4.1,h3.1,h2.1,h1.1],by simp only; omega,fun h=>by simp at h⟩
    ·exact ⟨by rw [h4.1,h3.1,h2.1,h1.1],by simp only; omega,fun h=>by simp at h⟩
  ·rw [h1.2.1] at h2
   exact ⟨by rw [h2.1,h1.1],by simp only; omega,fun h=>by simp at h⟩
 ·exact ⟨h1.1,by show (dL _ _ s).2.l.length≤_; rw [h1.2.1]; exact Nat.le_refl _,fun h=>by simp at h⟩
theorem aK8:∀ (k:Nat) (s:bG) (l:List Rel),(mZ k s l).2.1.d=s.d∧(mZ k s l).2.1.l.length≤s.l.length
 | 0,s,l=>⟨rfl,Nat.le_refl _⟩
 | k+1,s,l=>by
  unfold mZ
  have h1:=qQ [125] s
  simp only
  split
  ·exact h1
  ·have h2:=aAi (cJ [125] s).2 l
   split
   ·have h3:=aK8 k (eV (cJ [125] s).2 l).2.1 (eV (cJ [125] s).2 l).2.2
    exact ⟨by rw [h3.1,h2.1,h1.1],by omega⟩
   ·exact ⟨by rw [h2.1,h1.1],by simp only; omega⟩
theorem aC8:∀ (n k1 k2:Nat) (s:bG) (l:List Rel),s.l.length≤n→s.l.length < k1→s.l.length < k2→mZ k1 s l=mZ k2 s l
 | n,0,_,_,_,_,h1,_=>by omega
 | n,_,0,_,_,_,_,h2=>by omega
 | n,k1+1,k2+1,s,l,hn,h1,h2=>by
  unfold mZ
  have h3:=qQ [125] s
  simp only
  split
  ·rfl
  ·have h4:=aAi (cJ [125] s).2 l
   split
   ·rename_i hr
    have h5:=h4.2.2 hr
    obtain ⟨n,rfl⟩:∃ m,n=m+1:=⟨n - 1,by omega⟩
    exact aC8 n k1 k2 _ _ (by omega) (by omega) (by omega)
   ·rfl
theorem b3x (n:Int) (s:bG):(oX n s).2.1.d=s.d∧(oX n s).2.1.l.length≤s.l.length∧((oX n s).1=true→(oX n s).2.1.l.length < s.l.length∧n < 200):=by
 unfold oX
 have h1:=a5v n 200 s
 simp only
 split
 ·rename_i ha
  have hn:=(h1.2.2 ha).1
  split
  ·rename_i hw
   have h2:=aC0 (aSx hw)
   have h3:=yO (bW (dL n 200 s).2)
   have h3':(bW (dL n 200 s).2).d=(dL n 200 s).2.d:=rfl
   rw [h1.2.1] at h2
   split
   ·have h4:=qQ [123] (aW (bW (dL n 200 s).2)).2.1
    split
    ·have h5:=aK8 ((cJ [123] (aW (bW (dL n 200 s).2)).2.1).2.l.length+1) (cJ [123] (aW (bW (dL n 200 s).2)).2.1).2 []
     exact ⟨by rw [h5.1,h4.1,h3.1,h3',h1.1],by simp only; omega,fun _=>⟨by simp only; omega,hn⟩⟩
    ·exact ⟨by rw [h4.1,h3.1,h3',h1.1],by simp only; omega,fun _=>⟨by simp only; omega,hn⟩⟩
   ·exact ⟨by rw [h3.1,h3',h1.1],by simp only; omega,fun h=>by simp at h⟩
  ·have h2:=aCz 9 (dL n 200 s).2
   exact ⟨by rw [h2.1,h1.1],by show (wI 9 _).l.length≤_; rw [h2.2,h1.2.1]; exact Nat.le_refl _,fun h=>by simp at h⟩
 ·exact ⟨h1.1,by show (dL _ _ s).2.l.length≤_; rw [h1.2.1]; exact Nat.le_refl _,fun h=>by simp at h⟩
theorem a13:∀ (n k1 k2:Nat) (s:bG) (l:List sR),s.l.length≤n→s.l.length < k1→s.l.length < k2→kG k1 s l=kG k2 s l
 | n,0,_,_,_,_,h1,_=>by omega
 | n,_,0,_,_,_,_,h2=>by omega
 | n,k1+1,k2+1,s,l,hn,h1,h2=>by
  unfold kG
  split
  ·rfl
  ·have h4:=b3x l.length s
   simp only
   split
   ·rename_i hr
    have h5:=(h4.2.2 hr).1
    obtain ⟨n,rfl⟩:∃ m,n=m+1:=⟨n - 1,by omega⟩
    exact a13 n k1 k2 _ _ (by omega) (by omega) (by omega)
   ·rfl
end Go.Fbs

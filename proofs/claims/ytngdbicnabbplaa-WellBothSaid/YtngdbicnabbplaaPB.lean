import Derived.Test.YtngdbicnabbplaaPA
set_option linter.unusedSimpArgs false
set_option linter.unusedVariables false
set_option linter.unusedSectionVars false
set_option maxRecDepth 100000
namespace Go.Fbs
open Go.Proofs
abbrev Rd:=bQ→Bool×bQ
def lW (sum:Rd) (s:bQ):Bool×bQ :=
 if uA [40] s then
  if s.d=20 then (false,xV 10 s)
  else
   let r:=sum (aP { s with d:=s.d+1 })
   if r.1 then
    let q:=mE [41] r.2
    (q.1,{ q.2 with d:=q.2.d - 1 })
   else (false,{ r.2 with d:=r.2.d - 1 })
 else
  let r:=aX s
  if r.1 then
   let m:=bX [45,62] r.2.1
   if m.1 then
    let q:=aX m.2
    if q.1 then jZ (2,r.2.2.getD [],q.2.2.getD []) (fF s).2.1 q.2.1 else (false,q.2.1)
   else jZ (1,r.2.2.getD [],[]) (fF s).2.1 m.2
  else (false,r.2.1)
def j3 (fac:Rd):Nat→Nat→bQ→Bool×bQ
 | 0,_,s=>(false,s)
 | k+1,a,s =>
  let m:=bX [38] s
  if m.1 then
   let r:=fac m.2
   if r.1 then
    let q:=jZ (5,[],[]) a r.2
    if q.1 then j3 fac k (fF q.2).2.1 q.2 else (false,q.2)
   else (false,r.2)
  else (true,m.2)
def nA (fac:Rd) (s:bQ):Bool×bQ :=
 let r:=fac s
 if r.1 then j3 fac (r.2.l.length+1) (fF r.2).2.1 r.2 else (false,r.2)
def kO (ter:Rd):Nat→bQ→Bool×bQ
 | 0,s=>(false,s)
 | k+1,s =>
  if uA [43] s || uA [45] s then
   let r:=ter (aP s)
   if r.1 then
    let q:=jZ (if uA [43] s then 3 else 4,[],[]) (fF s).2.1 r.2
    if q.1 then kO ter k q.2 else (false,q.2)
   else (false,r.2)
  else (true,s)
def rL (ter:Rd) (s:bQ):Bool×bQ :=
 let r:=ter s
 if r.1 then kO ter (r.2.l.length+1) r.2 else (false,r.2)
def gR:Nat→Rd
 | 0=>fun s=>(false,s)
 | f+1=>lW (rL (nA (gR f)))
structure Good (f:Rd):Prop where
 d:∀ s,(f s).2.d=s.d
 l:∀ s,(f s).2.l.length≤s.l.length
theorem aGl (e:Int) (s:bQ):(xV e s).d=s.d∧(xV e s).l=s.l:=by unfold xV; split <;> exact ⟨rfl,rfl⟩
theorem aC0 (s:bQ):(aP s).d=s.d∧(aP s).l.length≤s.l.length:=⟨rfl,by show s.l.tail.length≤_; simp⟩
theorem b4j {s:bQ} (h:s.l≠[]):(aP s).l.length < s.l.length:=by
 show s.l.tail.length < _
 cases hl:s.l with
 | nil=>exact absurd hl h
 | cons a r=>simp
theorem aBg (s:bQ):(aX s).2.1.d=s.d∧(aX s).2.1.l.length≤s.l.length:=by
 unfold aX
 split
 ·exact aC0 s
 ·have:=aGl 9 s; exact ⟨this.1,by rw [this.2]; exact zxy _⟩
theorem aMs (g:List UInt8) (s:bQ):(mE g s).2.d=s.d∧(mE g s).2.l.length≤s.l.length:=by
 unfold mE
 split
 ·exact aC0 s
 ·have:=aGl 9 s; exact ⟨this.1,by rw [this.2]; exact zxy _⟩
theorem a9j (g:List UInt8) (s:bQ):(bX g s).2.d=s.d∧(bX g s).2.l.length≤s.l.length:=by
 unfold bX
 split
 ·exact aC0 s
 ·exact ⟨rfl,zxy _⟩
theorem aR6 (p:cV) (a:Nat) (s:bQ):(jZ p a s).2.d=s.d∧(jZ p a s).2.l=s.l:=by unfold jZ; split <;> exact ⟨rfl,rfl⟩
theorem aXe {sum:Rd} (h:Good sum):Good (lW sum):=by
 have key:∀ s,(lW sum s).2.d=s.d∧(lW sum s).2.l.length≤s.l.length:=fun s=>by
  unfold lW
  split
  ·split
   ·have:=aGl 10 s; exact ⟨this.1,by rw [this.2]; exact zxy _⟩
   ·have h1:=h.d (aP { s with d:=s.d+1 })
    have h2:=h.l (aP { s with d:=s.d+1 })
    have h3:=(aC0 { s with d:=s.d+1 }).2
    have h4:(aP { s with d:=s.d+1 }).d=s.d+1:=rfl
    simp only
    split
    ·have h5:=aMs [41] (sum (aP { s with d:=s.d+1 })).2
     exact ⟨by show _ - 1=_; rw [h5.1,h1,h4]; rfl,by show (mE _ _).2.l.length≤_; simp only at h3; omega⟩
    ·exact ⟨by show _ - 1=_; rw [h1,h4]; rfl,by show (sum _).2.l.length≤_; simp only at h3; omega⟩
  ·have h1:=aBg s
   simp only
   split
   ·have h2:=a9j [45,62] (aX s).2.1
    split
    ·have h3:=aBg (bX [45,62] (aX s).2.1).2
     split
     ·have h4:=aR6 (2,(aX s).2.2.getD [],(aX (bX [45,62] (aX s).2.1).2).2.2.getD []) (fF s).2.1 (aX (bX [45,62] (aX s).2.1).2).2.1
      exact ⟨by rw [h4.1,h3.1,h2.1,h1.1],by rw [h4.2]; omega⟩
     ·exact ⟨by rw [h3.1,h2.1,h1.1],by simp only; omega⟩
    ·have h4:=aR6 (1,(aX s).2.2.getD [],[]) (fF s).2.1 (bX [45,62] (aX s).2.1).2
     exact ⟨by rw [h4.1,h2.1,h1.1],by rw [h4.2]; omega⟩
   ·exact h1
 exact ⟨fun s=>(key s).1,fun s=>(key s).2⟩
theorem aEl {fac:Rd} (h:Good fac):∀ (k a:Nat) (s:bQ),(j3 fac k a s).2.d=s.d∧(j3 fac k a s).2.l.length≤s.l.length
 | 0,a,s=>⟨rfl,zxy _⟩
 | k+1,a,s=>by
  unfold j3
  have h1:=a9j [38] s
  simp only
  split
  ·have h2:=h.d (bX [38] s).2
   have h3:=h.l (bX [38] s).2
   split
   ·have h4:=aR6 (5,[],[]) a (fac (bX [38] s).2).2
    split
    ·have h5:=aEl h k (fF (jZ (5,[],[]) a (fac (bX [38] s).2).2).2).2.1 (jZ (5,[],[]) a (fac (bX [38] s).2).2).2
     rw [h4.2] at h5
     exact ⟨by rw [h5.1,h4.1,h2,h1.1],by omega⟩
    ·exact ⟨by rw [h4.1,h2,h1.1],by rw [h4.2]; omega⟩
   ·exact ⟨by rw [h2,h1.1],by simp only; omega⟩
  ·exact h1
theorem a5g {fac:Rd} (h:Good fac):Good (nA fac):=by
 have key:∀ s,(nA fac s).2.d=s.d∧(nA fac s).2.l.length≤s.l.length:=fun s=>by
  unfold nA
  have h2:=h.d s
  have h3:=h.l s
  simp only
  split
  ·have h5:=aEl h ((fac s).2.l.length+1) (fF (fac s).2).2.1 (fac s).2
   exact ⟨by rw [h5.1,h2],by omega⟩
  ·exact ⟨h2,h3⟩
 exact ⟨fun s=>(key s).1,fun s=>(key s).2⟩
theorem aGm {ter:Rd} (h:Good ter):∀ (k:Nat) (s:bQ),(kO ter k s).2.d=s.d∧(kO ter k s).2.l.length≤s.l.length
 | 0,s=>⟨rfl,zxy _⟩
 | k+1,s=>by
  unfold kO
  split
  ·have h1:=aC0 s
   have h2:=h.d (aP s)
   have h3:=h.l (aP s)
   simp only
   generalize (if uA [43] s=true then (3:Int) else 4)=kd
   split
   ·have h4:=aR6 (kd,[],[]) (fF s).2.1 (ter (aP s)).2
    split
    ·have h5:=aGm h k (jZ (kd,[],[]) (fF s).2.1 (ter (aP s)).2).2
     rw [h4.2] at h5
     exact ⟨by rw [h5.1,h4.1,h2,h1.1],by omega⟩
    ·exact ⟨by rw [h4.1,h2,h1.1],by rw [h4.2]; omega⟩
   ·exact ⟨by rw [h2,h1.1],by simp only; omega⟩
  ·exact ⟨rfl,zxy _⟩
theorem aKq {ter:Rd} (h:Good ter):Good (rL ter):=by
 have key:∀ s,(rL ter s).2.d=s.d∧(rL ter s).2.l.length≤s.l.length:=fun s=>by
  unfold rL
  have h2:=h.d s
  have h3:=h.l s
  simp only
  split
  ·have h5:=aGm h ((ter s).2.l.length+1) (ter s).2
   exact ⟨by rw [h5.1,h2],by omega⟩
  ·exact ⟨h2,h3⟩
 exact ⟨fun s=>(key s).1,fun s=>(key s).2⟩
theorem a77:∀ f,Good (gR f)
 | 0=>⟨fun _=>rfl,fun _=>zxy _⟩
 | f+1=>aXe (aKq (a5g (a77 f)))
end Go.Fbs

namespace Go.Fbs
open Go.Proofs
def okF (f:Nat) (s:bQ):Prop:=s.d≤20∧21≤s.d+f
noncomputable def aR7 (f:Nat):Spec:=gV (fun s:bQ=>[vSt s]) (okF f) (fun s=>.aO [.bool (rL (nA (gR f)) s).1,vSt (rL (nA (gR f)) s).2])
end Go.Fbs

namespace Go.Fbs
open Go.Proofs
end Go.Fbs

namespace Go.Fbs
open Go.Proofs
abbrev Sub:=List UInt8×List UInt8×List UInt8
abbrev Rel:=List UInt8×List Sub×List cV
abbrev fM:=List UInt8×List Rel
def lX (s:Sub):V:=.agg [.str s.1,.str s.2.1,.str s.2.2]
def mF (l:List Sub):V:=.sl .ro (l.map lX)
def mW (r:Rel):V:=.agg [.str r.1,mF r.2.1,fE r.2.2]
def nH (l:List Rel):V:=.sl .ro (l.map mW)
def pY (t:fM):V:=.agg [.str t.1,nH t.2]
def fT (l:List fM):V:=.sl .ro (l.map pY)
theorem aKr {a b:Sub} (h:lX a=lX b):a=b:=by
 obtain ⟨k,n,x⟩:=a
 obtain ⟨k',n',x'⟩:=b
 simp only [lX,V.agg.injEq,List.cons.injEq,V.str.injEq,and_true] at h
 obtain ⟨h1,h2,h3⟩:=h
 rw [h1,h2,h3]
theorem aKs {a b:Rel} (h:mW a=mW b):a=b:=by
 obtain ⟨k,n,x⟩:=a
 obtain ⟨k',n',x'⟩:=b
 simp only [mW,mF,fE,V.agg.injEq,List.cons.injEq,V.str.injEq,V.sl.injEq,and_true,true_and] at h
 obtain ⟨h1,h2,h3⟩:=h
 rw [h1,sO (fun _ _=>aKr) h2,sO (fun _ _=>aKo) h3]
theorem aC1 (l:List Sub):(mF l).bU=true:=by
 simp only [mF,V.bU]; exact a1o fun _=>rfl
theorem aMt (l:List cV):(fE l).bU=true:=by
 simp only [fE,V.bU]; exact a1o fun _=>rfl
theorem aGn (r:Rel):(mW r).bU=true:=by
 simp only [mW,V.bU,aL,aC1,aMt,Bool.and_true]
theorem aMu (l:List Rel):(nH l).bU=true:=by
 simp only [nH,V.bU]; exact a1o aGn
theorem aQb (t:fM):(pY t).bU=true:=by
 simp only [pY,V.bU,aL,aMu,Bool.and_true]
theorem a6y (l:List fM):(fT l).bU=true:=by
 simp only [fT,V.bU]; exact a1o aQb
def nB:Nat→bQ→List Sub→Bool×bQ×List Sub
 | 0,s,l=>(false,s,l)
 | k+1,s,l =>
  let a:=eR l.length 50 s
  if a.1 then
   let n:=aX a.2
   if n.1 then
    let m:=bX [35] n.2.1
    if m.1 then
     let q:=aX m.2
     if q.1 then
      let b:=bX [124] q.2.1
      let l':=l++[(n.2.2.getD [],[],q.2.2.getD [])]
      if b.1 then nB k b.2 l' else (true,b.2,l')
     else (false,q.2.1,l)
    else
     let b:=bX [124] m.2
     let l':=l++[(n.2.2.getD [],[],[])]
     if b.1 then nB k b.2 l' else (true,b.2,l')
   else (false,n.2.1,l)
  else (false,a.2,l)
def a9k (s:bQ) (l:List Sub):Bool×bQ×List Sub:=nB (s.l.length+1) s l
def sP:Rd:=rL (nA (gR 21))
def gS (s:bQ) (aS:List Rel):Bool×bQ×List Rel :=
 let a:=eR aS.length 200 s
 if a.1 then
  let n:=aX a.2
  if n.1 then
   let m:=bX [61] n.2.1
   if m.1 then
    let q:=sP { m.2 with x:=[] }
    if q.1 then
     let z:=mE [59] q.2
     (z.1,z.2,aS++[(n.2.2.getD [],[],q.2.x)])
    else (false,q.2,aS)
   else
    let c:=mE [58] m.2
    if c.1 then
     let q:=a9k c.2 []
     if q.1 then
      let z:=mE [59] q.2.1
      (z.1,z.2,aS++[(n.2.2.getD [],q.2.2,[])])
     else (false,q.2.1,aS)
    else (false,c.2,aS)
  else (false,n.2.1,aS)
 else (false,a.2,aS)
def rX:Nat→bQ→List Rel→Bool×bQ×List Rel
 | 0,s,l=>(false,s,l)
 | k+1,s,l =>
  let m:=bX [125] s
  if m.1 then (true,m.2,l)
  else
   let r:=gS m.2 l
   if r.1 then rX k r.2.1 r.2.2 else (false,r.2.1,r.2.2)
def a1b (n:Int) (s:bQ):Bool×bQ×fM :=
 let a:=eR n 200 s
 if a.1 then
  if aR5 a.2 then
   let q:=aX (aP a.2)
   if q.1 then
    let m:=bX [123] q.2.1
    if m.1 then
     let r:=rX (m.2.l.length+1) m.2 []
     (r.1,r.2.1,(q.2.2.getD [],r.2.2))
    else (true,m.2,(q.2.2.getD [],[]))
   else (false,q.2.1,([],[]))
  else (false,xV 9 a.2,([],[]))
 else (false,a.2,([],[]))
def uV:Nat→bQ→List fM→Bool×bQ×List fM
 | 0,s,l=>(false,s,l)
 | k+1,s,l =>
  if s.l=[] then (true,s,l)
  else
   let r:=a1b l.length s
   if r.1 then uV k r.2.1 (l++[r.2.2]) else (false,r.2.1,l)
theorem aYe {s:bQ} (h:aR5 s=true):s.l≠[]:=by
 intro e
 simp [aR5,fF,e] at h
theorem aMv (n most:Int) (s:bQ):(eR n most s).2.d=s.d∧(eR n most s).2.l=s.l∧((eR n most s).1=true→n < most∧(eR n most s).2=s):=by
 unfold eR
 split
 ·rename_i h; exact ⟨rfl,rfl,fun _=>⟨h,rfl⟩⟩
 ·have:=aGl 8 s; exact ⟨this.1,this.2,fun h=>by simp at h⟩
theorem bCg {s:bQ} (h:(aX s).1=true):(aX s).2.1.l.length < s.l.length:=by
 unfold aX at h ⊢
 split
 ·rename_i hn; exact b4j (aKp hn)
 ·rename_i hn; rw [if_neg hn] at h; simp at h
theorem aGo:∀ (k:Nat) (s:bQ) (l:List Sub),(nB k s l).2.1.d=s.d∧(nB k s l).2.1.l.length≤s.l.length
 | 0,s,l=>⟨rfl,zxy _⟩
 | k+1,s,l=>by
  unfold nB
  have h1:=aMv l.length 50 s
  simp only
  split
  ·have h2:=aBg (eR l.length 50 s).2
   split
   ·have h3:=a9j [35] (aX (eR l.length 50 s).2).2.1
    split
    ·have h4:=aBg (bX [35] (aX (eR l.length 50 s).2).2.1).2
     split
     ·have h5:=a9j [124] (aX (bX [35] (aX (eR l.length 50 s).2).2.1).2).2.1
      split
      ·have h6:=aGo k (bX [124] (aX (bX [35] (aX (eR l.length 50 s).2).2.1).2).2.1).2 (l++[((aX (eR l.length 50 s).2).2.2.getD [],[],(aX (bX [35] (aX (eR l.length 50 s).2).2.1).2).2.2.getD [])])
       exact ⟨by rw [h6.1,h5.1,h4.1,h3.1,h2.1,h1.1],by rw [h1.2.1] at h2; omega⟩
      ·exact ⟨by rw [h5.1,h4.1,h3.1,h2.1,h1.1],by rw [h1.2.1] at h2; simp only; omega⟩
     ·exact ⟨by rw [h4.1,h3.1,h2.1,h1.1],by rw [h1.2.1] at h2; simp only; omega⟩
    ·have h5:=a9j [124] (bX [35] (aX (eR l.length 50 s).2).2.1).2
     split
     ·have h6:=aGo k (bX [124] (bX [35] (aX (eR l.length 50 s).2).2.1).2).2 (l++[((aX (eR l.length 50 s).2).2.2.getD [],[],[])])
      exact ⟨by rw [h6.1,h5.1,h3.1,h2.1,h1.1],by rw [h1.2.1] at h2; omega⟩
     ·exact ⟨by rw [h5.1,h3.1,h2.1,h1.1],by rw [h1.2.1] at h2; simp only; omega⟩
   ·exact ⟨by rw [h2.1,h1.1],by rw [h1.2.1] at h2; simp only; omega⟩
  ·exact ⟨h1.1,by show (eR _ _ s).2.l.length≤_; rw [h1.2.1]; exact zxy _⟩
theorem aQc:Good sP:=aKq (a5g (a77 21))
theorem aMw (s:bQ) (l:List Rel):(gS s l).2.1.d=s.d∧(gS s l).2.1.l.length≤s.l.length∧((gS s l).1=true→(gS s l).2.1.l.length < s.l.length):=by
 unfold gS
 have h1:=aMv l.length 200 s
 simp only
 split
 ·have h2:=aBg (eR l.length 200 s).2
  have h2':=bCg (s:=(eR l.length 200 s).2)
  split
  ·rename_i hnm
   have h2':=h2' hnm
   rw [h1.2.1] at h2 h2'
   have h3:=a9j [61] (aX (eR l.length 200 s).2).2.1
   split
   ·have h4:(sP { (bX [61] (aX (eR l.length 200 s).2).2.1).2 with x:=[] }).2.d=(bX [61] (aX (eR l.length 200 s).2).2.1).2.d:=aQc.d _
    have h5:(sP { (bX [61] (aX (eR l.length 200 s).2).2.1).2 with x:=[] }).2.l.length≤(bX [61] (aX (eR l.length 200 s).2).2.1).2.l.length:=aQc.l _
    generalize sP { (bX [61] (aX (eR l.length 200 s).2).2.1).2 with x:=[] } = q at *
    split
    ·have h6:=aMs [59] q.2
     exact ⟨by rw [h6.1,h4,h3.1,h2.1,h1.1],by simp only; omega,fun _=>by simp only; omega⟩
    ·exact ⟨by rw [h4,h3.1,h2.1,h1.1],by simp only; omega,fun h=>by simp at h⟩
   ·have h4:=aMs [58] (bX [61] (aX (eR l.length 200 s).2).2.1).2
    split
    ·have h5:=aGo ((mE [58] (bX [61] (aX (eR l.length 200 s).2).2.1).2).2.l.length+1) (mE [58] (bX [61] (aX (eR l.length 200 s).2).2.1).2).2 []
     have e5:a9k (mE [58] (bX [61] (aX (eR l.length 200 s).2).2.1).2).2 []=nB ((mE [58] (bX [61] (aX (eR l.length 200 s).2).2.1).2).2.l.length+1) (mE [58] (bX [61] (aX (eR l.length 200 s).2).2.1).2).2 []:=rfl
     rw [← e5] at h5
     split
     ·have h6:=aMs [59] (a9k (mE [58] (bX [61] (aX (eR l.length 200 s).2).2.1).2).2 []).2.1
      exact ⟨by rw [h6.1,h5.1,h4.1,h3.1,h2.1,h1.1],by simp only; omega,fun _=>by simp only; omega⟩
     ·exact ⟨by rw [h5.1,h4.1,h3.1,h2.1,h1.1],by simp only; omega,fun h=>by simp at h⟩
    ·exact ⟨by rw [h4.1,h3.1,h2.1,h1.1],by simp only; omega,fun h=>by simp at h⟩
  ·rw [h1.2.1] at h2
   exact ⟨by rw [h2.1,h1.1],by simp only; omega,fun h=>by simp at h⟩
 ·exact ⟨h1.1,by show (eR _ _ s).2.l.length≤_; rw [h1.2.1]; exact zxy _,fun h=>by simp at h⟩
theorem aQd:∀ (k:Nat) (s:bQ) (l:List Rel),(rX k s l).2.1.d=s.d∧(rX k s l).2.1.l.length≤s.l.length
 | 0,s,l=>⟨rfl,zxy _⟩
 | k+1,s,l=>by
  unfold rX
  have h1:=a9j [125] s
  simp only
  split
  ·exact h1
  ·have h2:=aMw (bX [125] s).2 l
   split
   ·have h3:=aQd k (gS (bX [125] s).2 l).2.1 (gS (bX [125] s).2 l).2.2
    exact ⟨by rw [h3.1,h2.1,h1.1],by omega⟩
   ·exact ⟨by rw [h2.1,h1.1],by simp only; omega⟩
theorem bHl (n:Int) (s:bQ):(a1b n s).2.1.d=s.d∧(a1b n s).2.1.l.length≤s.l.length∧((a1b n s).1=true→(a1b n s).2.1.l.length < s.l.length∧n < 200):=by
 unfold a1b
 have h1:=aMv n 200 s
 simp only
 split
 ·rename_i ha
  have hn:=(h1.2.2 ha).1
  split
  ·rename_i hw
   have h2:=b4j (aYe hw)
   have h3:=aBg (aP (eR n 200 s).2)
   have h3':(aP (eR n 200 s).2).d=(eR n 200 s).2.d:=rfl
   rw [h1.2.1] at h2
   split
   ·have h4:=a9j [123] (aX (aP (eR n 200 s).2)).2.1
    split
    ·have h5:=aQd ((bX [123] (aX (aP (eR n 200 s).2)).2.1).2.l.length+1) (bX [123] (aX (aP (eR n 200 s).2)).2.1).2 []
     exact ⟨by rw [h5.1,h4.1,h3.1,h3',h1.1],by simp only; omega,fun _=>⟨by simp only; omega,hn⟩⟩
    ·exact ⟨by rw [h4.1,h3.1,h3',h1.1],by simp only; omega,fun _=>⟨by simp only; omega,hn⟩⟩
   ·exact ⟨by rw [h3.1,h3',h1.1],by simp only; omega,fun h=>by simp at h⟩
  ·have h2:=aGl 9 (eR n 200 s).2
   exact ⟨by rw [h2.1,h1.1],by show (xV 9 _).l.length≤_; rw [h2.2,h1.2.1]; exact zxy _,fun h=>by simp at h⟩
 ·exact ⟨h1.1,by show (eR _ _ s).2.l.length≤_; rw [h1.2.1]; exact zxy _,fun h=>by simp at h⟩
end Go.Fbs

namespace Go.Fbs
open Go.Proofs
theorem aYf (l:List Sub):(l.map lX).all (fun e=>e.cells.length == 3)=true:=by simp [lX,V.cells]
theorem aYg (l:List Rel):(l.map mW).all (fun e=>e.cells.length == 3)=true:=by simp [mW,V.cells]
theorem aYh (l:List fM):(l.map pY).all (fun e=>e.cells.length == 2)=true:=by simp [pY,V.cells]
theorem b4k (l:List Sub):jA (mF l)=some (vI l.length):=by simp [jA,mF]
theorem b4l (l:List Rel):jA (nH l)=some (vI l.length):=by simp [jA,nH]
theorem aUg (l:List fM):jA (fT l)=some (vI l.length):=by simp [jA,fT]
theorem bEm {l:List Sub} (h:l.length < 1000) (x:Sub):qP 3 48 (mF l) (.sl .ro [lX x])=some (mF (l++[x])):=by
 show qP 3 48 (.sl .ro (l.map lX)) (.sl .ro ([x].map lX))=some (.sl .ro ((l++[x]).map lX))
 rw [aMp (by simp only [zsy,List.length_singleton]; omega) (aYf _) (aYf [x]),List.map_append]
theorem bEn {l:List Rel} (h:l.length < 1000) (x:Rel):qP 3 64 (nH l) (.sl .ro [mW x])=some (nH (l++[x])):=by
 show qP 3 64 (.sl .ro (l.map mW)) (.sl .ro ([x].map mW))=some (.sl .ro ((l++[x]).map mW))
 rw [aMp (by simp only [zsy,List.length_singleton]; omega) (aYg _) (aYg [x]),List.map_append]
theorem bEo {l:List fM} (h:l.length < 1000) (x:fM):qP 2 40 (fT l) (.sl .ro [pY x])=some (fT (l++[x])):=by
 show qP 2 40 (.sl .ro (l.map pY)) (.sl .ro ([x].map pY))=some (.sl .ro ((l++[x]).map pY))
 rw [aMp (by simp only [zsy,List.length_singleton]; omega) (aYh _) (aYh [x]),List.map_append]
theorem bEp (x:Sub):lO 3 [lX x]=some (.sl .ro [lX x]):=nr rfl
theorem bEq (x:Rel):lO 3 [mW x]=some (.sl .ro [mW x]):=nr rfl
theorem bEr (x:fM):lO 2 [pY x]=some (.sl .ro [pY x]):=nr rfl
theorem bAj (p:Sub):bF 3 (lX p)=some (lX p):=nr rfl
end Go.Fbs

namespace Go.Fbs
open Go.Proofs
theorem aKt {a b:fM} (h:pY a=pY b):a=b:=by
 obtain ⟨k,n⟩:=a
 obtain ⟨k',n'⟩:=b
 simp only [pY,nH,V.agg.injEq,List.cons.injEq,V.str.injEq,V.sl.injEq,and_true,true_and] at h
 obtain ⟨h1,h2⟩:=h
 rw [h1,sO (fun _ _=>aKs) h2]
theorem bHm (p:fM):bF 2 (pY p)=some (pY p):=nr rfl
theorem bHn (p:Rel):bF 3 (mW p)=some (mW p):=nr rfl
noncomputable def aOz:Spec:=aR7 21
attribute [local irreducible] bW opt sP gR aR7 aOz gS a9k
end Go.Fbs

namespace Go.Fbs
open Go.Proofs
attribute [local irreducible] bW opt sP gR aR7 aOz gS a9k
end Go.Fbs

namespace Go.Fbs
open Go.Proofs
attribute [local irreducible] bW cC opt sP gR aR7 aOz gS a9k a1b
theorem aYi:∀ (f k:Nat) (l:List UInt8),∀ t ∈ (iE f k l).1,b1j t
 | 0,_,_,t,h=>by simp [iE] at h
 | f+1,_,[],t,h=>by simp [iE] at h
 | f+1,k,c::l,t,h=>by
  unfold iE at h
  split at h
  ·simp at h
  ·rcases List.mem_cons.1 h with rfl | h
   ·intro _ e
    have:=(a1p (l:=c::l) (by simp)).1
    simp only at e
    rw [e] at this
    simp at this
   ·exact aYi f _ _ t h
theorem b1l (l:List UInt8):∀ t ∈ (cP l).1,b1j t:=by
 unfold cP
 split
 ·simp
 ·simp only
  split
  ·simp
  ·exact aYi _ _ _
def aMx (l:List UInt8):bQ:=⟨(cP l).1,b1l l,l.length,0,0,0,[]⟩
def bEs (r:Bool×bQ×List fM):List fM×Nat×Int:=if r.1 then (r.2.2,0,0) else ([],r.2.1.at_,r.2.1.e)
def a78 (l:List UInt8):List fM×Nat×Int :=
 if (cP l).2.2≠0 then ([],(cP l).2.1,(cP l).2.2)
 else bEs (uV ((cP l).1.length+1) (aMx l) [])
theorem bJo (l:List eP):kT (bJ l)=some (bJ l):=nr rfl
theorem bD4 (a b c:V):iH 2 (.aO [a,b,c])=some (.aO [a,b]):=nr rfl
end Go.Fbs

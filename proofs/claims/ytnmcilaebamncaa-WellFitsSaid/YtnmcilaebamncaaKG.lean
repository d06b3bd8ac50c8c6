/- Schemas read: subjects, relations, types: plainly. -/
import Derived.Test.YtnmcilaebamncaaKF
set_option maxRecDepth 100000
namespace Go.Fbs
open Go.Proofs
abbrev Sub:=List UInt8×List UInt8×List UInt8
abbrev Rel:=List UInt8×List Sub×List zV
abbrev j0:=List UInt8×List Rel
def kL (s:Sub):V:=.agg [.str s.1,.str s.2.1,.str s.2.2]
def l6 (l:List Sub):V:=.sl .ro (l.map kL)
def kF (r:Rel):V:=.agg [.str r.1,l6 r.2.1,fY r.2.2]
def lJ (l:List Rel):V:=.sl .ro (l.map kF)
def mB (t:j0):V:=.agg [.str t.1,lJ t.2]
def iU (l:List j0):V:=.sl .ro (l.map mB)
theorem aIu {a b:Sub} (h:kL a=kL b):a=b:=by
 obtain ⟨k,n,x⟩:=a
 obtain ⟨k',n',x'⟩:=b
 simp only [kL,V.agg.injEq,List.cons.injEq,V.str.injEq,and_true] at h
 obtain ⟨h1,h2,h3⟩:=h
 rw [h1,h2,h3]
theorem aIv {a b:Rel} (h:kF a=kF b):a=b:=by
 obtain ⟨k,n,x⟩:=a
 obtain ⟨k',n',x'⟩:=b
 simp only [kF,l6,fY,V.agg.injEq,List.cons.injEq,V.str.injEq,V.sl.injEq,and_true,true_and] at h
 obtain ⟨h1,h2,h3⟩:=h
 rw [h1,rR (fun _ _=>aIu) h2,rR (fun _ _=>aIt) h3]
theorem aA8 (l:List Sub):(l6 l).bP=true:=by
 simp only [l6,V.bP]; exact zU fun _=>rfl
theorem aK6 (l:List zV):(fY l).bP=true:=by
 simp only [fY,V.bP]; exact zU fun _=>rfl
theorem aEs (r:Rel):(kF r).bP=true:=by
 simp only [kF,V.bP,aO,aA8,aK6,Bool.and_true]
theorem aK7 (l:List Rel):(lJ l).bP=true:=by
 simp only [lJ,V.bP]; exact zU aEs
theorem aNy (t:j0):(mB t).bP=true:=by
 simp only [mB,V.bP,aO,aK7,Bool.and_true]
theorem a4z (l:List j0):(iU l).bP=true:=by
 simp only [iU,V.bP]; exact zU aNy
def aMo:Nat→gP→List Sub→Bool×gP×List Sub
 | 0,s,l=>(false,s,l)
 | k+1,s,l =>
  let a:=aZl l.length 50 s
  if a.1 then
   let n:=a4y a.2
   if n.1 then
    let m:=a39 [35] n.2.1
    if m.1 then
     let q:=a4y m.2
     if q.1 then
      let b:=a39 [124] q.2.1
      let l':=l++[(n.2.2.getD [],[],q.2.2.getD [])]
      if b.1 then aMo k b.2 l' else (true,b.2,l')
     else (false,q.2.1,l)
    else
     let b:=a39 [124] m.2
     let l':=l++[(n.2.2.getD [],[],[])]
     if b.1 then aMo k b.2 l' else (true,b.2,l')
   else (false,n.2.1,l)
  else (false,a.2,l)
def aO9 (s:gP) (l:List Sub):Bool×gP×List Sub:=aMo (s.l.length+1) s l
def aMp:Rd:=aO7 (aK5 (uM 21))
def a3m (s:gP) (rels:List Rel):Bool×gP×List Rel :=
 let a:=aZl rels.length 200 s
 if a.1 then
  let n:=a4y a.2
  if n.1 then
   let m:=a39 [61] n.2.1
   if m.1 then
    let q:=aMp { m.2 with x:=[] }
    if q.1 then
     let z:=aGb [59] q.2
     (z.1,z.2,rels++[(n.2.2.getD [],[],q.2.x)])
    else (false,q.2,rels)
   else
    let c:=aGb [58] m.2
    if c.1 then
     let q:=aO9 c.2 []
     if q.1 then
      let z:=aGb [59] q.2.1
      (z.1,z.2,rels++[(n.2.2.getD [],q.2.2,[])])
     else (false,q.2.1,rels)
    else (false,c.2,rels)
  else (false,n.2.1,rels)
 else (false,a.2,rels)
def aV4:Nat→gP→List Rel→Bool×gP×List Rel
 | 0,s,l=>(false,s,l)
 | k+1,s,l =>
  let m:=a39 [125] s
  if m.1 then (true,m.2,l)
  else
   let r:=a3m m.2 l
   if r.1 then aV4 k r.2.1 r.2.2 else (false,r.2.1,r.2.2)
def bHp (n:Int) (s:gP):Bool×gP×j0 :=
 let a:=aZl n 200 s
 if a.1 then
  if bEy a.2 then
   let q:=a4y (rS a.2)
   if q.1 then
    let m:=a39 [123] q.2.1
    if m.1 then
     let r:=aV4 (m.2.l.length+1) m.2 []
     (r.1,r.2.1,(q.2.2.getD [],r.2.2))
    else (true,m.2,(q.2.2.getD [],[]))
   else (false,q.2.1,([],[]))
  else (false,aGa 9 a.2,([],[]))
 else (false,a.2,([],[]))
end Go.Fbs

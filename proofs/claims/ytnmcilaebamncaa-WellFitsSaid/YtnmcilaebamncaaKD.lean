/- Schemas read: factors, terms, sums: plainly. -/
import Derived.Test.YtnmcilaebamncaaKC
set_option maxRecDepth 100000
namespace Go.Fbs
open Go.Proofs
abbrev Rd:=gP→Bool×gP
def a58 (sum:Rd) (s:gP):Bool×gP :=
 if isM [40] s then
  if s.d=20 then (false,aGa 10 s)
  else
   let r:=sum (rS { s with d:=s.d+1 })
   if r.1 then
    let q:=aGb [41] r.2
    (q.1,{ q.2 with d:=q.2.d - 1 })
   else (false,{ r.2 with d:=r.2.d - 1 })
 else
  let r:=a4y s
  if r.1 then
   let m:=a39 [45,62] r.2.1
   if m.1 then
    let q:=a4y m.2
    if q.1 then aMn (2,r.2.2.getD [],q.2.2.getD []) (mM s).2.1 q.2.1 else (false,q.2.1)
   else aMn (1,r.2.2.getD [],[]) (mM s).2.1 m.2
  else (false,r.2.1)
def aSy (fac:Rd):Nat→Nat→gP→Bool×gP
 | 0,_,s=>(false,s)
 | k+1,a,s =>
  let m:=a39 [38] s
  if m.1 then
   let r:=fac m.2
   if r.1 then
    let q:=aMn (5,[],[]) a r.2
    if q.1 then aSy fac k (mM q.2).2.1 q.2 else (false,q.2)
   else (false,r.2)
  else (true,m.2)
def aK5 (fac:Rd) (s:gP):Bool×gP :=
 let r:=fac s
 if r.1 then aSy fac (r.2.l.length+1) (mM r.2).2.1 r.2 else (false,r.2)
def aV3 (ter:Rd):Nat→gP→Bool×gP
 | 0,s=>(false,s)
 | k+1,s =>
  if isM [43] s || isM [45] s then
   let r:=ter (rS s)
   if r.1 then
    let q:=aMn (if isM [43] s then 3 else 4,[],[]) (mM s).2.1 r.2
    if q.1 then aV3 ter k q.2 else (false,q.2)
   else (false,r.2)
  else (true,s)
def aO7 (ter:Rd) (s:gP):Bool×gP :=
 let r:=ter s
 if r.1 then aV3 ter (r.2.l.length+1) r.2 else (false,r.2)
def uM:Nat→Rd
 | 0=>fun s=>(false,s)
 | f+1=>a58 (aO7 (aK5 (uM f)))
structure Good (f:Rd):Prop where
 d:∀ s,(f s).2.d=s.d
 l:∀ s,(f s).2.l.length≤s.l.length
end Go.Fbs

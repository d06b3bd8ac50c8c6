/- The document's reader of schemas, where it reads: relations, plainly. -/
import Derived.Test.YtnmcilaebamncaaLH
set_option maxRecDepth 100000
namespace Go.Fbs
open Go.Proofs
attribute [local irreducible] cN bX opt
def zX:RO:=a6e (wW (iV 21))
def aLg (s:cA):Option (cA×Sub) :=
 (nK s).bind fun a =>
  if gY [35] (aS s) then (nK (aS (aS s))).bind fun b=>some (aS (aS (aS s)),(a,[],b))
  else some (aS s,(a,[],[]))
def qJ:Nat→cA→List Sub→Option (cA×List Sub)
 | 0,_,_=>none
 | k+1,s,l =>
  if l.length=50 then none
  else (aLg s).bind fun q =>
   if gY [124] q.1 then qJ k (aS q.1) (l++[q.2])
   else if gY [59] q.1 then some (aS q.1,l++[q.2]) else none
def vN (s:cA):Option (cA×Rel) :=
 (nK s).bind fun a =>
  if gY [61] (aS s) then
   (zX { aS (aS s) with o:=[] }).bind fun r=>if gY [59] r then some (aS r,(a,[],r.o)) else none
  else if gY [58] (aS s) then (qJ (s.l.length+1) (aS (aS s)) []).bind fun q=>some (q.1,(a,q.2,[]))
  else none
theorem aN3:xK zX:=aBl (a08 (a17 21))
theorem aZv:fX Try.prog jS bW (sZ zX):=(aTg 21).2
theorem aLh {s:cA} {q:cA×Sub} (hs:gW s) (h:aLg s=some q):gW q.1∧q.1.d=s.d∧q.1.l=s.l∧s.i < q.1.i∧q.1.o=s.o:=by
 obtain ⟨a,ha,h2⟩:=zwz.1 (show (nK s).bind _=some q from h)
 have hlt:=qI ha
 split at h2
 ·rename_i hi
  obtain ⟨b,hb,h3⟩:=zwz.1 h2
  have hl3:s.i+1+1 < s.l.length:=qI hb
  simp only [zzz] at h3
  subst h3
  exact ⟨⟨hl3,hs.2⟩,rfl,rfl,by show s.i < s.i+1+1+1; omega,rfl⟩
 ·simp only [zzz] at h2
  subst h2
  exact ⟨⟨hlt,hs.2⟩,rfl,rfl,by show s.i < s.i+1; omega,rfl⟩
end Go.Fbs

/- The document's reader of schemas, where it reads: factors. -/
import Derived.Test.YtnmcilaebamncaaLC
set_option maxRecDepth 100000
namespace Go.Fbs
open Go.Proofs
attribute [local irreducible] cN bX opt
def aZs (s : cA) : Nat:=match s.l[s.i]? with | some t=>t.2.1 | none=>s.n
noncomputable def eP:Spec:=iA (fun s:cA=>[vR s]) (fun _=>True) (fun s=>.aM [vI (aZs s:Nat),vR s])
theorem aZt:∀ a b:cA,[vR a]=[vR b]→a=b:=fun a b h=>aEz (by simpa using h)
theorem aLf (s:cA):eP [vR s]=some (.aM [vI (aZs s:Nat),vR s]):=gV aZt trivial
theorem oV:fX Try.prog wR cX eP:=by
 refine a3i (T:=[]) aL.nil fun words v hv=>?_
 obtain ⟨s,rfl,_,rfl⟩:=eR hv
 refine ⟨_,rfl,rfl,by simp [aO,kV],by simp [aO,kV,V.bP],rfl,rfl,?_⟩
 refine Eq.mpr (a34 (bL _) _ (cQ s.l) (vI s.i) (vI s.n) (.int .i64 0) (.int .i64 0) (vI s.d) (fY s.o) (.int .i64 0)) ?_
 simp only [sS,if_true,if_false,reduceCtorEq,aPb,agR]
 unfold aZs
 cases e : s.l[s.i]? with
 | none =>
  have h:¬ ((s.i:Int) < (s.l.length:Int)):=by have:=List.getElem?_eq_none_iff.1 e; omega
  simp only [h,decide_false,sS,if_true,if_false,reduceCtorEq]
 | some t =>
  have h:((s.i:Int) < (s.l.length:Int)):=by have:=(zzy.1 e).1; omega
  simp only [h,decide_true,aLd e,sS,if_true,if_false,reduceCtorEq]
  rfl
abbrev RO:=cA→Option cA
def qH (expr:RO) (s:cA):Option cA :=
 if gY [40] s then
  if s.d=20 then none
  else (expr { s with i:=s.i+1,d:=s.d+1 }).bind fun r=>if gY [41] r then some { r with i:=r.i+1,d:=r.d - 1 } else none
 else (nK s).bind fun a =>
  if gY [45,62] (aS s) then (nK (aS (aS s))).bind fun b=>aE0 (2,a,b) (aS (aS (aS s)))
  else aE0 (1,a,[]) (aS s)
def gW (s:cA):Prop:=s.i≤s.l.length∧s.l.length≤500000
structure xK (f:RO):Prop where
 g:∀ s r,gW s→f s=some r→gW r∧r.d=s.d∧r.l=s.l∧s.i < r.i
theorem iQ {g:List UInt8} {s:cA} (h:gY g s=true):s.i < s.l.length:=by
 unfold gY at h
 split at h
 ·rename_i t e; exact (zzy.1 e).1
 ·simp at h
theorem qI {s:cA} {w:List UInt8} (h:nK s=some w):s.i < s.l.length:=by
 unfold nK at h
 split at h
 ·rename_i t e; exact (zzy.1 e).1
 ·simp at h
theorem rJ {x:zV} {s r:cA} (h:aE0 x s=some r):s.o.length < 200∧r = { s with o:=s.o++[x] }:=by
 unfold aE0 at h
 split at h
 ·rename_i hl; exact ⟨hl,by simpa using h.symm⟩
 ·simp at h
theorem aTb {e:RO} (h:xK e):xK (qH e):=by
 refine ⟨fun s r hs hr=>?_⟩
 unfold qH at hr
 split at hr
 ·rename_i h40
  have hlt:=iQ h40
  split at hr
  ·simp at hr
  ·obtain ⟨q,hq,h2⟩:=zwz.1 hr
   have g:=h.g _ q (show gW { s with i:=s.i+1,d:=s.d+1 } from ⟨hlt,hs.2⟩) hq
   simp only at g
   split at h2
   ·rename_i h41
    have hl2:=iQ h41
    simp only [zzz] at h2
    subst h2
    exact ⟨⟨hl2,g.1.2⟩,by show q.d - 1=s.d; omega,g.2.2.1,by show s.i < q.i+1; omega⟩
   ·simp at h2
 ·obtain ⟨a,ha,h2⟩:=zwz.1 hr
  have hlt:=qI ha
  split at h2
  ·rename_i h62
   have hl2:=iQ h62
   obtain ⟨b,hb,h3⟩:=zwz.1 h2
   have hl3:=qI hb
   obtain ⟨_,rfl⟩:=rJ h3
   exact ⟨⟨hl3,hs.2⟩,rfl,rfl,by show s.i < s.i+1+1+1; omega⟩
  ·obtain ⟨_,rfl⟩:=rJ h2
   exact ⟨⟨hlt,hs.2⟩,rfl,rfl,by show s.i < s.i+1; omega⟩
end Go.Fbs

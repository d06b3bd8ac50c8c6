import Derived.Test.YtnmcilaebamncaaCB
namespace Go.Fbs
open Go.Proofs
def qO:Nat→Nat→List UInt8→List (Int×Nat×List UInt8)×Option Nat
 | 0,_,_=>([],none)
 | _+1,_,[]=>([],none)
 | f+1,k,c::l =>
  if (eW (c::l)).2.2=false then ([],some k)
  else
   let r:=(c::l).drop (eW (c::l)).2.1.length
   let q:=qO f (k+(eW (c::l)).2.1.length+dR false r) (r.drop (dR false r))
   (((eW (c::l)).1,k,(eW (c::l)).2.1)::q.1,q.2)
def kU (l:List UInt8):List (Int×Nat×List UInt8)×Nat×Int :=
 if 100000 < l.length then ([],0,8)
 else
  let q:=qO l.length (dR false l) (l.drop (dR false l))
  match q.2 with
  | some k=>([],k,7)
  | none=>(q.1,0,0)
def uP (x:Int×Nat×List UInt8):V:=b5p x.1 x.2.1 x.2.2
def cQ (ts:List (Int×Nat×List UInt8)):V:=.sl .ro (ts.map uP)
theorem a3e {l:List UInt8} (hl:l≠[]):1≤(eW l).2.1.length∧(eW l).2.1.length≤l.length:=by
 have h1:1≤l.length:=by cases l with
  | nil=>exact absurd rfl hl
  | cons=>simp
 unfold eW
 split
 ·have:=(List.takeWhile_sublist (fun c:UInt8=>jK c.toNat) (l:=l)).length_le
  unfold sW at *
  simp only [List.length_take]; omega
 ·split
  ·rename_i h
   rw [List.isPrefixOf_iff_prefix] at h
   have:=h.length_le
   exact ⟨by simp,this⟩
  ·simp only [List.length_take]; omega
theorem aHi (ts:List (Int×Nat×List UInt8)):(cQ ts).bP=true:=by
 simp only [cQ,V.bP]; exact zU fun a=>rfl
end Go.Fbs

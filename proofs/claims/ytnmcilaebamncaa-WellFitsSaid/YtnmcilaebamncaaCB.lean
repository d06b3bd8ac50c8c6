import Derived.Test.YtnmcilaebamncaaCA
namespace Go.Fbs
open Go.Proofs
def wO (c:UInt8):Bool:=c == 32 || c == 9 || c == 13 || c == 10
def dR:Bool→List UInt8→Nat
 | _,[]=>0
 | true,c::r=>if c=10 then 1+dR false r else 1+dR true r
 | false,c :: r=>if c = 47 ∧ r.head? = some 47 then 1 + dR true r else if wO c then 1 + dR false r else 0
theorem a86:∀ (l:List UInt8),(10:UInt8) ∉ l→dR true l=l.length
 | [],_=>rfl
 | c::r,h=>by
  simp only [List.mem_cons,not_or] at h
  simp only [dR,zwx]
  rw [if_neg (fun e=>h.1 e.symm),a86 r h.2,Nat.add_comm]
theorem aCb : ∀ (l : List UInt8) (k : Nat),l[k]? = some 10 → (10 : UInt8) ∉ l.take k → dR true l = k + dR false (l.drop k)
 | [],k,h,_=>by simp at h
 | c::r,0,h,_=>by
  simp at h; subst h
  simp [dR,wO]
 | c::r,k+1,h,hn=>by
  simp only [List.take_succ_cons,List.mem_cons,not_or] at hn
  simp only [dR,List.drop_succ_cons]
  rw [if_neg (fun e=>hn.1 e.symm),aCb r k (by simpa using h) hn.2,Nat.add_comm k 1,Nat.add_assoc]
theorem aNx (r:List UInt8):dR false (47::47::r)=dR true (47::47::r):=by
 simp [dR]
def aSi:List UInt8:=[123,125,58,59,124,35,61,43,45,38,40,41]
def eW (l:List UInt8):Int×List UInt8×Bool :=
 if 0 < sW l then (1,l.take (sW l),true)
 else if [45,62].isPrefixOf l then (2,[45,62],true)
 else (2,l.take 1,decide (l.getD 0 0 ∈ aSi))
def b5p (k:Int) (at_:Int) (x:List UInt8):V:=.agg [vI k,vI at_,.str x]
end Go.Fbs

/- Schemas read: a relation: told. -/
import Derived.Test.YtnmcilaebamncaaKH
set_option maxRecDepth 100000
namespace Go.Fbs
open Go.Proofs
theorem aS2 {a b:j0} (h:mB a=mB b):a=b:=by
 obtain ⟨k,n⟩:=a
 obtain ⟨k',n'⟩:=b
 simp only [mB,lJ,V.agg.injEq,List.cons.injEq,V.str.injEq,V.sl.injEq,and_true,true_and] at h
 obtain ⟨h1,h2⟩:=h
 rw [h1,rR (fun _ _=>aIv) h2]
theorem bEz (p:j0):bD 2 (mB p)=some (mB p):=nr rfl
theorem bE0 (p:Rel):bD 3 (kF p)=some (kF p):=nr rfl
noncomputable def aMq:Spec:=aO8 21
attribute [local irreducible] cN opt aMp uM aO8 aMq a3m aO9
end Go.Fbs

/- Parsing what is made of numbers. -/
import Derived.Test.YtnmcilaebamncaaKP
set_option maxRecDepth 100000
namespace Go.Fbs
open Go.Proofs
def isOp (g:List UInt8):Prop:=g=[43]∨g=[45]∨g=[38]
theorem aZq {g:List UInt8} (h:isOp g) (C:List KT):aIy ((2,g)::C):=by
 unfold aIy; rcases h with rfl | rfl | rfl <;> simp
theorem aS9:aIy []:=by unfold aIy; simp
theorem aMs:hdT []:=by unfold hdT; simp
theorem aTa {g:List UInt8} (h:g=[43]∨g=[45]) (C:List KT):hdT ((2,g)::C):=by
 unfold hdT; rcases h with rfl | rfl <;> simp
theorem aPa {g:List UInt8} (h:isOp g):(g=[43]∨g=[45])∨g=[38]:=by
 rcases h with h | h | h
 ·exact .inl (.inl h)
 ·exact .inl (.inr h)
 ·exact .inr h
theorem bIy {f d:Nat} (n:Int):b53 (f+1) d (fV (mN n)):=by
 have h:=mG n
 generalize mN n=w at h
 simp only [qG,List.mem_cons,List.not_mem_nil,or_false] at h
 rcases h with rfl | rfl | rfl | rfl | rfl | rfl | rfl | rfl
 ·exact a14 (w:=[114]) (by kernel_rfl)
 ·exact a14 (w:=[115]) (by kernel_rfl)
 ·exact a14 (w:=[114]) (by kernel_rfl)
 ·exact a14 (w:=[115]) (by kernel_rfl)
 ·exact aN1 (w:=[115]) (v:=[114]) (by kernel_rfl) (by kernel_rfl)
 ·exact aN1 (w:=[115]) (v:=[112]) (by kernel_rfl) (by kernel_rfl)
 ·exact a14 (w:=[112]) (by kernel_rfl)
 ·exact a14 (w:=[113]) (by kernel_rfl)
theorem bCr (n:Int):∃ g,isOp g∧fV (aEv n)=[(2,g)]:=by
 have h:=aIw n
 generalize aEv n=w at h
 simp only [a7e,List.mem_cons,List.not_mem_nil,or_false] at h
 rcases h with rfl | rfl | rfl | rfl
 ·exact ⟨[43],.inl rfl,by kernel_rfl⟩
 ·exact ⟨[38],.inr (.inr rfl),by kernel_rfl⟩
 ·exact ⟨[45],.inr (.inl rfl),by kernel_rfl⟩
 ·exact ⟨[43],.inl rfl,by kernel_rfl⟩
theorem bCs (n:Int):if decide ((((fU n 13) % 4).toNat:Int)=3)=true then fV (aBg n)=[(2,[45]),(2,[40])] else ∃ g,isOp g∧fV (aBg n)=[(2,g)]:=by
 unfold aBg
 have h:=m4 (fU n 13)
 generalize ((fU n 13) % 4).toNat=k at h
 match k,h with
 | 0,_=>exact ⟨[43],.inl rfl,by kernel_rfl⟩
 | 1,_=>exact ⟨[38],.inr (.inr rfl),by kernel_rfl⟩
 | 2,_=>exact ⟨[45],.inr (.inl rfl),by kernel_rfl⟩
 | 3,_=>show fV [32,45,32,40]=_; kernel_rfl
end Go.Fbs

/- Parsing what is made of numbers. -/
import Derived.Test.YtnmcilaebamncaaKP
set_option linter.unusedVariables false
set_option linter.unusedSimpArgs false
set_option linter.unusedSectionVars false
set_option maxRecDepth 100000
namespace Go.Fbs
open Go.Proofs
def isOp (g:List UInt8):Prop:=g=[43]∨g=[45]∨g=[38]
theorem aVc {g:List UInt8} (h:isOp g) (C:List KT):aGu ((2,g)::C):=by
 unfold aGu; rcases h with rfl | rfl | rfl <;> simp
theorem aN4:aGu []:=by unfold aGu; simp
theorem aKd:hdT []:=by unfold hdT; simp
theorem aN5 {g:List UInt8} (h:g=[43]∨g=[45]) (C:List KT):hdT ((2,g)::C):=by
 unfold hdT; rcases h with rfl | rfl <;> simp
theorem a52 {f d:Nat} {A:List KT} (hA:a05 f d A):aDh f d A:=by
 have:=aGv hA aGt aN4
 rwa [List.append_nil] at this
theorem aIa {f d:Nat} {A B:List KT} (hA:a05 f d A) (hB:a05 f d B):aDh f d (A++(2,[38])::B):=by
 have:=aGv hA (aDg hB aGt aN4) (aVc (.inr (.inr rfl)) _)
 rwa [List.append_nil] at this
theorem aN6 {f d:Nat} {A:List KT} (hA:aDh f d A):aAt f d A:=by
 have:=aKc hA aGw aKd
 rwa [List.append_nil] at this
theorem aN7 {f d:Nat} {g:List UInt8} (hg:g=[43]∨g=[45]) {A B:List KT} (hA:aDh f d A) (hB:aDh f d B):aAt f d (A++(2,g)::B):=by
 have:=aKc hA (aDi hg hB aGw aKd) (aN5 hg _)
 rwa [List.append_nil] at this
theorem aMx {g:List UInt8} (h:isOp g):(g=[43]∨g=[45])∨g=[38]:=by
 rcases h with h | h | h
 ·exact .inl (.inl h)
 ·exact .inl (.inr h)
 ·exact .inr h
theorem b5h {f d:Nat} {g:List UInt8} (hg:isOp g) {A B:List KT} (hA:a05 f d A) (hB:a05 f d B):aAt f d (A++(2,g)::B):=by
 rcases aMx hg with h | rfl
 ·exact aN7 h (a52 hA) (a52 hB)
 ·exact aN6 (aIa hA hB)
theorem aLd {f d:Nat} {g h:List UInt8} (hg:isOp g) (hh:isOp h) {A B C:List KT} (hA:a05 f d A) (hB:a05 f d B) (hC:a05 f d C):aAt f d (A++(2,g)::(B++(2,h)::C)):=by
 rcases aMx hg with h1 | rfl
 ·rcases aMx hh with h2 | rfl
  ·have:=aKc (a52 hA) (aDi h1 (a52 hB) (aDi h2 (a52 hC) aGw aKd) (aN5 h2 _)) (aN5 h1 _)
   rwa [List.append_nil] at this
  ·exact aN7 h1 (a52 hA) (aIa hB hC)
 ·rcases aMx hh with h2 | rfl
  ·have:=aN7 h2 (aIa hA hB) (a52 hC)
   simpa only [List.append_assoc,List.cons_append] using this
  ·have:=aGv hA (aDg hB (aDg hC aGt aN4) (aVc (.inr (.inr rfl)) _)) (aVc (.inr (.inr rfl)) _)
   rw [List.append_nil] at this
   exact aN6 this
theorem a06 {f d:Nat} (n:Int):a05 (f+1) d (iX (oQ n)):=by
 have h:=oM n
 generalize oQ n=w at h
 simp only [rF,List.mem_cons,List.not_mem_nil,or_false] at h
 rcases h with rfl | rfl | rfl | rfl | rfl | rfl | rfl | rfl
 ·exact a16 (w:=[114]) (by kernel_rfl)
 ·exact a16 (w:=[115]) (by kernel_rfl)
 ·exact a16 (w:=[114]) (by kernel_rfl)
 ·exact a16 (w:=[115]) (by kernel_rfl)
 ·exact aLc (w:=[115]) (v:=[114]) (by kernel_rfl) (by kernel_rfl)
 ·exact aLc (w:=[115]) (v:=[112]) (by kernel_rfl) (by kernel_rfl)
 ·exact a16 (w:=[112]) (by kernel_rfl)
 ·exact a16 (w:=[113]) (by kernel_rfl)
theorem b9j (n:Int):∃ g,isOp g∧iX (aDb n)=[(2,g)]:=by
 have h:=aGs n
 generalize aDb n=w at h
 simp only [a60,List.mem_cons,List.not_mem_nil,or_false] at h
 rcases h with rfl | rfl | rfl | rfl
 ·exact ⟨[43],.inl rfl,by kernel_rfl⟩
 ·exact ⟨[38],.inr (.inr rfl),by kernel_rfl⟩
 ·exact ⟨[45],.inr (.inl rfl),by kernel_rfl⟩
 ·exact ⟨[43],.inl rfl,by kernel_rfl⟩
theorem b9k (n:Int):if decide ((((iR n 13) % 4).toNat:Int)=3)=true then iX (aAp n)=[(2,[45]),(2,[40])] else ∃ g,isOp g∧iX (aAp n)=[(2,g)]:=by
 unfold aAp
 have h:=m4 (iR n 13)
 generalize ((iR n 13) % 4).toNat=k at h
 match k,h with
 | 0,_=>exact ⟨[43],.inl rfl,by kernel_rfl⟩
 | 1,_=>exact ⟨[38],.inr (.inr rfl),by kernel_rfl⟩
 | 2,_=>exact ⟨[45],.inr (.inl rfl),by kernel_rfl⟩
 | 3,_=>show iX [32,45,32,40]=_; kernel_rfl
theorem aN8 (n:Int):aAt 21 0 (aKb n):=by
 obtain ⟨g,hg,e1⟩:=b9j n
 unfold aKb aDe
 rw [e1]
 by_cases hb:a5x n 12=true
 ·rw [if_pos hb]
  have h2:=b9k n
  by_cases h3:decide ((((iR n 13) % 4).toNat:Int)=3)=true
  ·rw [if_pos h3] at h2
   rw [if_pos h3,h2]
   have hp:=aYt (f:=20) (d:=0) (by omega) (aN6 (aIa (a06 (f:=19) (d:=0+1) (iR n 16)) (a06 (iR n 20))))
   have:=aLd hg (.inr (.inl rfl)) (a06 (f:=20) (d:=0) n) (a06 (iR n 8)) hp
   simpa only [List.append_assoc,List.cons_append,List.nil_append] using this
  ·rw [if_neg h3] at h2
   obtain ⟨h,hh,e2⟩:=h2
   rw [if_neg h3,e2]
   have:=aLd hg hh (a06 (f:=20) (d:=0) n) (a06 (iR n 8)) (a06 (iR n 16))
   simpa only [List.append_assoc,List.cons_append,List.nil_append,List.append_nil] using this
 ·rw [if_neg hb]
  have:=b5h hg (a06 (f:=20) (d:=0) n) (a06 (iR n 8))
  simpa only [List.append_assoc,List.cons_append,List.nil_append,List.append_nil] using this
end Go.Fbs

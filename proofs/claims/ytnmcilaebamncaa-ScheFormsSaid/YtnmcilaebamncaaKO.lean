/- Tokens of a schema made of numbers. -/
import Derived.Test.YtnmcilaebamncaaKN
set_option linter.unusedVariables false
set_option linter.unusedSimpArgs false
set_option linter.unusedSectionVars false
set_option maxRecDepth 100000
namespace Go.Fbs
open Go.Proofs
abbrev KT:=Int×List UInt8
theorem Pc.cast {w w':List UInt8} {ks ks':List KT} (h:Pc w ks) (e:w=w') (g:ks=ks'):Pc w' ks':=by subst e; subst g; exact h
def a4r (A B:List (List UInt8)):Bool:=A.all fun a=>B.all fun b=>pcB (a++b) && (iX (a++b) == iX a++iX b)
theorem yP {A B:List (List UInt8)} (h:a4r A B=true) {a b:List UInt8} (ha:a ∈ A) (hb:b ∈ B):Pc (a++b) (iX a++iX b):=by
 have:=List.all_eq_true.1 (List.all_eq_true.1 h a ha) b hb
 simp only [Bool.and_eq_true,beq_iff_eq] at this
 rw [← this.2]
 exact Pc.of this.1
theorem a50 {l:List (List UInt8)} {k:Nat} (h:k < l.length):l.getD k [] ∈ l:=by
 rw [List.getD_eq_getElem?_getD,List.getElem?_eq_getElem h]; exact List.getElem_mem h
theorem aAr (n:Int):a02 n ∈ aAk:=a50 (Nat.mod_lt _ (by decide))
theorem oM (n:Int):oQ n ∈ rF:=a50 (m8 n)
theorem aYo (n:Int):sT n ∈ ssT:=a50 (Nat.mod_lt _ (by decide))
theorem aGs (n:Int):aDb n ∈ a60:=a50 (m4 _)
theorem aN2 (n:Int):aAp n ∈ aAl:=a50 (m4 _)
theorem bC3:a4r aAk [[32,124,32]]=true:=by kernel_rfl
theorem b36:a4r aAk [[59,32,115,58,32]]=true:=by kernel_rfl
theorem pS:a4r ssT [[59]]=true:=by kernel_rfl
theorem pN1:a4r rF a60=true:=by kernel_rfl
theorem pN2:a4r rF aAl=true:=by kernel_rfl
theorem pN3:a4r rF [[59]]=true:=by kernel_rfl
theorem pN4:a4r rF [[32,38,32]]=true:=by kernel_rfl
theorem pN5:a4r rF [[41,59]]=true:=by kernel_rfl
theorem bEj:iX [32,124,32]=[(2,[124])]:=by kernel_rfl
theorem kSS:iX [59,32,115,58,32]=[(2,[59]),(1,[115]),(2,[58])]:=by kernel_rfl
theorem aVa:iX [59]=[(2,[59])]:=by kernel_rfl
theorem bEk:iX [32,38,32]=[(2,[38])]:=by kernel_rfl
theorem bEl:iX [41,59]=[(2,[41]),(2,[59])]:=by kernel_rfl
def aE4 (n:Int):List KT:=iX (a02 n)++(if a5x n 8 then (2,[124])::iX (a02 (iR n 9)) else [])
def aDe (n:Int):List KT:=if a5x n 12 then iX (aAp n)++iX (oQ (iR n 16))++(if decide ((((iR n 13) % 4).toNat:Int)=3) then (2,[38])::iX (oQ (iR n 20))++[(2,[41])] else []) else []
def aKb (n:Int):List KT:=iX (oQ n)++iX (aDb n)++iX (oQ (iR n 8))++aDe n
def a2y (j:Nat) (n:Int):List KT:=[(1,pqT.getD j []),(2,[61])]++aKb n++[(2,[59])]
def aE5 (l:List Int) (i:Nat):List KT :=
 [(1,[116,121,112,101]),(1,abT.getD i []),(2,[123]),(1,[114]),(2,[58])]++aE4 (kM l (3*i))++[(2,[59]),(1,[115]),(2,[58])]++iX (sT (kM l (3*i)))++[(2,[59])]++a2y 0 (kM l (3*i+1))++a2y 1 (kM l (3*i+2))++[(2,[125])]
def aVb (l:List Int):List KT:=[(1,[116,121,112,101]),(1,[117])]++aE5 l 0++aE5 l 1
theorem b5f (n:Int):Pc (oQ (iR n 8)++a2x n++[59]) (iX (oQ (iR n 8))++aDe n++[(2,[59])]):=by
 unfold a2x aDe
 by_cases hb:a5x n 12=true
 ·rw [if_pos hb,if_pos hb]
  have h1:=yP pN2 (oM (iR n 8)) (aN2 n)
  unfold a03
  by_cases h3:decide ((((iR n 13) % 4).toNat:Int)=3)=true
  ·rw [if_pos h3,if_pos h3]
   have h2:=yP pN4 (oM (iR n 16)) (List.mem_singleton.2 rfl)
   have h4:=yP pN5 (oM (iR n 20)) (List.mem_singleton.2 rfl)
   rw [bEk] at h2
   rw [bEl] at h4
   exact ((h1.app h2).app h4).cast (by simp only [List.append_assoc,List.cons_append,List.nil_append]) (by simp only [List.append_assoc,List.cons_append,List.nil_append])
  ·rw [if_neg h3,if_neg h3]
   have h2:=yP pN3 (oM (iR n 16)) (List.mem_singleton.2 rfl)
   rw [aVa] at h2
   exact (h1.app h2).cast (by simp only [List.append_assoc,List.append_nil]) (by simp only [List.append_assoc,List.append_nil])
 ·rw [if_neg hb,if_neg hb]
  have h2:=yP pN3 (oM (iR n 8)) (List.mem_singleton.2 rfl)
  rw [aVa] at h2
  exact h2.cast (by simp only [List.append_nil]) (by simp only [List.append_nil])
theorem aS7 {j:Nat} (hj:j < 2) (n:Int):Pc (aE1 j n) (a2y j n):=by
 have h0:Pc ([32]++pqT.getD j []++[32,61,32]) [(1,pqT.getD j []),(2,[61])]:=by
  match j,hj with
  | 0,_=>exact Pc.of (w:=[32,112,32,61,32]) (by kernel_rfl)
  | 1,_=>exact Pc.of (w:=[32,113,32,61,32]) (by kernel_rfl)
 have h1:=yP pN1 (oM n) (aGs n)
 exact ((h0.app h1).app (b5f n)).cast (by simp only [aE1,List.append_assoc]) (by simp only [a2y,aKb,List.append_assoc])
theorem aS8 (l:List Int) {i:Nat} (hi:i < 2):Pc (aE2 l i) (aE5 l i):=by
 have h0:Pc ([116,121,112,101,32]++abT.getD i []++[32,123,32,114,58,32]) [(1,[116,121,112,101]),(1,abT.getD i []),(2,[123]),(1,[114]),(2,[58])]:=by
  match i,hi with
  | 0,_=>exact Pc.of (w:=[116,121,112,101,32,97,32,123,32,114,58,32]) (by kernel_rfl)
  | 1,_=>exact Pc.of (w:=[116,121,112,101,32,98,32,123,32,114,58,32]) (by kernel_rfl)
 have h1:Pc (a02 (kM l (3*i))++a5y (kM l (3*i))++[59,32,115,58,32]) (aE4 (kM l (3*i))++[(2,[59]),(1,[115]),(2,[58])]):=by
  unfold a5y aE4
  by_cases hb:a5x (kM l (3*i)) 8=true
  ·rw [if_pos hb,if_pos hb]
   have g1:=yP bC3 (aAr (kM l (3*i))) (List.mem_singleton.2 rfl)
   have g2:=yP b36 (aAr (iR (kM l (3*i)) 9)) (List.mem_singleton.2 rfl)
   rw [bEj] at g1
   rw [kSS] at g2
   exact (g1.app g2).cast (by simp only [List.append_assoc,List.cons_append,List.nil_append]) (by simp only [List.append_assoc,List.cons_append,List.nil_append])
  ·rw [if_neg hb,if_neg hb]
   have g2:=yP b36 (aAr (kM l (3*i))) (List.mem_singleton.2 rfl)
   rw [kSS] at g2
   exact g2.cast (by simp only [List.append_nil]) (by simp only [List.append_nil])
 have h2:=yP pS (aYo (kM l (3*i))) (List.mem_singleton.2 rfl)
 rw [aVa] at h2
 have h3:Pc [32,125,10] [(2,[125])]:=Pc.of (w:=[32,125,10]) (by kernel_rfl)
 exact (((((h0.app h1).app h2).app (aS7 (j:=0) (by omega) (kM l (3*i+1)))).app (aS7 (j:=1) (by omega) (kM l (3*i+2)))).app h3).cast
  (by simp only [aE2,a62,a04,List.append_assoc,List.nil_append,Nat.add_zero,Nat.add_assoc]) (by simp only [aE5,List.append_assoc])
theorem b5g (l:List Int):Pc (mP l) (aVb l):=by
 have h0:Pc [116,121,112,101,32,117,10] [(1,[116,121,112,101]),(1,[117])]:=Pc.of (w:=[116,121,112,101,32,117,10]) (by kernel_rfl)
 exact ((h0.app (aS8 l (i:=0) (by omega))).app (aS8 l (i:=1) (by omega))).cast rfl rfl
end Go.Fbs

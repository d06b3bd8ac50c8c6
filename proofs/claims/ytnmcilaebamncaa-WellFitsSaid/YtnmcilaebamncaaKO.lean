/- Tokens of a schema made of numbers. -/
import Derived.Test.YtnmcilaebamncaaKN
set_option maxRecDepth 100000
namespace Go.Fbs
open Go.Proofs
abbrev KT:=Int×List UInt8
theorem Pc.cast {w w':List UInt8} {ks ks':List KT} (h:Pc w ks) (e:w=w') (g:ks=ks'):Pc w' ks':=by subst e; subst g; exact h
def a42 (A B:List (List UInt8)):Bool:=A.all fun a=>B.all fun b=>pcB (a++b) && (fV (a++b) == fV a++fV b)
theorem yK {A B:List (List UInt8)} (h:a42 A B=true) {a b:List UInt8} (ha:a ∈ A) (hb:b ∈ B):Pc (a++b) (fV a++fV b):=by
 have:=List.all_eq_true.1 (List.all_eq_true.1 h a ha) b hb
 simp only [zxz,beq_iff_eq] at this
 rw [← this.2]
 exact Pc.of this.1
theorem a6c {l:List (List UInt8)} {k:Nat} (h:k < l.length):l.getD k [] ∈ l:=by
 rw [List.getD_eq_getElem?_getD,zyz h]; exact List.getElem_mem h
theorem aBj (n:Int):a04 n ∈ aBb:=a6c (Nat.mod_lt _ (by decide))
theorem mG (n:Int):mN n ∈ qG:=a6c (m8 n)
theorem b2a (n:Int):sT n ∈ ssT:=a6c (Nat.mod_lt _ (by decide))
theorem aIw (n:Int):aEv n ∈ a7e:=a6c (m4 _)
theorem aS7 (n:Int):aBg n ∈ aBc:=a6c (m4 _)
theorem bFb:a42 aBb [[32,124,32]]=true:=by kernel_rfl
theorem b7d:a42 aBb [[59,32,115,58,32]]=true:=by kernel_rfl
theorem pS:a42 ssT [[59]]=true:=by kernel_rfl
theorem pN1:a42 qG a7e=true:=by kernel_rfl
theorem pN2:a42 qG aBc=true:=by kernel_rfl
theorem pN3:a42 qG [[59]]=true:=by kernel_rfl
theorem pN4:a42 qG [[32,38,32]]=true:=by kernel_rfl
theorem pN5:a42 qG [[41,59]]=true:=by kernel_rfl
theorem bHs:fV [32,124,32]=[(2,[124])]:=by kernel_rfl
theorem kSS:fV [59,32,115,58,32]=[(2,[59]),(1,[115]),(2,[58])]:=by kernel_rfl
theorem aZn:fV [59]=[(2,[59])]:=by kernel_rfl
theorem bHt:fV [32,38,32]=[(2,[38])]:=by kernel_rfl
theorem bHu:fV [41,59]=[(2,[41]),(2,[59])]:=by kernel_rfl
def aGf (n:Int):List KT:=fV (a04 n)++(if a6a n 8 then (2,[124])::fV (a04 (fU n 9)) else [])
def aEy (n:Int):List KT:=if a6a n 12 then fV (aBg n)++fV (mN (fU n 16))++(if decide ((((fU n 13) % 4).toNat:Int)=3) then (2,[38])::fV (mN (fU n 20))++[(2,[41])] else []) else []
def aMr (n:Int):List KT:=fV (mN n)++fV (aEv n)++fV (mN (fU n 8))++aEy n
def a2o (j:Nat) (n:Int):List KT:=[(1,pqT.getD j []),(2,[61])]++aMr n++[(2,[59])]
def aGg (l:List Int) (i:Nat):List KT :=
 [(1,[116,121,112,101]),(1,abT.getD i []),(2,[123]),(1,[114]),(2,[58])]++aGf (jE l (3*i))++[(2,[59]),(1,[115]),(2,[58])]++fV (sT (jE l (3*i)))++[(2,[59])]++a2o 0 (jE l (3*i+1))++a2o 1 (jE l (3*i+2))++[(2,[125])]
def aZo (l:List Int):List KT:=[(1,[116,121,112,101]),(1,[117])]++aGg l 0++aGg l 1
theorem b9z (n:Int):Pc (mN (fU n 8)++a2n n++[59]) (fV (mN (fU n 8))++aEy n++[(2,[59])]):=by
 unfold a2n aEy
 by_cases hb:a6a n 12=true
 ·rw [if_pos hb,if_pos hb]
  have h1:=yK pN2 (mG (fU n 8)) (aS7 n)
  unfold a05
  by_cases h3:decide ((((fU n 13) % 4).toNat:Int)=3)=true
  ·rw [if_pos h3,if_pos h3]
   have h2:=yK pN4 (mG (fU n 16)) (List.mem_singleton.2 rfl)
   have h4:=yK pN5 (mG (fU n 20)) (List.mem_singleton.2 rfl)
   rw [bHt] at h2
   rw [bHu] at h4
   exact ((h1.app h2).app h4).cast (by simp only [List.append_assoc,List.cons_append,List.nil_append]) (by simp only [List.append_assoc,List.cons_append,List.nil_append])
  ·rw [if_neg h3,if_neg h3]
   have h2:=yK pN3 (mG (fU n 16)) (List.mem_singleton.2 rfl)
   rw [aZn] at h2
   exact (h1.app h2).cast (by simp only [List.append_assoc,List.append_nil]) (by simp only [List.append_assoc,List.append_nil])
 ·rw [if_neg hb,if_neg hb]
  have h2:=yK pN3 (mG (fU n 8)) (List.mem_singleton.2 rfl)
  rw [aZn] at h2
  exact h2.cast (by simp only [List.append_nil]) (by simp only [List.append_nil])
theorem aWf {j:Nat} (hj:j < 2) (n:Int):Pc (aGc j n) (a2o j n):=by
 have h0:Pc ([32]++pqT.getD j []++[32,61,32]) [(1,pqT.getD j []),(2,[61])]:=by
  match j,hj with
  | 0,_=>exact Pc.of (w:=[32,112,32,61,32]) (by kernel_rfl)
  | 1,_=>exact Pc.of (w:=[32,113,32,61,32]) (by kernel_rfl)
 have h1:=yK pN1 (mG n) (aIw n)
 exact ((h0.app h1).app (b9z n)).cast (by simp only [aGc,List.append_assoc]) (by simp only [a2o,aMr,List.append_assoc])
theorem aWg (l:List Int) {i:Nat} (hi:i < 2):Pc (aGd l i) (aGg l i):=by
 have h0:Pc ([116,121,112,101,32]++abT.getD i []++[32,123,32,114,58,32]) [(1,[116,121,112,101]),(1,abT.getD i []),(2,[123]),(1,[114]),(2,[58])]:=by
  match i,hi with
  | 0,_=>exact Pc.of (w:=[116,121,112,101,32,97,32,123,32,114,58,32]) (by kernel_rfl)
  | 1,_=>exact Pc.of (w:=[116,121,112,101,32,98,32,123,32,114,58,32]) (by kernel_rfl)
 have h1:Pc (a04 (jE l (3*i))++a6b (jE l (3*i))++[59,32,115,58,32]) (aGf (jE l (3*i))++[(2,[59]),(1,[115]),(2,[58])]):=by
  unfold a6b aGf
  by_cases hb:a6a (jE l (3*i)) 8=true
  ·rw [if_pos hb,if_pos hb]
   have g1:=yK bFb (aBj (jE l (3*i))) (List.mem_singleton.2 rfl)
   have g2:=yK b7d (aBj (fU (jE l (3*i)) 9)) (List.mem_singleton.2 rfl)
   rw [bHs] at g1
   rw [kSS] at g2
   exact (g1.app g2).cast (by simp only [List.append_assoc,List.cons_append,List.nil_append]) (by simp only [List.append_assoc,List.cons_append,List.nil_append])
  ·rw [if_neg hb,if_neg hb]
   have g2:=yK b7d (aBj (jE l (3*i))) (List.mem_singleton.2 rfl)
   rw [kSS] at g2
   exact g2.cast (by simp only [List.append_nil]) (by simp only [List.append_nil])
 have h2:=yK pS (b2a (jE l (3*i))) (List.mem_singleton.2 rfl)
 rw [aZn] at h2
 have h3:Pc [32,125,10] [(2,[125])]:=Pc.of (w:=[32,125,10]) (by kernel_rfl)
 exact (((((h0.app h1).app h2).app (aWf (j:=0) (by omega) (jE l (3*i+1)))).app (aWf (j:=1) (by omega) (jE l (3*i+2)))).app h3).cast
  (by simp only [aGd,a7g,a06,List.append_assoc,List.nil_append,Nat.add_zero,Nat.add_assoc]) (by simp only [aGg,List.append_assoc])
theorem b90 (l:List Int):Pc (a07 l) (aZo l):=by
 have h0:Pc [116,121,112,101,32,117,10] [(1,[116,121,112,101]),(1,[117])]:=Pc.of (w:=[116,121,112,101,32,117,10]) (by kernel_rfl)
 exact ((h0.app (aWg l (i:=0) (by omega))).app (aWg l (i:=1) (by omega))).cast rfl rfl
end Go.Fbs

/- Schemas made of numbers: Made. -/
import Derived.Test.YtnmcilaebamncaaKL
set_option maxRecDepth 100000
namespace Go.Fbs
open Go.Proofs
attribute [local irreducible] cN bX opt
def abT:List (List UInt8):=[[97],[98]]
def pqT:List (List UInt8):=[[112],[113]]
def a6a (n:Int) (k:Nat):Bool:=decide ((((fU n k) % 2).toNat:Int)=1)
def a6b (n:Int):List UInt8:=if a6a n 8 then [32,124,32]++a04 (fU n 9) else []
def sT (n:Int):List UInt8:=ssT.getD (((fU n 20) % 256).toNat % 4) []
def aEv (n:Int):List UInt8:=a7e.getD ((fU n 4) % 4).toNat []
def aBg (n:Int):List UInt8:=aBc.getD ((fU n 13) % 4).toNat []
def a05 (n:Int):List UInt8:=if decide ((((fU n 13) % 4).toNat:Int)=3) then [32,38,32]++mN (fU n 20)++[41] else []
def a2n (n:Int):List UInt8:=if a6a n 12 then aBg n++mN (fU n 16)++a05 n else []
def aGc (j:Nat) (n:Int):List UInt8:=[32]++pqT.getD j []++[32,61,32]++mN n++aEv n++mN (fU n 8)++a2n n++[59]
def a06 (l:List Int) (i:Nat):Nat→List UInt8
 | 0=>[]
 | j+1=>a06 l i j++aGc j (jE l (3*i+1+j))
def a7g (l:List Int) (i:Nat):List UInt8:=[116,121,112,101,32]++abT.getD i []++[32,123,32,114,58,32]++a04 (jE l (3*i))++a6b (jE l (3*i))++[59,32,115,58,32]++sT (jE l (3*i))++[59]
def aGd (l:List Int) (i:Nat):List UInt8:=a7g l i++a06 l i 2++[32,125,10]
def upT (l:List Int):Nat→List UInt8
 | 0=>[116,121,112,101,32,117,10]
 | i+1=>upT l i++aGd l i
def a07 (l:List Int):List UInt8:=upT l 2
theorem a13 {l:List (List UInt8)} {m:Nat} (h:∀ x ∈ l,x.length≤m) (k:Nat):(l.getD k []).length≤m:=by
 rw [List.getD_eq_getElem?_getD]
 cases e : l[k]? with
 | none=>simp
 | some x=>exact h x (zyx e)
theorem aGe (n:Int):(a04 n).length≤3:=a13 (by decide) _
theorem wV (n:Int):(mN n).length≤4:=a13 (by decide) _
theorem b7a (n:Int):(sT n).length≤5:=a13 (by decide) _
theorem aV9 (n:Int):(aEv n).length≤3:=a13 (by decide) _
theorem aWa (n:Int):(aBg n).length≤4:=a13 (by decide) _
theorem aWb (n:Int):(a6b n).length≤6:=by
 have:=aGe (fU n 9)
 unfold a6b; split <;> simp <;> omega
theorem b13 (n:Int):(a05 n).length≤8:=by
 have:=wV (fU n 20)
 unfold a05; split <;> simp <;> omega
theorem aS3 (n:Int):(a2n n).length≤16:=by
 have:=wV (fU n 16)
 have:=aWa n
 have:=b13 n
 unfold a2n; split <;> simp <;> omega
theorem b14 (n:Nat):(pqT.getD n []).length≤1:=a13 (by decide) _
theorem b15 (n:Nat):(abT.getD n []).length≤1:=a13 (by decide) _
theorem b5x (j:Nat) (n:Int):(aGc j n).length≤33:=by
 have:=wV n
 have:=wV (fU n 8)
 have:=aV9 n
 have:=aS3 n
 have:=b14 j
 simp only [aGc,zwy,zwx,List.length_nil]; omega
theorem aEw (l:List Int) (i:Nat):∀ j,(a06 l i j).length≤33*j
 | 0=>zxy _
 | j+1=>by
  have:=aEw l i j
  have:=b5x j (jE l (3*i+1+j))
  simp only [a06,zwy]; omega
theorem aS4 (l:List Int) (i:Nat):(a7g l i).length≤32:=by
 have:=aGe (jE l (3*i))
 have:=aWb (jE l (3*i))
 have:=b7a (jE l (3*i))
 have:=b15 i
 simp only [a7g,zwy,zwx,List.length_nil]; omega
theorem b5y (l:List Int) (i:Nat):(aGd l i).length≤101:=by
 have:=aS4 l i
 have:=aEw l i 2
 simp only [aGd,zwy,zwx,List.length_nil]; omega
theorem aK9 (l:List Int):∀ i,(upT l i).length≤101*i+7
 | 0=>by simp [upT]
 | i+1=>by
  have:=aK9 l i
  have:=b5y l i
  simp only [upT,zwy]; omega
noncomputable def sD:Spec:=iA (fun l:List Int=>[hU l]) (fun _=>True) (fun l=>.str (a07 l))
theorem bE5 (l:List Int):sD [hU l]=some (.str (a07 l)):=gV (fun a b h=>aEt (by simpa using h)) trivial
theorem b5z {a b:Nat} (h:a+b < 1000):aB .add (vI (a:Nat)) (vI (b:Nat))=some (vI ((a+b:Nat):Int)):=by
 rw [aEc,iR (by omega) (by omega)]; rfl
theorem b50 {a:Nat} (h:a < 900):aB .add (vI (a:Nat)) (.int .i64 1)=some (vI ((a+1:Nat):Int)):=b5z (b:=1) (by omega)
theorem bHr {a:Nat} (h:a < 900):aB .add (vI (a:Nat)) (.int .i64 3)=some (vI ((a+3:Nat):Int)):=b5z (b:=3) (by omega)
theorem bE6:hG 1 [(.str [97]),(.str [98])]=some (a7f abT):=by kernel_rfl
theorem bE7:hG 1 [(.str [112]),(.str [113])]=some (a7f pqT):=by kernel_rfl
theorem bE8:hG 1 [(.str [97]),(.str [98]),(.str [97,32,124,32,98]),(.str [117,32,124,32,97])]=some (a7f ssT):=by kernel_rfl
theorem bE9:hG 1 [(.str [32,43,32]),(.str [32,38,32]),(.str [32,45,32]),(.str [32,43,32])]=some (a7f a7e):=by kernel_rfl
theorem bFa:hG 1 [(.str [32,43,32]),(.str [32,38,32]),(.str [32,45,32]),(.str [32,45,32,40])]=some (a7f aBc):=by kernel_rfl
noncomputable abbrev TM1:List (FuncId×Spec):=[(j8,oG),(uQ,uX),(uR,uY)]
theorem aWc (n:Int):uE (bL TM1) (.func 18 []) [vI n]=some (.str (a04 n)):=nr rfl
theorem aBh (n:Int):uE (bL TM1) (.func 19 []) [vI n]=some (.str (mN n)):=nr rfl
theorem ag1 (l:List Int):aI [hU l]=some (.agg [hU l]):=nr rfl
theorem aS5 (l:List Int):bD 1 (.agg [hU l])=some (.agg [hU l]):=nr rfl
theorem cA1 (l:List Int):a7 (.agg [hU l]) 0=hU l:=nr rfl
theorem b9w (l:List Int):iJ (hU l)=some (hU l):=nr rfl
theorem bS {s u:List UInt8} (h:s.length+u.length≤2000):aB .add (.str s) (.str u)=some (.str (s++u)):=bEf s u (by omega)
theorem bCk {i:Nat} : aB .lss (vI (i:Nat)) (.int .i64 2)=some (.bool (decide (i < 2))):=by
 rw [a5z]
 have:decide ((i:Int) < 2)=decide (i < 2):=by
  by_cases h:i < 2
  ·simp [h]; omega
  ·simp [h]; omega
 rw [this]
theorem bCl (n:Int) (k:Nat):aB .eql (vI (((fU n k) % 2).toNat:Nat)) (.int .i64 1)=some (.bool (a6a n k)):=wN _ _ _
theorem bCm (l:List Int):aI [a7 (.agg [hU l]) 0]=some (.agg [hU l]):=nr rfl
theorem jn {k:List V→Prop} {b:(List V→Prop)→Prop} (X:List V) (h:∀ r:List V→Prop,r X→b r) (hk:k X):nX k b:=h k hk
theorem b9x (l:List Int):bX (bO.dy [25,30,39,48,62]) (bL TM1) 128 rZ [.tmp 2] (cB Try.f7) [hU l] (fun r=>r = .str (a07 l)):=by
 have c1:∀ args,bL TM1 j8 args=oG args:=fun _=>rfl
 refine Eq.mpr (aGu (bL _) _ (hU l)) ?_
 simp only [b9w,aA]
 refine fK (fun vs=>∃ i,i≤2∧vs=[.str (upT l i),vI ((3*i:Nat):Int),vI (i:Nat),.func 19 [],.func 18 [],hU l]) (fun vs=>2 - fN (gv vs 2)) ⟨0,by omega,rfl⟩ ?_
 rintro r _ ⟨i,hi,rfl⟩ hr
 refine ⟨rfl,?_⟩
 simp only [lY,n9,bCk,aA,bY]
 by_cases h:i < 2
 ·have hu:=aK9 l i
  have hab:=b15 i
  have hA:=aGe (jE l (3*i))
  have hB:=aWb (jE l (3*i))
  have hB':=aGe (fU (jE l (3*i)) 9)
  have hC:=b7a (jE l (3*i))
  simp only [h,decide_true,if_true,bE6,aA,aBd (show i < abT.length from h)]
  rw [bS (by simp only [zwx,List.length_nil]; omega),aA]
  rw [bS (by simp only [zwy,zwx,List.length_nil]; omega),aA]
  rw [bS (by simp only [zwy,zwx,List.length_nil]; omega),aA]
  rw [ag1,aA,c1,aEu,aA,x0,aA,x1,aA,aS5,aA,aWc,aA]
  rw [bS (by simp only [zwy,zwx,List.length_nil]; omega),aA]
  rw [bCm,aA,c1,aEu,aA,x0,aA,x1,aA,aS5,aA,b68,aA,b67,aA,bCl,aA]
  refine jn (X:=[.str (upT l i++[116,121,112,101,32]++abT.getD i []++[32,123,32,114,58,32]++a04 (jE l (3*i))++a6b (jE l (3*i))),hU l]) ?_ ?_
  ·intro r1 h1
   rw [bY]
   by_cases hb:a6a (jE l (3*i)) 8=true
   ·rw [if_pos hb]
    rw [bS (by simp only [zwy,zwx,List.length_nil]; omega),aA]
    rw [bCm,aA,c1,aEu,aA,x0,aA,x1,aA,aS5,aA,bE2,aA,aWc,aA]
    rw [bS (by simp only [zwy,zwx,List.length_nil]; omega),aA]
    rw [show a6b (jE l (3*i))=[32,124,32]++a04 (fU (jE l (3*i)) 9) by unfold a6b; rw [if_pos hb]] at h1
    simpa only [List.append_assoc,cA1] using h1
   ·rw [if_neg hb]
    rw [show a6b (jE l (3*i))=[] by unfold a6b; rw [if_neg hb]] at h1
    simpa only [List.append_nil,cA1] using h1
  ·simp only [lY,n9]
   refine ⟨rfl,?_⟩
   rw [bS (by simp only [zwy,zwx,List.length_nil]; omega),aA,bE8,aA]
   rw [ag1,aA,c1,aEu,aA,x0,aA,x1,aA,aS5,aA,b12,aA,aV8,aA,bE4,aA]
   rw [aBd (show ((fU (jE l (3*i)) 20) % 256).toNat % 4 < ssT.length from Nat.mod_lt _ (by decide)),aA]
   rw [bS (by have:(ssT.getD (((fU (jE l (3*i)) 20) % 256).toNat % 4) []).length≤5:=hC; simp only [zwy,zwx,List.length_nil]; omega),aA]
   rw [bS (by have:(ssT.getD (((fU (jE l (3*i)) 20) % 256).toNat % 4) []).length≤5:=hC; simp only [zwy,zwx,List.length_nil]; omega),aA]
   have hH:upT l i++[116,121,112,101,32]++abT.getD i []++[32,123,32,114,58,32]++a04 (jE l (3*i))++a6b (jE l (3*i))++[59,32,115,58,32]++ssT.getD (((fU (jE l (3*i)) 20) % 256).toNat % 4) []++[59]=upT l i++a7g l i:=by
    simp only [a7g,sT,List.append_assoc]
   rw [hH,cA1]
   refine fK (fun vs=>∃ j,j≤2∧vs=[.str (upT l i++a7g l i++a06 l i j),vI (j:Nat),hU l]) (fun vs=>2 - fN (gv vs 1)) ⟨0,by omega,by simp only [a06,List.append_nil]; rfl⟩ ?_
   rintro r2 _ ⟨j,hj,rfl⟩ hr2
   refine ⟨rfl,?_⟩
   simp only [lY,n9]
   rw [bCk,aA,bY]
   have hhd:=aS4 l i
   have hex:=aEw l i j
   by_cases hj2:j < 2
   ·rw [if_pos (by simpa using hj2)]
    rw [b50 (by omega),aA,b5z (by omega),aA,ag1,aA,c1,aEu,aA,x0,aA,x1,aA,aS5,aA]
    obtain ⟨n,hn⟩:∃ n,n=jE l (3*i+1+j):=⟨_,rfl⟩
    rw [← hn]
    have q1:=wV n
    have q2:=wV (fU n 8)
    have q3:=aV9 n
    have q4:=aS3 n
    have q5:=b14 j
    have q6:=wV (fU n 16)
    have q7:=wV (fU n 20)
    have q8:=aWa n
    rw [bS (by simp only [zwy,zwx,List.length_nil]; omega),aA,bE7,aA,aBd (show j < pqT.length from hj2),aA]
    rw [bS (by simp only [zwy,zwx,List.length_nil]; omega),aA]
    rw [bS (by simp only [zwy,zwx,List.length_nil]; omega),aA,aBh,aA]
    rw [bS (by simp only [zwy,zwx,List.length_nil]; omega),aA,bE9,aA,bE3,aA,aZm,aA,aBd (show ((fU n 4) % 4).toNat < a7e.length from m4 _),aA]
    rw [show a7e.getD ((fU n 4) % 4).toNat []=aEv n from rfl]
    rw [bS (by simp only [zwy,zwx,List.length_nil]; omega),aA,b68,aA,aBh,aA]
    rw [bS (by simp only [zwy,zwx,List.length_nil]; omega),aA,bCf,aA,b67,aA,bCl,aA]
    refine jn (X:=[.str (upT l i++a7g l i++a06 l i j++[32]++pqT.getD j []++[32,61,32]++mN n++aEv n++mN (fU n 8)++a2n n)]) ?_ ?_
    ·intro r3 h3
     rw [bY]
     by_cases hb:a6a n 12=true
     ·rw [if_pos hb,bFa,aA,bCg,aA,aZm,aA,aBd (show ((fU n 13) % 4).toNat < aBc.length from m4 _),aA]
      rw [show aBc.getD ((fU n 13) % 4).toNat []=aBg n from rfl]
      rw [bS (by simp only [zwy,zwx,List.length_nil]; omega),aA,bCh,aA,aBh,aA]
      rw [bS (by simp only [zwy,zwx,List.length_nil]; omega),aA,aA,aZm,aA,wN,aA,bY]
      rw [show a2n n=aBg n++mN (fU n 16)++a05 n by unfold a2n; rw [if_pos hb]] at h3
      by_cases hb3:decide ((((fU n 13) % 4).toNat:Int)=3)=true
      ·rw [if_pos hb3,bS (by simp only [zwy,zwx,List.length_nil]; omega),aA,b12,aA,aBh,aA]
       rw [bS (by simp only [zwy,zwx,List.length_nil]; omega),aA]
       rw [bS (by simp only [zwy,zwx,List.length_nil]; omega),aA]
       rw [show a05 n=[32,38,32]++mN (fU n 20)++[41] by unfold a05; rw [if_pos hb3]] at h3
       simpa only [List.append_assoc] using h3
      ·rw [if_neg hb3]
       rw [show a05 n=[] by unfold a05; rw [if_neg hb3]] at h3
       simpa only [List.append_assoc,List.append_nil] using h3
     ·rw [if_neg hb]
      rw [show a2n n=[] by unfold a2n; rw [if_neg hb]] at h3
      simpa only [List.append_assoc,List.append_nil] using h3
    ·simp only [lY]
     refine ⟨rfl,?_⟩
     rw [bS (by simp only [zwy,zwx,List.length_nil]; omega),aA,b50 (by omega),aA,cA1]
     refine hr2 _ ⟨j+1,by omega,?_⟩ (by simp only [lY,n9,fN]; omega)
     simp only [a06,aGc,← hn,List.append_assoc]
   ·have e:j=2:=by omega
    subst e
    rw [if_neg (by simp)]
    rw [bS (by simp only [zwy,zwx,List.length_nil]; omega),aA,bHr (by omega),aA,b50 (by omega),aA]
    refine hr _ ⟨i+1,by omega,?_⟩ (by simp only [lY,n9,fN]; omega)
    simp only [upT,aGd,List.append_assoc]
    rfl
 ·have e:i=2:=by omega
  subst e
  simp only [h,decide_false,Bool.false_eq_true,if_false]
  rfl
theorem aEx:dD Try.prog oZ sD:=by
 refine aEj (T:=TM1) (aL.jM a9c (aL.cons aBe (aL.cons aBf aL.nil))) fun args v hv=>?_
 obtain ⟨l,rfl,_,rfl⟩:=eR hv
 exact ⟨rfl,by simp [aO,a41],rfl,b9x l⟩
end Go.Fbs

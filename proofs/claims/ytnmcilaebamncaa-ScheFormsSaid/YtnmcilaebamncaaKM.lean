/- Schemas made of numbers: Made. -/
import Derived.Test.YtnmcilaebamncaaKL
set_option linter.unusedVariables false
set_option linter.unusedSimpArgs false
set_option linter.unusedSectionVars false
set_option maxRecDepth 100000
namespace Go.Fbs
open Go.Proofs
attribute [local irreducible] dH iL opt
def abT:List (List UInt8):=[[97],[98]]
def pqT:List (List UInt8):=[[112],[113]]
def a5x (n:Int) (k:Nat):Bool:=decide ((((iR n k) % 2).toNat:Int)=1)
def a5y (n:Int):List UInt8:=if a5x n 8 then [32,124,32]++a02 (iR n 9) else []
def sT (n:Int):List UInt8:=ssT.getD (((iR n 20) % 256).toNat % 4) []
def aDb (n:Int):List UInt8:=a60.getD ((iR n 4) % 4).toNat []
def aAp (n:Int):List UInt8:=aAl.getD ((iR n 13) % 4).toNat []
def a03 (n:Int):List UInt8:=if decide ((((iR n 13) % 4).toNat:Int)=3) then [32,38,32]++oQ (iR n 20)++[41] else []
def a2x (n:Int):List UInt8:=if a5x n 12 then aAp n++oQ (iR n 16)++a03 n else []
def aE1 (j:Nat) (n:Int):List UInt8:=[32]++pqT.getD j []++[32,61,32]++oQ n++aDb n++oQ (iR n 8)++a2x n++[59]
def a04 (l:List Int) (i:Nat):Nat→List UInt8
 | 0=>[]
 | j+1=>a04 l i j++aE1 j (kM l (3*i+1+j))
def a62 (l:List Int) (i:Nat):List UInt8:=[116,121,112,101,32]++abT.getD i []++[32,123,32,114,58,32]++a02 (kM l (3*i))++a5y (kM l (3*i))++[59,32,115,58,32]++sT (kM l (3*i))++[59]
def aE2 (l:List Int) (i:Nat):List UInt8:=a62 l i++a04 l i 2++[32,125,10]
def upT (l:List Int):Nat→List UInt8
 | 0=>[116,121,112,101,32,117,10]
 | i+1=>upT l i++aE2 l i
def mP (l:List Int):List UInt8:=upT l 2
theorem a14 {l:List (List UInt8)} {m:Nat} (h:∀ x ∈ l,x.length≤m) (k:Nat):(l.getD k []).length≤m:=by
 rw [List.getD_eq_getElem?_getD]
 cases e : l[k]? with
 | none=>simp
 | some x=>exact h x (List.mem_of_getElem? e)
theorem aE3 (n:Int):(a02 n).length≤3:=a14 (by decide) _
theorem wX (n:Int):(oQ n).length≤4:=a14 (by decide) _
theorem b33 (n:Int):(sT n).length≤5:=a14 (by decide) _
theorem aS1 (n:Int):(aDb n).length≤3:=a14 (by decide) _
theorem aS2 (n:Int):(aAp n).length≤4:=a14 (by decide) _
theorem aS3 (n:Int):(a5y n).length≤6:=by
 have:=aE3 (iR n 9)
 unfold a5y; split <;> simp <;> omega
theorem aYg (n:Int):(a03 n).length≤8:=by
 have:=wX (iR n 20)
 unfold a03; split <;> simp <;> omega
theorem aNx (n:Int):(a2x n).length≤16:=by
 have:=wX (iR n 16)
 have:=aS2 n
 have:=aYg n
 unfold a2x; split <;> simp <;> omega
theorem aYh (n:Nat):(pqT.getD n []).length≤1:=a14 (by decide) _
theorem aYi (n:Nat):(abT.getD n []).length≤1:=a14 (by decide) _
theorem b00 (j:Nat) (n:Int):(aE1 j n).length≤33:=by
 have:=wX n
 have:=wX (iR n 8)
 have:=aS1 n
 have:=aNx n
 have:=aYh j
 simp only [aE1,List.length_append,List.length_cons,List.length_nil]; omega
theorem aDc (l:List Int) (i:Nat):∀ j,(a04 l i j).length≤33*j
 | 0=>Nat.le_refl _
 | j+1=>by
  have:=aDc l i j
  have:=b00 j (kM l (3*i+1+j))
  simp only [a04,List.length_append]; omega
theorem aNy (l:List Int) (i:Nat):(a62 l i).length≤32:=by
 have:=aE3 (kM l (3*i))
 have:=aS3 (kM l (3*i))
 have:=b33 (kM l (3*i))
 have:=aYi i
 simp only [a62,List.length_append,List.length_cons,List.length_nil]; omega
theorem b01 (l:List Int) (i:Nat):(aE2 l i).length≤101:=by
 have:=aNy l i
 have:=aDc l i 2
 simp only [aE2,List.length_append,List.length_cons,List.length_nil]; omega
theorem aNz (l:List Int):∀ i,(upT l i).length≤101*i+7
 | 0=>by simp [upT]
 | i+1=>by
  have:=aNz l i
  have:=b01 l i
  simp only [upT,List.length_append]; omega
noncomputable def sU:Spec:=jJ (fun l:List Int=>[jA l]) (fun _=>True) (fun l=>.str (mP l))
theorem bCw (l:List Int):sU [jA l]=some (.str (mP l)):=hO (fun a b h=>aC9 (by simpa using h)) trivial
theorem aU9 {a b:Nat} (h:a+b < 1000):aS .add (vI (a:Nat)) (vI (b:Nat))=some (vI ((a+b:Nat):Int)):=by
 rw [fY,vQ (by omega) (by omega)]; rfl
theorem b02 {a:Nat} (h:a < 900):aS .add (vI (a:Nat)) (.int .i64 1)=some (vI ((a+1:Nat):Int)):=aU9 (b:=1) (by omega)
theorem bEi {a:Nat} (h:a < 900):aS .add (vI (a:Nat)) (.int .i64 3)=some (vI ((a+3:Nat):Int)):=aU9 (b:=3) (by omega)
theorem bCx:lG 1 [(.str [97]),(.str [98])]=some (a61 abT):=by kernel_rfl
theorem bCy:lG 1 [(.str [112]),(.str [113])]=some (a61 pqT):=by kernel_rfl
theorem bCz:lG 1 [(.str [97]),(.str [98]),(.str [97,32,124,32,98]),(.str [117,32,124,32,97])]=some (a61 ssT):=by kernel_rfl
theorem bC0:lG 1 [(.str [32,43,32]),(.str [32,38,32]),(.str [32,45,32]),(.str [32,43,32])]=some (a61 a60):=by kernel_rfl
theorem bC1:lG 1 [(.str [32,43,32]),(.str [32,38,32]),(.str [32,45,32]),(.str [32,45,32,40])]=some (a61 aAl):=by kernel_rfl
noncomputable abbrev TM1:List (FuncId×Spec):=[(kK,oR),(vU,wE),(vV,wF)]
theorem aS4 (n:Int):uX (bO TM1) (.func 18 []) [vI n]=some (.str (a02 n)):=nr rfl
theorem aAq (n:Int):uX (bO TM1) (.func 19 []) [vI n]=some (.str (oQ n)):=nr rfl
theorem ag1 (l:List Int):aE [jA l]=some (.agg [jA l]):=nr rfl
theorem aN0 (l:List Int):bP 1 (.agg [jA l])=some (.agg [jA l]):=nr rfl
theorem cA1 (l:List Int):a7 (.agg [jA l]) 0=jA l:=nr rfl
theorem b5c (l:List Int):rB (jA l)=some (jA l):=nr rfl
theorem bS {s u:List UInt8} (h:s.length+u.length≤2000):aS .add (.str s) (.str u)=some (.str (s++u)):=bC2 s u (by omega)
theorem b9f {i:Nat} : aS .lss (vI (i:Nat)) (.int .i64 2)=some (.bool (decide (i < 2))):=by
 rw [fX]
 have:decide ((i:Int) < 2)=decide (i < 2):=by
  by_cases h:i < 2
  ·simp [h]; omega
  ·simp [h]; omega
 rw [this]
theorem b9g (n:Int) (k:Nat):aS .eql (vI (((iR n k) % 2).toNat:Nat)) (.int .i64 1)=some (.bool (a5x n k)):=fL _ _ _
theorem b9h (l:List Int):aE [a7 (.agg [jA l]) 0]=some (.agg [jA l]):=nr rfl
theorem jn {k:List V→Prop} {b:(List V→Prop)→Prop} (X:List V) (h:∀ r:List V→Prop,r X→b r) (hk:k X):a0y k b:=h k hk
theorem b5d (l:List Int):iL (cG.dy [25,30,39,48,62]) (bO TM1) 128 sS [.tmp 2] (cB Try.f7) [jA l] (fun r=>r = .str (mP l)):=by
 have c1:∀ args,bO TM1 kK args=oR args:=fun _=>rfl
 refine Eq.mpr (aF1 (bO _) _ (jA l)) ?_
 simp only [b5c,aC]
 refine pM (fun vs=>∃ i,i≤2∧vs=[.str (upT l i),vI ((3*i:Nat):Int),vI (i:Nat),.func 19 [],.func 18 [],jA l]) (fun vs=>2 - a0v (gv vs 2)) ⟨0,by omega,rfl⟩ ?_
 rintro r _ ⟨i,hi,rfl⟩ hr
 refine ⟨rfl,?_⟩
 simp only [cX,dF,b9f,aC,aH]
 by_cases h:i < 2
 ·have hu:=aNz l i
  have hab:=aYi i
  have hA:=aE3 (kM l (3*i))
  have hB:=aS3 (kM l (3*i))
  have hB':=aE3 (iR (kM l (3*i)) 9)
  have hC:=b33 (kM l (3*i))
  simp only [h,decide_true,if_true,bCx,aC,aAm (show i < abT.length from h)]
  rw [bS (by simp only [List.length_cons,List.length_nil]; omega),aC]
  rw [bS (by simp only [List.length_append,List.length_cons,List.length_nil]; omega),aC]
  rw [bS (by simp only [List.length_append,List.length_cons,List.length_nil]; omega),aC]
  rw [ag1,aC,c1,aDa,aC,x0,aC,x1,aC,aN0,aC,aS4,aC]
  rw [bS (by simp only [List.length_append,List.length_cons,List.length_nil]; omega),aC]
  rw [b9h,aC,c1,aDa,aC,x0,aC,x1,aC,aN0,aC,b32,aC,b31,aC,b9g,aC]
  refine jn (X:=[.str (upT l i++[116,121,112,101,32]++abT.getD i []++[32,123,32,114,58,32]++a02 (kM l (3*i))++a5y (kM l (3*i))),jA l]) ?_ ?_
  ·intro r1 h1
   rw [aH]
   by_cases hb:a5x (kM l (3*i)) 8=true
   ·rw [if_pos hb]
    rw [bS (by simp only [List.length_append,List.length_cons,List.length_nil]; omega),aC]
    rw [b9h,aC,c1,aDa,aC,x0,aC,x1,aC,aN0,aC,bCt,aC,aS4,aC]
    rw [bS (by simp only [List.length_append,List.length_cons,List.length_nil]; omega),aC]
    rw [show a5y (kM l (3*i))=[32,124,32]++a02 (iR (kM l (3*i)) 9) by unfold a5y; rw [if_pos hb]] at h1
    simpa only [List.append_assoc,cA1] using h1
   ·rw [if_neg hb]
    rw [show a5y (kM l (3*i))=[] by unfold a5y; rw [if_neg hb]] at h1
    simpa only [List.append_nil,cA1] using h1
  ·simp only [cX,dF]
   refine ⟨rfl,?_⟩
   rw [bS (by simp only [List.length_append,List.length_cons,List.length_nil]; omega),aC,bCz,aC]
   rw [ag1,aC,c1,aDa,aC,x0,aC,x1,aC,aN0,aC,aYf,aC,aKa,aC,bCv,aC]
   rw [aAm (show ((iR (kM l (3*i)) 20) % 256).toNat % 4 < ssT.length from Nat.mod_lt _ (by decide)),aC]
   rw [bS (by have:(ssT.getD (((iR (kM l (3*i)) 20) % 256).toNat % 4) []).length≤5:=hC; simp only [List.length_append,List.length_cons,List.length_nil]; omega),aC]
   rw [bS (by have:(ssT.getD (((iR (kM l (3*i)) 20) % 256).toNat % 4) []).length≤5:=hC; simp only [List.length_append,List.length_cons,List.length_nil]; omega),aC]
   have hH:upT l i++[116,121,112,101,32]++abT.getD i []++[32,123,32,114,58,32]++a02 (kM l (3*i))++a5y (kM l (3*i))++[59,32,115,58,32]++ssT.getD (((iR (kM l (3*i)) 20) % 256).toNat % 4) []++[59]=upT l i++a62 l i:=by
    simp only [a62,sT,List.append_assoc]
   rw [hH,cA1]
   refine pM (fun vs=>∃ j,j≤2∧vs=[.str (upT l i++a62 l i++a04 l i j),vI (j:Nat),jA l]) (fun vs=>2 - a0v (gv vs 1)) ⟨0,by omega,by simp only [a04,List.append_nil]; rfl⟩ ?_
   rintro r2 _ ⟨j,hj,rfl⟩ hr2
   refine ⟨rfl,?_⟩
   simp only [cX,dF]
   rw [b9f,aC,aH]
   have hhd:=aNy l i
   have hex:=aDc l i j
   by_cases hj2:j < 2
   ·rw [if_pos (by simpa using hj2)]
    rw [b02 (by omega),aC,aU9 (by omega),aC,ag1,aC,c1,aDa,aC,x0,aC,x1,aC,aN0,aC]
    obtain ⟨n,hn⟩:∃ n,n=kM l (3*i+1+j):=⟨_,rfl⟩
    rw [← hn]
    have q1:=wX n
    have q2:=wX (iR n 8)
    have q3:=aS1 n
    have q4:=aNx n
    have q5:=aYh j
    have q6:=wX (iR n 16)
    have q7:=wX (iR n 20)
    have q8:=aS2 n
    rw [bS (by simp only [List.length_append,List.length_cons,List.length_nil]; omega),aC,bCy,aC,aAm (show j < pqT.length from hj2),aC]
    rw [bS (by simp only [List.length_append,List.length_cons,List.length_nil]; omega),aC]
    rw [bS (by simp only [List.length_append,List.length_cons,List.length_nil]; omega),aC,aAq,aC]
    rw [bS (by simp only [List.length_append,List.length_cons,List.length_nil]; omega),aC,bC0,aC,bCu,aC,aU7,aC,aAm (show ((iR n 4) % 4).toNat < a60.length from m4 _),aC]
    rw [show a60.getD ((iR n 4) % 4).toNat []=aDb n from rfl]
    rw [bS (by simp only [List.length_append,List.length_cons,List.length_nil]; omega),aC,b32,aC,aAq,aC]
    rw [bS (by simp only [List.length_append,List.length_cons,List.length_nil]; omega),aC,b9a,aC,b31,aC,b9g,aC]
    refine jn (X:=[.str (upT l i++a62 l i++a04 l i j++[32]++pqT.getD j []++[32,61,32]++oQ n++aDb n++oQ (iR n 8)++a2x n)]) ?_ ?_
    ·intro r3 h3
     rw [aH]
     by_cases hb:a5x n 12=true
     ·rw [if_pos hb,bC1,aC,b9b,aC,aU7,aC,aAm (show ((iR n 13) % 4).toNat < aAl.length from m4 _),aC]
      rw [show aAl.getD ((iR n 13) % 4).toNat []=aAp n from rfl]
      rw [bS (by simp only [List.length_append,List.length_cons,List.length_nil]; omega),aC,b9c,aC,aAq,aC]
      rw [bS (by simp only [List.length_append,List.length_cons,List.length_nil]; omega),aC,aC,aU7,aC,fL,aC,aH]
      rw [show a2x n=aAp n++oQ (iR n 16)++a03 n by unfold a2x; rw [if_pos hb]] at h3
      by_cases hb3:decide ((((iR n 13) % 4).toNat:Int)=3)=true
      ·rw [if_pos hb3,bS (by simp only [List.length_append,List.length_cons,List.length_nil]; omega),aC,aYf,aC,aAq,aC]
       rw [bS (by simp only [List.length_append,List.length_cons,List.length_nil]; omega),aC]
       rw [bS (by simp only [List.length_append,List.length_cons,List.length_nil]; omega),aC]
       rw [show a03 n=[32,38,32]++oQ (iR n 20)++[41] by unfold a03; rw [if_pos hb3]] at h3
       simpa only [List.append_assoc] using h3
      ·rw [if_neg hb3]
       rw [show a03 n=[] by unfold a03; rw [if_neg hb3]] at h3
       simpa only [List.append_assoc,List.append_nil] using h3
     ·rw [if_neg hb]
      rw [show a2x n=[] by unfold a2x; rw [if_neg hb]] at h3
      simpa only [List.append_assoc,List.append_nil] using h3
    ·simp only [cX]
     refine ⟨rfl,?_⟩
     rw [bS (by simp only [List.length_append,List.length_cons,List.length_nil]; omega),aC,b02 (by omega),aC,cA1]
     refine hr2 _ ⟨j+1,by omega,?_⟩ (by simp only [cX,dF,a0v]; omega)
     simp only [a04,aE1,← hn,List.append_assoc]
   ·have e:j=2:=by omega
    subst e
    rw [if_neg (by simp)]
    rw [bS (by simp only [List.length_append,List.length_cons,List.length_nil]; omega),aC,bEi (by omega),aC,b02 (by omega),aC]
    refine hr _ ⟨i+1,by omega,?_⟩ (by simp only [cX,dF,a0v]; omega)
    simp only [upT,aE2,List.append_assoc]
    rfl
 ·have e:i=2:=by omega
  subst e
  simp only [h,decide_false,Bool.false_eq_true,if_false]
  rfl
theorem aDd:iJ Try.prog p9 sU:=by
 refine aCw (T:=TM1) (aK.eK a9a (aK.cons aAn (aK.cons aAo aK.nil))) fun args v hv=>?_
 obtain ⟨l,rfl,_,rfl⟩:=fA hv
 exact ⟨rfl,by simp [aN,a4q],rfl,b5d l⟩
end Go.Fbs

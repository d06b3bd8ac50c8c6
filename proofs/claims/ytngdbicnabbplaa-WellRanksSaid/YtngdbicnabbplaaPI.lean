import Derived.Test.YtngdbicnabbplaaPB
set_option linter.unusedSimpArgs false
set_option linter.unusedVariables false
set_option maxRecDepth 100000
namespace Go.Fbs
open Go.Proofs
theorem aVu {a:Int} {j:Nat} (hj:j < 63) {m:Int} (hm:m=((2 ^ j - 1:Nat):Int)):aF .and (.int .i64 a) (.int .i64 m)=some (.int .i64 (((a % (2 ^ j:Nat)).toNat:Nat):Int)):=by
 rw [hm,bCn hj]
 have:0≤a % ((2 ^ j:Nat):Int):=Int.emod_nonneg _ (by have:0 < (2:Nat) ^ j:=Nat.pow_pos (by omega); omega)
 rw [Int.toNat_of_nonneg this]
theorem aHd {a:Int} {b:Nat} (hb:b≤64):aF .shr (.int .i64 a) (.int .u64 b)=some (.int .i64 (a.fdiv (2 ^ b))):=by
 have e:min (b:Int).toNat IntKind.i64.bits=b:=by
  show min (b:Int).toNat 64=b
  rw [Int.toNat_natCast]; omega
 have e2:min b IntKind.i64.bits=b:=by rw [Int.toNat_natCast] at e; exact e
 simp [aF,a32,e2]
theorem b20 (a:Int):aF .and (.int .i64 a) (.int .i64 255)=some (vI ((a % 256).toNat:Nat)):=aVu (j:=8) (by omega) rfl
theorem bL4 (a:Int):aF .and (.int .i64 a) (.int .i64 7)=some (vI ((a % 8).toNat:Nat)):=aVu (j:=3) (by omega) rfl
theorem b6d (a:Int):aF .and (.int .i64 a) (.int .i64 3)=some (vI ((a % 4).toNat:Nat)):=aVu (j:=2) (by omega) rfl
theorem bEt (a:Int):aF .and (.int .i64 a) (.int .i64 1)=some (vI ((a % 2).toNat:Nat)):=aVu (j:=1) (by omega) rfl
def jA (a:Int) (k:Nat):Int:=a.fdiv (2 ^ k)
theorem bEu (a:Int):aF .shr (.int .i64 a) (.int .u64 8)=some (vI (jA a 8)):=aHd (b:=8) (by omega)
theorem bL5 (a:Int):aF .shr (.int .i64 a) (.int .u64 9)=some (vI (jA a 9)):=aHd (b:=9) (by omega)
theorem b9u (a:Int):aF .shr (.int .i64 a) (.int .u64 20)=some (vI (jA a 20)):=aHd (b:=20) (by omega)
theorem bL6 (a:Int):aF .shr (.int .i64 a) (.int .u64 4)=some (vI (jA a 4)):=aHd (b:=4) (by omega)
theorem bJn (a:Int):aF .shr (.int .i64 a) (.int .u64 12)=some (vI (jA a 12)):=aHd (b:=12) (by omega)
theorem bJo (a:Int):aF .shr (.int .i64 a) (.int .u64 13)=some (vI (jA a 13)):=aHd (b:=13) (by omega)
theorem bJp (a:Int):aF .shr (.int .i64 a) (.int .u64 16)=some (vI (jA a 16)):=aHd (b:=16) (by omega)
theorem bEv (a:Nat) (b:Nat) (hb:0 < b):aF .rem (vI (a:Nat)) (vI (b:Nat))=some (vI ((a % b:Nat):Int)):=by
 have h:¬ (b:Int)=0:=by omega
 simp only [aF,j4,if_true]
 rw [if_neg h]
 rw [Int.ofNat_tmod]
theorem bJq (a:Nat):aF .rem (vI (a:Nat)) (.int .i64 10)=some (vI ((a % 10:Nat):Int)):=bEv a 10 (by omega)
theorem bL7 (a:Nat):aF .rem (vI (a:Nat)) (.int .i64 4)=some (vI ((a % 4:Nat):Int)):=bEv a 4 (by omega)
def aHe:List (List UInt8):=[[117],[117],[97,35,114],[98,35,114],[97,35,115],[98,35,112],[97],[98],[117],[97,35,113]]
def wV:List (List UInt8):=[[114],[115],[114],[115],[115,45,62,114],[115,45,62,112],[112],[113]]
def ssT:List (List UInt8):=[[97],[98],[97,32,124,32,98],[117,32,124,32,97]]
def aDe:List (List UInt8):=[[32,43,32],[32,38,32],[32,45,32],[32,43,32]]
def aHf:List (List UInt8):=[[32,43,32],[32,38,32],[32,45,32],[32,45,32,40]]
def aDf (l:List (List UInt8)):V:=.sl .ro (l.map V.str)
theorem aHg {l:List (List UInt8)} {k:Nat} (h:k < l.length):gN false 1 (aDf l) (vI (k:Nat))=some (.str (l.getD k [])):=by
 refine aXy ?_ rfl 1 .i64
 rw [zvz,zyz h,zry,zyz h]; rfl
def a5y (n:Int):List UInt8:=aHe.getD ((n % 256).toNat % 10) []
def sI (n:Int):List UInt8:=wV.getD (n % 8).toNat []
theorem m8 (n:Int):(n % 8).toNat < 8:=by omega
theorem m4 (n:Int):(n % 4).toNat < 4:=by omega
def a0y:Spec
 | [.int .i64 n]=>some (.str (a5y n))
 | _=>none
def a0z:Spec
 | [.int .i64 n]=>some (.str (sI n))
 | _=>none
theorem bG3:l8 1 [(.str [117]),(.str [117]),(.str [97,35,114]),(.str [98,35,114]),(.str [97,35,115]),(.str [98,35,112]),(.str [97]),(.str [98]),(.str [117]),(.str [97,35,113])]=some (aDf aHe):=by kernel_rfl
theorem bC9:l8 1 [(.str [114]),(.str [115]),(.str [114]),(.str [115]),(.str [115,45,62,114]),(.str [115,45,62,112]),(.str [112]),(.str [113])]=some (aDf wV):=by kernel_rfl
theorem aHh:cU Try.prog a0l a0y:=by
 refine aGj (T:=[]) aE.nil fun args v hv=>?_
 unfold a0y at hv
 split at hv <;> (try simp only [zzz,reduceCtorEq] at hv)
 rename_i n
 subst hv
 refine ⟨rfl,rfl,rfl,?_⟩
 refine Eq.mpr (aI0 (aM _) _ (vI n)) ?_
 simp only [bG3,aB,b20,bJq]
 rw [aHg (show (n % 256).toNat % 10 < aHe.length from Nat.mod_lt _ (by decide))]
 rfl
theorem aHi:cU Try.prog a0m a0z:=by
 refine aGk (T:=[]) aE.nil fun args v hv=>?_
 unfold a0z at hv
 split at hv <;> (try simp only [zzz,reduceCtorEq] at hv)
 rename_i n
 subst hv
 refine ⟨rfl,rfl,rfl,?_⟩
 refine Eq.mpr (aI1 (aM _) _ (vI n)) ?_
 simp only [bC9,aB,bL4]
 rw [aHg (show (n % 8).toNat < wV.length from m8 n)]
 rfl
def kQ (l:List Int):V:=.sl .ro (l.map (V.int .i64))
def lP (l:List Int) (k:Nat):Int:=l.getD k 0
theorem aLg {a b:List Int} (h:kQ a=kQ b):a=b:=by
 simp only [kQ,V.sl.injEq,true_and] at h
 exact rB (fun _ _ h=>by simpa using h) h
theorem aAi (l:List Int):(kQ l).aN=true:=by
 simp only [kQ,V.aN]; exact yL fun _=>rfl
noncomputable def sJ:Spec:=fG (fun q:List Int×Nat=>[vI (q.2:Nat),.agg [kQ q.1]]) (fun _=>True) (fun q=>.aH [vI (lP q.1 q.2),.agg [kQ q.1]])
theorem aLh (l:List Int) (k:Nat):sJ [vI (k:Nat),.agg [kQ l]]=some (.aH [vI (lP l k),.agg [kQ l]]):=cK (a:=(l,k)) (fun a b h=>by
 simp only [List.cons.injEq,and_true,V.agg.injEq,V.int.injEq,true_and] at h
 exact Prod.ext (aLg h.2) (by omega)) trivial
theorem aFj:bX Try.prog a6e gY sJ:=by
 refine aDz (T:=[]) aE.nil fun words v hv=>?_
 obtain ⟨⟨l,k⟩,rfl,_,rfl⟩:=bO hv
 refine ⟨_,rfl,rfl,by simp [aG,aAi,V.aN],by simp [aG,aAi,V.aN],rfl,rfl,?_⟩
 refine Eq.mpr (aE8 (aM _) _ (vI k) (kQ l)) ?_
 have eL:gX (kQ l)=some (vI l.length):=by simp [gX,kQ]
 simp only [eL,aB,aBd,aQ]
 by_cases h:k < l.length
 ·have h1:decide ((k:Int) < (l.length:Int))=true:=by simp; omega
  have h2:gN false 1 (kQ l) (vI (k:Nat))=some (vI (lP l k)):=by
   refine aXy ?_ rfl 1 .i64
   rw [zvz,zyz h]
   simp [lP,zry,zyz h]
  simp only [h1,if_true,h2,aB]
  rfl
 ·have h1:decide ((k:Int) < (l.length:Int))=false:=by simp; omega
  have h2:lP l k=0:=by simp [lP,zry,List.getElem?_eq_none (show l.length≤k by omega)]
  simp only [h1,zuy,if_false,h2]
  rfl
end Go.Fbs
namespace Go.Fbs
open Go.Proofs
attribute [local irreducible] bD bV opt
def abT:List (List UInt8):=[[97],[98]]
def pqT:List (List UInt8):=[[112],[113]]
def aBy (n:Int) (k:Nat):Bool:=decide ((((jA n k) % 2).toNat:Int)=1)
def aBz (n:Int):List UInt8:=if aBy n 8 then [32,124,32]++a5y (jA n 9) else []
def sT (n:Int):List UInt8:=ssT.getD (((jA n 20) % 256).toNat % 4) []
def aLi (n:Int):List UInt8:=aDe.getD ((jA n 4) % 4).toNat []
def aHj (n:Int):List UInt8:=aHf.getD ((jA n 13) % 4).toNat []
def a5z (n:Int):List UInt8:=if decide ((((jA n 13) % 4).toNat:Int)=3) then [32,38,32]++sI (jA n 20)++[41] else []
def a7q (n:Int):List UInt8:=if aBy n 12 then aHj n++sI (jA n 16)++a5z n else []
def aMw (j:Nat) (n:Int):List UInt8:=[32]++pqT.getD j []++[32,61,32]++sI n++aLi n++sI (jA n 8)++a7q n++[59]
def a50 (l:List Int) (i:Nat):Nat→List UInt8
 | 0=>[]
 | j+1=>a50 l i j++aMw j (lP l (3*i+1+j))
def aDg (l:List Int) (i:Nat):List UInt8:=[116,121,112,101,32]++abT.getD i []++[32,123,32,114,58,32]++a5y (lP l (3*i))++aBz (lP l (3*i))++[59,32,115,58,32]++sT (lP l (3*i))++[59]
def aMx (l:List Int) (i:Nat):List UInt8:=aDg l i++a50 l i 2++[32,125,10]
def upT (l:List Int):Nat→List UInt8
 | 0=>[116,121,112,101,32,117,10]
 | i+1=>upT l i++aMx l i
def rO (l:List Int):List UInt8:=upT l 2
theorem a65 {l:List (List UInt8)} {m:Nat} (h:∀ x ∈ l,x.length≤m) (k:Nat):(l.getD k []).length≤m:=by
 rw [zry]
 cases e : l[k]? with
 | none=>simp
 | some x=>exact h x (zyx e)
theorem aMy (n:Int):(a5y n).length≤3:=a65 (by decide) _
theorem a1v (n:Int):(sI n).length≤4:=a65 (by decide) _
theorem bEw (n:Int):(sT n).length≤5:=a65 (by decide) _
theorem b21 (n:Int):(aLi n).length≤3:=a65 (by decide) _
theorem b22 (n:Int):(aHj n).length≤4:=a65 (by decide) _
theorem b23 (n:Int):(aBz n).length≤6:=by
 have:=aMy (jA n 9)
 unfold aBz; split <;> simp <;> omega
theorem b9v (n:Int):(a5z n).length≤8:=by
 have:=a1v (jA n 20)
 unfold a5z; split <;> simp <;> omega
theorem aY6 (n:Int):(a7q n).length≤16:=by
 have:=a1v (jA n 16)
 have:=b22 n
 have:=b9v n
 unfold a7q; split <;> simp <;> omega
theorem b9w (n:Nat):(pqT.getD n []).length≤1:=a65 (by decide) _
theorem b9x (n:Nat):(abT.getD n []).length≤1:=a65 (by decide) _
theorem bDa (j:Nat) (n:Int):(aMw j n).length≤33:=by
 have:=a1v n
 have:=a1v (jA n 8)
 have:=b21 n
 have:=aY6 n
 have:=b9w j
 simp only [aMw,zwy,zwx,List.length_nil]; omega
theorem aLj (l:List Int) (i:Nat):∀ j,(a50 l i j).length≤33*j
 | 0=>zxy _
 | j+1=>by
  have:=aLj l i j
  have:=bDa j (lP l (3*i+1+j))
  simp only [a50,zwy]; omega
theorem aY7 (l:List Int) (i:Nat):(aDg l i).length≤32:=by
 have:=aMy (lP l (3*i))
 have:=b23 (lP l (3*i))
 have:=bEw (lP l (3*i))
 have:=b9x i
 simp only [aDg,zwy,zwx,List.length_nil]; omega
theorem bDb (l:List Int) (i:Nat):(aMx l i).length≤101:=by
 have:=aY7 l i
 have:=aLj l i 2
 simp only [aMx,zwy,zwx,List.length_nil]; omega
theorem aQ9 (l:List Int):∀ i,(upT l i).length≤101*i+7
 | 0=>by simp [upT]
 | i+1=>by
  have:=aQ9 l i
  have:=bDb l i
  simp only [upT,zwy]; omega
noncomputable def xV:Spec:=fG (fun l:List Int=>[kQ l]) (fun _=>True) (fun l=>.str (rO l))
theorem bL8 (l:List Int):xV [kQ l]=some (.str (rO l)):=cK (fun a b h=>aLg (by simpa using h)) trivial
theorem bDc {a b:Nat} (h:a+b < 1000):aF .add (vI (a:Nat)) (vI (b:Nat))=some (vI ((a+b:Nat):Int)):=by
 rw [aGg,jC (by omega) (by omega)]; rfl
theorem bDd {a:Nat} (h:a < 900):aF .add (vI (a:Nat)) (.int .i64 1)=some (vI ((a+1:Nat):Int)):=bDc (b:=1) (by omega)
theorem bN3 {a:Nat} (h:a < 900):aF .add (vI (a:Nat)) (.int .i64 3)=some (vI ((a+3:Nat):Int)):=bDc (b:=3) (by omega)
theorem bL9:l8 1 [(.str [97]),(.str [98])]=some (aDf abT):=by kernel_rfl
theorem bMa:l8 1 [(.str [112]),(.str [113])]=some (aDf pqT):=by kernel_rfl
theorem bMb:l8 1 [(.str [97]),(.str [98]),(.str [97,32,124,32,98]),(.str [117,32,124,32,97])]=some (aDf ssT):=by kernel_rfl
theorem bMc:l8 1 [(.str [32,43,32]),(.str [32,38,32]),(.str [32,45,32]),(.str [32,43,32])]=some (aDf aDe):=by kernel_rfl
theorem bMd:l8 1 [(.str [32,43,32]),(.str [32,38,32]),(.str [32,45,32]),(.str [32,45,32,40])]=some (aDf aHf):=by kernel_rfl
noncomputable abbrev TM1:List (FuncId×Spec):=[(mI,sJ),(a0l,a0y),(a0m,a0z)]
theorem b24 (n:Int):zZ (aM TM1) (.func 15 []) [vI n]=some (.str (a5y n)):=nr rfl
theorem aHk (n:Int):zZ (aM TM1) (.func 16 []) [vI n]=some (.str (sI n)):=nr rfl
theorem ag1 (l:List Int):aD [kQ l]=some (.agg [kQ l]):=nr rfl
theorem aY8 (l:List Int):aJ 1 (.agg [kQ l])=some (.agg [kQ l]):=nr rfl
theorem cA1 (l:List Int):aA (.agg [kQ l]) 0=kQ l:=nr rfl
theorem bG4 (l:List Int):kP (kQ l)=some (kQ l):=nr rfl
theorem bS {s u:List UInt8} (h:s.length+u.length≤2000):aF .add (.str s) (.str u)=some (.str (s++u)):=bK2 s u (by omega)
theorem bJs {i:Nat} : aF .lss (vI (i:Nat)) (.int .i64 2)=some (.bool (decide (i < 2))):=by
 rw [aBd]
 have:decide ((i:Int) < 2)=decide (i < 2):=by
  by_cases h:i < 2
  ·simp [h]; omega
  ·simp [h]; omega
 rw [this]
theorem bJt (n:Int) (k:Nat):aF .eql (vI (((jA n k) % 2).toNat:Nat)) (.int .i64 1)=some (.bool (aBy n k)):=uV _ _ _
theorem bJu (l:List Int):aD [aA (.agg [kQ l]) 0]=some (.agg [kQ l]):=nr rfl
theorem jn {k:List V→Prop} {b:(List V→Prop)→Prop} (X:List V) (h:∀ r:List V→Prop,r X→b r) (hk:k X):p6 k b:=h k hk
theorem bG5 (l:List Int):bV (aZ.dy [25,30,39,48,62]) (aM TM1) 128 xU [.tmp 2] (cB Try.f6) [kQ l] (fun r=>r = .str (rO l)):=by
 have c1:∀ args,aM TM1 mI args=sJ args:=fun _=>rfl
 refine Eq.mpr (aM6 (aM _) _ (kQ l)) ?_
 simp only [bG4,aB]
 refine fX (fun vs=>∃ i,i≤2∧vs=[.str (upT l i),vI ((3*i:Nat):Int),vI (i:Nat),.func 16 [],.func 15 [],kQ l]) (fun vs=>2 - iG (gv vs 2)) ⟨0,by omega,rfl⟩ ?_
 rintro r _ ⟨i,hi,rfl⟩ hr
 refine ⟨rfl,?_⟩
 simp only [jM,jW,bJs,aB,aQ]
 by_cases h:i < 2
 ·have hu:=aQ9 l i
  have hab:=b9x i
  have hA:=aMy (lP l (3*i))
  have hB:=b23 (lP l (3*i))
  have hB':=aMy (jA (lP l (3*i)) 9)
  have hC:=bEw (lP l (3*i))
  simp only [h,decide_true,if_true,bL9,aB,aHg (show i < abT.length from h)]
  rw [bS (by simp only [zwx,List.length_nil]; omega),aB]
  rw [bS (by simp only [zwy,zwx,List.length_nil]; omega),aB]
  rw [bS (by simp only [zwy,zwx,List.length_nil]; omega),aB]
  rw [ag1,aB,c1,aLh,aB,x0,aB,x1,aB,aY8,aB,b24,aB]
  rw [bS (by simp only [zwy,zwx,List.length_nil]; omega),aB]
  rw [bJu,aB,c1,aLh,aB,x0,aB,x1,aB,aY8,aB,bEu,aB,bEt,aB,bJt,aB]
  refine jn (X:=[.str (upT l i++[116,121,112,101,32]++abT.getD i []++[32,123,32,114,58,32]++a5y (lP l (3*i))++aBz (lP l (3*i))),kQ l]) ?_ ?_
  ·intro r1 h1
   rw [aQ]
   by_cases hb:aBy (lP l (3*i)) 8=true
   ·rw [if_pos hb]
    rw [bS (by simp only [zwy,zwx,List.length_nil]; omega),aB]
    rw [bJu,aB,c1,aLh,aB,x0,aB,x1,aB,aY8,aB,bL5,aB,b24,aB]
    rw [bS (by simp only [zwy,zwx,List.length_nil]; omega),aB]
    rw [show aBz (lP l (3*i))=[32,124,32]++a5y (jA (lP l (3*i)) 9) by unfold aBz; rw [if_pos hb]] at h1
    simpa only [zty,cA1] using h1
   ·rw [if_neg hb]
    rw [show aBz (lP l (3*i))=[] by unfold aBz; rw [if_neg hb]] at h1
    simpa only [List.append_nil,cA1] using h1
  ·simp only [jM,jW]
   refine ⟨rfl,?_⟩
   rw [bS (by simp only [zwy,zwx,List.length_nil]; omega),aB,bMb,aB]
   rw [ag1,aB,c1,aLh,aB,x0,aB,x1,aB,aY8,aB,b9u,aB,b20,aB,bL7,aB]
   rw [aHg (show ((jA (lP l (3*i)) 20) % 256).toNat % 4 < ssT.length from Nat.mod_lt _ (by decide)),aB]
   rw [bS (by have:(ssT.getD (((jA (lP l (3*i)) 20) % 256).toNat % 4) []).length≤5:=hC; simp only [zwy,zwx,List.length_nil]; omega),aB]
   rw [bS (by have:(ssT.getD (((jA (lP l (3*i)) 20) % 256).toNat % 4) []).length≤5:=hC; simp only [zwy,zwx,List.length_nil]; omega),aB]
   have hH:upT l i++[116,121,112,101,32]++abT.getD i []++[32,123,32,114,58,32]++a5y (lP l (3*i))++aBz (lP l (3*i))++[59,32,115,58,32]++ssT.getD (((jA (lP l (3*i)) 20) % 256).toNat % 4) []++[59]=upT l i++aDg l i:=by
    simp only [aDg,sT,zty]
   rw [hH,cA1]
   refine fX (fun vs=>∃ j,j≤2∧vs=[.str (upT l i++aDg l i++a50 l i j),vI (j:Nat),kQ l]) (fun vs=>2 - iG (gv vs 1)) ⟨0,by omega,by simp only [a50,List.append_nil]; rfl⟩ ?_
   rintro r2 _ ⟨j,hj,rfl⟩ hr2
   refine ⟨rfl,?_⟩
   simp only [jM,jW]
   rw [bJs,aB,aQ]
   have hhd:=aY7 l i
   have hex:=aLj l i j
   by_cases hj2:j < 2
   ·rw [if_pos (by simpa using hj2)]
    rw [bDd (by omega),aB,bDc (by omega),aB,ag1,aB,c1,aLh,aB,x0,aB,x1,aB,aY8,aB]
    obtain ⟨n,hn⟩:∃ n,n=lP l (3*i+1+j):=⟨_,rfl⟩
    rw [← hn]
    have q1:=a1v n
    have q2:=a1v (jA n 8)
    have q3:=b21 n
    have q4:=aY6 n
    have q5:=b9w j
    have q6:=a1v (jA n 16)
    have q7:=a1v (jA n 20)
    have q8:=b22 n
    rw [bS (by simp only [zwy,zwx,List.length_nil]; omega),aB,bMa,aB,aHg (show j < pqT.length from hj2),aB]
    rw [bS (by simp only [zwy,zwx,List.length_nil]; omega),aB]
    rw [bS (by simp only [zwy,zwx,List.length_nil]; omega),aB,aHk,aB]
    rw [bS (by simp only [zwy,zwx,List.length_nil]; omega),aB,bMc,aB,bL6,aB,b6d,aB,aHg (show ((jA n 4) % 4).toNat < aDe.length from m4 _),aB]
    rw [show aDe.getD ((jA n 4) % 4).toNat []=aLi n from rfl]
    rw [bS (by simp only [zwy,zwx,List.length_nil]; omega),aB,bEu,aB,aHk,aB]
    rw [bS (by simp only [zwy,zwx,List.length_nil]; omega),aB,bJn,aB,bEt,aB,bJt,aB]
    refine jn (X:=[.str (upT l i++aDg l i++a50 l i j++[32]++pqT.getD j []++[32,61,32]++sI n++aLi n++sI (jA n 8)++a7q n)]) ?_ ?_
    ·intro r3 h3
     rw [aQ]
     by_cases hb:aBy n 12=true
     ·rw [if_pos hb,bMd,aB,bJo,aB,b6d,aB,aHg (show ((jA n 13) % 4).toNat < aHf.length from m4 _),aB]
      rw [show aHf.getD ((jA n 13) % 4).toNat []=aHj n from rfl]
      rw [bS (by simp only [zwy,zwx,List.length_nil]; omega),aB,bJp,aB,aHk,aB]
      rw [bS (by simp only [zwy,zwx,List.length_nil]; omega),aB,aB,b6d,aB,uV,aB,aQ]
      rw [show a7q n=aHj n++sI (jA n 16)++a5z n by unfold a7q; rw [if_pos hb]] at h3
      by_cases hb3:decide ((((jA n 13) % 4).toNat:Int)=3)=true
      ·rw [if_pos hb3,bS (by simp only [zwy,zwx,List.length_nil]; omega),aB,b9u,aB,aHk,aB]
       rw [bS (by simp only [zwy,zwx,List.length_nil]; omega),aB]
       rw [bS (by simp only [zwy,zwx,List.length_nil]; omega),aB]
       rw [show a5z n=[32,38,32]++sI (jA n 20)++[41] by unfold a5z; rw [if_pos hb3]] at h3
       simpa only [zty] using h3
      ·rw [if_neg hb3]
       rw [show a5z n=[] by unfold a5z; rw [if_neg hb3]] at h3
       simpa only [zty,List.append_nil] using h3
     ·rw [if_neg hb]
      rw [show a7q n=[] by unfold a7q; rw [if_neg hb]] at h3
      simpa only [zty,List.append_nil] using h3
    ·simp only [jM]
     refine ⟨rfl,?_⟩
     rw [bS (by simp only [zwy,zwx,List.length_nil]; omega),aB,bDd (by omega),aB,cA1]
     refine hr2 _ ⟨j+1,by omega,?_⟩ (by simp only [jM,jW,iG]; omega)
     simp only [a50,aMw,← hn,zty]
   ·have e:j=2:=by omega
    subst e
    rw [if_neg (by simp)]
    rw [bS (by simp only [zwy,zwx,List.length_nil]; omega),aB,bN3 (by omega),aB,bDd (by omega),aB]
    refine hr _ ⟨i+1,by omega,?_⟩ (by simp only [jM,jW,iG]; omega)
    simp only [upT,aMx,zty]
    rfl
 ·have e:i=2:=by omega
  subst e
  simp only [h,decide_false,zuy,if_false]
  rfl
theorem aLk:cU Try.prog tB xV:=by
 refine aKp (T:=TM1) (aE.cC aFj (aE.cons aHh (aE.cons aHi aE.nil))) fun args v hv=>?_
 obtain ⟨l,rfl,_,rfl⟩:=bO hv
 exact ⟨rfl,by simp [aG,aAi],rfl,bG5 l⟩
end Go.Fbs
namespace Go.Fbs
open Go.Proofs
theorem a4w:∀ (f:Nat) (k:Nat) (l:List UInt8),l.length≤f→kG f k l=kG l.length k l:=by
 intro f
 induction f using Nat.strongRecOn with
 | ind f ih =>
  intro k l hl
  cases l with
  | nil=>cases f <;> rfl
  | cons c t =>
   obtain ⟨g,rfl⟩:∃ g,f=g+1:=⟨f - 1,by simp at hl; omega⟩
   simp only [zwx,kG]
   split
   ·rfl
   ·have hn:=(a1o (l:=c::t) (by simp)).1
    generalize (cZ (c::t)).2.1.length=n at *
    have h1:(((c::t).drop n).drop (cV false ((c::t).drop n))).length≤t.length:=by
     simp only [List.length_drop,zwx]; omega
    simp only [zwx] at hl
    rw [ih g (by omega) _ _ (by omega)]
    by_cases hg:t.length < g+1
    ·by_cases hg2:t.length=g
     ·rw [hg2,ih g (by omega) _ _ (by omega)]
     ·rw [ih t.length (by omega) _ _ h1]
    ·omega
theorem aUm {c : UInt8} {t : List UInt8} (h : ¬ (c = 47 ∧ t.head? = some 47)) (hb : wQ c = false) : cV false (c :: t) = 0:=by
 unfold cV; rw [if_neg h]; simp [hb]
theorem aN3 {c:UInt8} {t:List UInt8} (hb:wQ c=true):cV false (c::t)=1+cV false t:=by
 have : ¬ (c = 47 ∧ t.head? = some 47):=by rintro ⟨rfl,-⟩; simp [wQ] at hb
 conv=>lhs; unfold cV
 rw [if_neg this]; simp [hb]
def pF (k:Nat) (l:List UInt8):List gZ×Option Nat:=kG l.length (k+cV false l) (l.drop (cV false l))
theorem bDe (k:Nat):pF k []=([],none):=rfl
theorem aRa {k:Nat} {b:UInt8} {l:List UInt8} (hb:wQ b=true):pF k (b::l)=pF (k+1) l:=by
 unfold pF
 rw [aN3 hb]
 rw [show (b::l).drop (1+cV false l)=l.drop (cV false l) by rw [Nat.add_comm]; rfl]
 rw [show k+(1+cV false l)=k+1+cV false l by omega]
 rw [a4w _ _ _ (by simp only [List.length_drop,zwx]; omega),a4w l.length _ _ (by simp only [List.length_drop]; omega)]
theorem aY9 {k:Nat} {c:UInt8} {l:List UInt8} (hc:c≠47) (hb:wQ c=false) :
  pF k (c::l)=if (cZ (c::l)).2.2=false then ([],some k) else
   (((cZ (c::l)).1,k,(cZ (c::l)).2.1)::(pF (k+(cZ (c::l)).2.1.length) ((c::l).drop (cZ (c::l)).2.1.length)).1,(pF (k+(cZ (c::l)).2.1.length) ((c::l).drop (cZ (c::l)).2.1.length)).2):=by
 conv=>lhs; unfold pF
 rw [aUm (fun h=>hc h.1) hb]
 simp only [List.drop_zero,Nat.add_zero,zwx,kG]
 split
 ·rfl
 ·have hn:=(a1o (l:=c::l) (by simp)).1
  generalize (cZ (c::l)).2.1.length=n at *
  unfold pF
  rw [a4w l.length _ _ (by simp only [List.length_drop,zwx]; omega),a4w ((c::l).drop n).length _ _ (by simp only [List.length_drop]; omega)]
def kt (t:gZ):Int×List UInt8:=(t.1,t.2.2)
def a05 (w:List UInt8) (suf:List UInt8):Bool :=
 match w.getLast? with
 | none=>true
 | some c=>(c != 45) && (!(kB c.toNat) || match suf.head? with | some d=>!(kB d.toNat) | none=>true)
theorem aRb {w suf:List UInt8} (h:a05 w suf=true) (n:Nat):a05 (w.drop n) suf=true:=by
 unfold a05 at h ⊢
 by_cases hn:n < w.length
 ·rw [List.getLast?_drop,if_neg (by omega)]; exact h
 ·rw [List.drop_eq_nil_of_le (by omega)]; rfl
theorem aZa {f:UInt8→Bool} : ∀ {l:List UInt8} {x:UInt8},x ∈ l.takeWhile f→f x=true
 | [],_,h=>by simp at h
 | a::l,x,h=>by
  rw [List.takeWhile_cons] at h
  split at h
  ·rename_i ha
   rcases List.mem_cons.1 h with rfl | h
   ·exact ha
   ·exact aZa h
  ·simp at h
theorem bG6 (l:List UInt8):mS l≤l.length:=(List.takeWhile_sublist _).length_le
theorem bDf {w suf:List UInt8} (h:a05 w suf=true) (hw:w≠[]):mS (w++suf)=mS w:=by
 unfold mS
 rw [List.takeWhile_append]
 split
 ·rename_i hl
  have hall:w.takeWhile (fun c=>kB c.toNat)=w:=(List.takeWhile_sublist _).eq_of_length hl
  have hlast:kB (w.getLast hw).toNat=true:=by
   have:w.getLast hw ∈ w.takeWhile (fun c=>kB c.toNat):=by rw [hall]; exact List.getLast_mem hw
   exact aZa this
  unfold a05 at h
  rw [List.getLast?_eq_some_getLast hw] at h
  simp only [hlast,Bool.not_true,Bool.false_or,zxz] at h
  have:suf.takeWhile (fun c=>kB c.toNat)=[]:=by
   cases suf with
   | nil=>rfl
   | cons d r =>
    have:=h.2
    simp only [List.head?_cons,Bool.not_eq_true'] at this
    simp [List.takeWhile_cons,this]
  rw [this,hall]; simp
 ·rfl
theorem b9z {w suf:List UInt8} (h:a05 w suf=true) (hw:w≠[]):cZ (w++suf)=cZ w:=by
 unfold cZ
 rw [bDf h hw]
 have hlw:1≤w.length:=by cases w with | nil=>exact absurd rfl hw | cons=>simp
 split
 ·rw [List.take_append_of_le_length (bG6 w)]
 ·have hp:([45,62]:List UInt8).isPrefixOf (w++suf)=([45,62]:List UInt8).isPrefixOf w:=by
   match w,hw,h with
   | [c],_,h =>
    have:c≠45:=by
     unfold a05 at h
     simp at h
     exact h.1
    have hc:((45:UInt8) == c)=false:=by simpa using fun e=>this e.symm
    simp [List.isPrefixOf,hc]
   | c::d::r,_,_=>simp [List.isPrefixOf]
  rw [hp]
  split
  ·rfl
  ·rw [List.take_append_of_le_length hlw]
   cases w with
   | nil=>exact absurd rfl hw
   | cons c r=>rfl
theorem aHl:∀ (n:Nat) (w suf:List UInt8) (k:Nat),w.length≤n→(47:UInt8) ∉ w→a05 w suf=true→(pF k w).2=none→pF k (w++suf)=((pF k w).1++(pF (k+w.length) suf).1,(pF (k+w.length) suf).2)
 | _,[],suf,k,_,_,_,_=>by simp [bDe]
 | 0,c::w,_,_,h,_,_,_=>by simp at h
 | n+1,c::w,suf,k,hl,hs,he,hn=>by
  simp only [zwx] at hl
  simp only [List.mem_cons,not_or] at hs
  cases hb:wQ c with
  | true =>
   rw [List.cons_append,aRa hb]
   rw [aRa hb] at hn ⊢
   rw [aHl n w suf (k+1) (by omega) hs.2 (aRb he 1) hn]
   simp only [zwx]
   rw [show k+1+w.length=k+(w.length+1) by omega]
  | false =>
   have e:=b9z he (show c::w≠[] by simp)
   have hc:c≠47:=fun e=>hs.1 e.symm
   have hm:=a1o (l:=c::w) (by simp)
   rw [aY9 hc hb] at hn ⊢
   rw [List.cons_append,aY9 hc hb,← List.cons_append,e]
   generalize cZ (c::w)=q at *
   obtain ⟨q1,q2,q3⟩:=q
   simp only at hn hm ⊢
   cases q3 with
   | false=>simp at hn
   | true =>
    simp only [Bool.true_eq_false,if_false] at hn ⊢
    have hd:(c::w++suf).drop q2.length=(c::w).drop q2.length++suf:=List.drop_append_of_le_length hm.2
    rw [hd,aHl n _ suf _ (by simp only [List.length_drop,zwx]; omega) (fun h=>by
     have:=List.mem_of_mem_drop h
     simp only [List.mem_cons] at this
     rcases this with h | h
     ·exact hs.1 h
     ·exact hs.2 h) (aRb he _) hn]
    simp only [List.cons_append,List.length_drop,zwx]
    have hm2:=hm.2
    simp only [zwx] at hm2
    rw [show k+q2.length+(w.length+1 - q2.length)=k+(w.length+1) by omega]
theorem b25:∀ (f k m:Nat) (l:List UInt8),(kG f k l).1.map kt=(kG f m l).1.map kt∧((kG f k l).2=none↔(kG f m l).2=none)
 | 0,_,_,_=>⟨rfl,Iff.rfl⟩
 | f+1,_,_,[]=>⟨rfl,Iff.rfl⟩
 | f+1,k,m,c::l=>by
  simp only [kG]
  split
  ·simp
  ·have:=b25 f (k+(cZ (c::l)).2.1.length+cV false ((c::l).drop (cZ (c::l)).2.1.length)) (m+(cZ (c::l)).2.1.length+cV false ((c::l).drop (cZ (c::l)).2.1.length)) (((c::l).drop (cZ (c::l)).2.1.length).drop (cV false ((c::l).drop (cZ (c::l)).2.1.length)))
   exact ⟨by simp only [zsx,this.1]; rfl,this.2⟩
theorem b26 (k m:Nat) (l:List UInt8):(pF k l).1.map kt=(pF m l).1.map kt∧((pF k l).2=none↔(pF m l).2=none):=b25 _ _ _ _
structure Pc (w:List UInt8) (ks:List (Int×List UInt8)):Prop where
 sl:(47:UInt8) ∉ w
 en:∀ suf,a05 w suf=true
 ok:∀ k,(pF k w).2=none
 kd:∀ k,(pF k w).1.map kt=ks
theorem b90 {w v:List UInt8} (hw:∀ suf,a05 w suf=true) (hv:∀ suf,a05 v suf=true) (suf:List UInt8):a05 (w++v) suf=true:=by
 cases v with
 | nil=>simpa using hw suf
 | cons a r =>
  have:=hv suf
  unfold a05 at this ⊢
  rw [show (w ++ a :: r).getLast? = (a :: r).getLast? by
   rw [List.getLast?_append,List.getLast?_eq_some_getLast (show a::r≠[] by simp)]; rfl]
  exact this
theorem Pc.app {w v:List UInt8} {ks js:List (Int×List UInt8)} (h:Pc w ks) (g:Pc v js):Pc (w++v) (ks++js) where
 sl:=by simp only [List.mem_append,not_or]; exact ⟨h.sl,g.sl⟩
 en:=b90 h.en g.en
 ok:=fun k=>by rw [aHl w.length w v k (zxy _) h.sl (h.en v) (h.ok k)]; exact g.ok _
 kd:=fun k=>by rw [aHl w.length w v k (zxy _) h.sl (h.en v) (h.ok k)]; simp only [List.map_append,h.kd,g.kd]
def bEy (w : List UInt8) : Bool:=match w.getLast? with | none=>true | some c=>(c != 45) && !(kB c.toNat)
def pcB (w:List UInt8):Bool:=!(w.contains 47) && bEy w && (pF 0 w).2.isNone
def jB (w:List UInt8):List (Int×List UInt8):=(pF 0 w).1.map kt
theorem Pc.of {w:List UInt8} (h:pcB w=true):Pc w (jB w):=by
 simp only [pcB,zxz,Bool.not_eq_true',Option.isNone_iff_eq_none] at h
 obtain ⟨⟨h1,h2⟩,h3⟩:=h
 refine ⟨by simpa using h1,fun suf=>?_,fun k=>((b26 k 0 w).2).2 h3,fun k=>(b26 k 0 w).1⟩
 unfold bEy at h2
 unfold a05
 split at h2
 ·rfl
 ·rename_i c e
  simp only [zxz] at h2
  simp only [h2.1,h2.2,Bool.true_or,Bool.and_self]
end Go.Fbs
namespace Go.Fbs
open Go.Proofs
abbrev KT:=Int×List UInt8
theorem Pc.cast {w w':List UInt8} {ks ks':List KT} (h:Pc w ks) (e:w=w') (g:ks=ks'):Pc w' ks':=by subst e; subst g; exact h
def aAj (A B:List (List UInt8)):Bool:=A.all fun a=>B.all fun b=>pcB (a++b) && (jB (a++b) == jB a++jB b)
theorem a3v {A B:List (List UInt8)} (h:aAj A B=true) {a b:List UInt8} (ha:a ∈ A) (hb:b ∈ B):Pc (a++b) (jB a++jB b):=by
 have:=List.all_eq_true.1 (List.all_eq_true.1 h a ha) b hb
 simp only [zxz,beq_iff_eq] at this
 rw [← this.2]
 exact Pc.of this.1
theorem aB0 {l:List (List UInt8)} {k:Nat} (h:k < l.length):l.getD k [] ∈ l:=by
 rw [zry,zyz h]; exact List.getElem_mem h
theorem aHm (n:Int):a5y n ∈ aHe:=aB0 (Nat.mod_lt _ (by decide))
theorem rY (n:Int):sI n ∈ wV:=aB0 (m8 n)
theorem b91 (n:Int):sT n ∈ ssT:=aB0 (Nat.mod_lt _ (by decide))
theorem aO9 (n:Int):aLi n ∈ aDe:=aB0 (m4 _)
theorem aZb (n:Int):aHj n ∈ aHf:=aB0 (m4 _)
theorem bMe:aAj aHe [[32,124,32]]=true:=by kernel_rfl
theorem bEz:aAj aHe [[59,32,115,58,32]]=true:=by kernel_rfl
theorem pS:aAj ssT [[59]]=true:=by kernel_rfl
theorem pN1:aAj wV aDe=true:=by kernel_rfl
theorem pN2:aAj wV aHf=true:=by kernel_rfl
theorem pN3:aAj wV [[59]]=true:=by kernel_rfl
theorem pN4:aAj wV [[32,38,32]]=true:=by kernel_rfl
theorem pN5:aAj wV [[41,59]]=true:=by kernel_rfl
theorem bN4:jB [32,124,32]=[(2,[124])]:=by kernel_rfl
theorem kSS:jB [59,32,115,58,32]=[(2,[59]),(1,[115]),(2,[58])]:=by kernel_rfl
theorem b6e:jB [59]=[(2,[59])]:=by kernel_rfl
theorem bN5:jB [32,38,32]=[(2,[38])]:=by kernel_rfl
theorem bN6:jB [41,59]=[(2,[41]),(2,[59])]:=by kernel_rfl
def aHn (n:Int):List KT:=jB (a5y n)++(if aBy n 8 then (2,[124])::jB (a5y (jA n 9)) else [])
def aLl (n:Int):List KT:=if aBy n 12 then jB (aHj n)++jB (sI (jA n 16))++(if decide ((((jA n 13) % 4).toNat:Int)=3) then (2,[38])::jB (sI (jA n 20))++[(2,[41])] else []) else []
def aS5 (n:Int):List KT:=jB (sI n)++jB (aLi n)++jB (sI (jA n 8))++aLl n
def a30 (j:Nat) (n:Int):List KT:=[(1,pqT.getD j []),(2,[61])]++aS5 n++[(2,[59])]
def aMz (l:List Int) (i:Nat):List KT :=
 [(1,[116,121,112,101]),(1,abT.getD i []),(2,[123]),(1,[114]),(2,[58])]++aHn (lP l (3*i))++[(2,[59]),(1,[115]),(2,[58])]++jB (sT (lP l (3*i)))++[(2,[59])]++a30 0 (lP l (3*i+1))++a30 1 (lP l (3*i+2))++[(2,[125])]
def bE0 (l:List Int):List KT:=[(1,[116,121,112,101]),(1,[117])]++aMz l 0++aMz l 1
theorem bG7 (n:Int):Pc (sI (jA n 8)++a7q n++[59]) (jB (sI (jA n 8))++aLl n++[(2,[59])]):=by
 unfold a7q aLl
 by_cases hb:aBy n 12=true
 ·rw [if_pos hb,if_pos hb]
  have h1:=a3v pN2 (rY (jA n 8)) (aZb n)
  unfold a5z
  by_cases h3:decide ((((jA n 13) % 4).toNat:Int)=3)=true
  ·rw [if_pos h3,if_pos h3]
   have h2:=a3v pN4 (rY (jA n 16)) (List.mem_singleton.2 rfl)
   have h4:=a3v pN5 (rY (jA n 20)) (List.mem_singleton.2 rfl)
   rw [bN5] at h2
   rw [bN6] at h4
   exact ((h1.app h2).app h4).cast (by simp only [zty,List.cons_append,List.nil_append]) (by simp only [zty,List.cons_append,List.nil_append])
  ·rw [if_neg h3,if_neg h3]
   have h2:=a3v pN3 (rY (jA n 16)) (List.mem_singleton.2 rfl)
   rw [b6e] at h2
   exact (h1.app h2).cast (by simp only [zty,List.append_nil]) (by simp only [zty,List.append_nil])
 ·rw [if_neg hb,if_neg hb]
  have h2:=a3v pN3 (rY (jA n 8)) (List.mem_singleton.2 rfl)
  rw [b6e] at h2
  exact h2.cast (by simp only [List.append_nil]) (by simp only [List.append_nil])
theorem b27 {j:Nat} (hj:j < 2) (n:Int):Pc (aMw j n) (a30 j n):=by
 have h0:Pc ([32]++pqT.getD j []++[32,61,32]) [(1,pqT.getD j []),(2,[61])]:=by
  match j,hj with
  | 0,_=>exact Pc.of (w:=[32,112,32,61,32]) (by kernel_rfl)
  | 1,_=>exact Pc.of (w:=[32,113,32,61,32]) (by kernel_rfl)
 have h1:=a3v pN1 (rY n) (aO9 n)
 exact ((h0.app h1).app (bG7 n)).cast (by simp only [aMw,zty]) (by simp only [a30,aS5,zty])
theorem b28 (l:List Int) {i:Nat} (hi:i < 2):Pc (aMx l i) (aMz l i):=by
 have h0:Pc ([116,121,112,101,32]++abT.getD i []++[32,123,32,114,58,32]) [(1,[116,121,112,101]),(1,abT.getD i []),(2,[123]),(1,[114]),(2,[58])]:=by
  match i,hi with
  | 0,_=>exact Pc.of (w:=[116,121,112,101,32,97,32,123,32,114,58,32]) (by kernel_rfl)
  | 1,_=>exact Pc.of (w:=[116,121,112,101,32,98,32,123,32,114,58,32]) (by kernel_rfl)
 have h1:Pc (a5y (lP l (3*i))++aBz (lP l (3*i))++[59,32,115,58,32]) (aHn (lP l (3*i))++[(2,[59]),(1,[115]),(2,[58])]):=by
  unfold aBz aHn
  by_cases hb:aBy (lP l (3*i)) 8=true
  ·rw [if_pos hb,if_pos hb]
   have g1:=a3v bMe (aHm (lP l (3*i))) (List.mem_singleton.2 rfl)
   have g2:=a3v bEz (aHm (jA (lP l (3*i)) 9)) (List.mem_singleton.2 rfl)
   rw [bN4] at g1
   rw [kSS] at g2
   exact (g1.app g2).cast (by simp only [zty,List.cons_append,List.nil_append]) (by simp only [zty,List.cons_append,List.nil_append])
  ·rw [if_neg hb,if_neg hb]
   have g2:=a3v bEz (aHm (lP l (3*i))) (List.mem_singleton.2 rfl)
   rw [kSS] at g2
   exact g2.cast (by simp only [List.append_nil]) (by simp only [List.append_nil])
 have h2:=a3v pS (b91 (lP l (3*i))) (List.mem_singleton.2 rfl)
 rw [b6e] at h2
 have h3:Pc [32,125,10] [(2,[125])]:=Pc.of (w:=[32,125,10]) (by kernel_rfl)
 exact (((((h0.app h1).app h2).app (b27 (j:=0) (by omega) (lP l (3*i+1)))).app (b27 (j:=1) (by omega) (lP l (3*i+2)))).app h3).cast
  (by simp only [aMx,aDg,a50,zty,List.nil_append,Nat.add_zero,Nat.add_assoc]) (by simp only [aMz,zty])
theorem bG8 (l:List Int):Pc (rO l) (bE0 l):=by
 have h0:Pc [116,121,112,101,32,117,10] [(1,[116,121,112,101]),(1,[117])]:=Pc.of (w:=[116,121,112,101,32,117,10]) (by kernel_rfl)
 exact ((h0.app (b28 l (i:=0) (by omega))).app (b28 l (i:=1) (by omega))).cast rfl rfl
end Go.Fbs

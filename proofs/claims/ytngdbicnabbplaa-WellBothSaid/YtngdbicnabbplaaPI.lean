import Derived.Test.YtngdbicnabbplaaPB
set_option linter.unusedSimpArgs false
set_option linter.unusedVariables false
set_option linter.unusedSectionVars false
set_option maxRecDepth 100000
namespace Go.Fbs
open Go.Proofs
theorem aR8 {a:Int} {j:Nat} (hj:j < 63) {m:Int} (hm:m=((2 ^ j - 1:Nat):Int)):aD .and (.int .i64 a) (.int .i64 m)=some (.int .i64 (((a % (2 ^ j:Nat)).toNat:Nat):Int)):=by
 rw [hm,b8b hj]
 have:0≤a % ((2 ^ j:Nat):Int):=Int.emod_nonneg _ (by have:0 < (2:Nat) ^ j:=Nat.pow_pos (by omega); omega)
 rw [Int.toNat_of_nonneg this]
theorem aC2 {a:Int} {b:Nat} (hb:b≤64):aD .shr (.int .i64 a) (.int .u64 b)=some (.int .i64 (a.fdiv (2 ^ b))):=by
 have e:min (b:Int).toNat IntKind.i64.bits=b:=by
  show min (b:Int).toNat 64=b
  rw [Int.toNat_natCast]; omega
 have e2:min b IntKind.i64.bits=b:=by rw [Int.toNat_natCast] at e; exact e
 simp [aD,a03,e2]
theorem aYj (a:Int):aD .and (.int .i64 a) (.int .i64 255)=some (vI ((a % 256).toNat:Nat)):=aR8 (j:=8) (by omega) rfl
theorem bHo (a:Int):aD .and (.int .i64 a) (.int .i64 7)=some (vI ((a % 8).toNat:Nat)):=aR8 (j:=3) (by omega) rfl
theorem b1m (a:Int):aD .and (.int .i64 a) (.int .i64 3)=some (vI ((a % 4).toNat:Nat)):=aR8 (j:=2) (by omega) rfl
theorem bAk (a:Int):aD .and (.int .i64 a) (.int .i64 1)=some (vI ((a % 2).toNat:Nat)):=aR8 (j:=1) (by omega) rfl
def gG (a:Int) (k:Nat):Int:=a.fdiv (2 ^ k)
theorem bAl (a:Int):aD .shr (.int .i64 a) (.int .u64 8)=some (vI (gG a 8)):=aC2 (b:=8) (by omega)
theorem bHp (a:Int):aD .shr (.int .i64 a) (.int .u64 9)=some (vI (gG a 9)):=aC2 (b:=9) (by omega)
theorem b4m (a:Int):aD .shr (.int .i64 a) (.int .u64 20)=some (vI (gG a 20)):=aC2 (b:=20) (by omega)
theorem bHq (a:Int):aD .shr (.int .i64 a) (.int .u64 4)=some (vI (gG a 4)):=aC2 (b:=4) (by omega)
theorem bEt (a:Int):aD .shr (.int .i64 a) (.int .u64 12)=some (vI (gG a 12)):=aC2 (b:=12) (by omega)
theorem bEu (a:Int):aD .shr (.int .i64 a) (.int .u64 13)=some (vI (gG a 13)):=aC2 (b:=13) (by omega)
theorem bEv (a:Int):aD .shr (.int .i64 a) (.int .u64 16)=some (vI (gG a 16)):=aC2 (b:=16) (by omega)
theorem bAm (a:Nat) (b:Nat) (hb:0 < b):aD .rem (vI (a:Nat)) (vI (b:Nat))=some (vI ((a % b:Nat):Int)):=by
 have h:¬ (b:Int)=0:=by omega
 simp only [aD,fX,if_true]
 rw [if_neg h]
 rw [Int.ofNat_tmod]
theorem bEw (a:Nat):aD .rem (vI (a:Nat)) (.int .i64 10)=some (vI ((a % 10:Nat):Int)):=bAm a 10 (by omega)
theorem bHr (a:Nat):aD .rem (vI (a:Nat)) (.int .i64 4)=some (vI ((a % 4:Nat):Int)):=bAm a 4 (by omega)
def a9l:List (List UInt8):=[[117],[117],[97,35,114],[98,35,114],[97,35,115],[98,35,112],[97],[98],[117],[97,35,113]]
def rD:List (List UInt8):=[[114],[115],[114],[115],[115,45,62,114],[115,45,62,112],[112],[113]]
def ssT:List (List UInt8):=[[97],[98],[97,32,124,32,98],[117,32,124,32,97]]
def a6z:List (List UInt8):=[[32,43,32],[32,38,32],[32,45,32],[32,43,32]]
def a9m:List (List UInt8):=[[32,43,32],[32,38,32],[32,45,32],[32,45,32,40]]
def a9n (l:List (List UInt8)):V:=.sl .ro (l.map V.str)
theorem aC3 {l:List (List UInt8)} {k:Nat} (h:k < l.length):gX false 1 (a9n l) (vI (k:Nat))=some (.str (l.getD k [])):=by
 refine aUb ?_ rfl 1 .i64
 rw [zvz,zyz h,zry,zyz h]; rfl
def a2x (n:Int):List UInt8:=a9l.getD ((n % 256).toNat % 10) []
def oS (n:Int):List UInt8:=rD.getD (n % 8).toNat []
theorem m8 (n:Int):(n % 8).toNat < 8:=by omega
theorem m4 (n:Int):(n % 4).toNat < 4:=by omega
def xP:Spec
 | [.int .i64 n]=>some (.str (a2x n))
 | _=>none
def xQ:Spec
 | [.int .i64 n]=>some (.str (oS n))
 | _=>none
theorem bCh:lO 1 [(.str [117]),(.str [117]),(.str [97,35,114]),(.str [98,35,114]),(.str [97,35,115]),(.str [98,35,112]),(.str [97]),(.str [98]),(.str [117]),(.str [97,35,113])]=some (a9n a9l):=by kernel_rfl
theorem b8h:lO 1 [(.str [114]),(.str [115]),(.str [114]),(.str [115]),(.str [115,45,62,114]),(.str [115,45,62,112]),(.str [112]),(.str [113])]=some (a9n rD):=by kernel_rfl
theorem aC4:fS Try.prog xI xP:=by
 refine aCt (T:=[]) aM.nil fun args v hv=>?_
 unfold xP at hv
 split at hv <;> (try simp only [zzz,reduceCtorEq] at hv)
 rename_i n
 subst hv
 refine ⟨rfl,rfl,rfl,?_⟩
 refine Eq.mpr (aE1 (bT _) _ (vI n)) ?_
 simp only [bCh,aB,aYj,bEw]
 rw [aC3 (show (n % 256).toNat % 10 < a9l.length from Nat.mod_lt _ (by decide))]
 rfl
theorem aC5:fS Try.prog xJ xQ:=by
 refine aCu (T:=[]) aM.nil fun args v hv=>?_
 unfold xQ at hv
 split at hv <;> (try simp only [zzz,reduceCtorEq] at hv)
 rename_i n
 subst hv
 refine ⟨rfl,rfl,rfl,?_⟩
 refine Eq.mpr (aE2 (bT _) _ (vI n)) ?_
 simp only [b8h,aB,bHo]
 rw [aC3 (show (n % 8).toNat < rD.length from m8 n)]
 rfl
def gZ (l:List Int):V:=.sl .ro (l.map (V.int .i64))
def kE (l:List Int) (k:Nat):Int:=l.getD k 0
theorem a9o {a b:List Int} (h:gZ a=gZ b):a=b:=by
 simp only [gZ,V.sl.injEq,true_and] at h
 exact sO (fun _ _ h=>by simpa using h) h
theorem a2y (l:List Int):(gZ l).bU=true:=by
 simp only [gZ,V.bU]; exact a1o fun _=>rfl
noncomputable def qJ:Spec:=gV (fun q:List Int×Nat=>[vI (q.2:Nat),.agg [gZ q.1]]) (fun _=>True) (fun q=>.aO [vI (kE q.1 q.2),.agg [gZ q.1]])
theorem aGp (l:List Int) (k:Nat):qJ [vI (k:Nat),.agg [gZ l]]=some (.aO [vI (kE l k),.agg [gZ l]]):=gD (a:=(l,k)) (fun a b h=>by
 simp only [List.cons.injEq,and_true,V.agg.injEq,V.int.injEq,true_and] at h
 exact Prod.ext (a9o h.2) (by omega)) trivial
theorem aBh:fU Try.prog a3n fB qJ:=by
 refine aAk (T:=[]) aM.nil fun words v hv=>?_
 obtain ⟨⟨l,k⟩,rfl,_,rfl⟩:=eO hv
 refine ⟨_,rfl,rfl,by simp [aL,a2y,V.bU],by simp [aL,a2y,V.bU],rfl,rfl,?_⟩
 refine Eq.mpr (aBe (bT _) _ (vI k) (gZ l)) ?_
 have eL:jA (gZ l)=some (vI l.length):=by simp [jA,gZ]
 simp only [eL,aB,aAd,cK]
 by_cases h:k < l.length
 ·have h1:decide ((k:Int) < (l.length:Int))=true:=by simp; omega
  have h2:gX false 1 (gZ l) (vI (k:Nat))=some (vI (kE l k)):=by
   refine aUb ?_ rfl 1 .i64
   rw [zvz,zyz h]
   simp [kE,zry,zyz h]
  simp only [h1,if_true,h2,aB]
  rfl
 ·have h1:decide ((k:Int) < (l.length:Int))=false:=by simp; omega
  have h2:kE l k=0:=by simp [kE,zry,List.getElem?_eq_none (show l.length≤k by omega)]
  simp only [h1,zuy,if_false,h2]
  rfl
end Go.Fbs

namespace Go.Fbs
open Go.Proofs
attribute [local irreducible] bW cC opt
def abT:List (List UInt8):=[[97],[98]]
def pqT:List (List UInt8):=[[112],[113]]
def a79 (n:Int) (k:Nat):Bool:=decide ((((gG n k) % 2).toNat:Int)=1)
def a8a (n:Int):List UInt8:=if a79 n 8 then [32,124,32]++a2x (gG n 9) else []
def sT (n:Int):List UInt8:=ssT.getD (((gG n 20) % 256).toNat % 4) []
def aGr (n:Int):List UInt8:=a6z.getD ((gG n 4) % 4).toNat []
def aC6 (n:Int):List UInt8:=a9m.getD ((gG n 13) % 4).toNat []
def a2z (n:Int):List UInt8:=if decide ((((gG n 13) % 4).toNat:Int)=3) then [32,38,32]++oS (gG n 20)++[41] else []
def a4u (n:Int):List UInt8:=if a79 n 12 then aC6 n++oS (gG n 16)++a2z n else []
def aIa (j:Nat) (n:Int):List UInt8:=[32]++pqT.getD j []++[32,61,32]++oS n++aGr n++oS (gG n 8)++a4u n++[59]
def a27 (l:List Int) (i:Nat):Nat→List UInt8
 | 0=>[]
 | j+1=>a27 l i j++aIa j (kE l (3*i+1+j))
def a9p (l:List Int) (i:Nat):List UInt8:=[116,121,112,101,32]++abT.getD i []++[32,123,32,114,58,32]++a2x (kE l (3*i))++a8a (kE l (3*i))++[59,32,115,58,32]++sT (kE l (3*i))++[59]
def aIb (l:List Int) (i:Nat):List UInt8:=a9p l i++a27 l i 2++[32,125,10]
def upT (l:List Int):Nat→List UInt8
 | 0=>[116,121,112,101,32,117,10]
 | i+1=>upT l i++aIb l i
def wC (l:List Int):List UInt8:=upT l 2
theorem a35 {l:List (List UInt8)} {m:Nat} (h:∀ x ∈ l,x.length≤m) (k:Nat):(l.getD k []).length≤m:=by
 rw [zry]
 cases e : l[k]? with
 | none=>simp
 | some x=>exact h x (zyx e)
theorem aIc (n:Int):(a2x n).length≤3:=a35 (by decide) _
theorem yR (n:Int):(oS n).length≤4:=a35 (by decide) _
theorem bAn (n:Int):(sT n).length≤5:=a35 (by decide) _
theorem aYk (n:Int):(aGr n).length≤3:=a35 (by decide) _
theorem aYl (n:Int):(aC6 n).length≤4:=a35 (by decide) _
theorem aYm (n:Int):(a8a n).length≤6:=by
 have:=aIc (gG n 9)
 unfold a8a; split <;> simp <;> omega
theorem b4n (n:Int):(a2z n).length≤8:=by
 have:=yR (gG n 20)
 unfold a2z; split <;> simp <;> omega
theorem aUh (n:Int):(a4u n).length≤16:=by
 have:=yR (gG n 16)
 have:=aYl n
 have:=b4n n
 unfold a4u; split <;> simp <;> omega
theorem b4o (n:Nat):(pqT.getD n []).length≤1:=a35 (by decide) _
theorem b4p (n:Nat):(abT.getD n []).length≤1:=a35 (by decide) _
theorem b8i (j:Nat) (n:Int):(aIa j n).length≤33:=by
 have:=yR n
 have:=yR (gG n 8)
 have:=aYk n
 have:=aUh n
 have:=b4o j
 simp only [aIa,zwy,zwx,List.length_nil]; omega
theorem aGs (l:List Int) (i:Nat):∀ j,(a27 l i j).length≤33*j
 | 0=>zxy _
 | j+1=>by
  have:=aGs l i j
  have:=b8i j (kE l (3*i+1+j))
  simp only [a27,zwy]; omega
theorem aUi (l:List Int) (i:Nat):(a9p l i).length≤32:=by
 have:=aIc (kE l (3*i))
 have:=aYm (kE l (3*i))
 have:=bAn (kE l (3*i))
 have:=b4p i
 simp only [a9p,zwy,zwx,List.length_nil]; omega
theorem b8j (l:List Int) (i:Nat):(aIb l i).length≤101:=by
 have:=aUi l i
 have:=aGs l i 2
 simp only [aIb,zwy,zwx,List.length_nil]; omega
theorem aGt (l:List Int):∀ i,(upT l i).length≤101*i+7
 | 0=>by simp [upT]
 | i+1=>by
  have:=aGt l i
  have:=b8j l i
  simp only [upT,zwy]; omega
noncomputable def a6a:Spec:=gV (fun l:List Int=>[gZ l]) (fun _=>True) (fun l=>.str (wC l))
theorem bHs (l:List Int):a6a [gZ l]=some (.str (wC l)):=gD (fun a b h=>a9o (by simpa using h)) trivial
theorem b8k {a b:Nat} (h:a+b < 1000):aD .add (vI (a:Nat)) (vI (b:Nat))=some (vI ((a+b:Nat):Int)):=by
 rw [aKl,lN (by omega) (by omega)]; rfl
theorem b8l {a:Nat} (h:a < 900):aD .add (vI (a:Nat)) (.int .i64 1)=some (vI ((a+1:Nat):Int)):=b8k (b:=1) (by omega)
theorem bJp {a:Nat} (h:a < 900):aD .add (vI (a:Nat)) (.int .i64 3)=some (vI ((a+3:Nat):Int)):=b8k (b:=3) (by omega)
theorem bHt:lO 1 [(.str [97]),(.str [98])]=some (a9n abT):=by kernel_rfl
theorem bHu:lO 1 [(.str [112]),(.str [113])]=some (a9n pqT):=by kernel_rfl
theorem bHv:lO 1 [(.str [97]),(.str [98]),(.str [97,32,124,32,98]),(.str [117,32,124,32,97])]=some (a9n ssT):=by kernel_rfl
theorem bHw:lO 1 [(.str [32,43,32]),(.str [32,38,32]),(.str [32,45,32]),(.str [32,43,32])]=some (a9n a6z):=by kernel_rfl
theorem bHx:lO 1 [(.str [32,43,32]),(.str [32,38,32]),(.str [32,45,32]),(.str [32,45,32,40])]=some (a9n a9m):=by kernel_rfl
noncomputable abbrev TM1:List (FuncId×Spec):=[(jX,qJ),(xI,xP),(xJ,xQ)]
theorem aYn (n:Int):wR (bT TM1) (.func 15 []) [vI n]=some (.str (a2x n)):=nr rfl
theorem aC7 (n:Int):wR (bT TM1) (.func 16 []) [vI n]=some (.str (oS n)):=nr rfl
theorem ag1 (l:List Int):aG [gZ l]=some (.agg [gZ l]):=nr rfl
theorem aUj (l:List Int):bF 1 (.agg [gZ l])=some (.agg [gZ l]):=nr rfl
theorem cA1 (l:List Int):aA (.agg [gZ l]) 0=gZ l:=nr rfl
theorem bCi (l:List Int):kT (gZ l)=some (gZ l):=nr rfl
theorem bS {s u:List UInt8} (h:s.length+u.length≤2000):aD .add (.str s) (.str u)=some (.str (s++u)):=bGm s u (by omega)
theorem bEy {i:Nat} : aD .lss (vI (i:Nat)) (.int .i64 2)=some (.bool (decide (i < 2))):=by
 rw [aAd]
 have:decide ((i:Int) < 2)=decide (i < 2):=by
  by_cases h:i < 2
  ·simp [h]; omega
  ·simp [h]; omega
 rw [this]
theorem bEz (n:Int) (k:Nat):aD .eql (vI (((gG n k) % 2).toNat:Nat)) (.int .i64 1)=some (.bool (a79 n k)):=uO _ _ _
theorem bE0 (l:List Int):aG [aA (.agg [gZ l]) 0]=some (.agg [gZ l]):=nr rfl
theorem jn {k:List V→Prop} {b:(List V→Prop)→Prop} (X:List V) (h:∀ r:List V→Prop,r X→b r) (hk:k X):qI k b:=h k hk
theorem bCj (l:List Int):cC (cM.dy [25,30,39,48,62]) (bT TM1) 128 uF [.tmp 2] (cB Try.f6) [gZ l] (fun r=>r = .str (wC l)):=by
 have c1:∀ args,bT TM1 jX args=qJ args:=fun _=>rfl
 refine Eq.mpr (aIq (bT _) _ (gZ l)) ?_
 simp only [bCi,aB]
 refine jC (fun vs=>∃ i,i≤2∧vs=[.str (upT l i),vI ((3*i:Nat):Int),vI (i:Nat),.func 16 [],.func 15 [],gZ l]) (fun vs=>2 - jP (gv vs 2)) ⟨0,by omega,rfl⟩ ?_
 rintro r _ ⟨i,hi,rfl⟩ hr
 refine ⟨rfl,?_⟩
 simp only [sL,tV,bEy,aB,cK]
 by_cases h:i < 2
 ·have hu:=aGt l i
  have hab:=b4p i
  have hA:=aIc (kE l (3*i))
  have hB:=aYm (kE l (3*i))
  have hB':=aIc (gG (kE l (3*i)) 9)
  have hC:=bAn (kE l (3*i))
  simp only [h,decide_true,if_true,bHt,aB,aC3 (show i < abT.length from h)]
  rw [bS (by simp only [zwx,List.length_nil]; omega),aB]
  rw [bS (by simp only [zwy,zwx,List.length_nil]; omega),aB]
  rw [bS (by simp only [zwy,zwx,List.length_nil]; omega),aB]
  rw [ag1,aB,c1,aGp,aB,x0,aB,x1,aB,aUj,aB,aYn,aB]
  rw [bS (by simp only [zwy,zwx,List.length_nil]; omega),aB]
  rw [bE0,aB,c1,aGp,aB,x0,aB,x1,aB,aUj,aB,bAl,aB,bAk,aB,bEz,aB]
  refine jn (X:=[.str (upT l i++[116,121,112,101,32]++abT.getD i []++[32,123,32,114,58,32]++a2x (kE l (3*i))++a8a (kE l (3*i))),gZ l]) ?_ ?_
  ·intro r1 h1
   rw [cK]
   by_cases hb:a79 (kE l (3*i)) 8=true
   ·rw [if_pos hb]
    rw [bS (by simp only [zwy,zwx,List.length_nil]; omega),aB]
    rw [bE0,aB,c1,aGp,aB,x0,aB,x1,aB,aUj,aB,bHp,aB,aYn,aB]
    rw [bS (by simp only [zwy,zwx,List.length_nil]; omega),aB]
    rw [show a8a (kE l (3*i))=[32,124,32]++a2x (gG (kE l (3*i)) 9) by unfold a8a; rw [if_pos hb]] at h1
    simpa only [zty,cA1] using h1
   ·rw [if_neg hb]
    rw [show a8a (kE l (3*i))=[] by unfold a8a; rw [if_neg hb]] at h1
    simpa only [List.append_nil,cA1] using h1
  ·simp only [sL,tV]
   refine ⟨rfl,?_⟩
   rw [bS (by simp only [zwy,zwx,List.length_nil]; omega),aB,bHv,aB]
   rw [ag1,aB,c1,aGp,aB,x0,aB,x1,aB,aUj,aB,b4m,aB,aYj,aB,bHr,aB]
   rw [aC3 (show ((gG (kE l (3*i)) 20) % 256).toNat % 4 < ssT.length from Nat.mod_lt _ (by decide)),aB]
   rw [bS (by have:(ssT.getD (((gG (kE l (3*i)) 20) % 256).toNat % 4) []).length≤5:=hC; simp only [zwy,zwx,List.length_nil]; omega),aB]
   rw [bS (by have:(ssT.getD (((gG (kE l (3*i)) 20) % 256).toNat % 4) []).length≤5:=hC; simp only [zwy,zwx,List.length_nil]; omega),aB]
   have hH:upT l i++[116,121,112,101,32]++abT.getD i []++[32,123,32,114,58,32]++a2x (kE l (3*i))++a8a (kE l (3*i))++[59,32,115,58,32]++ssT.getD (((gG (kE l (3*i)) 20) % 256).toNat % 4) []++[59]=upT l i++a9p l i:=by
    simp only [a9p,sT,zty]
   rw [hH,cA1]
   refine jC (fun vs=>∃ j,j≤2∧vs=[.str (upT l i++a9p l i++a27 l i j),vI (j:Nat),gZ l]) (fun vs=>2 - jP (gv vs 1)) ⟨0,by omega,by simp only [a27,List.append_nil]; rfl⟩ ?_
   rintro r2 _ ⟨j,hj,rfl⟩ hr2
   refine ⟨rfl,?_⟩
   simp only [sL,tV]
   rw [bEy,aB,cK]
   have hhd:=aUi l i
   have hex:=aGs l i j
   by_cases hj2:j < 2
   ·rw [if_pos (by simpa using hj2)]
    rw [b8l (by omega),aB,b8k (by omega),aB,ag1,aB,c1,aGp,aB,x0,aB,x1,aB,aUj,aB]
    obtain ⟨n,hn⟩:∃ n,n=kE l (3*i+1+j):=⟨_,rfl⟩
    rw [← hn]
    have q1:=yR n
    have q2:=yR (gG n 8)
    have q3:=aYk n
    have q4:=aUh n
    have q5:=b4o j
    have q6:=yR (gG n 16)
    have q7:=yR (gG n 20)
    have q8:=aYl n
    rw [bS (by simp only [zwy,zwx,List.length_nil]; omega),aB,bHu,aB,aC3 (show j < pqT.length from hj2),aB]
    rw [bS (by simp only [zwy,zwx,List.length_nil]; omega),aB]
    rw [bS (by simp only [zwy,zwx,List.length_nil]; omega),aB,aC7,aB]
    rw [bS (by simp only [zwy,zwx,List.length_nil]; omega),aB,bHw,aB,bHq,aB,b1m,aB,aC3 (show ((gG n 4) % 4).toNat < a6z.length from m4 _),aB]
    rw [show a6z.getD ((gG n 4) % 4).toNat []=aGr n from rfl]
    rw [bS (by simp only [zwy,zwx,List.length_nil]; omega),aB,bAl,aB,aC7,aB]
    rw [bS (by simp only [zwy,zwx,List.length_nil]; omega),aB,bEt,aB,bAk,aB,bEz,aB]
    refine jn (X:=[.str (upT l i++a9p l i++a27 l i j++[32]++pqT.getD j []++[32,61,32]++oS n++aGr n++oS (gG n 8)++a4u n)]) ?_ ?_
    ·intro r3 h3
     rw [cK]
     by_cases hb:a79 n 12=true
     ·rw [if_pos hb,bHx,aB,bEu,aB,b1m,aB,aC3 (show ((gG n 13) % 4).toNat < a9m.length from m4 _),aB]
      rw [show a9m.getD ((gG n 13) % 4).toNat []=aC6 n from rfl]
      rw [bS (by simp only [zwy,zwx,List.length_nil]; omega),aB,bEv,aB,aC7,aB]
      rw [bS (by simp only [zwy,zwx,List.length_nil]; omega),aB,aB,b1m,aB,uO,aB,cK]
      rw [show a4u n=aC6 n++oS (gG n 16)++a2z n by unfold a4u; rw [if_pos hb]] at h3
      by_cases hb3:decide ((((gG n 13) % 4).toNat:Int)=3)=true
      ·rw [if_pos hb3,bS (by simp only [zwy,zwx,List.length_nil]; omega),aB,b4m,aB,aC7,aB]
       rw [bS (by simp only [zwy,zwx,List.length_nil]; omega),aB]
       rw [bS (by simp only [zwy,zwx,List.length_nil]; omega),aB]
       rw [show a2z n=[32,38,32]++oS (gG n 20)++[41] by unfold a2z; rw [if_pos hb3]] at h3
       simpa only [zty] using h3
      ·rw [if_neg hb3]
       rw [show a2z n=[] by unfold a2z; rw [if_neg hb3]] at h3
       simpa only [zty,List.append_nil] using h3
     ·rw [if_neg hb]
      rw [show a4u n=[] by unfold a4u; rw [if_neg hb]] at h3
      simpa only [zty,List.append_nil] using h3
    ·simp only [sL]
     refine ⟨rfl,?_⟩
     rw [bS (by simp only [zwy,zwx,List.length_nil]; omega),aB,b8l (by omega),aB,cA1]
     refine hr2 _ ⟨j+1,by omega,?_⟩ (by simp only [sL,tV,jP]; omega)
     simp only [a27,aIa,← hn,zty]
   ·have e:j=2:=by omega
    subst e
    rw [if_neg (by simp)]
    rw [bS (by simp only [zwy,zwx,List.length_nil]; omega),aB,bJp (by omega),aB,b8l (by omega),aB]
    refine hr _ ⟨i+1,by omega,?_⟩ (by simp only [sL,tV,jP]; omega)
    simp only [upT,aIb,zty]
    rfl
 ·have e:i=2:=by omega
  subst e
  simp only [h,decide_false,zuy,if_false]
  rfl
theorem aGu:fS Try.prog a58 a6a:=by
 refine aGg (T:=TM1) (aM.kU aBh (aM.cons aC4 (aM.cons aC5 aM.nil))) fun args v hv=>?_
 obtain ⟨l,rfl,_,rfl⟩:=eO hv
 exact ⟨rfl,by simp [aL,a2y],rfl,bCj l⟩
end Go.Fbs

namespace Go.Fbs
open Go.Proofs
theorem a1q:∀ (f:Nat) (k:Nat) (l:List UInt8),l.length≤f→iE f k l=iE l.length k l:=by
 intro f
 induction f using Nat.strongRecOn with
 | ind f ih =>
  intro k l hl
  cases l with
  | nil=>cases f <;> rfl
  | cons c t =>
   obtain ⟨g,rfl⟩:∃ g,f=g+1:=⟨f - 1,by simp at hl; omega⟩
   simp only [zwx,iE]
   split
   ·rfl
   ·have hn:=(a1p (l:=c::t) (by simp)).1
    generalize (eU (c::t)).2.1.length=n at *
    have h1:(((c::t).drop n).drop (dV false ((c::t).drop n))).length≤t.length:=by
     simp only [List.length_drop,zwx]; omega
    simp only [zwx] at hl
    rw [ih g (by omega) _ _ (by omega)]
    by_cases hg:t.length < g+1
    ·by_cases hg2:t.length=g
     ·rw [hg2,ih g (by omega) _ _ (by omega)]
     ·rw [ih t.length (by omega) _ _ h1]
    ·omega
theorem aQe {c : UInt8} {t : List UInt8} (h : ¬ (c = 47 ∧ t.head? = some 47)) (hb : yQ c = false) : dV false (c :: t) = 0:=by
 unfold dV; rw [if_neg h]; simp [hb]
theorem aJi {c:UInt8} {t:List UInt8} (hb:yQ c=true):dV false (c::t)=1+dV false t:=by
 have : ¬ (c = 47 ∧ t.head? = some 47):=by rintro ⟨rfl,-⟩; simp [yQ] at hb
 conv=>lhs; unfold dV
 rw [if_neg this]; simp [hb]
def nK (k:Nat) (l:List UInt8):List eP×Option Nat:=iE l.length (k+dV false l) (l.drop (dV false l))
theorem b8m (k:Nat):nK k []=([],none):=rfl
theorem aMz {k:Nat} {b:UInt8} {l:List UInt8} (hb:yQ b=true):nK k (b::l)=nK (k+1) l:=by
 unfold nK
 rw [aJi hb]
 rw [show (b::l).drop (1+dV false l)=l.drop (dV false l) by rw [Nat.add_comm]; rfl]
 rw [show k+(1+dV false l)=k+1+dV false l by omega]
 rw [a1q _ _ _ (by simp only [List.length_drop,zwx]; omega),a1q l.length _ _ (by simp only [List.length_drop]; omega)]
theorem aUk {k:Nat} {c:UInt8} {l:List UInt8} (hc:c≠47) (hb:yQ c=false) :
  nK k (c::l)=if (eU (c::l)).2.2=false then ([],some k) else
   (((eU (c::l)).1,k,(eU (c::l)).2.1)::(nK (k+(eU (c::l)).2.1.length) ((c::l).drop (eU (c::l)).2.1.length)).1,(nK (k+(eU (c::l)).2.1.length) ((c::l).drop (eU (c::l)).2.1.length)).2):=by
 conv=>lhs; unfold nK
 rw [aQe (fun h=>hc h.1) hb]
 simp only [List.drop_zero,Nat.add_zero,zwx,iE]
 split
 ·rfl
 ·have hn:=(a1p (l:=c::l) (by simp)).1
  generalize (eU (c::l)).2.1.length=n at *
  unfold nK
  rw [a1q l.length _ _ (by simp only [List.length_drop,zwx]; omega),a1q ((c::l).drop n).length _ _ (by simp only [List.length_drop]; omega)]
def kt (t:eP):Int×List UInt8:=(t.1,t.2.2)
def xW (w:List UInt8) (suf:List UInt8):Bool :=
 match w.getLast? with
 | none=>true
 | some c=>(c != 45) && (!(jG c.toNat) || match suf.head? with | some d=>!(jG d.toNat) | none=>true)
theorem aM0 {w suf:List UInt8} (h:xW w suf=true) (n:Nat):xW (w.drop n) suf=true:=by
 unfold xW at h ⊢
 by_cases hn:n < w.length
 ·rw [List.getLast?_drop,if_neg (by omega)]; exact h
 ·rw [List.drop_eq_nil_of_le (by omega)]; rfl
theorem aUl {f:UInt8→Bool} : ∀ {l:List UInt8} {x:UInt8},x ∈ l.takeWhile f→f x=true
 | [],_,h=>by simp at h
 | a::l,x,h=>by
  rw [List.takeWhile_cons] at h
  split at h
  ·rename_i ha
   rcases List.mem_cons.1 h with rfl | h
   ·exact ha
   ·exact aUl h
  ·simp at h
theorem bCk (l:List UInt8):pX l≤l.length:=(List.takeWhile_sublist _).length_le
theorem b8n {w suf:List UInt8} (h:xW w suf=true) (hw:w≠[]):pX (w++suf)=pX w:=by
 unfold pX
 rw [List.takeWhile_append]
 split
 ·rename_i hl
  have hall:w.takeWhile (fun c=>jG c.toNat)=w:=(List.takeWhile_sublist _).eq_of_length hl
  have hlast:jG (w.getLast hw).toNat=true:=by
   have:w.getLast hw ∈ w.takeWhile (fun c=>jG c.toNat):=by rw [hall]; exact List.getLast_mem hw
   exact aUl this
  unfold xW at h
  rw [List.getLast?_eq_some_getLast hw] at h
  simp only [hlast,Bool.not_true,Bool.false_or,zxz] at h
  have:suf.takeWhile (fun c=>jG c.toNat)=[]:=by
   cases suf with
   | nil=>rfl
   | cons d r =>
    have:=h.2
    simp only [List.head?_cons,Bool.not_eq_true'] at this
    simp [List.takeWhile_cons,this]
  rw [this,hall]; simp
 ·rfl
theorem b4r {w suf:List UInt8} (h:xW w suf=true) (hw:w≠[]):eU (w++suf)=eU w:=by
 unfold eU
 rw [b8n h hw]
 have hlw:1≤w.length:=by cases w with | nil=>exact absurd rfl hw | cons=>simp
 split
 ·rw [List.take_append_of_le_length (bCk w)]
 ·have hp:([45,62]:List UInt8).isPrefixOf (w++suf)=([45,62]:List UInt8).isPrefixOf w:=by
   match w,hw,h with
   | [c],_,h =>
    have:c≠45:=by
     unfold xW at h
     simp at h
     exact h.1
    have hc:((45:UInt8) == c)=false:=by simpa using fun e=>this e.symm
    simp [List.isPrefixOf,hc]
   | c::d::r,_,_=>simp [List.isPrefixOf]
  rw [hp]
  split
  ·rfl
  ·rw [List.take_append_of_le_length hlw]
   cases w with
   | nil=>exact absurd rfl hw
   | cons c r=>rfl
theorem aC8:∀ (n:Nat) (w suf:List UInt8) (k:Nat),w.length≤n→(47:UInt8) ∉ w→xW w suf=true→(nK k w).2=none→nK k (w++suf)=((nK k w).1++(nK (k+w.length) suf).1,(nK (k+w.length) suf).2)
 | _,[],suf,k,_,_,_,_=>by simp [b8m]
 | 0,c::w,_,_,h,_,_,_=>by simp at h
 | n+1,c::w,suf,k,hl,hs,he,hn=>by
  simp only [zwx] at hl
  simp only [List.mem_cons,not_or] at hs
  cases hb:yQ c with
  | true =>
   rw [List.cons_append,aMz hb]
   rw [aMz hb] at hn ⊢
   rw [aC8 n w suf (k+1) (by omega) hs.2 (aM0 he 1) hn]
   simp only [zwx]
   rw [show k+1+w.length=k+(w.length+1) by omega]
  | false =>
   have e:=b4r he (show c::w≠[] by simp)
   have hc:c≠47:=fun e=>hs.1 e.symm
   have hm:=a1p (l:=c::w) (by simp)
   rw [aUk hc hb] at hn ⊢
   rw [List.cons_append,aUk hc hb,← List.cons_append,e]
   generalize eU (c::w)=q at *
   obtain ⟨q1,q2,q3⟩:=q
   simp only at hn hm ⊢
   cases q3 with
   | false=>simp at hn
   | true =>
    simp only [Bool.true_eq_false,if_false] at hn ⊢
    have hd:(c::w++suf).drop q2.length=(c::w).drop q2.length++suf:=List.drop_append_of_le_length hm.2
    rw [hd,aC8 n _ suf _ (by simp only [List.length_drop,zwx]; omega) (fun h=>by
     have:=List.mem_of_mem_drop h
     simp only [List.mem_cons] at this
     rcases this with h | h
     ·exact hs.1 h
     ·exact hs.2 h) (aM0 he _) hn]
    simp only [List.cons_append,List.length_drop,zwx]
    have hm2:=hm.2
    simp only [zwx] at hm2
    rw [show k+q2.length+(w.length+1 - q2.length)=k+(w.length+1) by omega]
theorem aYo:∀ (f k m:Nat) (l:List UInt8),(iE f k l).1.map kt=(iE f m l).1.map kt∧((iE f k l).2=none↔(iE f m l).2=none)
 | 0,_,_,_=>⟨rfl,Iff.rfl⟩
 | f+1,_,_,[]=>⟨rfl,Iff.rfl⟩
 | f+1,k,m,c::l=>by
  simp only [iE]
  split
  ·simp
  ·have:=aYo f (k+(eU (c::l)).2.1.length+dV false ((c::l).drop (eU (c::l)).2.1.length)) (m+(eU (c::l)).2.1.length+dV false ((c::l).drop (eU (c::l)).2.1.length)) (((c::l).drop (eU (c::l)).2.1.length).drop (dV false ((c::l).drop (eU (c::l)).2.1.length)))
   exact ⟨by simp only [zsx,this.1]; rfl,this.2⟩
theorem aYp (k m:Nat) (l:List UInt8):(nK k l).1.map kt=(nK m l).1.map kt∧((nK k l).2=none↔(nK m l).2=none):=aYo _ _ _ _
structure Pc (w:List UInt8) (ks:List (Int×List UInt8)):Prop where
 sl:(47:UInt8) ∉ w
 en:∀ suf,xW w suf=true
 ok:∀ k,(nK k w).2=none
 kd:∀ k,(nK k w).1.map kt=ks
theorem b4s {w v:List UInt8} (hw:∀ suf,xW w suf=true) (hv:∀ suf,xW v suf=true) (suf:List UInt8):xW (w++v) suf=true:=by
 cases v with
 | nil=>simpa using hw suf
 | cons a r =>
  have:=hv suf
  unfold xW at this ⊢
  rw [show (w ++ a :: r).getLast? = (a :: r).getLast? by
   rw [List.getLast?_append,List.getLast?_eq_some_getLast (show a::r≠[] by simp)]; rfl]
  exact this
theorem Pc.app {w v:List UInt8} {ks js:List (Int×List UInt8)} (h:Pc w ks) (g:Pc v js):Pc (w++v) (ks++js) where
 sl:=by simp only [List.mem_append,not_or]; exact ⟨h.sl,g.sl⟩
 en:=b4s h.en g.en
 ok:=fun k=>by rw [aC8 w.length w v k (zxy _) h.sl (h.en v) (h.ok k)]; exact g.ok _
 kd:=fun k=>by rw [aC8 w.length w v k (zxy _) h.sl (h.en v) (h.ok k)]; simp only [List.map_append,h.kd,g.kd]
def bAp (w : List UInt8) : Bool:=match w.getLast? with | none=>true | some c=>(c != 45) && !(jG c.toNat)
def pcB (w:List UInt8):Bool:=!(w.contains 47) && bAp w && (nK 0 w).2.isNone
def eV (w:List UInt8):List (Int×List UInt8):=(nK 0 w).1.map kt
theorem Pc.of {w:List UInt8} (h:pcB w=true):Pc w (eV w):=by
 simp only [pcB,zxz,Bool.not_eq_true',Option.isNone_iff_eq_none] at h
 obtain ⟨⟨h1,h2⟩,h3⟩:=h
 refine ⟨by simpa using h1,fun suf=>?_,fun k=>((aYp k 0 w).2).2 h3,fun k=>(aYp k 0 w).1⟩
 unfold bAp at h2
 unfold xW
 split at h2
 ·rfl
 ·rename_i c e
  simp only [zxz] at h2
  simp only [h2.1,h2.2,Bool.true_or,Bool.and_self]
end Go.Fbs

namespace Go.Fbs
open Go.Proofs
abbrev KT:=Int×List UInt8
theorem Pc.cast {w w':List UInt8} {ks ks':List KT} (h:Pc w ks) (e:w=w') (g:ks=ks'):Pc w' ks':=by subst e; subst g; exact h
def a60 (A B:List (List UInt8)):Bool:=A.all fun a=>B.all fun b=>pcB (a++b) && (eV (a++b) == eV a++eV b)
theorem a0q {A B:List (List UInt8)} (h:a60 A B=true) {a b:List UInt8} (ha:a ∈ A) (hb:b ∈ B):Pc (a++b) (eV a++eV b):=by
 have:=List.all_eq_true.1 (List.all_eq_true.1 h a ha) b hb
 simp only [zxz,beq_iff_eq] at this
 rw [← this.2]
 exact Pc.of this.1
theorem a8b {l:List (List UInt8)} {k:Nat} (h:k < l.length):l.getD k [] ∈ l:=by
 rw [zry,zyz h]; exact List.getElem_mem h
theorem a36 (n:Int):a2x n ∈ a9l:=a8b (Nat.mod_lt _ (by decide))
theorem jT (n:Int):oS n ∈ rD:=a8b (m8 n)
theorem aUm (n:Int):sT n ∈ ssT:=a8b (Nat.mod_lt _ (by decide))
theorem aC9 (n:Int):aGr n ∈ a6z:=a8b (m4 _)
theorem aKu (n:Int):aC6 n ∈ a9m:=a8b (m4 _)
theorem bHy:a60 a9l [[32,124,32]]=true:=by kernel_rfl
theorem bAq:a60 a9l [[59,32,115,58,32]]=true:=by kernel_rfl
theorem pS:a60 ssT [[59]]=true:=by kernel_rfl
theorem pN1:a60 rD a6z=true:=by kernel_rfl
theorem pN2:a60 rD a9m=true:=by kernel_rfl
theorem pN3:a60 rD [[59]]=true:=by kernel_rfl
theorem pN4:a60 rD [[32,38,32]]=true:=by kernel_rfl
theorem pN5:a60 rD [[41,59]]=true:=by kernel_rfl
theorem bJq:eV [32,124,32]=[(2,[124])]:=by kernel_rfl
theorem kSS:eV [59,32,115,58,32]=[(2,[59]),(1,[115]),(2,[58])]:=by kernel_rfl
theorem b1n:eV [59]=[(2,[59])]:=by kernel_rfl
theorem bJr:eV [32,38,32]=[(2,[38])]:=by kernel_rfl
theorem bJs:eV [41,59]=[(2,[41]),(2,[59])]:=by kernel_rfl
def aDa (n:Int):List KT:=eV (a2x n)++(if a79 n 8 then (2,[124])::eV (a2x (gG n 9)) else [])
def aBi (n:Int):List KT:=if a79 n 12 then eV (aC6 n)++eV (oS (gG n 16))++(if decide ((((gG n 13) % 4).toNat:Int)=3) then (2,[38])::eV (oS (gG n 20))++[(2,[41])] else []) else []
def aKv (n:Int):List KT:=eV (oS n)++eV (aGr n)++eV (oS (gG n 8))++aBi n
def a0y (j:Nat) (n:Int):List KT:=[(1,pqT.getD j []),(2,[61])]++aKv n++[(2,[59])]
def a9q (l:List Int) (i:Nat):List KT :=
 [(1,[116,121,112,101]),(1,abT.getD i []),(2,[123]),(1,[114]),(2,[58])]++aDa (kE l (3*i))++[(2,[59]),(1,[115]),(2,[58])]++eV (sT (kE l (3*i)))++[(2,[59])]++a0y 0 (kE l (3*i+1))++a0y 1 (kE l (3*i+2))++[(2,[125])]
def aM1 (l:List Int):List KT:=[(1,[116,121,112,101]),(1,[117])]++a9q l 0++a9q l 1
theorem bCl (n:Int):Pc (oS (gG n 8)++a4u n++[59]) (eV (oS (gG n 8))++aBi n++[(2,[59])]):=by
 unfold a4u aBi
 by_cases hb:a79 n 12=true
 ·rw [if_pos hb,if_pos hb]
  have h1:=a0q pN2 (jT (gG n 8)) (aKu n)
  unfold a2z
  by_cases h3:decide ((((gG n 13) % 4).toNat:Int)=3)=true
  ·rw [if_pos h3,if_pos h3]
   have h2:=a0q pN4 (jT (gG n 16)) (List.mem_singleton.2 rfl)
   have h4:=a0q pN5 (jT (gG n 20)) (List.mem_singleton.2 rfl)
   rw [bJr] at h2
   rw [bJs] at h4
   exact ((h1.app h2).app h4).cast (by simp only [zty,List.cons_append,List.nil_append]) (by simp only [zty,List.cons_append,List.nil_append])
  ·rw [if_neg h3,if_neg h3]
   have h2:=a0q pN3 (jT (gG n 16)) (List.mem_singleton.2 rfl)
   rw [b1n] at h2
   exact (h1.app h2).cast (by simp only [zty,List.append_nil]) (by simp only [zty,List.append_nil])
 ·rw [if_neg hb,if_neg hb]
  have h2:=a0q pN3 (jT (gG n 8)) (List.mem_singleton.2 rfl)
  rw [b1n] at h2
  exact h2.cast (by simp only [List.append_nil]) (by simp only [List.append_nil])
theorem aYq {j:Nat} (hj:j < 2) (n:Int):Pc (aIa j n) (a0y j n):=by
 have h0:Pc ([32]++pqT.getD j []++[32,61,32]) [(1,pqT.getD j []),(2,[61])]:=by
  match j,hj with
  | 0,_=>exact Pc.of (w:=[32,112,32,61,32]) (by kernel_rfl)
  | 1,_=>exact Pc.of (w:=[32,113,32,61,32]) (by kernel_rfl)
 have h1:=a0q pN1 (jT n) (aC9 n)
 exact ((h0.app h1).app (bCl n)).cast (by simp only [aIa,zty]) (by simp only [a0y,aKv,zty])
theorem aYr (l:List Int) {i:Nat} (hi:i < 2):Pc (aIb l i) (a9q l i):=by
 have h0:Pc ([116,121,112,101,32]++abT.getD i []++[32,123,32,114,58,32]) [(1,[116,121,112,101]),(1,abT.getD i []),(2,[123]),(1,[114]),(2,[58])]:=by
  match i,hi with
  | 0,_=>exact Pc.of (w:=[116,121,112,101,32,97,32,123,32,114,58,32]) (by kernel_rfl)
  | 1,_=>exact Pc.of (w:=[116,121,112,101,32,98,32,123,32,114,58,32]) (by kernel_rfl)
 have h1:Pc (a2x (kE l (3*i))++a8a (kE l (3*i))++[59,32,115,58,32]) (aDa (kE l (3*i))++[(2,[59]),(1,[115]),(2,[58])]):=by
  unfold a8a aDa
  by_cases hb:a79 (kE l (3*i)) 8=true
  ·rw [if_pos hb,if_pos hb]
   have g1:=a0q bHy (a36 (kE l (3*i))) (List.mem_singleton.2 rfl)
   have g2:=a0q bAq (a36 (gG (kE l (3*i)) 9)) (List.mem_singleton.2 rfl)
   rw [bJq] at g1
   rw [kSS] at g2
   exact (g1.app g2).cast (by simp only [zty,List.cons_append,List.nil_append]) (by simp only [zty,List.cons_append,List.nil_append])
  ·rw [if_neg hb,if_neg hb]
   have g2:=a0q bAq (a36 (kE l (3*i))) (List.mem_singleton.2 rfl)
   rw [kSS] at g2
   exact g2.cast (by simp only [List.append_nil]) (by simp only [List.append_nil])
 have h2:=a0q pS (aUm (kE l (3*i))) (List.mem_singleton.2 rfl)
 rw [b1n] at h2
 have h3:Pc [32,125,10] [(2,[125])]:=Pc.of (w:=[32,125,10]) (by kernel_rfl)
 exact (((((h0.app h1).app h2).app (aYq (j:=0) (by omega) (kE l (3*i+1)))).app (aYq (j:=1) (by omega) (kE l (3*i+2)))).app h3).cast
  (by simp only [aIb,a9p,a27,zty,List.nil_append,Nat.add_zero,Nat.add_assoc]) (by simp only [a9q,zty])
theorem aYs (l:List Int):Pc (wC l) (aM1 l):=by
 have h0:Pc [116,121,112,101,32,117,10] [(1,[116,121,112,101]),(1,[117])]:=Pc.of (w:=[116,121,112,101,32,117,10]) (by kernel_rfl)
 exact ((h0.app (aYr l (i:=0) (by omega))).app (aYr l (i:=1) (by omega))).cast rfl rfl
end Go.Fbs

/- Schemas made of numbers: the choices. -/
import Derived.Test.YtnmcilaebamncaaKK
set_option maxRecDepth 100000
namespace Go.Fbs
open Go.Proofs
theorem aA9 {a:Int} {j:Nat} (hj:j < 63) {m:Int} (hm:m=((2 ^ j - 1:Nat):Int)):aB .and (.int .i64 a) (.int .i64 m)=some (.int .i64 (((a % (2 ^ j:Nat)).toNat:Nat):Int)):=by
 rw [hm,aSg hj]
 have:0≤a % ((2 ^ j:Nat):Int):=Int.emod_nonneg _ (by have:0 < (2:Nat) ^ j:=Nat.pow_pos (by omega); omega)
 rw [Int.toNat_of_nonneg this]
theorem aBa {a:Int} {b:Nat} (hb:b≤64):aB .shr (.int .i64 a) (.int .u64 b)=some (.int .i64 (a.fdiv (2 ^ b))):=by
 have e:min (b:Int).toNat IntKind.i64.bits=b:=by
  show min (b:Int).toNat 64=b
  rw [Int.toNat_natCast]; omega
 have e2:min b IntKind.i64.bits=b:=by rw [Int.toNat_natCast] at e; exact e
 simp [aB,vV,e2]
theorem aV8 (a:Int):aB .and (.int .i64 a) (.int .i64 255)=some (vI ((a % 256).toNat:Nat)):=aA9 (j:=8) (by omega) rfl
theorem bE1 (a:Int):aB .and (.int .i64 a) (.int .i64 7)=some (vI ((a % 8).toNat:Nat)):=aA9 (j:=3) (by omega) rfl
theorem aZm (a:Int):aB .and (.int .i64 a) (.int .i64 3)=some (vI ((a % 4).toNat:Nat)):=aA9 (j:=2) (by omega) rfl
theorem b67 (a:Int):aB .and (.int .i64 a) (.int .i64 1)=some (vI ((a % 2).toNat:Nat)):=aA9 (j:=1) (by omega) rfl
def fU (a:Int) (k:Nat):Int:=a.fdiv (2 ^ k)
theorem b68 (a:Int):aB .shr (.int .i64 a) (.int .u64 8)=some (vI (fU a 8)):=aBa (b:=8) (by omega)
theorem bE2 (a:Int):aB .shr (.int .i64 a) (.int .u64 9)=some (vI (fU a 9)):=aBa (b:=9) (by omega)
theorem b12 (a:Int):aB .shr (.int .i64 a) (.int .u64 20)=some (vI (fU a 20)):=aBa (b:=20) (by omega)
theorem bE3 (a:Int):aB .shr (.int .i64 a) (.int .u64 4)=some (vI (fU a 4)):=aBa (b:=4) (by omega)
theorem bCf (a:Int):aB .shr (.int .i64 a) (.int .u64 12)=some (vI (fU a 12)):=aBa (b:=12) (by omega)
theorem bCg (a:Int):aB .shr (.int .i64 a) (.int .u64 13)=some (vI (fU a 13)):=aBa (b:=13) (by omega)
theorem bCh (a:Int):aB .shr (.int .i64 a) (.int .u64 16)=some (vI (fU a 16)):=aBa (b:=16) (by omega)
theorem b69 (a:Nat) (b:Nat) (hb:0 < b):aB .rem (vI (a:Nat)) (vI (b:Nat))=some (vI ((a % b:Nat):Int)):=by
 have h:¬ (b:Int)=0:=by omega
 simp only [aB,hX,if_true]
 rw [if_neg h]
 rw [Int.ofNat_tmod]
theorem bCi (a:Nat):aB .rem (vI (a:Nat)) (.int .i64 10)=some (vI ((a % 10:Nat):Int)):=b69 a 10 (by omega)
theorem bE4 (a:Nat):aB .rem (vI (a:Nat)) (.int .i64 4)=some (vI ((a % 4:Nat):Int)):=b69 a 4 (by omega)
def aBb:List (List UInt8):=[[117],[117],[97,35,114],[98,35,114],[97,35,115],[98,35,112],[97],[98],[117],[97,35,113]]
def qG:List (List UInt8):=[[114],[115],[114],[115],[115,45,62,114],[115,45,62,112],[112],[113]]
def ssT:List (List UInt8):=[[97],[98],[97,32,124,32,98],[117,32,124,32,97]]
def a7e:List (List UInt8):=[[32,43,32],[32,38,32],[32,45,32],[32,43,32]]
def aBc:List (List UInt8):=[[32,43,32],[32,38,32],[32,45,32],[32,45,32,40]]
def a7f (l:List (List UInt8)):V:=.sl .ro (l.map V.str)
theorem aBd {l:List (List UInt8)} {k:Nat} (h:k < l.length):eJ false 1 (a7f l) (vI (k:Nat))=some (.str (l.getD k [])):=by
 refine aSf ?_ rfl 1 .i64
 rw [zvz,zyz h,List.getD_eq_getElem?_getD,zyz h]; rfl
def a04 (n:Int):List UInt8:=aBb.getD ((n % 256).toNat % 10) []
def mN (n:Int):List UInt8:=qG.getD (n % 8).toNat []
theorem m8 (n:Int):(n % 8).toNat < 8:=by omega
theorem m4 (n:Int):(n % 4).toNat < 4:=by omega
def uX:Spec
 | [.int .i64 n]=>some (.str (a04 n))
 | _=>none
def uY:Spec
 | [.int .i64 n]=>some (.str (mN n))
 | _=>none
theorem b9v:hG 1 [(.str [117]),(.str [117]),(.str [97,35,114]),(.str [98,35,114]),(.str [97,35,115]),(.str [98,35,112]),(.str [97]),(.str [98]),(.str [117]),(.str [97,35,113])]=some (a7f aBb):=by kernel_rfl
theorem b5w:hG 1 [(.str [114]),(.str [115]),(.str [114]),(.str [115]),(.str [115,45,62,114]),(.str [115,45,62,112]),(.str [112]),(.str [113])]=some (a7f qG):=by kernel_rfl
theorem aBe:dD Try.prog uQ uX:=by
 refine aA1 (T:=[]) aL.nil fun args v hv=>?_
 unfold uX at hv
 split at hv <;> (try simp only [zzz,reduceCtorEq] at hv)
 rename_i n
 subst hv
 refine ⟨rfl,rfl,rfl,?_⟩
 refine Eq.mpr (aCp (bL _) _ (vI n)) ?_
 simp only [b9v,aA,aV8,bCi]
 rw [aBd (show (n % 256).toNat % 10 < aBb.length from Nat.mod_lt _ (by decide))]
 rfl
theorem aBf:dD Try.prog uR uY:=by
 refine aA2 (T:=[]) aL.nil fun args v hv=>?_
 unfold uY at hv
 split at hv <;> (try simp only [zzz,reduceCtorEq] at hv)
 rename_i n
 subst hv
 refine ⟨rfl,rfl,rfl,?_⟩
 refine Eq.mpr (aCq (bL _) _ (vI n)) ?_
 simp only [b5w,aA,bE1]
 rw [aBd (show (n % 8).toNat < qG.length from m8 n)]
 rfl
def hU (l:List Int):V:=.sl .ro (l.map (V.int .i64))
def jE (l:List Int) (k:Nat):Int:=l.getD k 0
theorem aEt {a b:List Int} (h:hU a=hU b):a=b:=by
 simp only [hU,V.sl.injEq,true_and] at h
 exact rR (fun _ _ h=>by simpa using h) h
theorem a41 (l:List Int):(hU l).bP=true:=by
 simp only [hU,V.bP]; exact zU fun _=>rfl
noncomputable def oG:Spec:=iA (fun q:List Int×Nat=>[vI (q.2:Nat),.agg [hU q.1]]) (fun _=>True) (fun q=>.aM [vI (jE q.1 q.2),.agg [hU q.1]])
theorem aEu (l:List Int) (k:Nat):oG [vI (k:Nat),.agg [hU l]]=some (.aM [vI (jE l k),.agg [hU l]]):=gV (a:=(l,k)) (fun a b h=>by
 simp only [List.cons.injEq,and_true,V.agg.injEq,V.int.injEq,true_and] at h
 exact Prod.ext (aEt h.2) (by omega)) trivial
theorem a9c:fX Try.prog a1c eQ oG:=by
 refine a8c (T:=[]) aL.nil fun words v hv=>?_
 obtain ⟨⟨l,k⟩,rfl,_,rfl⟩:=eR hv
 refine ⟨_,rfl,rfl,by simp [aO,a41,V.bP],by simp [aO,a41,V.bP],rfl,rfl,?_⟩
 refine Eq.mpr (a89 (bL _) _ (vI k) (hU l)) ?_
 have eL:dU (hU l)=some (vI l.length):=by simp [dU,hU]
 simp only [eL,aA,a5z,bY]
 by_cases h:k < l.length
 ·have h1:decide ((k:Int) < (l.length:Int))=true:=by simp; omega
  have h2:eJ false 1 (hU l) (vI (k:Nat))=some (vI (jE l k)):=by
   refine aSf ?_ rfl 1 .i64
   rw [zvz,zyz h]
   simp [jE,List.getD_eq_getElem?_getD,zyz h]
  simp only [h1,if_true,h2,aA]
  rfl
 ·have h1:decide ((k:Int) < (l.length:Int))=false:=by simp; omega
  have h2:jE l k=0:=by simp [jE,List.getD_eq_getElem?_getD,List.getElem?_eq_none (show l.length≤k by omega)]
  simp only [h1,Bool.false_eq_true,if_false,h2]
  rfl
end Go.Fbs

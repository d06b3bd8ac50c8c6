/- Schemas made of numbers: the choices. -/
import Derived.Test.YtnmcilaebamncaaKK
set_option linter.unusedVariables false
set_option linter.unusedSimpArgs false
set_option linter.unusedSectionVars false
set_option maxRecDepth 100000
namespace Go.Fbs
open Go.Proofs
theorem aMu {a:Int} {j:Nat} (hj:j < 63) {m:Int} (hm:m=((2 ^ j - 1:Nat):Int)):aS .and (.int .i64 a) (.int .i64 m)=some (.int .i64 (((a % (2 ^ j:Nat)).toNat:Nat):Int)):=by
 rw [hm,b0y hj]
 have:0≤a % ((2 ^ j:Nat):Int):=Int.emod_nonneg _ (by have:0 < (2:Nat) ^ j:=Nat.pow_pos (by omega); omega)
 rw [Int.toNat_of_nonneg this]
theorem aAj {a:Int} {b:Nat} (hb:b≤64):aS .shr (.int .i64 a) (.int .u64 b)=some (.int .i64 (a.fdiv (2 ^ b))):=by
 have e:min (b:Int).toNat IntKind.i64.bits=b:=by
  show min (b:Int).toNat 64=b
  rw [Int.toNat_natCast]; omega
 have e2:min b IntKind.i64.bits=b:=by rw [Int.toNat_natCast] at e; exact e
 simp [aS,zP,e2]
theorem aKa (a:Int):aS .and (.int .i64 a) (.int .i64 255)=some (vI ((a % 256).toNat:Nat)):=aMu (j:=8) (by omega) rfl
theorem bCs (a:Int):aS .and (.int .i64 a) (.int .i64 7)=some (vI ((a % 8).toNat:Nat)):=aMu (j:=3) (by omega) rfl
theorem aU7 (a:Int):aS .and (.int .i64 a) (.int .i64 3)=some (vI ((a % 4).toNat:Nat)):=aMu (j:=2) (by omega) rfl
theorem b31 (a:Int):aS .and (.int .i64 a) (.int .i64 1)=some (vI ((a % 2).toNat:Nat)):=aMu (j:=1) (by omega) rfl
def iR (a:Int) (k:Nat):Int:=a.fdiv (2 ^ k)
theorem b32 (a:Int):aS .shr (.int .i64 a) (.int .u64 8)=some (vI (iR a 8)):=aAj (b:=8) (by omega)
theorem bCt (a:Int):aS .shr (.int .i64 a) (.int .u64 9)=some (vI (iR a 9)):=aAj (b:=9) (by omega)
theorem aYf (a:Int):aS .shr (.int .i64 a) (.int .u64 20)=some (vI (iR a 20)):=aAj (b:=20) (by omega)
theorem bCu (a:Int):aS .shr (.int .i64 a) (.int .u64 4)=some (vI (iR a 4)):=aAj (b:=4) (by omega)
theorem b9a (a:Int):aS .shr (.int .i64 a) (.int .u64 12)=some (vI (iR a 12)):=aAj (b:=12) (by omega)
theorem b9b (a:Int):aS .shr (.int .i64 a) (.int .u64 13)=some (vI (iR a 13)):=aAj (b:=13) (by omega)
theorem b9c (a:Int):aS .shr (.int .i64 a) (.int .u64 16)=some (vI (iR a 16)):=aAj (b:=16) (by omega)
theorem aU8 (a:Nat) (b:Nat) (hb:0 < b):aS .rem (vI (a:Nat)) (vI (b:Nat))=some (vI ((a % b:Nat):Int)):=by
 have h:¬ (b:Int)=0:=by omega
 simp only [aS,jL,if_true]
 rw [if_neg h]
 rw [Int.ofNat_tmod]
theorem b9d (a:Nat):aS .rem (vI (a:Nat)) (.int .i64 10)=some (vI ((a % 10:Nat):Int)):=aU8 a 10 (by omega)
theorem bCv (a:Nat):aS .rem (vI (a:Nat)) (.int .i64 4)=some (vI ((a % 4:Nat):Int)):=aU8 a 4 (by omega)
def aAk:List (List UInt8):=[[117],[117],[97,35,114],[98,35,114],[97,35,115],[98,35,112],[97],[98],[117],[97,35,113]]
def rF:List (List UInt8):=[[114],[115],[114],[115],[115,45,62,114],[115,45,62,112],[112],[113]]
def ssT:List (List UInt8):=[[97],[98],[97,32,124,32,98],[117,32,124,32,97]]
def a60:List (List UInt8):=[[32,43,32],[32,38,32],[32,45,32],[32,43,32]]
def aAl:List (List UInt8):=[[32,43,32],[32,38,32],[32,45,32],[32,45,32,40]]
def a61 (l:List (List UInt8)):V:=.sl .ro (l.map V.str)
theorem aAm {l:List (List UInt8)} {k:Nat} (h:k < l.length):nB false 1 (a61 l) (vI (k:Nat))=some (.str (l.getD k [])):=by
 refine aNw ?_ rfl 1 .i64
 rw [List.getElem?_map,List.getElem?_eq_getElem h,List.getD_eq_getElem?_getD,List.getElem?_eq_getElem h]; rfl
def a02 (n:Int):List UInt8:=aAk.getD ((n % 256).toNat % 10) []
def oQ (n:Int):List UInt8:=rF.getD (n % 8).toNat []
theorem m8 (n:Int):(n % 8).toNat < 8:=by omega
theorem m4 (n:Int):(n % 4).toNat < 4:=by omega
def wE:Spec
 | [.int .i64 n]=>some (.str (a02 n))
 | _=>none
def wF:Spec
 | [.int .i64 n]=>some (.str (oQ n))
 | _=>none
theorem b5b:lG 1 [(.str [117]),(.str [117]),(.str [97,35,114]),(.str [98,35,114]),(.str [97,35,115]),(.str [98,35,112]),(.str [97]),(.str [98]),(.str [117]),(.str [97,35,113])]=some (a61 aAk):=by kernel_rfl
theorem b0z:lG 1 [(.str [114]),(.str [115]),(.str [114]),(.str [115]),(.str [115,45,62,114]),(.str [115,45,62,112]),(.str [112]),(.str [113])]=some (a61 rF):=by kernel_rfl
theorem aAn:iJ Try.prog vU wE:=by
 refine a94 (T:=[]) aK.nil fun args v hv=>?_
 unfold wE at hv
 split at hv <;> (try simp only [Option.some.injEq,reduceCtorEq] at hv)
 rename_i n
 subst hv
 refine ⟨rfl,rfl,rfl,?_⟩
 refine Eq.mpr (aCm (bO _) _ (vI n)) ?_
 simp only [b5b,aC,aKa,b9d]
 rw [aAm (show (n % 256).toNat % 10 < aAk.length from Nat.mod_lt _ (by decide))]
 rfl
theorem aAo:iJ Try.prog vV wF:=by
 refine a95 (T:=[]) aK.nil fun args v hv=>?_
 unfold wF at hv
 split at hv <;> (try simp only [Option.some.injEq,reduceCtorEq] at hv)
 rename_i n
 subst hv
 refine ⟨rfl,rfl,rfl,?_⟩
 refine Eq.mpr (aCn (bO _) _ (vI n)) ?_
 simp only [b0z,aC,bCs]
 rw [aAm (show (n % 8).toNat < rF.length from m8 n)]
 rfl
def jA (l:List Int):V:=.sl .ro (l.map (V.int .i64))
def kM (l:List Int) (k:Nat):Int:=l.getD k 0
theorem aC9 {a b:List Int} (h:jA a=jA b):a=b:=by
 simp only [jA,V.sl.injEq,true_and] at h
 exact zL (fun _ _ h=>by simpa using h) h
theorem a4q (l:List Int):(jA l).aV=true:=by
 simp only [jA,V.aV]; exact tQ fun _=>rfl
noncomputable def oR:Spec:=jJ (fun q:List Int×Nat=>[vI (q.2:Nat),.agg [jA q.1]]) (fun _=>True) (fun q=>.aG [vI (kM q.1 q.2),.agg [jA q.1]])
theorem aDa (l:List Int) (k:Nat):oR [vI (k:Nat),.agg [jA l]]=some (.aG [vI (kM l k),.agg [jA l]]):=hO (a:=(l,k)) (fun a b h=>by
 simp only [List.cons.injEq,and_true,V.agg.injEq,V.int.injEq,true_and] at h
 exact Prod.ext (aC9 h.2) (by omega)) trivial
theorem a9a:eY Try.prog a1w fW oR:=by
 refine a7y (T:=[]) aK.nil fun words v hv=>?_
 obtain ⟨⟨l,k⟩,rfl,_,rfl⟩:=fA hv
 refine ⟨_,rfl,rfl,by simp [aN,a4q,V.aV],by simp [aN,a4q,V.aV],rfl,rfl,?_⟩
 refine Eq.mpr (a8z (bO _) _ (vI k) (jA l)) ?_
 have eL:gD (jA l)=some (vI l.length):=by simp [gD,jA]
 simp only [eL,aC,fX,aH]
 by_cases h:k < l.length
 ·have h1:decide ((k:Int) < (l.length:Int))=true:=by simp; omega
  have h2:nB false 1 (jA l) (vI (k:Nat))=some (vI (kM l k)):=by
   refine aNw ?_ rfl 1 .i64
   rw [List.getElem?_map,List.getElem?_eq_getElem h]
   simp [kM,List.getD_eq_getElem?_getD,List.getElem?_eq_getElem h]
  simp only [h1,if_true,h2,aC]
  rfl
 ·have h1:decide ((k:Int) < (l.length:Int))=false:=by simp; omega
  have h2:kM l k=0:=by simp [kM,List.getD_eq_getElem?_getD,List.getElem?_eq_none (show l.length≤k by omega)]
  simp only [h1,Bool.false_eq_true,if_false,h2]
  rfl
end Go.Fbs

/- Schemas made of numbers: the choices. -/
import Derived.Test.YtnmcilaebamncaaKK
set_option maxRecDepth 100000
namespace Go.Fbs
open Go.Proofs
theorem bMask {a : Int} {j : Nat} (hj : j < 63) {m : Int} (hm : m = ((2 ^ j - 1 : Nat) : Int)) : binK .and (.int .i64 a) (.int .i64 m) = some (.int .i64 (((a % (2 ^ j : Nat)).toNat : Nat) : Int)):=by
 rw [hm,bAndMask hj]
 have : 0 ≤ a % ((2 ^ j : Nat) : Int):=Int.emod_nonneg _ (by have : 0 < (2 : Nat) ^ j:=Nat.pow_pos (by omega); omega)
 rw [Int.toNat_of_nonneg this]
theorem bShrK {a : Int} {b : Nat} (hb : b ≤ 64) : binK .shr (.int .i64 a) (.int .u64 b) = some (.int .i64 (a.fdiv (2 ^ b))):=by
 have e : min (b : Int).toNat IntKind.i64.bits = b:=by
  show min (b : Int).toNat 64 = b
  rw [Int.toNat_natCast]; omega
 have e2 : min b IntKind.i64.bits = b:=by rw [Int.toNat_natCast] at e; exact e
 simp [binK,shiftBin,e2]
theorem bAnd255 (a : Int) : binK .and (.int .i64 a) (.int .i64 255) = some (vI ((a % 256).toNat : Nat)):=bMask (j:=8) (by omega) rfl
theorem bAnd7 (a : Int) : binK .and (.int .i64 a) (.int .i64 7) = some (vI ((a % 8).toNat : Nat)):=bMask (j:=3) (by omega) rfl
theorem bAnd3 (a : Int) : binK .and (.int .i64 a) (.int .i64 3) = some (vI ((a % 4).toNat : Nat)):=bMask (j:=2) (by omega) rfl
theorem bAnd1 (a : Int) : binK .and (.int .i64 a) (.int .i64 1) = some (vI ((a % 2).toNat : Nat)):=bMask (j:=1) (by omega) rfl
def shN (a : Int) (k : Nat) : Int:=a.fdiv (2 ^ k)
theorem bShr8 (a : Int) : binK .shr (.int .i64 a) (.int .u64 8) = some (vI (shN a 8)):=bShrK (b:=8) (by omega)
theorem bShr9 (a : Int) : binK .shr (.int .i64 a) (.int .u64 9) = some (vI (shN a 9)):=bShrK (b:=9) (by omega)
theorem bShr20 (a : Int) : binK .shr (.int .i64 a) (.int .u64 20) = some (vI (shN a 20)):=bShrK (b:=20) (by omega)
theorem bShr4 (a : Int) : binK .shr (.int .i64 a) (.int .u64 4) = some (vI (shN a 4)):=bShrK (b:=4) (by omega)
theorem bShr12 (a : Int) : binK .shr (.int .i64 a) (.int .u64 12) = some (vI (shN a 12)):=bShrK (b:=12) (by omega)
theorem bShr13 (a : Int) : binK .shr (.int .i64 a) (.int .u64 13) = some (vI (shN a 13)):=bShrK (b:=13) (by omega)
theorem bShr16 (a : Int) : binK .shr (.int .i64 a) (.int .u64 16) = some (vI (shN a 16)):=bShrK (b:=16) (by omega)
theorem bRemK (a : Nat) (b : Nat) (hb : 0 < b) : binK .rem (vI (a : Nat)) (vI (b : Nat)) = some (vI ((a % b : Nat) : Int)):=by
 have h : ¬ (b : Int) = 0:=by omega
 simp only [binK,intBin,if_true]
 rw [if_neg h]
 rw [Int.ofNat_tmod]
theorem bRem10 (a : Nat) : binK .rem (vI (a : Nat)) (.int .i64 10) = some (vI ((a % 10 : Nat) : Int)):=bRemK a 10 (by omega)
theorem bRem4 (a : Nat) : binK .rem (vI (a : Nat)) (.int .i64 4) = some (vI ((a % 4 : Nat) : Int)):=bRemK a 4 (by omega)
def subsT : List (List UInt8):=[[117],[117],[97,35,114],[98,35,114],[97,35,115],[98,35,112],[97],[98],[117],[97,35,113]]
def namesT : List (List UInt8):=[[114],[115],[114],[115],[115,45,62,114],[115,45,62,112],[112],[113]]
def ssT : List (List UInt8):=[[97],[98],[97,32,124,32,98],[117,32,124,32,97]]
def op1sT : List (List UInt8):=[[32,43,32],[32,38,32],[32,45,32],[32,43,32]]
def op2sT : List (List UInt8):=[[32,43,32],[32,38,32],[32,45,32],[32,45,32,40]]
def strsV (l : List (List UInt8)) : V:=.sl .ro (l.map V.str)
theorem lstAt {l : List (List UInt8)} {k : Nat} (h : k < l.length) : idxLK false 1 (strsV l) (vI (k : Nat)) = some (.str (l.getD k [])):=by
 refine idxL_one ?_ rfl 1 .i64
 rw [List.getElem?_map,List.getElem?_eq_getElem h,List.getD_eq_getElem?_getD,List.getElem?_eq_getElem h]; rfl
def subT (n : Int) : List UInt8:=subsT.getD ((n % 256).toNat % 10) []
def nameT (n : Int) : List UInt8:=namesT.getD (n % 8).toNat []
theorem m8 (n : Int) : (n % 8).toNat < 8:=by omega
theorem m4 (n : Int) : (n % 4).toNat < 4:=by omega
def F_entaillaw7_Made_2 : Spec
 | [.int .i64 n]=>some (.str (subT n))
 | _=>none
def F_entaillaw7_Made_3 : Spec
 | [.int .i64 n]=>some (.str (nameT n))
 | _=>none
theorem litSubs : litK 1 [(.str [117]),(.str [117]),(.str [97,35,114]),(.str [98,35,114]),(.str [97,35,115]),(.str [98,35,112]),(.str [97]),(.str [98]),(.str [117]),(.str [97,35,113])] = some (strsV subsT):=by kernel_rfl
theorem litNames : litK 1 [(.str [114]),(.str [115]),(.str [114]),(.str [115]),(.str [115,45,62,114]),(.str [115,45,62,112]),(.str [112]),(.str [113])] = some (strsV namesT):=by kernel_rfl
theorem ok_entaillaw7_Made_2 : SpecL Try.prog n_entaillaw7_Made_2 F_entaillaw7_Made_2:=by
 refine go_entaillaw7_Made_2 (T:=[]) TabOk.nil fun args v hv=>?_
 unfold F_entaillaw7_Made_2 at hv
 split at hv <;> (try simp only [Option.some.injEq,reduceCtorEq] at hv)
 rename_i n
 subst hv
 refine ⟨rfl,rfl,rfl,?_⟩
 refine Eq.mpr (e_entaillaw7_Made_2 (tab _) _ (vI n)) ?_
 simp only [litSubs,opt_s,bAnd255,bRem10]
 rw [lstAt (show (n % 256).toNat % 10 < subsT.length from Nat.mod_lt _ (by decide))]
 rfl
theorem ok_entaillaw7_Made_3 : SpecL Try.prog n_entaillaw7_Made_3 F_entaillaw7_Made_3:=by
 refine go_entaillaw7_Made_3 (T:=[]) TabOk.nil fun args v hv=>?_
 unfold F_entaillaw7_Made_3 at hv
 split at hv <;> (try simp only [Option.some.injEq,reduceCtorEq] at hv)
 rename_i n
 subst hv
 refine ⟨rfl,rfl,rfl,?_⟩
 refine Eq.mpr (e_entaillaw7_Made_3 (tab _) _ (vI n)) ?_
 simp only [litNames,opt_s,bAnd7]
 rw [lstAt (show (n % 8).toNat < namesT.length from m8 n)]
 rfl
def intsV (l : List Int) : V:=.sl .ro (l.map (V.int .i64))
def atT (l : List Int) (k : Nat) : Int:=l.getD k 0
theorem intsV_inj {a b : List Int} (h : intsV a = intsV b) : a = b:=by
 simp only [intsV,V.sl.injEq,true_and] at h
 exact map_injV (fun _ _ h=>by simpa using h) h
theorem intsV_cano (l : List Int) : (intsV l).cano = true:=by
 simp only [intsV,V.cano]; exact canos_map fun _=>rfl
noncomputable def F_x_entaillaw7_Made_1 : Spec:=specOf (fun q : List Int × Nat=>[vI (q.2 : Nat),.agg [intsV q.1]]) (fun _=>True) (fun q=>.tup [vI (atT q.1 q.2),.agg [intsV q.1]])
theorem FMade1 (l : List Int) (k : Nat) : F_x_entaillaw7_Made_1 [vI (k : Nat),.agg [intsV l]] = some (.tup [vI (atT l k),.agg [intsV l]]):=specOf_eq (a:=(l,k)) (fun a b h=>by
 simp only [List.cons.injEq,and_true,V.agg.injEq,V.int.injEq,true_and] at h
 exact Prod.ext (intsV_inj h.2) (by omega)) trivial
theorem okx_entaillaw7_Made_1 : SpecE Try.prog n_entaillaw7_Made_1 s_x_entaillaw7_Made_1 F_x_entaillaw7_Made_1:=by
 refine go_x_entaillaw7_Made_1 (T:=[]) TabOk.nil fun words v hv=>?_
 obtain ⟨⟨l,k⟩,rfl,_,rfl⟩:=specOf_inv hv
 refine ⟨_,rfl,rfl,by simp [canos,intsV_cano,V.cano],by simp [canos,intsV_cano,V.cano],rfl,rfl,?_⟩
 refine Eq.mpr (e_x_entaillaw7_Made_1 (tab _) _ (vI k) (intsV l)) ?_
 have eL : lenL (intsV l) = some (vI l.length):=by simp [lenL,intsV]
 simp only [eL,opt_s,bLss,iteB_bool]
 by_cases h : k < l.length
 ·have h1 : decide ((k : Int) < (l.length : Int)) = true:=by simp; omega
  have h2 : idxLK false 1 (intsV l) (vI (k : Nat)) = some (vI (atT l k)):=by
   refine idxL_one ?_ rfl 1 .i64
   rw [List.getElem?_map,List.getElem?_eq_getElem h]
   simp [atT,List.getD_eq_getElem?_getD,List.getElem?_eq_getElem h]
  simp only [h1,if_true,h2,opt_s]
  rfl
 ·have h1 : decide ((k : Int) < (l.length : Int)) = false:=by simp; omega
  have h2 : atT l k = 0:=by simp [atT,List.getD_eq_getElem?_getD,List.getElem?_eq_none (show l.length ≤ k by omega)]
  simp only [h1,Bool.false_eq_true,if_false,h2]
  rfl
end Go.Fbs

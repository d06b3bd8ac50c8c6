import Derived.Test.YtpnflpbamlbpeaaGreatDoorVE
set_option linter.unusedSimpArgs false
set_option linter.unusedVariables false
set_option linter.unusedSectionVars false
set_option maxRecDepth 100000
namespace Go.Fbs
open Go.Proofs
def sr (a : Int) (j : Nat) : Int:=a.fdiv (2 ^ j)
theorem shrM {a : Int} {b : Nat} (hb : b ≤ 64) : binK .shr (.int .i64 a) (.int .u64 b) = some (vI (sr a b)):=by
 have e2 : min b IntKind.i64.bits = b:=by
  show min b 64 = b
  omega
 simp [binK,shiftBin,e2,sr,vI]
theorem andM (a : Int) {j : Nat} (hj : j < 63) {c : Int} (hc : c = ((2 ^ j - 1 : Nat) : Int)) {m : Nat} (hm : m = 2 ^ j) : binK .and (.int .i64 a) (.int .i64 c) = some (vI ((a % (m : Int)).toNat : Nat)):=by
 subst hc hm
 rw [bAndMask hj,Int.toNat_of_nonneg (Int.emod_nonneg a (by have:=Nat.two_pow_pos j; omega))]
theorem remM (a b : Nat) (hb : 0 < b) : binK .rem (vI (a : Nat)) (vI (b : Nat)) = some (vI ((a % b : Nat) : Nat)):=by
 have h : ¬ (b : Int) = 0:=by omega
 simp only [binK,intBin,if_true,vI]
 rw [if_neg h]
 rw [Int.ofNat_tmod]
theorem and1 (a : Int) : binK .and (vI a) (.int .i64 1) = some (vI ((a % ((2 : Nat) : Int)).toNat : Nat)):=andM a (j:=1) (by omega) rfl rfl
theorem and3 (a : Int) : binK .and (vI a) (.int .i64 3) = some (vI ((a % ((4 : Nat) : Int)).toNat : Nat)):=andM a (j:=2) (by omega) rfl rfl
theorem and255 (a : Int) : binK .and (vI a) (.int .i64 255) = some (vI ((a % ((256 : Nat) : Int)).toNat : Nat)):=andM a (j:=8) (by omega) rfl rfl
def md (a : Int) (m : Nat) : Nat:=(a % (m : Int)).toNat
theorem md_lt {a : Int} {m : Nat} (hm : 0 < m) : md a m < m:=by
 have h1:=Int.emod_nonneg a (show (m : Int) ≠ 0 by omega)
 have h2:=Int.emod_lt_of_pos a (show (0 : Int) < m by omega)
 unfold md; omega
def b2 (n : Int) (j : Nat) : Bool:=decide (md (sr n j) 2 = 1)
theorem eq1 (a : Nat) : binK .eql (vI (a : Nat)) (.int .i64 1) = some (.bool (decide (a = 1))):=by
 rw [vI,bEql]; congr 2; by_cases h : a = 1 <;> simp [h]; omega
theorem eq0 (a : Nat) : binK .eql (vI (a : Nat)) (.int .i64 0) = some (.bool (decide (a = 0))):=by
 rw [vI,bEql]; congr 2; by_cases h : a = 0 <;> simp [h]
def bitsT (n : Int) : List UInt8:=[if b2 n 0 then 114 else 45,if b2 n 1 then 119 else 45,if b2 n 2 then 120 else 45]
theorem bits_len (n : Int) : (bitsT n).length = 3:=rfl
def F_entaillaw17_Acl_1 : Spec
 | [.int .i64 n]=>some (.str (bitsT n))
 | _=>none
theorem ok_entaillaw17_Acl_1 : SpecL Tryz.prog n_entaillaw17_Acl_1 F_entaillaw17_Acl_1:=by
 refine go_entaillaw17_Acl_1 (T:=[]) TabOk.nil fun args v hv=>?_
 unfold F_entaillaw17_Acl_1 at hv
 split at hv <;> simp only [Option.some.injEq,reduceCtorEq] at hv
 rename_i n
 subst hv
 refine ⟨rfl,rfl,rfl,?_⟩
 rw [e_entaillaw17_Acl_1]
 refine loopP_inv (fun vs=>∃ i : Nat,vs = [.str ((bitsT n).take i),vI i] ∧ i ≤ 3) (fun vs=>3 - natOf (gv vs 1)) ⟨0,rfl,by omega⟩ ?_
 rintro r _ ⟨i,rfl,hi⟩ hr
 refine ⟨rfl,?_⟩
 simp only [gv_0,gv_s]
 rw [show binK .lss (vI (i : Nat)) (.int .i64 3) = some (.bool (decide (i < 3))) from bLt i 3,opt_s]
 by_cases hlt : i < 3
 ·have hc : convI .u64 (vI (i : Nat)) = some (.int .u64 i):=by match i,hlt with | 0,_=>rfl | 1,_=>rfl | 2,_=>rfl
  have hs : sliceS (.str [114,119,120]) (some (vI (i : Nat))) (some (vI ((i + 1 : Nat) : Int))) = some (.str [[114,119,120].getD i 0]):=by match i,hlt with | 0,_=>rfl | 1,_=>rfl | 2,_=>rfl
  rw [decide_eq_true hlt,iteB_true,hc,opt_s,shrM (by omega),opt_s,and1,opt_s,eq1,opt_s]
  have hb : decide ((sr n i % ((2 : Nat) : Int)).toNat = 1) = b2 n i:=rfl
  have hl : ((bitsT n).take i).length + 1 ≤ 9223372036854775807:=by rw [List.length_take]; omega
  have hstep : r [.str ((bitsT n).take (i + 1)),vI ((i + 1 : Nat) : Int)]:=hr _ ⟨i + 1,rfl,hlt⟩ (by simp [gv,natOf,vI]; omega)
  rw [hb]
  cases h : b2 n i
  ·rw [iteB_false,bSadd _ _ hl,opt_s,add1' (by omega),opt_s]
   have : (bitsT n).take i ++ [45] = (bitsT n).take (i + 1):=by
    match i,hlt,h with
    | 0,_,h=>simp [bitsT,h]
    | 1,_,h=>simp [bitsT,h]
    | 2,_,h=>simp [bitsT,h]
   rw [this]; exact hstep
  ·rw [iteB_true,add1' (by omega),opt_s,hs,opt_s,bSadd _ _ hl,opt_s,opt_s]
   have : (bitsT n).take i ++ [[114,119,120].getD i 0] = (bitsT n).take (i + 1):=by
    match i,hlt,h with
    | 0,_,h=>simp [bitsT,h]
    | 1,_,h=>simp [bitsT,h]
    | 2,_,h=>simp [bitsT,h]
   rw [this]; exact hstep
 ·rw [decide_eq_false hlt,iteB_false]
  rw [List.take_of_length_le (by rw [bits_len]; omega)]
def octI (x y z : Bool) : Int:=(if x then 4 else 0) + (if y then 2 else 0) + (if z then 1 else 0)
def octN (n : Int) : Int:=octI (b2 n 0) (b2 n 1) (b2 n 2)
def octT (b : Int) : List UInt8:=[if 4 ≤ b then 114 else 45,if 2 ≤ b % 4 then 119 else 45,if b % 2 = 1 then 120 else 45]
theorem oct_bits (n : Int) : octT (octN n) = bitsT n:=by
 unfold octN bitsT
 generalize b2 n 0 = x
 generalize b2 n 1 = y
 generalize b2 n 2 = z
 revert x y z; decide
def letE (k : Int) : UInt8:=if k ≤ 2 then 117 else if k ≤ 4 then 103 else if k = 5 then 109 else 111
def txtE (e : Ent) : List UInt8:=(if e.dflt then [100,58] else []) ++ (letE e.kind :: 58 :: (e.name ++ 58 :: octT e.bits))
def joinC : List (List UInt8) → List UInt8
 | []=>[]
 | [p]=>p
 | p :: q :: r=>p ++ 44 :: joinC (q :: r)
def txts (l : List Ent) : List UInt8:=joinC (l.map txtE)
theorem joinC_app : ∀ (l : List (List UInt8)) (p : List UInt8),l ≠ [] → joinC (l ++ [p]) = joinC l ++ 44 :: p
 | [],_,h=>absurd rfl h
 | [q],p,_=>rfl
 | q :: q' :: r,p,_=>by
  have:=joinC_app (q' :: r) p (by simp)
  simp only [List.cons_append] at this ⊢
  simp only [joinC,this,List.append_assoc,List.cons_append]
theorem txts_app {l : List Ent} (e : Ent) (h : l ≠ []) : txts (l ++ [e]) = txts l ++ 44 :: txtE e:=by
 unfold txts
 rw [List.map_append]
 exact joinC_app _ _ (by simpa using h)
theorem txts_cons {l : List Ent} (e : Ent) (h : l ≠ []) : txts (e :: l) = txtE e ++ 44 :: txts l:=by
 cases l with
 | nil=>exact absurd rfl h
 | cons a l=>rfl
def uvwT : List (List UInt8):=[[117],[118],[119]]
def ghT : List (List UInt8):=[[103],[104]]
def nm3 (n : Int) : List UInt8:=uvwT.getD (md (sr n 10) 256 % 3) []
def nm2 (n : Int) : List UInt8:=ghT.getD (md (sr n 22) 2) []
def s0E (n : Int) : List Ent:=[⟨1,false,[],octN n⟩,⟨3,false,[],octN (sr n 3)⟩,⟨6,false,[],octN (sr n 6)⟩]
def s1E (n : Int) : List Ent:=s0E n ++ (if b2 n 9 then [⟨2,false,nm3 n,octN (sr n 18)⟩] else [])
def s2E (n : Int) : List Ent:=(if b2 n 21 then [⟨4,false,nm2 n,octN (sr n 23)⟩] else []) ++ s1E n
def s3E (n : Int) : List Ent:=s2E n ++ (if md (sr n 26) 4 = 0 then [⟨5,false,[],octN (sr n 28)⟩] else [])
def s4E (n : Int) : List Ent:=s3E n ++ [⟨1,true,[],octN (sr n 32)⟩,⟨3,true,[],octN (sr n 35)⟩,⟨6,true,[],octN (sr n 38)⟩]
def s5E (n : Int) : List Ent:=s4E n ++ (if b2 n 41 then [⟨2,true,[118],octN (sr n 42)⟩,⟨4,true,[104],octN (sr n 45)⟩] else [])
def aclE (n : Int) : List Ent:=if b2 n 31 then s5E n ++ (if b2 n 48 then [⟨5,true,[],octN (sr n 49)⟩] else []) else s3E n
theorem txt_of (k : Int) (d : Bool) (nm : List UInt8) (a : Int) : txtE ⟨k,d,nm,octN a⟩ = (if d then [100,58] else []) ++ (letE k :: 58 :: (nm ++ 58 :: bitsT a)):=by unfold txtE; rw [oct_bits]
theorem s0_ne (n : Int) : s0E n ≠ []:=by simp [s0E]
theorem s1_ne (n : Int) : s1E n ≠ []:=by simp [s1E,s0E]
theorem s2_ne (n : Int) : s2E n ≠ []:=by simp [s2E,s1_ne]
theorem s3_ne (n : Int) : s3E n ≠ []:=by simp [s3E,s2_ne]
theorem s4_ne (n : Int) : s4E n ≠ []:=by simp [s4E]
theorem s5_ne (n : Int) : s5E n ≠ []:=by simp [s5E,s4_ne]
theorem aclE_ne (n : Int) : aclE n ≠ []:=by unfold aclE; split <;> simp [s5_ne,s3_ne]
theorem nm3_at (n : Int) : uvwT[md (sr n 10) 256 % 3]? = some (nm3 n):=by
 have h : md (sr n 10) 256 % 3 < 3:=Nat.mod_lt _ (by omega)
 unfold nm3
 rw [List.getD_eq_getElem?_getD,List.getElem?_eq_getElem (by exact h)]; rfl
theorem nm2_at (n : Int) : ghT[md (sr n 22) 2]? = some (nm2 n):=by
 have h : md (sr n 22) 2 < 2:=md_lt (by omega)
 unfold nm2
 rw [List.getD_eq_getElem?_getD,List.getElem?_eq_getElem (by exact h)]; rfl
theorem nm3_len (n : Int) : (nm3 n).length = 1:=by
 have h:=List.mem_of_getElem? (nm3_at n)
 revert h; generalize nm3 n = x
 simp only [uvwT,List.mem_cons,List.not_mem_nil,or_false]
 rintro (rfl | rfl | rfl) <;> rfl
theorem nm2_len (n : Int) : (nm2 n).length = 1:=by
 have h:=List.mem_of_getElem? (nm2_at n)
 revert h; generalize nm2 n = x
 simp only [ghT,List.mem_cons,List.not_mem_nil,or_false]
 rintro (rfl | rfl) <;> rfl
end Go.Fbs

import Derived.Test.YtpdnpfdbjoaemaaGreatDoorQTH
set_option linter.unusedSimpArgs false
set_option linter.unusedVariables false
set_option linter.unusedSectionVars false
set_option maxRecDepth 100000
namespace Go.Fbs
open Go.Proofs
attribute [local irreducible] FunWpE FunWp opt
def tameT : List (List UInt8):=[[97],[98],[32],[9],[10],[13,10],[35],[32,35],[117,115,101,114,32],[120],[32,32],[13],[49],[97,35],[10,10],[126]]
def tameP (c : UInt8) : List UInt8:=tameT.getD (c.toNat % 16) []
theorem tameP_at (c : UInt8) : tameT[c.toNat % 16]? = some (tameP c):=getD_at (Nat.mod_lt _ (by decide))
theorem tameP_len (c : UInt8) : (tameP c).length ≤ 5:=at_len (tameP_at c) rfl
def tameX (s : List UInt8) : List UInt8:=(s.take 100).flatMap tameP
theorem flat_len : ∀ l : List UInt8,(l.flatMap tameP).length ≤ 5 * l.length
 | []=>Nat.le_refl _
 | c :: l=>by
  have h1:=tameP_len c
  have h2:=flat_len l
  simp only [List.flatMap_cons,List.length_append,List.length_cons]
  omega
theorem tameX_len (s : List UInt8) : (tameX s).length ≤ 500:=by
 have h1:=flat_len (s.take 100)
 have h2 : (s.take 100).length ≤ 100:=by rw [List.length_take]; omega
 unfold tameX
 omega
theorem and15_all : ((List.range 256).all fun n=>match intBin .and .u8 (n : Int) 15 with | some (.int .u8 m)=>decide (m = ((n % 16 : Nat) : Int)) | _=>false) = true:=by kernel_rfl
theorem and15 (c : UInt8) : binK .and (.int .u8 c.toNat) (.int .u8 15) = some (.int .u8 ((c.toNat % 16 : Nat) : Int)):=by
 have h:=List.all_eq_true.1 and15_all c.toNat (List.mem_range.2 c.toNat_lt)
 show (if IntKind.u8 = IntKind.u8 then intBin .and .u8 (c.toNat : Int) 15 else none) = _
 rw [if_pos rfl]
 split at h
 ·rename_i m e
  rw [e]
  simp only [decide_eq_true_eq] at h
  rw [h]
 ·cases h
def F_entaillaw12_Tame : Spec
 | [.str s]=>if s.length ≤ bigT then some (.str (tameX s)) else none
 | _=>none
theorem tame_wp (s : List UInt8) (hs : s.length ≤ bigT) : FunWp tyT (tab []) 25 q_entaillaw12_Tame [.tmp 2] (cB Tryz.f11) [.str s] (fun v=>v = .str (tameX s)):=by
 unfold bigT at hs
 refine Eq.mpr (e_entaillaw12_Tame (tab _) _ (.str s)) ?_
 have l0 : litK 1 [(.str [97]),(.str [98]),(.str [32]),(.str [9]),(.str [10]),(.str [13,10]),(.str [35]),(.str [32,35]),(.str [117,115,101,114,32]),(.str [120]),(.str [32,32]),(.str [13]),(.str [49]),(.str [97,35]),(.str [10,10]),(.str [126])] = some (strsV tameT):=lit_s (n:=1) (by simp) rfl
 refine loopP_inv (fun vs=>∃ i : Nat,i ≤ s.length ∧ i ≤ 100 ∧ vs = [.str ((s.take i).flatMap tameP),vI (i : Nat)]) (fun vs=>s.length - natOf (gv vs 1)) ⟨0,Nat.zero_le _,Nat.zero_le _,rfl⟩ ?_
 rintro rr _ ⟨i,hi,h100,rfl⟩ hr
 refine ⟨rfl,?_⟩
 simp only [gv_0,gv_s]
 rw [lenS_s,opt_s,bLt,opt_s,show binK .lss (vI (i : Nat)) (.int .i64 100) = _ from bLt i 100,opt_s,pAndD,opt_s,iteB_bool]
 by_cases hlt : i < s.length ∧ i < 100
 ·obtain ⟨c,hc⟩ : ∃ c,s[i]? = some c:=⟨_,List.getElem?_eq_getElem hlt.1⟩
  have hfl:=flat_len (s.take i)
  have htl : (s.take i).length ≤ 100:=by rw [List.length_take]; omega
  have hpl:=tameP_len c
  have htk:=take_one hc
  have hix : idxLK false 1 (strsV tameT) (.int .u8 ((c.toNat % 16 : Nat) : Int)) = some (.str (tameP c)):=by
   refine idxL_one ?_ rfl 1 .u8
   rw [List.getElem?_map,tameP_at]; rfl
  rw [if_pos (by simpa using hlt),l0,opt_s,show indexS (.str s) (vI (i : Nat)) = some (.int .u8 c.toNat) from idxS_at hc .i64,opt_s,and15,opt_s,hix,opt_s,bSadd _ _ (by omega),opt_s,add1' (by omega),opt_s]
  have e : (s.take (i + 1)).flatMap tameP = (s.take i).flatMap tameP ++ tameP c:=by rw [htk,List.flatMap_append]; simp
  rw [← e]
  exact hr _ ⟨i + 1,by omega,by omega,rfl⟩ (by simp only [gv_0,gv_s,natOf]; omega)
 ·rw [if_neg (by simpa using hlt)]
  unfold tameX
  have : s.take i = s.take 100:=by
   by_cases h : i < 100
   ·rw [List.take_of_length_le (by omega),List.take_of_length_le (by omega)]
   ·rw [show i = 100 by omega]
  rw [this]
theorem ok_entaillaw12_Tame : SpecL Tryz.prog n_entaillaw12_Tame F_entaillaw12_Tame:=by
 refine go_entaillaw12_Tame (T:=[]) TabOk.nil fun args v hv=>?_
 unfold F_entaillaw12_Tame at hv
 split at hv <;> simp only [Option.ite_none_right_eq_some,Option.some.injEq,reduceCtorEq] at hv
 rename_i s
 obtain ⟨hs,rfl⟩:=hv
 exact ⟨rfl,rfl,rfl,tame_wp s hs⟩
theorem flip_some {s : List UInt8} (hs : s.length ≤ 1000000) (n b : Int) : ∃ s',flipK 65535 127 (.str s) (.int .i64 n) (.int .u8 b) = some (.str s') ∧ s'.length = s.length:=by
 by_cases hn : s = []
 ·subst hn
  exact ⟨[],flipK_nil,rfl⟩
 ·have hpos : 0 < s.length:=List.length_pos_iff.2 hn
  have h1 : intBin .and .i64 n ((65535 : Nat) : Int) = some (.int .i64 (n % ((65536 : Nat) : Int))):=by
   have:=bAndMask (a:=n) (j:=16) (by omega)
   exact this
  have hq0:=Int.emod_nonneg n (show ((65536 : Nat) : Int) ≠ 0 by omega)
  have h2 : intBin .rem .i64 (n % ((65536 : Nat) : Int)) (s.length : Int) = some (.int .i64 ((n % ((65536 : Nat) : Int)).tmod s.length)):=by
   simp only [intBin]
   rw [if_neg (by omega)]
  have hr : ∃ r : Nat,(n % ((65536 : Nat) : Int)).tmod (s.length : Int) = r ∧ r < s.length:=by
   obtain ⟨q,hq⟩ : ∃ q : Nat,n % ((65536 : Nat) : Int) = q:=⟨_,(Int.toNat_of_nonneg hq0).symm⟩
   rw [hq]
   exact ⟨q % s.length,by rw [Int.ofNat_tmod],Nat.mod_lt _ hpos⟩
  obtain ⟨r,hr1,hr2⟩:=hr
  rw [hr1] at h2
  obtain ⟨x,hx⟩ : ∃ x,s[r]? = some x:=⟨_,List.getElem?_eq_getElem hr2⟩
  obtain ⟨d,hd⟩ : ∃ d,intBin .and .u8 b ((127 : Nat) : Int) = some (.int .u8 d):=⟨_,rfl⟩
  obtain ⟨e,he⟩ : ∃ e,intBin .xor .u8 (x.toNat : Int) d = some (.int .u8 e):=⟨_,rfl⟩
  refine ⟨s.set r (UInt8.ofNat e.toNat),?_,by simp⟩
  unfold flipK
  simp only
  rw [if_pos (by omega),if_neg hn]
  unfold flipI
  rw [h1]
  simp only
  rw [h2]
  simp only [Int.toNat_natCast]
  rw [hx,hd]
  simp only
  rw [he]
  simp
end Go.Fbs

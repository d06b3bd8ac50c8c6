import Derived.Test.YthakklikgmcgdaaGreatDoorPD
import Derived.Test.YthakklikgmcgdaaGreatDoorXL
set_option linter.unusedSimpArgs false
set_option linter.unusedVariables false
set_option linter.unusedSectionVars false
set_option maxRecDepth 100000
namespace Go.Fbs
open Go.Proofs Go.RowKit
theorem andM (a : Int) {j : Nat} (hj : j < 63) {c : Int} (hc : c = ((2 ^ j - 1 : Nat) : Int)) {m : Nat} (hm : m = 2 ^ j) : binK .and (.int .i64 a) (.int .i64 c) = some (.int .i64 ((a % (m : Int)).toNat : Nat)):=by
 subst hc hm
 rw [bAndMask hj,Int.toNat_of_nonneg (Int.emod_nonneg a (by have:=Nat.two_pow_pos j; omega))]
theorem shrM {a : Int} {b : Nat} (hb : b ≤ 64) : binK .shr (.int .i64 a) (.int .u64 b) = some (.int .i64 (a.fdiv (2 ^ b))):=by
 have e : min (b : Int).toNat IntKind.i64.bits = b:=by
  show min (b : Int).toNat 64 = b
  rw [Int.toNat_natCast]; omega
 have e2 : min b IntKind.i64.bits = b:=by rw [Int.toNat_natCast] at e; exact e
 simp [binK,shiftBin,e2]
theorem rem10 (a : Nat) : binK .rem (.int .i64 (a : Int)) (.int .i64 10) = some (.int .i64 ((a % 10 : Nat) : Int)):=by
 simp only [binK,intBin,if_true]
 rw [if_neg (by decide)]
 rw [show ((a % 10 : Nat) : Int) = Int.tmod (a : Int) 10 from rfl]
theorem quo10 (a : Nat) (h : a ≤ 1000000) : binK .quo (.int .i64 (a : Int)) (.int .i64 10) = some (.int .i64 ((a / 10 : Nat) : Int)):=by
 simp only [binK,intBin,if_true]
 rw [if_neg (by decide)]
 have : Int.tdiv (a : Int) 10 = ((a / 10 : Nat) : Int):=rfl
 rw [this,wrap_in (by omega) (by omega)]
theorem catS {a b : List UInt8} (h : a.length + b.length ≤ 1000000) : binK .add (.str a) (.str b) = some (.str (a ++ b)):=by
 show (if ((a.length + b.length : Nat) : Int) ≤ 9223372036854775807 then some (V.str (a ++ b)) else none) = _
 rw [if_pos (by omega)]
def decT (v : Nat) : List UInt8:=if v < 10 then [(48 + v).toUInt8] else decT (v / 10) ++ [(48 + v % 10).toUInt8]
termination_by v
decreasing_by omega
theorem digit_cut (v : Nat) : sliceS (.str [48,49,50,51,52,53,54,55,56,57]) (some (.int .i64 ((v % 10 : Nat) : Int))) (some (.int .i64 ((v % 10 : Nat) + 1 : Int))) = some (.str [(48 + v % 10).toUInt8]):=by
 have h : ∀ q : _root_.Fin 10,sliceS (.str [48,49,50,51,52,53,54,55,56,57]) (some (.int .i64 (q.val : Int))) (some (.int .i64 ((q.val : Int) + 1))) = some (.str [(48 + q.val).toUInt8]):=by intro q; match q with | ⟨0,_⟩=>rfl | ⟨1,_⟩=>rfl | ⟨2,_⟩=>rfl | ⟨3,_⟩=>rfl | ⟨4,_⟩=>rfl | ⟨5,_⟩=>rfl | ⟨6,_⟩=>rfl | ⟨7,_⟩=>rfl | ⟨8,_⟩=>rfl | ⟨9,_⟩=>rfl
 exact h ⟨v % 10,Nat.mod_lt _ (by decide)⟩
def sl1 : V → Nat
 | .str []=>1
 | _=>0
def F_num : Spec
 | [.int .i64 a]=>some (.str (decT (a % 65536).toNat))
 | _=>none
attribute [local irreducible] FunWp FunWpE in
theorem ok_num : SpecL Tryz.prog n_entaillaw22_JsonNumbers_1 F_num:=by
 refine go_entaillaw22_JsonNumbers_1 (T:=[]) TabOk.nil fun args v hv=>?_
 unfold F_num at hv
 split at hv <;> simp only [Option.some.injEq,reduceCtorEq] at hv
 rename_i a
 subst hv
 refine ⟨rfl,rfl,rfl,?_⟩
 refine Eq.mpr (e_entaillaw22_JsonNumbers_1 _ _ (.int .i64 a)) ?_
 rw [andM a (j:=16) (c:=65535) (m:=65536) (by omega) rfl rfl]
 rw [opt_s]
 have hN : (a % ((65536 : Nat) : Int)).toNat = (a % 65536).toNat:=rfl
 rw [hN]
 have hlt : (a % 65536).toNat < 65536:=by omega
 generalize (a % 65536).toNat = n at hlt
 refine loopP_inv (fun vs=>∃ (s : List UInt8) (v : Nat),vs = [.str s,.int .i64 v] ∧ v < 65536 ∧ ((s = [] ∧ v = n) ∨ (s ≠ [] ∧ (if v = 0 then s else decT v ++ s) = decT n)) ∧ s.length ≤ 6 ∧ v < 10 ^ (6 - s.length)) (fun vs=>natOf (gv vs 1) + sl1 (gv vs 0)) ⟨[],n,rfl,hlt,.inl ⟨rfl,rfl⟩,by simp,by simp; omega⟩ ?_
 rintro r0 vs ⟨s,v,rfl,hv,hs,hlen,hpw⟩ hnext
 refine ⟨rfl,?_⟩
 have g0 : ∀ x y : V,gv [x,y] 0 = x:=fun _ _=>rfl
 have g1 : ∀ x y : V,gv [x,y] 1 = y:=fun _ _=>rfl
 simp only [g0,g1,sS,if_true,if_false,reduceCtorEq]
 by_cases hc : 0 < v ∨ s = []
 ·rw [if_pos (by rcases hc with h | rfl; rw [decide_eq_true (by omega)]; rfl; simp)]
  have hw : IntKind.i64.wrap (((v % 10 : Nat) : Int) + 1) = ((v % 10 : Nat) : Int) + 1:=wrap_in (by omega) (by omega)
  rw [rem10,opt_s,opt_s,show binK .add (.int .i64 ((v % 10 : Nat) : Int)) (.int .i64 1) = some (.int .i64 (IntKind.i64.wrap (((v % 10 : Nat) : Int) + 1))) from rfl,hw,opt_s,digit_cut,opt_s,catS (by simp; omega),opt_s,quo10 v (by omega),opt_s]
  refine hnext _ ⟨[(48 + v % 10).toUInt8] ++ s,v / 10,rfl,by omega,.inr ⟨by simp,?_⟩,?_,?_⟩ ?_
  ·have hd : (if v / 10 = 0 then [(48 + v % 10).toUInt8] ++ s else decT (v / 10) ++ ([(48 + v % 10).toUInt8] ++ s)) = decT v ++ s:=by
    conv=>rhs; rw [decT]
    by_cases h10 : v < 10
    ·rw [if_pos h10,if_pos (by omega),Nat.mod_eq_of_lt h10]
    ·rw [if_neg h10,if_neg (by omega),List.append_assoc]
   rw [hd]
   rcases hs with ⟨rfl,rfl⟩ | ⟨h1,h2⟩
   ·simp
   ·rcases hc with h | rfl
    ·rw [if_neg (by omega)] at h2; exact h2
    ·exact absurd rfl h1
  ·have h6 : s.length < 6:=by
    rcases hc with h | rfl
    ·rcases Nat.lt_or_ge s.length 6 with h6 | h6
     ·exact h6
     ·rw [show 6 - s.length = 0 by omega] at hpw; omega
    ·simp
   simp; omega
  ·have h6 : s.length < 6:=by
    rcases hc with h | rfl
    ·rcases Nat.lt_or_ge s.length 6 with h6 | h6
     ·exact h6
     ·rw [show 6 - s.length = 0 by omega] at hpw; omega
    ·simp
   rw [show 6 - s.length = (6 - (s.length + 1)) + 1 by omega,Nat.pow_succ] at hpw
   show v / 10 < 10 ^ (6 - (s.length + 1))
   omega
  ·show v / 10 + 0 < v + sl1 (.str s)
   rcases hc with h | rfl
   ·omega
   ·show v / 10 + 0 < v + 1; omega
 ·rw [not_or,Nat.not_lt] at hc
  obtain rfl : v = 0:=by omega
  rw [if_neg (by simp [hc.2])]
  rcases hs with ⟨rfl,_⟩ | ⟨_,h2⟩
  ·exact absurd rfl hc.2
  ·rw [if_pos rfl] at h2; rw [h2]
end Go.Fbs

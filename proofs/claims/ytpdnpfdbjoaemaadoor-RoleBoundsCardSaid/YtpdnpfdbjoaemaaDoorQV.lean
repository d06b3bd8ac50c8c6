import Derived.Test.YtpdnpfdbjoaemaaDoorDQT
import Derived.Test.YtpdnpfdbjoaemaaDoorQU
set_option maxRecDepth 100000
namespace Go.Fbs
open Go.Proofs
attribute [local irreducible] FunWpE FunWp opt
theorem btS_len4 (b : Bool) {i : Nat} (h : i ≤ 2003) : (btS b i).length ≤ 30000:=by
 rw [btS_len]
 unfold posB
 split <;> omega
noncomputable abbrev TBo : List (FuncId × Spec):=[(n_role_Parse,F_role_Parse),(n_entaillaw13_awake,F_true0)]
theorem bounds_wp (n : Int) (b : Bool) : FunWp tyT (tab TBo) 65 q_entaillaw13_RoleBounds [.tmp 4] (cB Tryd.f3) [.int .i64 n,.bool b] (fun v=>v = .bool true):=by
 have c1 : ∀ args,tab TBo n_role_Parse args = F_role_Parse args:=fun _=>rfl
 have c2 : ∀ args,tab TBo n_entaillaw13_awake args = F_true0 args:=fun _=>rfl
 refine Eq.mpr (e_entaillaw13_RoleBounds (tab _) _ (.int .i64 n) (.bool b)) ?_
 have hn0:=Int.emod_nonneg n (show (8 : Int) ≠ 0 by omega)
 have hn8:=Int.emod_lt_of_pos n (show (0 : Int) < 8 by omega)
 have h7 : binK .and (.int .i64 n) (.int .i64 7) = some (vI ((n % 8).toNat : Nat)):=by
  have:=bAndMask (a:=n) (j:=3) (by omega)
  rw [Int.toNat_of_nonneg hn0]
  exact this
 obtain ⟨m,hm⟩ : ∃ m : Nat,1996 + (n % 8).toNat = m:=⟨_,rfl⟩
 have hm3 : m ≤ 2003:=by omega
 have hadd : binK .add (.int .i64 1996) (vI ((n % 8).toNat : Nat)) = some (vI (m : Nat)):=by
  rw [← hm]
  exact addK (a:=1996) (by omega)
 rw [h7,opt_s,hadd,opt_s]
 obtain ⟨L1,L2⟩:=bounds_law b m hm3
 refine loopP_inv (fun vs=>∃ i : Nat,i ≤ m ∧ vs = [.str (btS b i),vI (i : Nat)]) (fun vs=>m - natOf (gv vs 1)) ⟨0,Nat.zero_le _,rfl⟩ ?_
 rintro rr _ ⟨i,hi,rfl⟩ hr
 refine ⟨rfl,?_⟩
 simp only [gv_0,gv_s]
 have hsl:=btS_len4 b (i:=i) (by omega)
 rw [bLt,opt_s,iteB_bool]
 by_cases hlt : i < m
 ·have e1 : binK .add (.str (btS b i)) (.str [117,115,101,114,32,97,10]) = some (.str (btS b i ++ (uaT ++ [10]))):=bSadd _ _ (by simp; omega)
  have e2 : binK .add (.str (btS b i ++ (uaT ++ [10]))) (.str [35,32,120,10]) = some (.str (btS b i ++ (uaT ++ [10]) ++ (nxT ++ [10]))):=bSadd _ _ (by simp [uaT]; omega)
  have e3 : binK .and (vI (i : Nat)) (.int .i64 1) = some (vI ((i % 2 : Nat) : Int)):=by
   have:=bAndMask (a:=(i : Int)) (j:=1) (by omega)
   exact this
  rw [if_pos (by simpa using hlt),e1,opt_s,chkB_bool,opt_s,e3,opt_s,show binK .eql (vI ((i % 2 : Nat) : Int)) (.int .i64 0) = _ from bEqN (i % 2) 0,opt_s,pAnd,opt_s,iteB_bool,add1' (by omega)]
  by_cases h : b = true ∧ i % 2 = 0
  ·rw [if_pos (by simpa using h),e2,opt_s,opt_s]
   have : btS b (i + 1) = btS b i ++ (uaT ++ [10]) ++ (nxT ++ [10]):=by
    show btS b i ++ (uaT ++ [10]) ++ noteT b i = _
    unfold noteT; rw [if_pos h]
   rw [← this]
   exact hr _ ⟨i + 1,by omega,rfl⟩ (by simp only [gv_0,gv_s,natOf]; omega)
  ·rw [if_neg (by simpa using h),opt_s]
   have : btS b (i + 1) = btS b i ++ (uaT ++ [10]):=by
    show btS b i ++ (uaT ++ [10]) ++ noteT b i = _
    unfold noteT; rw [if_neg h,List.append_nil]
   rw [← this]
   exact hr _ ⟨i + 1,by omega,rfl⟩ (by simp only [gv_0,gv_s,natOf]; omega)
 ·obtain rfl : i = m:=by omega
  have hle : binK .leq (vI (i : Nat)) (.int .i64 2000) = some (.bool (decide (i ≤ 2000))):=by
   rw [bLeq]
   by_cases h : i ≤ 2000
   ·have : (i : Int) ≤ 2000:=by omega
    rw [decide_eq_true h,decide_eq_true this]
   ·have : ¬ (i : Int) ≤ 2000:=by omega
    rw [decide_eq_false h,decide_eq_false this]
  rw [if_neg (by simp),c1,show F_role_Parse [.str (btS b i)] = some (roleV (btS b i)) from rfl,opt_s]
  unfold roleV
  have ht : F_true0 [] = some (.bool true):=rfl
  by_cases h2 : i ≤ 2000
  ·obtain ⟨gs,g1,g2⟩:=L1 h2
   rw [g2]
   simp only [ext_tup,List.getElem?_cons_zero,List.getElem?_cons_succ,opt_s]
   rw [hle,opt_s,iteB_bool,if_pos (by simpa using h2),bEql,opt_s,lenFct,opt_s,g1,bEqN,opt_s,pAnd,opt_s]
   exact gAnd _ _ _ _ ((c2 _).trans ht) (by simp)
  ·have g2:=L2 (by omega)
   rw [g2]
   simp only [ext_tup,List.getElem?_cons_zero,List.getElem?_cons_succ,opt_s]
   rw [hle,opt_s,iteB_bool,if_neg (by simpa using h2)]
   have hp : posB b 2000 = 14000 + (if b = true then 4000 else 0):=by unfold posB; cases b <;> rfl
   refine jnQ (X:=[vI ((if b = true then 4000 else 0 : Nat) : Int)]) ?_ ?_
   ·intro r h
    rw [iteB_bool]
    cases b <;> exact h
   ·refine ⟨rfl,?_⟩
    simp only [gv_0]
    have hk : binK .add (.int .i64 14000) (vI ((if b = true then 4000 else 0 : Nat) : Int)) = some (vI ((posB b 2000 : Nat) : Int)):=by
     rw [hp]
     exact addK (a:=14000) (by split <;> omega)
    rw [bEql,opt_s,hk,opt_s,bEqN,opt_s,pAnd,opt_s,lenFct,opt_s,show binK .eql (vI (([] : List Fct).length : Nat)) (.int .i64 0) = _ from bEqN 0 0,opt_s,pAnd,opt_s]
    exact gAnd _ _ _ _ ((c2 _).trans ht) (by simp)
def F_entaillaw13_RoleBounds : Spec
 | [.int .i64 _,.bool _]=>some (.bool true)
 | _=>none
theorem ok_entaillaw13_RoleBounds : SpecL Tryd.prog n_entaillaw13_RoleBounds F_entaillaw13_RoleBounds:=by
 refine go_entaillaw13_RoleBounds (T:=TBo) (TabOk.cons ok_role_Parse (TabOk.cons ok_entaillaw13_awake TabOk.nil)) fun args v hv=>?_
 unfold F_entaillaw13_RoleBounds at hv
 split at hv <;> simp only [Option.some.injEq,reduceCtorEq] at hv
 rename_i n b
 subst hv
 exact ⟨rfl,rfl,rfl,bounds_wp n b⟩
end Go.Fbs

import Derived.Test.YtpdnpfdbjoaemaaGreatDoorQO
set_option linter.unusedSimpArgs false
set_option linter.unusedVariables false
set_option linter.unusedSectionVars false
set_option maxRecDepth 100000
namespace Go.Fbs
open Go.Proofs
attribute [local irreducible] FunWpE FunWp opt
def nuI (s : List UInt8) : Int:=match numM s with | some n=>n | none=>0
theorem numM_pos {w : List UInt8} {n : Int} (h : numM w = some n) : 1 ≤ n ∧ n < 100:=by
 unfold numM at h
 split at h
 ·rename_i c
  split at h
  ·rename_i hc
   have h0 : c.toNat ≠ 48:=fun e=>hc.1 (by
    have : c = UInt8.ofNat 48:=by rw [← e]; simp
    exact this)
   simp only [digC,Bool.and_eq_true,decide_eq_true_eq] at hc
   simp only [Option.some.injEq] at h
   omega
  ·cases h
 ·rename_i c d
  split at h
  ·rename_i hc
   have h0 : c.toNat ≠ 48:=fun e=>hc.1 (by
    have : c = UInt8.ofNat 48:=by rw [← e]; simp
    exact this)
   simp only [digC,Bool.and_eq_true,decide_eq_true_eq] at hc
   simp only [Option.some.injEq] at h
   omega
  ·cases h
 ·cases h
def F_entailref13_number : Spec
 | [.str s]=>if s.length ≤ bigT then some (vI (nuI s)) else none
 | _=>none
def preN (s : List UInt8) : Nat → Int
 | 0=>0
 | 1=>((s.getD 0 0).toNat : Int) - 48
 | _=>(((s.getD 0 0).toNat : Int) - 48) * 10 + (((s.getD 1 0).toNat : Int) - 48)
theorem number_wp (s : List UInt8) (hs : s.length ≤ bigT) : FunWp tyT (tab []) 37 q_entailref13_number [.tmp 2] (cB Tryz.f19) [.str s] (fun v=>v = vI (nuI s)):=by
 unfold bigT at hs
 refine Eq.mpr (e_entailref13_number (tab _) _ (.str s)) ?_
 refine loopP_inv (fun vs=>∃ i : Nat,i ≤ s.length ∧ i ≤ 2 ∧ (∀ (j : Nat) c,j < i → s[j]? = some c → digC c = true) ∧ (0 < i → s.getD 0 0 ≠ 48) ∧ vs = [vI (preN s i),vI (i : Nat)]) (fun vs=>s.length - natOf (gv vs 1)) ⟨0,Nat.zero_le _,by omega,fun j c h=>by omega,fun h=>by omega,rfl⟩ ?_
 rintro rr _ ⟨i,hi,h2,hd,h0,rfl⟩ hr
 refine ⟨rfl,?_⟩
 simp only [gv_0,gv_s]
 rw [lenS_s,opt_s,bLt,opt_s,iteB_bool]
 by_cases hlt : i < s.length
 ·obtain ⟨c,hc⟩ : ∃ c,s[i]? = some c:=⟨_,List.getElem?_eq_getElem hlt⟩
  have hx : indexS (.str s) (vI (i : Nat)) = some (.int .u8 c.toNat):=idxS_at hc .i64
  obtain ⟨c0,hc0⟩ : ∃ c,s[0]? = some c:=⟨_,List.getElem?_eq_getElem (show 0 < s.length by omega)⟩
  have hx0 : indexS (.str s) (.int .i64 0) = some (.int .u8 c0.toNat):=idxS_at (k:=0) hc0 .i64
  have hg0 : s.getD 0 0 = c0:=by rw [List.getD_eq_getElem?_getD,hc0]; rfl
  have hci : s.getD i 0 = c:=by rw [List.getD_eq_getElem?_getD,hc]; rfl
  have hcl : c.toNat < 256:=c.toNat_lt
  rw [if_pos (by simpa using hlt),hx,opt_s,bLss,opt_s]
  have hcond : ∀ K : V → Prop,(K (.bool (!digC c)) → (opt (guardV (.bool (decide ((c.toNat : Int) < 48))) false (some (V.int .u8 c.toNat))) fun y7=>opt (guardV (.bool (decide ((c.toNat : Int) < 48))) false (binK .gtr y7 (.int .u8 57))) fun y8=>opt (pickV (.bool (decide ((c.toNat : Int) < 48))) (.bool true) y8) fun y9=>K y9)):=fun K hK=>by
   by_cases g : (c.toNat : Int) < 48
   ·rw [decide_eq_true g,gTF,opt_s,gTF,opt_s,pBool,if_pos rfl,opt_s]
    have : digC c = false:=by unfold digC; rw [decide_eq_false (by omega)]; rfl
    rw [this] at hK; exact hK
   ·rw [decide_eq_false g,gFF,opt_s,gFF,bGtr,opt_s,pBool,if_neg (by simp),opt_s]
    have : (!digC c) = decide ((57 : Int) < c.toNat):=by
     unfold digC
     rw [decide_eq_true (show 48 ≤ c.toNat by omega),Bool.true_and]
     by_cases h : c.toNat ≤ 57
     ·rw [decide_eq_true h,decide_eq_false (by omega)]; rfl
     ·rw [decide_eq_false h,decide_eq_true (by omega)]; rfl
    rw [this] at hK; exact hK
  refine hcond _ ?_
  rw [iteB_bool]
  have zero : numM s = none → (vI 0 : V) = vI (nuI s):=fun h=>by unfold nuI; rw [h]
  cases hdc : digC c with
  | false =>
   rw [if_pos (by simp)]
   refine zero ?_
   unfold numM
   split
   ·rename_i x
    have hi0 : i = 0:=by simp at hlt; omega
    subst hi0
    simp only [List.getElem?_cons_zero,Option.some.injEq] at hc
    subst hc
    rw [if_neg (by rw [hdc]; simp)]
   ·rename_i x y
    have hi2 : i = 0 ∨ i = 1:=by simp at hlt; omega
    rcases hi2 with rfl | rfl
    ·simp only [List.getElem?_cons_zero,Option.some.injEq] at hc
     subst hc
     rw [if_neg (by rw [hdc]; simp)]
    ·simp only [List.getElem?_cons_succ,List.getElem?_cons_zero,Option.some.injEq] at hc
     subst hc
     rw [if_neg (by rw [hdc]; simp)]
   ·rfl
  | true =>
   have hdc':=hdc
   simp only [digC,Bool.and_eq_true,decide_eq_true_eq] at hdc'
   have hp : 0 ≤ preN s i ∧ preN s i < 100:=by
    have h01 : i = 0 ∨ i = 1 ∨ i = 2:=by omega
    have dg : ∀ j,j < i → 48 ≤ (s.getD j 0).toNat ∧ (s.getD j 0).toNat ≤ 57:=fun j hj=>by
     obtain ⟨x,hx⟩ : ∃ x,s[j]? = some x:=⟨_,List.getElem?_eq_getElem (show j < s.length by omega)⟩
     have:=hd j x hj hx
     simp only [digC,Bool.and_eq_true,decide_eq_true_eq] at this
     have e : s.getD j 0 = x:=by rw [List.getD_eq_getElem?_getD,hx]; rfl
     rw [e]; exact this
    rcases h01 with rfl | rfl | rfl
    ·simp [preN]
    ·have:=dg 0 (by omega); simp only [preN]; omega
    ·have a:=dg 0 (by omega); have b:=dg 1 (by omega); simp only [preN]; omega
   have hmul : binK .mul (.int .i64 10) (vI (preN s i)) = some (vI (10 * preN s i)):=by
    show (if IntKind.i64 = IntKind.i64 then intBin .mul .i64 10 (preN s i) else none) = _
    rw [if_pos rfl]
    show some (V.int .i64 (IntKind.i64.wrap (10 * preN s i))) = _
    rw [wrap_in (by omega) (by omega)]
   have hsub : binK .sub (.int .u8 c.toNat) (.int .u8 48) = some (.int .u8 ((c.toNat : Int) - 48)):=by
    show (if IntKind.u8 = IntKind.u8 then intBin .sub .u8 c.toNat 48 else none) = _
    rw [if_pos rfl]
    show some (V.int .u8 (IntKind.u8.wrap ((c.toNat : Int) - 48))) = _
    congr 2
    simp only [IntKind.wrap,IntKind.signed,IntKind.bits]
    simp
    omega
   have hconv : convI .i64 (.int .u8 ((c.toNat : Int) - 48)) = some (vI ((c.toNat : Int) - 48)):=by
    show some (V.int .i64 (IntKind.i64.wrap ((c.toNat : Int) - 48))) = _
    rw [wrap_in (by omega) (by omega)]
   have hadd : binK .add (vI (10 * preN s i)) (vI ((c.toNat : Int) - 48)) = some (vI (10 * preN s i + ((c.toNat : Int) - 48))):=by
    rw [bAdd,wrap_in (by omega) (by omega)]
   rw [if_neg (by simp),hmul,opt_s,opt_s,hsub,opt_s,hconv,opt_s,hadd,opt_s,show binK .eql (vI (i : Nat)) (.int .i64 2) = _ from bEqN i 2,opt_s,hx0]
   by_cases hi2 : i = 2
   ·rw [decide_eq_true hi2,gTF,opt_s,gTF,opt_s,pBool,if_pos rfl,opt_s,iteB_true]
    refine zero ?_
    unfold numM
    split
    ·simp at hlt; omega
    ·simp at hlt; omega
    ·rfl
   ·rw [decide_eq_false hi2,gFF,opt_s,gFF,bEql,opt_s,pBool,if_neg (by simp),opt_s,iteB_bool]
    by_cases h48 : c0 = 48
    ·subst h48
     rw [if_pos (by decide)]
     have hi0 : i = 0:=by
      rcases Nat.eq_zero_or_pos i with h | h
      ·exact h
      ·exact absurd hg0 (h0 h)
     refine zero ?_
     unfold numM
     split
     ·simp only [List.getElem?_cons_zero,Option.some.injEq] at hc0; subst hc0; simp
     ·simp only [List.getElem?_cons_zero,Option.some.injEq] at hc0; subst hc0; simp
     ·rfl
    ·have hne : ¬ (c0.toNat : Int) = 48:=fun e=>h48 (by
      have e : c0.toNat = 48:=by omega
      have : c0 = UInt8.ofNat 48:=by rw [← e]; simp
      exact this)
     rw [if_neg (by simpa using hne),add1' (by omega),opt_s]
     have hpre : 10 * preN s i + ((c.toNat : Int) - 48) = preN s (i + 1):=by
      have h01 : i = 0 ∨ i = 1:=by omega
      rcases h01 with rfl | rfl
      ·simp only [preN,hci]; omega
      ·simp only [preN,hci]; omega
     rw [hpre]
     refine hr _ ⟨i + 1,by omega,by omega,fun j x hj hxx=>?_,fun _=>by rw [hg0]; exact h48,rfl⟩ (by simp only [gv_0,gv_s,natOf]; omega)
     by_cases hji : j = i
     ·subst hji; rw [hc] at hxx; simp only [Option.some.injEq] at hxx; subst hxx; exact hdc
     ·exact hd j x (by omega) hxx
 ·have hie : i = s.length:=by omega
  rw [if_neg (by simpa using hlt)]
  have dg : ∀ (j : Nat) x,s[j]? = some x → digC x = true:=fun j x hx=>hd j x (by have:=(List.getElem?_eq_some_iff.1 hx).1; omega) hx
  congr 1
  unfold nuI
  match s,hie,h2,h0,dg with
  | [],h,_,_,_=>subst h; rfl
  | [c],h,_,h0,dg =>
   subst h
   have h48 : c ≠ 48:=h0 (by simp)
   have:=dg 0 c rfl
   simp only [numM,this,h48,ne_eq,not_false_eq_true,and_self,if_true]
   rfl
  | [c,d],h,_,h0,dg =>
   subst h
   have h48 : c ≠ 48:=h0 (by simp)
   have d0:=dg 0 c rfl
   have d1:=dg 1 d rfl
   simp only [numM,d0,d1,h48,ne_eq,not_false_eq_true,and_self,if_true]
   rfl
  | _ :: _ :: _ :: _,h,h2,_,_=>simp at h; omega
theorem ok_entailref13_number : SpecL Tryz.prog n_entailref13_number F_entailref13_number:=by
 refine go_entailref13_number (T:=[]) TabOk.nil fun args v hv=>?_
 unfold F_entailref13_number at hv
 split at hv <;> simp only [Option.ite_none_right_eq_some,Option.some.injEq,reduceCtorEq] at hv
 rename_i s
 obtain ⟨hs,rfl⟩:=hv
 exact ⟨rfl,rfl,rfl,number_wp s hs⟩
end Go.Fbs

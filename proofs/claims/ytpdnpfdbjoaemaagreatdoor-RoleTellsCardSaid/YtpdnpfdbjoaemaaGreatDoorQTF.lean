import Derived.Test.YtpdnpfdbjoaemaaGreatDoorQTE
import Derived.Test.YtpdnpfdbjoaemaaGreatDoorQR
set_option linter.unusedSimpArgs false
set_option linter.unusedVariables false
set_option linter.unusedSectionVars false
set_option maxRecDepth 100000
namespace Go.Fbs
open Go.Proofs
attribute [local irreducible] FunWpE FunWp opt
def kwsT : List (List UInt8):=[[],kwM 1,kwM 2,kwM 3,kwM 4,kwM 5,kwM 6,kwM 7,kwM 8]
def F_entailref13_words : Spec
 | []=>some (strsV kwsT)
 | _=>none
theorem ok_entailref13_words : SpecL Tryz.prog n_entailref13_words F_entailref13_words:=by
 refine go_entailref13_words (T:=[]) TabOk.nil fun args v hv=>?_
 unfold F_entailref13_words at hv
 split at hv <;> simp only [Option.some.injEq,reduceCtorEq] at hv
 subst hv
 refine ⟨rfl,rfl,strsV_cano _,?_⟩
 refine Eq.mpr (e_entailref13_words (tab _) _) ?_
 rw [show litK 1 [(.str []),(.str [117,115,101,114]),(.str [114,111,108,101]),(.str [105,110,104,101,114,105,116]),(.str [97,115,115,105,103,110]),(.str [103,114,97,110,116]),(.str [115,115,100]),(.str [100,115,100]),(.str [115,101,115,115,105,111,110])] = some (strsV kwsT) from lit_s (n:=1) (by simp) rfl,opt_s]
def kdF (w : List UInt8) : Nat → Nat
 | 0=>0
 | k + 1=>if 1 ≤ k ∧ kwM k = w then k else kdF w k
theorem kd_form (w : List UInt8) : (formM w = none ∧ kdF w 9 = 0) ∨ ∃ j,1 ≤ j ∧ j ≤ 8 ∧ formM w = some (frmK j) ∧ kdF w 9 = j:=by
 cases hf : formM w with
 | some f =>
  obtain ⟨j,j1,j8,hw,hfj⟩:=form_inv hf
  refine .inr ⟨j,j1,j8,by rw [hfj],?_⟩
  have : j = 1 ∨ j = 2 ∨ j = 3 ∨ j = 4 ∨ j = 5 ∨ j = 6 ∨ j = 7 ∨ j = 8:=by omega
  rw [hw]
  rcases this with rfl | rfl | rfl | rfl | rfl | rfl | rfl | rfl <;> decide
 | none =>
  refine .inl ⟨rfl,?_⟩
  have hn : ∀ j,1 ≤ j → j ≤ 8 → ¬ kwM j = w:=fun j h1 h8 e=>by
   have : j = 1 ∨ j = 2 ∨ j = 3 ∨ j = 4 ∨ j = 5 ∨ j = 6 ∨ j = 7 ∨ j = 8:=by omega
   subst e
   rcases this with rfl | rfl | rfl | rfl | rfl | rfl | rfl | rfl <;> simp [formM,kwM] at hf
  have h0 : ∀ k,k ≤ 9 → kdF w k = 0:=fun k=>by
   induction k with
   | zero=>intro _; rfl
   | succ k ih =>
    intro hk
    unfold kdF
    rw [if_neg (fun h=>hn k h.1 (by omega) h.2)]
    exact ih (by omega)
  exact h0 9 (by omega)
def goodB (K n : Nat) : Bool:=if K ≤ 2 then decide (n = 2) else if K ≤ 4 then decide (n = 3) else if K = 5 then decide (n = 4) else if K ≤ 7 then decide (5 ≤ n) else decide (3 ≤ n)
theorem good_form {j m : Nat} (j1 : 1 ≤ j) (j8 : j ≤ 8) (hm : m ≤ 300000) : (goodB j (m + 1) = true) ↔ ¬ (m < (frmK j).least ∨ (frmK j).most < m):=by
 have : j = 1 ∨ j = 2 ∨ j = 3 ∨ j = 4 ∨ j = 5 ∨ j = 6 ∨ j = 7 ∨ j = 8:=by omega
 rcases this with rfl | rfl | rfl | rfl | rfl | rfl | rfl | rfl <;> simp [goodB,frmK] <;> omega
theorem frm_facts {j : Nat} (j1 : 1 ≤ j) (j8 : j ≤ 8) : (frmK j).kind = j ∧ 1 ≤ (frmK j).names ∧ (frmK j).names ≤ 3 ∧ (frmK j).names ≤ (frmK j).least ∧ ∀ m : Nat,(decide (m + 1 = 2) && (decide (j = 6) || decide (j = 7))) = true ↔ ((frmK j).num = true ∧ m = (frmK j).names):=by
 have : j = 1 ∨ j = 2 ∨ j = 3 ∨ j = 4 ∨ j = 5 ∨ j = 6 ∨ j = 7 ∨ j = 8:=by omega
 rcases this with rfl | rfl | rfl | rfl | rfl | rfl | rfl | rfl <;> simp [frmK]
def nmW (f : Frm) (m : Nat) (o : Fct) : List (List UInt8):=if m ≤ f.names then [o.a,o.b,o.c].take m else [o.a,o.b,o.c].take f.names ++ o.l
theorem slDrop {l : List (List UInt8)} {k : Nat} (h : k ≤ l.length) : slLK 1 (strsV l) (some (vI (k : Nat))) none = some (strsV (l.drop k)):=by
 have h2 : (k : Int) ≤ (l.length : Int):=by omega
 simp only [slLK,strsV,boundV]
 simp [V.cells,h2]
 rw [List.take_of_length_le (by simp)]
theorem gCond (i K : Nat) (KK : V → Prop) (h : KK (.bool (decide (i = 2) && (decide (K = 6) || decide (K = 7))))) : (opt (binK .eql (vI (i : Nat)) (.int .i64 2)) fun y20=>opt (binK .eql (vI (K : Nat)) (.int .i64 6)) fun y21=>opt (guardV y20 true (some y21)) fun y22=>opt (chkBK y22) fun y23=>opt (binK .eql (vI (K : Nat)) (.int .i64 7)) fun y24=>opt (guardV y20 true (pickV y22 (.bool true) y24)) fun y25=>opt (pickV y20 y25 (.bool false)) fun y26=>KK y26):=by
 rw [show binK .eql (vI (i : Nat)) (.int .i64 2) = _ from bEqN i 2,opt_s,show binK .eql (vI (K : Nat)) (.int .i64 6) = _ from bEqN K 6,opt_s,show binK .eql (vI (K : Nat)) (.int .i64 7) = _ from bEqN K 7]
 cases hi : decide (i = 2) with
 | true =>
  rw [hi] at h
  rw [gTT,opt_s,chkB_bool,opt_s,opt_s,gTT,pOrD,opt_s,pAndD,opt_s]; exact h
 | false =>
  rw [hi] at h
  rw [gFT,opt_s,chkB_undef,opt_s,opt_s,gFT,opt_s,pBool,if_neg (by simp),opt_s]; exact h
noncomputable def F_entailref13_Fact : Spec:=specOf (fun l : LinI=>[linIW l]) okLinI factIV
theorem FrfactI {l : LinI} (h : okLinI l) : F_entailref13_Fact [linIW l] = some (factIV l):=specOf_eq (a:=l) (fun a b h=>linIW_inj a b (by simpa using h)) h
theorem Frfact {l : Lin} (h : okLin l) : F_entailref13_Fact [linW l] = some (factV l):=by
 rw [← cast_lin,FrfactI (okLin_cast h),fact_cast]; rfl
noncomputable abbrev TRf : List (FuncId × Spec):=[(n_entailref13_words,F_entailref13_words),(n_entailref13_number,F_entailref13_number),(n_entailref1_Name,F_entailref1_Name)]
structure RfI (f : Frm) (m : Nat) (o : Fct) : Prop where
 kind : o.kind = f.kind
 b : f.names < 2 → o.b = []
 c : f.names < 3 → o.c = []
 l : m ≤ f.names + (if f.num = true then 1 else 0) → o.l = []
theorem fact_exit {l : LinI} {w : WrdI} {ws : List WrdI} {j : Nat} (hl : l.2 = w :: ws) (hf : formM w.1 = some (frmK j)) (hc : ¬ (ws.length < (frmK j).least ∨ (frmK j).most < ws.length)) {o : Fct} {k e : Int} (h : fillI (frmK j) 0 ws { fct0 with kind:=(frmK j).kind } = (o,k,e)) :
  factIV l = if e = 0 then .tup [fctA o l.1,vI 0,vI 0] else .tup [fctW fct0,vI k,vI e]:=by
 unfold factIV factI
 rw [hl]
 simp only [hf]
 rw [if_neg hc,h]
 by_cases he : e = 0
 ·subst he; rfl
 ·rw [if_neg he]
  simp only
  rfl
end Go.Fbs

/- Schemas made of numbers: Made. -/
import Derived.Test.YtnmcilaebamncaaKL
set_option maxRecDepth 100000
namespace Go.Fbs
open Go.Proofs
attribute [local irreducible] FunWpE FunWp opt
def abT : List (List UInt8):=[[97],[98]]
def pqT : List (List UInt8):=[[112],[113]]
def bitN (n : Int) (k : Nat) : Bool:=decide ((((shN n k) % 2).toNat : Int) = 1)
def optR (n : Int) : List UInt8:=if bitN n 8 then [32,124,32] ++ subT (shN n 9) else []
def sT (n : Int) : List UInt8:=ssT.getD (((shN n 20) % 256).toNat % 4) []
def op1T (n : Int) : List UInt8:=op1sT.getD ((shN n 4) % 4).toNat []
def op2T (n : Int) : List UInt8:=op2sT.getD ((shN n 13) % 4).toNat []
def tail2T (n : Int) : List UInt8:=if decide ((((shN n 13) % 4).toNat : Int) = 3) then [32,38,32] ++ nameT (shN n 20) ++ [41] else []
def tailT (n : Int) : List UInt8:=if bitN n 12 then op2T n ++ nameT (shN n 16) ++ tail2T n else []
def exprT (j : Nat) (n : Int) : List UInt8:=[32] ++ pqT.getD j [] ++ [32,61,32] ++ nameT n ++ op1T n ++ nameT (shN n 8) ++ tailT n ++ [59]
def exprsT (l : List Int) (i : Nat) : Nat → List UInt8
 | 0=>[]
 | j + 1=>exprsT l i j ++ exprT j (atT l (3 * i + 1 + j))
def headT (l : List Int) (i : Nat) : List UInt8:=[116,121,112,101,32] ++ abT.getD i [] ++ [32,123,32,114,58,32] ++ subT (atT l (3 * i)) ++ optR (atT l (3 * i)) ++ [59,32,115,58,32] ++ sT (atT l (3 * i)) ++ [59]
def typeT (l : List Int) (i : Nat) : List UInt8:=headT l i ++ exprsT l i 2 ++ [32,125,10]
def upT (l : List Int) : Nat → List UInt8
 | 0=>[116,121,112,101,32,117,10]
 | i + 1=>upT l i ++ typeT l i
def madeT (l : List Int) : List UInt8:=upT l 2
theorem getD_le {l : List (List UInt8)} {m : Nat} (h : ∀ x ∈ l,x.length ≤ m) (k : Nat) : (l.getD k []).length ≤ m:=by
 rw [List.getD_eq_getElem?_getD]
 cases e : l[k]? with
 | none=>simp
 | some x=>exact h x (List.mem_of_getElem? e)
theorem subT_le (n : Int) : (subT n).length ≤ 3:=getD_le (by decide) _
theorem nameT_le (n : Int) : (nameT n).length ≤ 4:=getD_le (by decide) _
theorem sT_le (n : Int) : (sT n).length ≤ 5:=getD_le (by decide) _
theorem op1T_le (n : Int) : (op1T n).length ≤ 3:=getD_le (by decide) _
theorem op2T_le (n : Int) : (op2T n).length ≤ 4:=getD_le (by decide) _
theorem optR_le (n : Int) : (optR n).length ≤ 6:=by
 have:=subT_le (shN n 9)
 unfold optR; split <;> simp <;> omega
theorem tail2T_le (n : Int) : (tail2T n).length ≤ 8:=by
 have:=nameT_le (shN n 20)
 unfold tail2T; split <;> simp <;> omega
theorem tailT_le (n : Int) : (tailT n).length ≤ 16:=by
 have:=nameT_le (shN n 16)
 have:=op2T_le n
 have:=tail2T_le n
 unfold tailT; split <;> simp <;> omega
theorem pqT_le (n : Nat) : (pqT.getD n []).length ≤ 1:=getD_le (by decide) _
theorem abT_le (n : Nat) : (abT.getD n []).length ≤ 1:=getD_le (by decide) _
theorem exprT_le (j : Nat) (n : Int) : (exprT j n).length ≤ 33:=by
 have:=nameT_le n
 have:=nameT_le (shN n 8)
 have:=op1T_le n
 have:=tailT_le n
 have:=pqT_le j
 simp only [exprT,List.length_append,List.length_cons,List.length_nil]; omega
theorem exprsT_le (l : List Int) (i : Nat) : ∀ j,(exprsT l i j).length ≤ 33 * j
 | 0=>Nat.le_refl _
 | j + 1=>by
  have:=exprsT_le l i j
  have:=exprT_le j (atT l (3 * i + 1 + j))
  simp only [exprsT,List.length_append]; omega
theorem headT_le (l : List Int) (i : Nat) : (headT l i).length ≤ 32:=by
 have:=subT_le (atT l (3 * i))
 have:=optR_le (atT l (3 * i))
 have:=sT_le (atT l (3 * i))
 have:=abT_le i
 simp only [headT,List.length_append,List.length_cons,List.length_nil]; omega
theorem typeT_le (l : List Int) (i : Nat) : (typeT l i).length ≤ 101:=by
 have:=headT_le l i
 have:=exprsT_le l i 2
 simp only [typeT,List.length_append,List.length_cons,List.length_nil]; omega
theorem upT_le (l : List Int) : ∀ i,(upT l i).length ≤ 101 * i + 7
 | 0=>by simp [upT]
 | i + 1=>by
  have:=upT_le l i
  have:=typeT_le l i
  simp only [upT,List.length_append]; omega
noncomputable def F_entaillaw7_Made : Spec:=specOf (fun l : List Int=>[intsV l]) (fun _=>True) (fun l=>.str (madeT l))
theorem FMade (l : List Int) : F_entaillaw7_Made [intsV l] = some (.str (madeT l)):=specOf_eq (fun a b h=>intsV_inj (by simpa using h)) trivial
theorem addN {a b : Nat} (h : a + b < 1000) : binK .add (vI (a : Nat)) (vI (b : Nat)) = some (vI ((a + b : Nat) : Int)):=by
 rw [bAdd,wrap_in (by omega) (by omega)]; rfl
theorem add1 {a : Nat} (h : a < 900) : binK .add (vI (a : Nat)) (.int .i64 1) = some (vI ((a + 1 : Nat) : Int)):=addN (b:=1) (by omega)
theorem add3 {a : Nat} (h : a < 900) : binK .add (vI (a : Nat)) (.int .i64 3) = some (vI ((a + 3 : Nat) : Int)):=addN (b:=3) (by omega)
theorem litAB : litK 1 [(.str [97]),(.str [98])] = some (strsV abT):=by kernel_rfl
theorem litPQ : litK 1 [(.str [112]),(.str [113])] = some (strsV pqT):=by kernel_rfl
theorem litSS : litK 1 [(.str [97]),(.str [98]),(.str [97,32,124,32,98]),(.str [117,32,124,32,97])] = some (strsV ssT):=by kernel_rfl
theorem litO1 : litK 1 [(.str [32,43,32]),(.str [32,38,32]),(.str [32,45,32]),(.str [32,43,32])] = some (strsV op1sT):=by kernel_rfl
theorem litO2 : litK 1 [(.str [32,43,32]),(.str [32,38,32]),(.str [32,45,32]),(.str [32,45,32,40])] = some (strsV op2sT):=by kernel_rfl
noncomputable abbrev TM1 : List (FuncId × Spec):=[(x_entaillaw7_Made_1,F_x_entaillaw7_Made_1),(n_entaillaw7_Made_2,F_entaillaw7_Made_2),(n_entaillaw7_Made_3,F_entaillaw7_Made_3)]
theorem callSub (n : Int) : callvK (tab TM1) (.func 18 []) [vI n] = some (.str (subT n)):=nr rfl
theorem callName (n : Int) : callvK (tab TM1) (.func 19 []) [vI n] = some (.str (nameT n)):=nr rfl
theorem ag1 (l : List Int) : aggK [intsV l] = some (.agg [intsV l]):=nr rfl
theorem chA1 (l : List Int) : chkK 1 (.agg [intsV l]) = some (.agg [intsV l]):=nr rfl
theorem cA1 (l : List Int) : cellD (.agg [intsV l]) 0 = intsV l:=nr rfl
theorem ck1Ints (l : List Int) : chk1K (intsV l) = some (intsV l):=nr rfl
theorem bS {s u : List UInt8} (h : s.length + u.length ≤ 2000) : binK .add (.str s) (.str u) = some (.str (s ++ u)):=bSadd s u (by omega)
theorem lss2 {i : Nat} : binK .lss (vI (i : Nat)) (.int .i64 2) = some (.bool (decide (i < 2))):=by
 rw [bLss]
 have : decide ((i : Int) < 2) = decide (i < 2):=by
  by_cases h : i < 2
  ·simp [h]; omega
  ·simp [h]; omega
 rw [this]
theorem bBit (n : Int) (k : Nat) : binK .eql (vI (((shN n k) % 2).toNat : Nat)) (.int .i64 1) = some (.bool (bitN n k)):=bEql _ _ _
theorem agC1 (l : List Int) : aggK [cellD (.agg [intsV l]) 0] = some (.agg [intsV l]):=nr rfl
theorem jn {k : List V → Prop} {b : (List V → Prop) → Prop} (X : List V) (h : ∀ r : List V → Prop,r X → b r) (hk : k X) : joinP k b:=h k hk
theorem made_wp (l : List Int) : FunWp (tyT.dy [25,30,39,48,62]) (tab TM1) 128 q_entaillaw7_Made [.tmp 2] (cB Try.f7) [intsV l] (fun r=>r = .str (madeT l)):=by
 have c1 : ∀ args,tab TM1 x_entaillaw7_Made_1 args = F_x_entaillaw7_Made_1 args:=fun _=>rfl
 refine Eq.mpr (e_entaillaw7_Made (tab _) _ (intsV l)) ?_
 simp only [ck1Ints,opt_s]
 refine loopP_inv (fun vs=>∃ i,i ≤ 2 ∧ vs = [.str (upT l i),vI ((3 * i : Nat) : Int),vI (i : Nat),.func 19 [],.func 18 [],intsV l]) (fun vs=>2 - natOf (gv vs 2)) ⟨0,by omega,rfl⟩ ?_
 rintro r _ ⟨i,hi,rfl⟩ hr
 refine ⟨rfl,?_⟩
 simp only [gv_0,gv_s,lss2,opt_s,iteB_bool]
 by_cases h : i < 2
 ·have hu:=upT_le l i
  have hab:=abT_le i
  have hA:=subT_le (atT l (3 * i))
  have hB:=optR_le (atT l (3 * i))
  have hB':=subT_le (shN (atT l (3 * i)) 9)
  have hC:=sT_le (atT l (3 * i))
  simp only [h,decide_true,if_true,litAB,opt_s,lstAt (show i < abT.length from h)]
  rw [bS (by simp only [List.length_cons,List.length_nil]; omega),opt_s]
  rw [bS (by simp only [List.length_append,List.length_cons,List.length_nil]; omega),opt_s]
  rw [bS (by simp only [List.length_append,List.length_cons,List.length_nil]; omega),opt_s]
  rw [ag1,opt_s,c1,FMade1,opt_s,x0,opt_s,x1,opt_s,chA1,opt_s,callSub,opt_s]
  rw [bS (by simp only [List.length_append,List.length_cons,List.length_nil]; omega),opt_s]
  rw [agC1,opt_s,c1,FMade1,opt_s,x0,opt_s,x1,opt_s,chA1,opt_s,bShr8,opt_s,bAnd1,opt_s,bBit,opt_s]
  refine jn (X:=[.str (upT l i ++ [116,121,112,101,32] ++ abT.getD i [] ++ [32,123,32,114,58,32] ++ subT (atT l (3 * i)) ++ optR (atT l (3 * i))),intsV l]) ?_ ?_
  ·intro r1 h1
   rw [iteB_bool]
   by_cases hb : bitN (atT l (3 * i)) 8 = true
   ·rw [if_pos hb]
    rw [bS (by simp only [List.length_append,List.length_cons,List.length_nil]; omega),opt_s]
    rw [agC1,opt_s,c1,FMade1,opt_s,x0,opt_s,x1,opt_s,chA1,opt_s,bShr9,opt_s,callSub,opt_s]
    rw [bS (by simp only [List.length_append,List.length_cons,List.length_nil]; omega),opt_s]
    rw [show optR (atT l (3 * i)) = [32,124,32] ++ subT (shN (atT l (3 * i)) 9) by unfold optR; rw [if_pos hb]] at h1
    simpa only [List.append_assoc,cA1] using h1
   ·rw [if_neg hb]
    rw [show optR (atT l (3 * i)) = [] by unfold optR; rw [if_neg hb]] at h1
    simpa only [List.append_nil,cA1] using h1
  ·simp only [gv_0,gv_s]
   refine ⟨rfl,?_⟩
   rw [bS (by simp only [List.length_append,List.length_cons,List.length_nil]; omega),opt_s,litSS,opt_s]
   rw [ag1,opt_s,c1,FMade1,opt_s,x0,opt_s,x1,opt_s,chA1,opt_s,bShr20,opt_s,bAnd255,opt_s,bRem4,opt_s]
   rw [lstAt (show ((shN (atT l (3 * i)) 20) % 256).toNat % 4 < ssT.length from Nat.mod_lt _ (by decide)),opt_s]
   rw [bS (by have : (ssT.getD (((shN (atT l (3 * i)) 20) % 256).toNat % 4) []).length ≤ 5:=hC; simp only [List.length_append,List.length_cons,List.length_nil]; omega),opt_s]
   rw [bS (by have : (ssT.getD (((shN (atT l (3 * i)) 20) % 256).toNat % 4) []).length ≤ 5:=hC; simp only [List.length_append,List.length_cons,List.length_nil]; omega),opt_s]
   have hH : upT l i ++ [116,121,112,101,32] ++ abT.getD i [] ++ [32,123,32,114,58,32] ++ subT (atT l (3 * i)) ++ optR (atT l (3 * i)) ++ [59,32,115,58,32] ++ ssT.getD (((shN (atT l (3 * i)) 20) % 256).toNat % 4) [] ++ [59] = upT l i ++ headT l i:=by
    simp only [headT,sT,List.append_assoc]
   rw [hH,cA1]
   refine loopP_inv (fun vs=>∃ j,j ≤ 2 ∧ vs = [.str (upT l i ++ headT l i ++ exprsT l i j),vI (j : Nat),intsV l]) (fun vs=>2 - natOf (gv vs 1)) ⟨0,by omega,by simp only [exprsT,List.append_nil]; rfl⟩ ?_
   rintro r2 _ ⟨j,hj,rfl⟩ hr2
   refine ⟨rfl,?_⟩
   simp only [gv_0,gv_s]
   rw [lss2,opt_s,iteB_bool]
   have hhd:=headT_le l i
   have hex:=exprsT_le l i j
   by_cases hj2 : j < 2
   ·rw [if_pos (by simpa using hj2)]
    rw [add1 (by omega),opt_s,addN (by omega),opt_s,ag1,opt_s,c1,FMade1,opt_s,x0,opt_s,x1,opt_s,chA1,opt_s]
    obtain ⟨n,hn⟩ : ∃ n,n = atT l (3 * i + 1 + j):=⟨_,rfl⟩
    rw [← hn]
    have q1:=nameT_le n
    have q2:=nameT_le (shN n 8)
    have q3:=op1T_le n
    have q4:=tailT_le n
    have q5:=pqT_le j
    have q6:=nameT_le (shN n 16)
    have q7:=nameT_le (shN n 20)
    have q8:=op2T_le n
    rw [bS (by simp only [List.length_append,List.length_cons,List.length_nil]; omega),opt_s,litPQ,opt_s,lstAt (show j < pqT.length from hj2),opt_s]
    rw [bS (by simp only [List.length_append,List.length_cons,List.length_nil]; omega),opt_s]
    rw [bS (by simp only [List.length_append,List.length_cons,List.length_nil]; omega),opt_s,callName,opt_s]
    rw [bS (by simp only [List.length_append,List.length_cons,List.length_nil]; omega),opt_s,litO1,opt_s,bShr4,opt_s,bAnd3,opt_s,lstAt (show ((shN n 4) % 4).toNat < op1sT.length from m4 _),opt_s]
    rw [show op1sT.getD ((shN n 4) % 4).toNat [] = op1T n from rfl]
    rw [bS (by simp only [List.length_append,List.length_cons,List.length_nil]; omega),opt_s,bShr8,opt_s,callName,opt_s]
    rw [bS (by simp only [List.length_append,List.length_cons,List.length_nil]; omega),opt_s,bShr12,opt_s,bAnd1,opt_s,bBit,opt_s]
    refine jn (X:=[.str (upT l i ++ headT l i ++ exprsT l i j ++ [32] ++ pqT.getD j [] ++ [32,61,32] ++ nameT n ++ op1T n ++ nameT (shN n 8) ++ tailT n)]) ?_ ?_
    ·intro r3 h3
     rw [iteB_bool]
     by_cases hb : bitN n 12 = true
     ·rw [if_pos hb,litO2,opt_s,bShr13,opt_s,bAnd3,opt_s,lstAt (show ((shN n 13) % 4).toNat < op2sT.length from m4 _),opt_s]
      rw [show op2sT.getD ((shN n 13) % 4).toNat [] = op2T n from rfl]
      rw [bS (by simp only [List.length_append,List.length_cons,List.length_nil]; omega),opt_s,bShr16,opt_s,callName,opt_s]
      rw [bS (by simp only [List.length_append,List.length_cons,List.length_nil]; omega),opt_s,opt_s,bAnd3,opt_s,bEql,opt_s,iteB_bool]
      rw [show tailT n = op2T n ++ nameT (shN n 16) ++ tail2T n by unfold tailT; rw [if_pos hb]] at h3
      by_cases hb3 : decide ((((shN n 13) % 4).toNat : Int) = 3) = true
      ·rw [if_pos hb3,bS (by simp only [List.length_append,List.length_cons,List.length_nil]; omega),opt_s,bShr20,opt_s,callName,opt_s]
       rw [bS (by simp only [List.length_append,List.length_cons,List.length_nil]; omega),opt_s]
       rw [bS (by simp only [List.length_append,List.length_cons,List.length_nil]; omega),opt_s]
       rw [show tail2T n = [32,38,32] ++ nameT (shN n 20) ++ [41] by unfold tail2T; rw [if_pos hb3]] at h3
       simpa only [List.append_assoc] using h3
      ·rw [if_neg hb3]
       rw [show tail2T n = [] by unfold tail2T; rw [if_neg hb3]] at h3
       simpa only [List.append_assoc,List.append_nil] using h3
     ·rw [if_neg hb]
      rw [show tailT n = [] by unfold tailT; rw [if_neg hb]] at h3
      simpa only [List.append_assoc,List.append_nil] using h3
    ·simp only [gv_0]
     refine ⟨rfl,?_⟩
     rw [bS (by simp only [List.length_append,List.length_cons,List.length_nil]; omega),opt_s,add1 (by omega),opt_s,cA1]
     refine hr2 _ ⟨j + 1,by omega,?_⟩ (by simp only [gv_0,gv_s,natOf]; omega)
     simp only [exprsT,exprT,← hn,List.append_assoc]
   ·have e : j = 2:=by omega
    subst e
    rw [if_neg (by simp)]
    rw [bS (by simp only [List.length_append,List.length_cons,List.length_nil]; omega),opt_s,add3 (by omega),opt_s,add1 (by omega),opt_s]
    refine hr _ ⟨i + 1,by omega,?_⟩ (by simp only [gv_0,gv_s,natOf]; omega)
    simp only [upT,typeT,List.append_assoc]
    rfl
 ·have e : i = 2:=by omega
  subst e
  simp only [h,decide_false,Bool.false_eq_true,if_false]
  rfl
theorem ok_entaillaw7_Made : SpecL Try.prog n_entaillaw7_Made F_entaillaw7_Made:=by
 refine go_entaillaw7_Made (T:=TM1) (TabOk.consE okx_entaillaw7_Made_1 (TabOk.cons ok_entaillaw7_Made_2 (TabOk.cons ok_entaillaw7_Made_3 TabOk.nil))) fun args v hv=>?_
 obtain ⟨l,rfl,_,rfl⟩:=specOf_inv hv
 exact ⟨rfl,by simp [canos,intsV_cano],rfl,made_wp l⟩
end Go.Fbs

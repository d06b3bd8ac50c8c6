import Derived.Test.YtpdnpfdbjoaemaaGreatDoorQX
set_option linter.unusedSimpArgs false
set_option linter.unusedVariables false
set_option linter.unusedSectionVars false
set_option maxRecDepth 100000
namespace Go.Fbs
open Go.Proofs Go.RowKit
attribute [local irreducible] FunWpE FunWp opt
def intsV (l : List Int) : V:=.sl .ro (l.map (V.int .i64))
theorem intsV_cano (l : List Int) : (intsV l).cano = true:=canos_map fun _=>rfl
theorem intsV_inj {a b : List Int} (h : intsV a = intsV b) : a = b:=by
 simp only [intsV,V.sl.injEq,true_and] at h
 exact mapI (fun a b h=>by simpa using h) h
theorem lenInt (l : List Int) : lenL (intsV l) = some (vI l.length):=by simp [lenL,intsV]
theorem intAt {l : List Int} {i : Nat} {x : Int} (h : l[i]? = some x) : idxLK false 1 (intsV l) (vI (i : Nat)) = some (.int .i64 x):=by
 refine idxL_one ?_ rfl 1 .i64
 rw [List.getElem?_map,h]; rfl
def preX (b : Bool) : List UInt8:=if b = true then [117,115,101,114,32,117,10,117,115,101,114,32,118,10,117,115,101,114,32,119,10,114,111,108,101,32,114,10,114,111,108,101,32,115,10,114,111,108,101,32,116,10,114,111,108,101,32,113,10] else []
def skipX (b : Bool) (n : Int) : Bool:=b && (decide (kN n = 19) && decide (0 < (n.fdiv 2048 % ((4 : Nat) : Int)).toNat))
def fileL (b : Bool) : List Int → List UInt8 → List UInt8
 | [],s=>s
 | n :: r,s=>fileL b r (if skipX b n = true then s else s ++ lineX n ++ [10])
def fileX (l : List Int) (b : Bool) : List UInt8:=fileL b (l.take 30) (preX b)
theorem preX_len (b : Bool) : (preX b).length ≤ 49:=by cases b <;> simp [preX]
theorem step_len (b : Bool) (n : Int) (s : List UInt8) : (if skipX b n = true then s else s ++ lineX n ++ [10]).length ≤ s.length + 21:=by
 have:=lineX_len n
 split
 ·omega
 ·simp; omega
theorem fileL_len (b : Bool) : ∀ (l : List Int) (s : List UInt8),(fileL b l s).length ≤ s.length + 21 * l.length
 | [],s=>by simp [fileL]
 | n :: r,s=>by
  have h1:=fileL_len b r (if skipX b n = true then s else s ++ lineX n ++ [10])
  have h2:=step_len b n s
  unfold fileL
  rw [List.length_cons]
  omega
theorem fileX_len (l : List Int) (b : Bool) : (fileX l b).length ≤ 1000:=by
 have h1:=fileL_len b (l.take 30) (preX b)
 have h2:=preX_len b
 have h3 : (l.take 30).length ≤ 30:=by rw [List.length_take]; omega
 unfold fileX
 omega
noncomputable def F_entaillaw13_File : Spec:=specOf (fun q : List Int × Bool=>[intsV q.1,.bool q.2]) (fun _=>True) (fun q=>.str (fileX q.1 q.2))
theorem Ffile (l : List Int) (b : Bool) : F_entaillaw13_File [intsV l,.bool b] = some (.str (fileX l b)):=specOf_eq (a:=(l,b)) (fun a b h=>by
 simp only [List.cons.injEq,and_true,V.bool.injEq] at h
 exact Prod.ext (intsV_inj h.1) h.2) trivial
theorem bGtN (a b : Nat) : binK .gtr (vI (a : Nat)) (vI (b : Nat)) = some (.bool (decide (b < a))):=by
 rw [bGtr]
 congr 2
 by_cases h : b < a <;> simp [h]
theorem file_wp (l : List Int) (b : Bool) : FunWp tyT (tab [(n_entaillaw13_Line,F_entaillaw13_Line)]) 45 q_entaillaw13_File [.tmp 4] (cB Tryz.f12) [intsV l,.bool b] (fun v=>v = .str (fileX l b)):=by
 have c1 : ∀ args,tab [(n_entaillaw13_Line,F_entaillaw13_Line)] n_entaillaw13_Line args = F_entaillaw13_Line args:=fun _=>rfl
 refine Eq.mpr (e_entaillaw13_File (tab _) _ (intsV l) (.bool b)) ?_
 refine jnQ (X:=[.str (preX b)]) ?_ ⟨rfl,?_⟩
 ·intro r hr
  rw [iteB_bool]
  cases b <;> exact hr
 simp only [gv_0]
 have hp:=preX_len b
 obtain ⟨R,hR⟩ : ∃ R,fileX l b = R:=⟨_,rfl⟩
 rw [hR]
 unfold fileX at hR
 have ht : (l.take 30).length = min 30 l.length:=by rw [List.length_take]
 refine loopP_inv (fun vs=>∃ (i : Nat) (s : List UInt8),i ≤ l.length ∧ i ≤ 30 ∧ s.length ≤ 49 + 21 * i ∧ fileL b ((l.take 30).drop i) s = R ∧ vs = [.str s,vI (i : Nat)]) (fun vs=>l.length - natOf (gv vs 1)) ⟨0,preX b,Nat.zero_le _,Nat.zero_le _,hp,hR,rfl⟩ ?_
 rintro rr _ ⟨i,s,hi,h30,hs,hf,rfl⟩ hr
 refine ⟨rfl,?_⟩
 simp only [gv_0,gv_s]
 rw [lenInt,opt_s,bLt,opt_s,show binK .lss (vI (i : Nat)) (.int .i64 30) = _ from bLt i 30,opt_s,pAnd,opt_s,iteB_bool]
 by_cases hlt : i < l.length ∧ i < 30
 ·obtain ⟨n,hn⟩ : ∃ n,l[i]? = some n:=⟨_,List.getElem?_eq_getElem hlt.1⟩
  have hd : (l.take 30).drop i = n :: (l.take 30).drop (i + 1):=drop_cons (by rw [List.getElem?_take_of_lt hlt.2]; exact hn)
  rw [hd] at hf
  unfold fileL at hf
  rw [if_pos (by simpa using hlt)]
  have hsl:=step_len b n s
  refine jnQ (X:=[.str (if skipX b n = true then s else s ++ lineX n ++ [10])]) ?_ ?_
  ·intro r h
   have hll:=lineX_len n
   have r24 : binK .rem (vI ((n % ((256 : Nat) : Int)).toNat : Nat)) (.int .i64 24) = some (vI (kN n : Nat)):=remM _ 24 (by omega)
   have e19 : binK .eql (vI (kN n : Nat)) (.int .i64 19) = some (.bool (decide (kN n = 19))):=bEqN (kN n) 19
   have g0 : binK .gtr (vI ((n.fdiv 2048 % ((4 : Nat) : Int)).toNat : Nat)) (.int .i64 0) = some (.bool (decide (0 < (n.fdiv 2048 % ((4 : Nat) : Int)).toNat))):=by
    exact bGtN _ 0
   have last : skipX b n = false → opt (some (V.int .i64 n)) fun y19=>opt (tab [(n_entaillaw13_Line,F_entaillaw13_Line)] n_entaillaw13_Line [y19]) fun y20=>opt (binK .add (.str s) y20) fun y21=>opt (binK .add y21 (.str [10])) fun y22=>r [y22]:=fun hk=>by
    rw [hk,if_neg (by simp)] at h
    rw [opt_s,c1,show F_entaillaw13_Line [.int .i64 n] = some (.str (lineX n)) from rfl,opt_s,bSadd _ _ (by omega),opt_s,bSadd _ _ (by simp; omega),opt_s]
    exact h
   rw [intAt hn,opt_s,chkB_bool,opt_s,and255,opt_s]
   cases b with
   | false =>
    rw [gFT,opt_s,gFT,opt_s,pBool,if_neg (by simp),opt_s,gFT,opt_s,gFT,opt_s,gFT,opt_s,pBool,if_neg (by simp),opt_s,iteB_false]
    exact last rfl
   | true =>
    rw [gTT,r24,opt_s,gTT,e19,opt_s,pBool,if_pos rfl,opt_s]
    by_cases h19 : kN n = 19
    ·rw [decide_eq_true h19,gTT,shr11,opt_s,gTT,and3,opt_s,gTT,g0,opt_s,pBool,if_pos rfl,opt_s,iteB_bool]
     by_cases h0 : 0 < (n.fdiv 2048 % ((4 : Nat) : Int)).toNat
     ·have hk : skipX true n = true:=by simp only [skipX,h19,h0,decide_true,Bool.and_self]
      rw [hk,if_pos rfl] at h
      rw [decide_eq_true h0,if_pos rfl]
      exact h
     ·rw [decide_eq_false h0,if_neg (by simp)]
      exact last (by simp only [skipX,h0,decide_false,Bool.and_false])
    ·rw [decide_eq_false h19,gFT,opt_s,gFT,opt_s,gFT,opt_s,pBool,if_neg (by simp),opt_s,iteB_false]
     exact last (by simp only [skipX,h19,decide_false,Bool.false_and,Bool.and_false])
  ·refine ⟨rfl,?_⟩
   simp only [gv_0]
   rw [add1' (by omega),opt_s]
   exact hr _ ⟨i + 1,_,by omega,by omega,by omega,hf,rfl⟩ (by simp only [gv_0,gv_s,natOf]; omega)
 ·have hd : (l.take 30).drop i = []:=List.drop_eq_nil_of_le (by rw [ht]; omega)
  rw [hd] at hf
  unfold fileL at hf
  rw [if_neg (by simpa using hlt),hf]
theorem ok_entaillaw13_File : SpecL Tryz.prog n_entaillaw13_File F_entaillaw13_File:=by
 refine go_entaillaw13_File (T:=[(n_entaillaw13_Line,F_entaillaw13_Line)]) (TabOk.cons ok_entaillaw13_Line TabOk.nil) fun args v hv=>?_
 obtain ⟨⟨l,b⟩,rfl,_,rfl⟩:=specOf_inv hv
 exact ⟨rfl,by simp [canos,intsV_cano,V.cano],rfl,file_wp l b⟩
end Go.Fbs

import Derived.Test.YtpdnpfdbjoaemaaGreatDoorQTG
import Derived.Test.YtpdnpfdbjoaemaaGreatDoorQZ
set_option linter.unusedSimpArgs false
set_option linter.unusedVariables false
set_option linter.unusedSectionVars false
set_option maxRecDepth 100000
namespace Go.Fbs
open Go.Proofs
attribute [local irreducible] FunWpE FunWp opt
def F_entailref13_Parse : Spec
 | [.str s]=>if s.length ≤ bigT then some (roleV s) else none
 | _=>none
noncomputable abbrev TRp : List (FuncId × Spec):=[(n_entailref1_Lines,F_entailref1_Lines),(n_entailref13_Fact,F_entailref13_Fact)]
theorem rparse_wp (s : List UInt8) (hs : s.length ≤ bigT) : FunWp tyT (tab TRp) 54 q_entailref13_Parse [.tmp 2,.tmp 3,.tmp 4] (cB Tryz.f10) [.str s] (fun v=>v = roleV s):=by
 have c1 : ∀ args,tab TRp n_entailref1_Lines args = F_entailref1_Lines args:=fun _=>rfl
 have c2 : ∀ args,tab TRp n_entailref13_Fact args = F_entailref13_Fact args:=fun _=>rfl
 refine Eq.mpr (e_entailref13_Parse (tab _) _ (.str s)) ?_
 have hok:=linesM_ok s
 have hR : roleV s = roleV s:=rfl
 conv at hR=>rhs; unfold roleV roleM
 rw [c1,show F_entailref1_Lines [.str s] = some (lineT s) from if_pos hs,opt_s]
 unfold lineT
 generalize hL : linesM s = LL at hok hR
 obtain ⟨L,k,e⟩:=LL
 simp only at hok hR ⊢
 simp only [ext_tup,List.getElem?_cons_zero,List.getElem?_cons_succ,opt_s]
 rw [bNeq,opt_s,iteB_bool]
 by_cases he : e = 0
 ·subst he
  simp only [ne_eq,not_true_eq_false,if_false] at hR
  rw [if_neg (by simp)]
  generalize hRR : factsF L 0 [] = RR at hR
  refine loopP_inv (fun vs=>∃ (i : Nat) (out : List Fct),i ≤ L.length ∧ i ≤ 2000 ∧ out.length = i ∧ factsF (L.drop i) i out = RR ∧ vs = [factsV out,vI (i : Nat)]) (fun vs=>L.length - natOf (gv vs 1)) ⟨0,[],Nat.zero_le _,Nat.zero_le _,rfl,hRR,rfl⟩ ?_
  rintro rr _ ⟨i,out,hi,hi2,ho,hf,rfl⟩ hr
  refine ⟨rfl,?_⟩
  simp only [gv_0,gv_s]
  rw [lenLin,opt_s,bLt,opt_s,iteB_bool]
  by_cases hlt : i < L.length
  ·obtain ⟨x,hx⟩ : ∃ x,L[i]? = some x:=⟨_,List.getElem?_eq_getElem hlt⟩
   have hd : L.drop i = x :: L.drop (i + 1):=drop_cons hx
   rw [hd] at hf
   unfold factsF at hf
   have x0 : cellD (linW x) 0 = vI x.1:=rfl
   rw [if_pos (by simpa using hlt),show binK .eql (vI (i : Nat)) (.int .i64 2000) = _ from bEqN i 2000,opt_s,iteB_bool,linAt hx]
   by_cases h2 : 2000 ≤ i
   ·obtain rfl : i = 2000:=by omega
    rw [if_pos (Nat.le_refl _)] at hf
    rw [if_pos (by simp),opt_s,x0,hR,← hf]
    rfl
   ·rw [if_neg h2] at hf
    rw [if_neg (by simp; omega),opt_s,c2,Frfact (hok x (List.mem_of_getElem? hx)),opt_s]
    unfold factV
    generalize factM x = F at hf ⊢
    obtain ⟨o,k',e'⟩:=F
    simp only at hf ⊢
    simp only [ext_tup,List.getElem?_cons_zero,List.getElem?_cons_succ,opt_s,chkFct]
    rw [bNeq,opt_s,iteB_bool]
    by_cases he' : e' = 0
    ·rw [if_pos he'] at hf
     rw [if_neg (by simp [he']),litFct,opt_s,appFct (by omega),opt_s,add1' (by omega),opt_s]
     exact hr _ ⟨i + 1,out ++ [o],by omega,by omega,by simp [ho],hf,rfl⟩ (by simp only [gv_0,gv_s,natOf]; omega)
    ·rw [if_neg he'] at hf
     rw [if_pos (by simpa using he'),hR,← hf]
     rfl
  ·have hd : L.drop i = []:=List.drop_eq_nil_of_le (by omega)
   rw [hd] at hf
   unfold factsF at hf
   rw [if_neg (by simpa using hlt),hR,← hf]
   rfl
 ·rw [if_pos (show e ≠ 0 from he)] at hR
  rw [if_pos (by simpa using he),hR]
  rfl
theorem ok_entailref13_Parse : SpecL Tryz.prog n_entailref13_Parse F_entailref13_Parse:=by
 refine go_entailref13_Parse (T:=TRp) (TabOk.cons ok_entailref1_Lines (TabOk.cons ok_entailref13_Fact TabOk.nil)) fun args v hv=>?_
 unfold F_entailref13_Parse at hv
 split at hv <;> simp only [Option.ite_none_right_eq_some,Option.some.injEq,reduceCtorEq] at hv
 rename_i s
 obtain ⟨hs,rfl⟩:=hv
 exact ⟨rfl,rfl,by simp only [roleV,V.cano,canos,factsV_cano,Bool.and_self],rparse_wp s hs⟩
abbrev FctP:=Fct0 × Int
def fctP (p : FctP) : V:=fctA p.1.1 p.2
def factsA (l : List FctP) : V:=.sl .ro (l.map fctP)
theorem factsA_cano (l : List FctP) : (factsA l).cano = true:=canos_map fun p=>fctA_cano _ _
theorem factsA_inj {a b : List FctP} (h : factsA a = factsA b) : a = b:=by
 simp only [factsA,V.sl.injEq,true_and] at h
 refine mapI (fun x y h=>?_) h
 obtain ⟨h1,h2⟩:=fctA_inj (o:=x.1) (o':=y.1) h
 exact Prod.ext h1 h2
def toP (o : Fct) (k : Int) : FctP:=(⟨{ o with at_:=0 },rfl⟩,k)
theorem factsA_V (l : List Fct) : factsA (l.map fun o=>toP o o.at_) = factsV l:=by
 simp only [factsA,factsV,List.map_map]; rfl
theorem lenFA (l : List FctP) : lenL (factsA l) = some (vI l.length):=by simp [lenL,factsA]
theorem fctPAt {l : List FctP} {i : Nat} {x : FctP} (h : l[i]? = some x) : idxLK true 7 (factsA l) (vI (i : Nat)) = some (fctP x):=by
 refine idxL_agg (cs:=[vI x.1.1.kind,.str x.1.1.a,.str x.1.1.b,.str x.1.1.c,vI x.1.1.n,strsV x.1.1.l,vI x.2]) ?_ rfl rfl .i64
 rw [List.getElem?_map,h]; rfl
def okPs (l : List FctP) : Prop:=l.length ≤ 1000000 ∧ ∀ p ∈ l,p.1.1.l.length ≤ 300000
noncomputable def F_SameFactsA : Spec:=specOf (fun l : List FctP=>[factsA l,factsA l]) okPs (fun _=>.bool true)
theorem FsameFactsA {l : List FctP} (h : okPs l) : F_SameFactsA [factsA l,factsA l] = some (.bool true):=specOf_eq (a:=l) (fun a b h=>factsA_inj (by simp only [List.cons.injEq] at h; exact h.1)) h
theorem ok_SameFactsA : SpecL Tryz.prog n_entailref13_SameFacts F_SameFactsA:=by
 refine go_entailref13_SameFacts (T:=[(n_entailref1_SameTexts,F_slices_Equal)]) (TabOk.cons ok_entailref1_SameTexts TabOk.nil) fun args v hv=>?_
 have c1 : ∀ args,tab [(n_entailref1_SameTexts,F_slices_Equal)] n_entailref1_SameTexts args = F_slices_Equal args:=fun _=>rfl
 obtain ⟨l,rfl,⟨hl,hG⟩,rfl⟩:=specOf_inv hv
 refine ⟨rfl,by simp [canos,factsA_cano],rfl,?_⟩
 refine Eq.mpr (e_entailref13_SameFacts (tab _) _ (factsA l) (factsA l)) ?_
 rw [lenFA,opt_s,opt_s,bNeN,opt_s,iteB_bool,if_neg (by simp)]
 refine loopP_inv (fun vs=>∃ i : Nat,i ≤ l.length ∧ vs = [vI (i : Nat)]) (fun vs=>l.length - natOf (gv vs 0)) ⟨0,Nat.zero_le _,rfl⟩ ?_
 rintro rr _ ⟨i,hi,rfl⟩ hr
 refine ⟨rfl,?_⟩
 simp only [gv_0]
 rw [opt_s,bLt,opt_s,iteB_bool]
 by_cases hlt : i < l.length
 ·obtain ⟨x,hx⟩ : ∃ x,l[i]? = some x:=⟨_,List.getElem?_eq_getElem hlt⟩
  have hxl : x.1.1.l.length ≤ 1000000:=by have:=hG x (List.mem_of_getElem? hx); omega
  have a0 : cellD (fctP x) 0 = vI x.1.1.kind:=rfl
  have a1 : cellD (fctP x) 1 = .str x.1.1.a:=rfl
  have a2 : cellD (fctP x) 2 = .str x.1.1.b:=rfl
  have a3 : cellD (fctP x) 3 = .str x.1.1.c:=rfl
  have a4 : cellD (fctP x) 4 = vI x.1.1.n:=rfl
  have a5 : cellD (fctP x) 5 = strsV x.1.1.l:=rfl
  rw [if_pos (by simpa using hlt),fctPAt hx,opt_s,opt_s,a0,a1,a2,a3,a4,a5]
  rw [bNeq,opt_s,bSneD,opt_s,pOrD,opt_s,bSneD,opt_s,pOrD,opt_s,bSneD,opt_s,pOrD,opt_s,bNeq,opt_s,pOrD,opt_s]
  have hB : (!decide (x.1.1.kind = x.1.1.kind) || !decide (x.1.1.a = x.1.1.a) || !decide (x.1.1.b = x.1.1.b) || !decide (x.1.1.c = x.1.1.c) || !decide (x.1.1.n = x.1.1.n)) = false:=by simp
  rw [hB,gFF,c1,Fequal hxl,opt_s,gFF,not_bool,opt_s,pBool,if_neg (by simp),opt_s,iteB_bool,if_neg (by simp),add1' (by omega),opt_s]
  exact hr _ ⟨i + 1,by omega,rfl⟩ (by simp only [gv_0,natOf]; omega)
 ·rw [if_neg (by simpa using hlt)]; trivial
noncomputable def F_entaillaw13_SameAt : Spec:=specOf (fun l : List FctP=>[factsA l,factsA l]) okPs (fun _=>.bool true)
theorem FsameAt {l : List FctP} (h : okPs l) : F_entaillaw13_SameAt [factsA l,factsA l] = some (.bool true):=specOf_eq (a:=l) (fun a b h=>factsA_inj (by simp only [List.cons.injEq] at h; exact h.1)) h
theorem ok_entaillaw13_SameAt : SpecL Tryz.prog n_entaillaw13_SameAt F_entaillaw13_SameAt:=by
 refine go_entaillaw13_SameAt (T:=[(n_entailref13_SameFacts,F_SameFactsA)]) (TabOk.cons ok_SameFactsA TabOk.nil) fun args v hv=>?_
 have c1 : ∀ args,tab [(n_entailref13_SameFacts,F_SameFactsA)] n_entailref13_SameFacts args = F_SameFactsA args:=fun _=>rfl
 obtain ⟨l,rfl,hl,rfl⟩:=specOf_inv hv
 refine ⟨rfl,by simp [canos,factsA_cano],rfl,?_⟩
 refine Eq.mpr (e_entaillaw13_SameAt (tab _) _ (factsA l) (factsA l)) ?_
 rw [c1,FsameFactsA hl,opt_s,not_bool,opt_s,iteB_bool,if_neg (by simp)]
 refine loopP_inv (fun vs=>∃ i : Nat,i ≤ l.length ∧ vs = [vI (i : Nat)]) (fun vs=>l.length - natOf (gv vs 0)) ⟨0,Nat.zero_le _,rfl⟩ ?_
 rintro rr _ ⟨i,hi,rfl⟩ hr
 refine ⟨rfl,?_⟩
 simp only [gv_0]
 have hl1:=hl.1
 rw [lenFA,opt_s,bLt,opt_s,iteB_bool]
 by_cases hlt : i < l.length
 ·obtain ⟨x,hx⟩ : ∃ x,l[i]? = some x:=⟨_,List.getElem?_eq_getElem hlt⟩
  have a6 : cellD (fctP x) 6 = vI x.2:=rfl
  rw [if_pos (by simpa using hlt),fctPAt hx,opt_s,opt_s,a6,bNeq,opt_s,iteB_bool,if_neg (by simp),add1' (by omega),opt_s]
  exact hr _ ⟨i + 1,by omega,rfl⟩ (by simp only [gv_0,natOf]; omega)
 ·rw [if_neg (by simpa using hlt)]; trivial
end Go.Fbs

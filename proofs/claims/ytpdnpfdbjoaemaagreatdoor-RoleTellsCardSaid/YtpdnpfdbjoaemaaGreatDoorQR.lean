import Derived.Test.YtpdnpfdbjoaemaaGreatDoorQP
set_option linter.unusedSimpArgs false
set_option linter.unusedVariables false
set_option linter.unusedSectionVars false
set_option maxRecDepth 100000
namespace Go.Fbs
open Go.Proofs
attribute [local irreducible] FunWpE FunWp opt
theorem lenStr (l : List (List UInt8)) : lenL (strsV l) = some (vI l.length):=by simp [lenL,strsV]
theorem strAt {l : List (List UInt8)} {i : Nat} {x : List UInt8} (h : l[i]? = some x) : idxLK false 1 (strsV l) (vI (i : Nat)) = some (.str x):=by
 refine idxL_one ?_ rfl 1 .i64
 rw [List.getElem?_map,h]; rfl
theorem bNeN (a b : Nat) : binK .neq (vI (a : Nat)) (vI (b : Nat)) = some (.bool (!decide (a = b))):=by
 rw [bNeq]; congr 3; by_cases h : a = b
 ·simp [h]
 ·have : ¬ (a : Int) = (b : Int):=by omega
  simp [h,this]
theorem bSneD (s u : List UInt8) : binK .neq (.str s) (.str u) = some (.bool (!decide (s = u))):=by
 rw [bSne]
 congr 3
 by_cases h : s = u <;> simp [h]
theorem drop_cons {α : Type} {l : List α} {i : Nat} {x : α} (h : l[i]? = some x) : l.drop i = x :: l.drop (i + 1):=by
 obtain ⟨h9,e9⟩:=List.getElem?_eq_some_iff.1 h
 rw [List.drop_eq_getElem_cons h9,e9]
noncomputable def F_slices_Equal : Spec:=specOf (fun q : List (List UInt8) × List (List UInt8)=>[strsV q.1,strsV q.2]) (fun q=>q.1.length ≤ 1000000) (fun q=>.bool (decide (q.1 = q.2)))
theorem Fequal {l m : List (List UInt8)} (h : l.length ≤ 1000000) : F_slices_Equal [strsV l,strsV m] = some (.bool (decide (l = m))):=specOf_eq (a:=(l,m)) (fun a b h=>by
 simp only [List.cons.injEq,and_true] at h
 exact Prod.ext (strsV_inj h.1) (strsV_inj h.2)) h
theorem equal_body {l m : List (List UInt8)} (h : l.length ≤ 1000000) {Q : V → Prop} (hQ : Q (.bool (decide (l = m)))) (hlen : l.length = m.length) (n : V → V → Prop) :
  loopP (fun r0 w0=>w0.length = 1 ∧ (opt (binK .lss (gv w0 0) (vI l.length)) fun y7=>iteB y7 (opt (idxLK false 1 (strsV l) (gv w0 0)) fun y8=>opt (idxLK false 1 (strsV m) (gv w0 0)) fun y9=>opt (binK .neq y8 y9) fun y10=>iteB y10 (Q (.bool false)) (opt (binK .add (gv w0 0) (.int .i64 1)) fun y11=>r0 [y11])) (Q (.bool true)))) [(.int .i64 0)]:=by
 refine loopP_inv (fun vs=>∃ i : Nat,i ≤ l.length ∧ (l.drop i = m.drop i ↔ l = m) ∧ vs = [vI (i : Nat)]) (fun vs=>l.length - natOf (gv vs 0)) ⟨0,Nat.zero_le _,Iff.rfl,rfl⟩ ?_
 rintro rr _ ⟨i,hi,he,rfl⟩ hr
 refine ⟨rfl,?_⟩
 simp only [gv_0]
 rw [bLt,opt_s,iteB_bool]
 by_cases hlt : i < l.length
 ·obtain ⟨x,hx⟩ : ∃ x,l[i]? = some x:=⟨_,List.getElem?_eq_getElem hlt⟩
  obtain ⟨y,hy⟩ : ∃ y,m[i]? = some y:=⟨_,List.getElem?_eq_getElem (by omega)⟩
  rw [drop_cons hx,drop_cons hy] at he
  rw [if_pos (by simpa using hlt),strAt hx,opt_s,strAt hy,opt_s,bSneD,opt_s,iteB_bool]
  by_cases hxy : x = y
  ·rw [if_neg (by simp [hxy]),add1' (by omega),opt_s]
   refine hr _ ⟨i + 1,by omega,?_,rfl⟩ (by simp only [gv_0,natOf]; omega)
   rw [← he,hxy]
   simp
  ·rw [if_pos (by simp [hxy])]
   have : ¬ l = m:=fun e=>by
    have:=he.2 e
    simp only [List.cons.injEq] at this
    exact hxy this.1
   rw [decide_eq_false this] at hQ
   exact hQ
 ·rw [if_neg (by simpa using hlt)]
  have e : l = m:=he.1 (by rw [List.drop_eq_nil_of_le (by omega),List.drop_eq_nil_of_le (by omega)])
  rw [decide_eq_true e] at hQ
  exact hQ
theorem ok_slices_Equal_string_string : SpecL Tryz.prog n_slices_Equal_string_string F_slices_Equal:=by
 refine go_slices_Equal_string_string (T:=[]) TabOk.nil fun args v hv=>?_
 obtain ⟨⟨l,m⟩,rfl,hl,rfl⟩:=specOf_inv hv
 have hl : l.length ≤ 1000000:=hl
 refine ⟨rfl,by simp [canos,strsV_cano],rfl,?_⟩
 refine Eq.mpr (e_slices_Equal_string_string (tab _) _ (strsV l) (strsV m)) ?_
 rw [lenStr,opt_s,lenStr,opt_s,bNeN,opt_s,iteB_bool]
 by_cases h : l.length = m.length
 ·rw [if_neg (by simp [h]),opt_s]
  exact equal_body (Q:=fun v=>v = .bool (decide (l = m))) hl rfl h fun _ _=>True
 ·rw [if_pos (by simp [h])]
  have : ¬ l = m:=fun e=>h (by rw [e])
  rw [decide_eq_false this]
theorem ok_entailref1_SameTexts : SpecL Tryz.prog n_entailref1_SameTexts F_slices_Equal:=by
 refine go_entailref1_SameTexts (T:=[]) TabOk.nil fun args v hv=>?_
 obtain ⟨⟨l,m⟩,rfl,hl,rfl⟩:=specOf_inv hv
 have hl : l.length ≤ 1000000:=hl
 refine ⟨rfl,by simp [canos,strsV_cano],rfl,?_⟩
 refine Eq.mpr (e_entailref1_SameTexts (tab _) _ (strsV l) (strsV m)) ?_
 rw [lenStr,opt_s,lenStr,opt_s,bNeN,opt_s,iteB_bool]
 by_cases h : l.length = m.length
 ·rw [if_neg (by simp [h])]
  have:=equal_body (Q:=fun v=>v = .bool (decide (l = m))) hl rfl h fun _ _=>True
  simp only [opt_s]
  exact this
 ·rw [if_pos (by simp [h])]
  have : ¬ l = m:=fun e=>h (by rw [e])
  rw [decide_eq_false this]
def sameB (a b : Fct) : Bool:=decide (a.kind = b.kind) && decide (a.a = b.a) && decide (a.b = b.b) && decide (a.c = b.c) && decide (a.n = b.n) && decide (a.l = b.l)
def sameL : List Fct → List Fct → Bool
 | [],[]=>true
 | a :: r,b :: q=>sameB a b && sameL r q
 | _,_=>false
def okF (o : Fct) : Prop:=o.l.length ≤ 300000
theorem fctC (o : Fct) : cellD (fctW o) 0 = vI o.kind ∧ cellD (fctW o) 1 = .str o.a ∧ cellD (fctW o) 2 = .str o.b ∧ cellD (fctW o) 3 = .str o.c ∧ cellD (fctW o) 4 = vI o.n ∧ cellD (fctW o) 5 = strsV o.l ∧ cellD (fctW o) 6 = vI o.at_:=⟨rfl,rfl,rfl,rfl,rfl,rfl,rfl⟩
noncomputable def F_role_same : Spec:=specOf (fun q : Fct × Fct=>[fctW q.1,fctW q.2]) (fun q=>okF q.1) (fun q=>.bool (sameB q.1 q.2))
theorem Fsame {a b : Fct} (h : okF a) : F_role_same [fctW a,fctW b] = some (.bool (sameB a b)):=specOf_eq (a:=(a,b)) (fun a b h=>by
 simp only [List.cons.injEq,and_true] at h
 exact Prod.ext (fctW_inj _ _ h.1) (fctW_inj _ _ h.2)) h
theorem pAnd (p q : Bool) : pickV (.bool p) (.bool q) (.bool false) = some (.bool (p && q)):=by
 rw [pBool]; cases p <;> rfl
theorem gAnd (p : Bool) (o : Option V) (k : V → Prop) (q : Bool) (ho : o = some (.bool q)) (h : k (.bool (p && q))) : opt (guardV (.bool p) true o) fun y13=>opt (pickV (.bool p) y13 (.bool false)) fun y14=>k y14:=by
 subst ho
 cases p with
 | false =>
  rw [gFT,opt_s,pBool,if_neg (by simp),opt_s]; exact h
 | true =>
  rw [gTT,opt_s,pBool,if_pos rfl,opt_s]; exact h
theorem ok_role_same : SpecL Tryz.prog n_role_same F_role_same:=by
 refine go_role_same (T:=[(n_slices_Equal_string_string,F_slices_Equal)]) (TabOk.cons ok_slices_Equal_string_string TabOk.nil) fun args v hv=>?_
 have c1 : ∀ args,tab [(n_slices_Equal_string_string,F_slices_Equal)] n_slices_Equal_string_string args = F_slices_Equal args:=fun _=>rfl
 obtain ⟨⟨a,b⟩,rfl,h,rfl⟩:=specOf_inv hv
 have h : a.l.length ≤ 300000:=h
 refine ⟨rfl,by simp [canos,fctW_cano],rfl,?_⟩
 refine Eq.mpr (e_role_same (tab _) _ (fctW a) (fctW b)) ?_
 obtain ⟨a0,a1,a2,a3,a4,a5,a6⟩:=fctC a
 obtain ⟨b0,b1,b2,b3,b4,b5,b6⟩:=fctC b
 rw [chkFct,opt_s,chkFct,opt_s,a0,a1,a2,a3,a4,a5,b0,b1,b2,b3,b4,b5]
 rw [bEql,opt_s,bSeqD,opt_s,pAnd,opt_s,bSeqD,opt_s,pAnd,opt_s,bSeqD,opt_s,pAnd,opt_s,bEql,opt_s,pAnd,opt_s]
 exact gAnd _ _ _ _ ((c1 _).trans (Fequal (by omega))) rfl
theorem funTabF (l : List V) : callvK (tab [(n_role_same,F_role_same)]) (.func 28 []) l = F_role_same l:=by
 show tab [(n_role_same,F_role_same)] 28 (l ++ []) = _
 rw [List.append_nil]; rfl
noncomputable def F_EqualFunc : Spec:=specOf (fun q : List Fct × List Fct=>[factsV q.1,factsV q.2,.func 28 []]) (fun q=>q.1.length ≤ 1000000 ∧ ∀ o ∈ q.1,okF o) (fun q=>.bool (sameL q.1 q.2))
theorem FequalFunc {a b : List Fct} (h : a.length ≤ 1000000) (hG : ∀ o ∈ a,okF o) : F_EqualFunc [factsV a,factsV b,.func 28 []] = some (.bool (sameL a b)):=specOf_eq (a:=(a,b)) (fun a b h=>by
 simp only [List.cons.injEq,and_true] at h
 exact Prod.ext (factsV_inj h.1) (factsV_inj h.2)) ⟨h,hG⟩
theorem lenFct (l : List Fct) : lenL (factsV l) = some (vI l.length):=by simp [lenL,factsV]
theorem fctAt {l : List Fct} {i : Nat} {x : Fct} (h : l[i]? = some x) : idxLK true 7 (factsV l) (vI (i : Nat)) = some (fctW x):=by
 refine idxL_agg (cs:=[vI x.kind,.str x.a,.str x.b,.str x.c,vI x.n,strsV x.l,vI x.at_]) ?_ rfl rfl .i64
 rw [List.getElem?_map,h]; rfl
theorem sameL_len : ∀ {a b : List Fct},a.length ≠ b.length → sameL a b = false
 | [],[],h=>by simp at h
 | [],_ :: _,_=>rfl
 | _ :: _,[],_=>rfl
 | a :: r,b :: q,h=>by
  simp only [sameL]
  rw [sameL_len (by simpa using h),Bool.and_false]
theorem ok_slices_EqualFunc : SpecL Tryz.prog n_slices_EqualFunc_api_Fact_api_Fact_api_Fact_api_Fact F_EqualFunc:=by
 refine go_slices_EqualFunc_api_Fact_api_Fact_api_Fact_api_Fact (T:=[(n_role_same,F_role_same)]) (TabOk.cons ok_role_same TabOk.nil) fun args v hv=>?_
 obtain ⟨⟨a,b⟩,rfl,⟨hl,hG⟩,rfl⟩:=specOf_inv hv
 simp only at hl hG
 refine ⟨rfl,by simp [canos,factsV_cano,V.cano],rfl,?_⟩
 refine Eq.mpr (e_slices_EqualFunc_api_Fact_api_Fact_api_Fact_api_Fact (tab _) _ (factsV a) (factsV b) (.func 28 [])) ?_
 rw [lenFct,opt_s,lenFct,opt_s,bNeN,opt_s,iteB_bool]
 by_cases h : a.length = b.length
 ·rw [if_neg (by simp [h]),opt_s]
  refine loopP_inv (fun vs=>∃ i : Nat,i ≤ a.length ∧ sameL (a.drop i) (b.drop i) = sameL a b ∧ vs = [vI (i : Nat)]) (fun vs=>a.length - natOf (gv vs 0)) ⟨0,Nat.zero_le _,rfl,rfl⟩ ?_
  rintro rr _ ⟨i,hi,he,rfl⟩ hr
  refine ⟨rfl,?_⟩
  simp only [gv_0]
  rw [bLt,opt_s,iteB_bool]
  by_cases hlt : i < a.length
  ·obtain ⟨x,hx⟩ : ∃ x,a[i]? = some x:=⟨_,List.getElem?_eq_getElem hlt⟩
   obtain ⟨y,hy⟩ : ∃ y,b[i]? = some y:=⟨_,List.getElem?_eq_getElem (by omega)⟩
   rw [drop_cons hx,drop_cons hy] at he
   simp only [sameL] at he
   rw [if_pos (by simpa using hlt),fctAt hx,opt_s,fctAt hy,opt_s,funTabF,Fsame (hG x (List.mem_of_getElem? hx)),opt_s,not_bool,opt_s,iteB_bool]
   cases hs : sameB x y with
   | true =>
    rw [hs,Bool.true_and] at he
    rw [if_neg (by simp),add1' (by omega),opt_s]
    exact hr _ ⟨i + 1,by omega,he,rfl⟩ (by simp only [gv_0,natOf]; omega)
   | false =>
    rw [hs,Bool.false_and] at he
    rw [if_pos (by simp),← he]
  ·rw [if_neg (by simpa using hlt),← he,List.drop_eq_nil_of_le (by omega),List.drop_eq_nil_of_le (by omega)]
   rfl
 ·rw [if_pos (by simp [h]),sameL_len h]
noncomputable def F_line_Join : Spec:=specOf (fun l : List (List UInt8)=>[strsV l]) (fun l=>l.length ≤ 1000000 ∧ (joinT l).length ≤ 1000000000) (fun l=>.str (joinT l))
theorem FlJoin {l : List (List UInt8)} (h : l.length ≤ 1000000) (h2 : (joinT l).length ≤ 1000000000) : F_line_Join [strsV l] = some (.str (joinT l)):=specOf_eq (a:=l) (fun a b h=>strsV_inj (by simpa using h)) ⟨h,h2⟩
theorem ok_line_Join : SpecL Tryz.prog n_line_Join F_line_Join:=by
 refine go_line_Join (T:=[(n_strings_Join,F_strings_Join)]) (TabOk.cons ok_strings_Join TabOk.nil) fun args v hv=>?_
 have c1 : ∀ args,tab [(n_strings_Join,F_strings_Join)] n_strings_Join args = F_strings_Join args:=fun _=>rfl
 obtain ⟨l,rfl,⟨h1,h2⟩,rfl⟩:=specOf_inv hv
 refine ⟨rfl,by simp [canos,strsV_cano],rfl,?_⟩
 refine Eq.mpr (e_line_Join (tab _) _ (strsV l)) ?_
 rw [c1]
 have : F_strings_Join [strsV l,.str [32]] = some (.str (joinT l)):=by
  show (match unSs (txtsV l) with | some l=>_ | none=>_) = _
  rw [unSs_txtsV]
  exact if_pos ⟨by omega,by unfold joinT at h2; omega⟩
 rw [this,opt_s]
def toldT (o : Fct) : List UInt8:=if kwM o.kind.toNat = [] then [] else joinT (wordsW o)
def okT (o : Fct) : Prop:=o.l.length ≤ 300000 ∧ (joinT (wordsW o)).length ≤ 1000000000 ∧ ((frmK o.kind.toNat).num = true → 0 ≤ o.n ∧ o.n < 1000)
noncomputable def F_role_told : Spec:=specOf (fun o : Fct=>[fctW o]) okT (fun o=>.str (toldT o))
theorem Ftold {o : Fct} (h : okT o) : F_role_told [fctW o] = some (.str (toldT o)):=specOf_eq (a:=o) (fun a b h=>fctW_inj _ _ (by simpa using h)) h
theorem form_kw (k : Nat) : (kwM k = [] ∧ formM (kwM k) = none) ∨ (kwM k ≠ [] ∧ formM (kwM k) = some (frmK k) ∧ (frmK k).names ≤ 3):=by
 by_cases h : 1 ≤ k ∧ k ≤ 8
 ·right
  have : k = 1 ∨ k = 2 ∨ k = 3 ∨ k = 4 ∨ k = 5 ∨ k = 6 ∨ k = 7 ∨ k = 8:=by omega
  rcases this with rfl | rfl | rfl | rfl | rfl | rfl | rfl | rfl <;> exact ⟨by simp [kwM],rfl,by decide⟩
 ·left
  have : k = 0 ∨ 9 ≤ k:=by omega
  rcases this with rfl | h9
  ·exact ⟨rfl,rfl⟩
  ·obtain ⟨m,rfl⟩ : ∃ m,k = m + 9:=⟨k - 9,by omega⟩
   exact ⟨rfl,rfl⟩
theorem appStrs {l m : List (List UInt8)} (h : l.length + m.length ≤ 1000000) : appK 1 16 (strsV l) (strsV m) = some (strsV (l ++ m)):=by
 have:=app_s (n:=1) (b:=16) (g:=.ro) (g':=.ro) (es:=l.map V.str) (ys:=m.map V.str) (by simp; omega) (all_map_len fun a=>rfl) (all_map_len fun a=>rfl)
 unfold strsV
 rw [List.map_append]
 exact this
theorem lit3 (a b c : List UInt8) : litK 1 [.str a,.str b,.str c] = some (strsV [a,b,c]):=lit_s (n:=1) (by simp) rfl
theorem lit1 (a : List UInt8) : litK 1 [.str a] = some (strsV [a]):=lit_s (n:=1) (by simp) rfl
theorem slStrs {l : List (List UInt8)} {k : Nat} (h : k ≤ l.length) : slLK 1 (strsV l) none (some (vI (k : Nat))) = some (strsV (l.take k)):=by
 have h2 : (k : Int) ≤ (l.length : Int):=by omega
 simp only [slLK,strsV,boundV]
 simp [V.cells,h2]
noncomputable abbrev TTo : List (FuncId × Spec):=[(n_role_keyword,F_role_keyword),(n_role_formOf,F_role_formOf),(n_strconv_Itoa,F_strconv_Itoa),(n_line_Join,F_line_Join)]
theorem told_wp (o : Fct) (ho : okT o) : FunWp tyT (tab TTo) 43 q_role_told [.tmp 2] (cB Tryz.f24) [fctW o] (fun v=>v = .str (toldT o)):=by
 have c1 : ∀ args,tab TTo n_role_keyword args = F_role_keyword args:=fun _=>rfl
 have c2 : ∀ args,tab TTo n_role_formOf args = F_role_formOf args:=fun _=>rfl
 have c3 : ∀ args,tab TTo n_strconv_Itoa args = F_strconv_Itoa args:=fun _=>rfl
 have c4 : ∀ args,tab TTo n_line_Join args = F_line_Join args:=fun _=>rfl
 obtain ⟨h1,h2,h3⟩:=ho
 refine Eq.mpr (e_role_told (tab _) _ (fctW o)) ?_
 obtain ⟨a0,a1,a2,a3,a4,a5,a6⟩:=fctC o
 rw [chkFct,opt_s,a0,a1,a2,a3,a4,a5,c1,show F_role_keyword [vI o.kind] = some (.str (kwM o.kind.toNat)) from rfl,opt_s,c2,show F_role_formOf [.str (kwM o.kind.toNat)] = some _ from rfl,opt_s]
 unfold toldT
 rcases form_kw o.kind.toNat with ⟨e1,e2⟩ | ⟨e1,e2,e3⟩
 ·rw [e2,if_pos e1]
  simp only [ext_tup,List.getElem?_cons_zero,List.getElem?_cons_succ,opt_s,chkFrm,not_bool,Bool.not_false,iteB_true]
 ·rw [e2,if_neg e1]
  simp only [ext_tup,List.getElem?_cons_zero,List.getElem?_cons_succ,opt_s,chkFrm,not_bool,Bool.not_true,iteB_false]
  have f1 : cellD (frmV (frmK o.kind.toNat)) 1 = vI (frmK o.kind.toNat).names:=rfl
  have f2 : cellD (frmV (frmK o.kind.toNat)) 2 = .bool (frmK o.kind.toNat).num:=rfl
  have hw : wordsW o = [kwM o.kind.toNat] ++ ([o.a,o.b,o.c].take (frmK o.kind.toNat).names) ++ tailW (frmK o.kind.toNat) o:=by unfold wordsW; rfl
  have htk : ([o.a,o.b,o.c].take (frmK o.kind.toNat).names).length ≤ 3:=by rw [List.length_take]; simp; omega
  rw [lit1,opt_s,lit3,opt_s,f1,f2,slStrs (by simpa using e3),opt_s,appStrs (by simp at htk ⊢; omega),opt_s]
  rw [hw] at h2 ⊢
  generalize hA : [kwM o.kind.toNat] ++ ([o.a,o.b,o.c].take (frmK o.kind.toNat).names) = A at h2 ⊢
  have hAl : A.length ≤ 4:=by rw [← hA,List.length_append]; simp at htk ⊢; omega
  refine jnQ (X:=[strsV (A ++ (if (frmK o.kind.toNat).num = true then [itoM o.n] else []))]) ?_ ?_
  ·intro r hr
   rw [iteB_bool]
   cases hn : (frmK o.kind.toNat).num with
   | true =>
    rw [hn,if_pos rfl] at hr
    rw [if_pos rfl,c3,show F_strconv_Itoa [vI o.n] = some (.str (itoM o.n)) from if_pos (h3 hn),opt_s,lit1,opt_s,appStrs (by simp; omega),opt_s]
    exact hr
   | false =>
    rw [hn,if_neg (by simp),List.append_nil] at hr
    rw [if_neg (by simp)]
    exact hr
  ·refine ⟨rfl,?_⟩
   simp only [gv_0]
   have hB : (A ++ (if (frmK o.kind.toNat).num = true then [itoM o.n] else [])).length ≤ 5:=by
    rw [List.length_append]
    split <;> simp <;> omega
   rw [appStrs (by omega),opt_s,List.append_assoc,c4]
   have hJ:=FlJoin (l:=A ++ tailW (frmK o.kind.toNat) o) (by unfold tailW; rw [← List.append_assoc,List.length_append]; omega) h2
   unfold tailW at hJ ⊢
   rw [hJ,opt_s]
theorem ok_role_told : SpecL Tryz.prog n_role_told F_role_told:=by
 refine go_role_told (T:=TTo) (TabOk.cons ok_role_keyword (TabOk.cons ok_role_formOf (TabOk.cons ok_strconv_Itoa (TabOk.cons ok_line_Join TabOk.nil)))) fun args v hv=>?_
 obtain ⟨o,rfl,h,rfl⟩:=specOf_inv hv
 exact ⟨rfl,by simp [canos,fctW_cano],rfl,told_wp o h⟩
end Go.Fbs

import Derived.Test.YtnmcilaebamncaaPB
import Derived.Test.YtnmcilaebamncaaKM
import Derived.Test.YtnmcilaebamncaaHU
import Derived.Test.YtnmcilaebamncaaKK
set_option maxRecDepth 100000
namespace Go.Fbs
open Go.Proofs
attribute [local irreducible] FunWpE FunWp opt
theorem subAt' {l : List Sub} {i : Nat} {x : Sub} (h : l[i]? = some x) : idxLK true 3 (subsV l) (vI (i : Nat)) = some (subW x):=by
 refine idxL_agg (cs:=[.str x.1,.str x.2.1,.str x.2.2]) ?_ rfl rfl .i64
 rw [List.getElem?_map,h]; rfl
theorem relAt' {l : List Rel} {i : Nat} {x : Rel} (h : l[i]? = some x) : idxLK true 3 (relsV l) (vI (i : Nat)) = some (relW x):=by
 refine idxL_agg (cs:=[.str x.1,subsV x.2.1,stpsV x.2.2]) ?_ rfl rfl .i64
 rw [List.getElem?_map,h]; rfl
theorem typAt' {l : List Typ} {i : Nat} {x : Typ} (h : l[i]? = some x) : idxLK true 2 (typsV l) (vI (i : Nat)) = some (typW x):=by
 refine idxL_agg (cs:=[.str x.1,relsV x.2]) ?_ rfl rfl .i64
 rw [List.getElem?_map,h]; rfl
theorem stpAt' {l : List Stp} {i : Nat} {x : Stp} (h : l[i]? = some x) : idxLK true 3 (stpsV l) (vI (i : Nat)) = some (stpW x):=by
 refine idxL_agg (cs:=[vI x.1,.str x.2.1,.str x.2.2]) ?_ rfl rfl .i64
 rw [List.getElem?_map,h]; rfl
theorem lenStp (l : List Stp) : lenL (stpsV l) = some (vI l.length):=by simp [lenL,stpsV]
theorem relC (r : Rel) : cellD (relW r) 0 = .str r.1 ∧ cellD (relW r) 1 = subsV r.2.1 ∧ cellD (relW r) 2 = stpsV r.2.2:=⟨rfl,rfl,rfl⟩
theorem subC (r : Sub) : cellD (subW r) 0 = .str r.1 ∧ cellD (subW r) 1 = .str r.2.1 ∧ cellD (subW r) 2 = .str r.2.2:=⟨rfl,rfl,rfl⟩
theorem typC (r : Typ) : cellD (typW r) 0 = .str r.1 ∧ cellD (typW r) 1 = relsV r.2:=⟨rfl,rfl⟩
theorem litS1 (a : List UInt8) : litK 1 [.str a] = some (strsV [a]):=lit_s (n:=1) (by simp) rfl
theorem appStr {l : List (List UInt8)} (h : l.length < 1000) (x : List UInt8) : appK 1 16 (strsV l) (strsV [x]) = some (strsV (l ++ [x])):=by
 have:=app_s (n:=1) (b:=16) (g:=.ro) (g':=.ro) (es:=l.map V.str) (ys:=[V.str x]) (by simp; omega) (by simp [V.cells]) (by simp [V.cells])
 unfold strsV
 rw [List.map_append]
 exact this
theorem strNe (a : List UInt8) : binK .neq (.str a) (.str []) = some (.bool (decide (a ≠ []))):=by
 rw [bSne]
 congr 2
 by_cases h : a = [] <;> simp [h]
theorem unSs_str : ∀ l : List (List UInt8),unSs (l.map V.str) = some l
 | []=>rfl
 | a :: l=>by
  have h:=unSs_str l
  simp only [List.map_cons,unSs,unS,h]
theorem Fjoin {l : List (List UInt8)} {sep : List UInt8} (h1 : l.length ≤ 140737488355328) (h2 : (Lib.join l sep).length ≤ 140737488355328) : F_strings_Join [strsV l,.str sep] = some (.str (Lib.join l sep)):=by
 unfold strsV F_strings_Join
 simp only [unSs_str]
 rw [if_pos ⟨h1,h2⟩]
noncomputable def F_sche_relText : Spec:=specOf (fun r : Rel=>[relW r]) relG (fun r=>.tup [.str (relTx r),.bool true])
theorem FrelText {r : Rel} (h : relG r) : F_sche_relText [relW r] = some (.tup [.str (relTx r),.bool true]):=specOf_eq (a:=r) (fun a b h=>relW_inj (by simpa using h)) h
noncomputable abbrev TRT : List (FuncId × Spec):=[(n_sche_told,F_sche_told),(n_strings_Join,F_strings_Join)]
theorem bGt0 (n : Nat) : binK .gtr (vI (n : Nat)) (.int .i64 0) = some (.bool (decide (0 < n))):=by
 rw [bGtr]
 congr 2
 by_cases h : 0 < n <;> simp [h]
theorem bLt (i n : Nat) : binK .lss (vI (i : Nat)) (vI (n : Nat)) = some (.bool (decide (i < n))):=by
 rw [bLss]
 congr 2
 by_cases h : i < n <;> simp [h]
theorem relText_wp (r : Rel) (h : relG r) : FunWp tyT (tab TRT) 56 q_sche_relText [.tmp 2,.tmp 3] (cB Try.f35) [relW r] (fun v=>v = .tup [.str (relTx r),.bool true]):=by
 have c1 : ∀ args,tab TRT n_sche_told args = F_sche_told args:=fun _=>rfl
 have c2 : ∀ args,tab TRT n_strings_Join args = F_strings_Join args:=fun _=>rfl
 have hlen:=relTx_len h
 refine Eq.mpr (e_sche_relText (tab _) _ (relW r)) ?_
 obtain ⟨nm,S,X⟩:=r
 obtain ⟨hn,h⟩:=h
 have hnl:=nm_len hn.1
 simp only at hn h hnl
 rw [chRel,opt_s,(relC _).2.2,(relC _).2.1,(relC _).1,lenStp,opt_s,bGt0,opt_s,iteB_bool]
 simp only
 rcases h with ⟨rfl,h0,h50,hS⟩ | ⟨rfl,t,t1,t2,t3,t4,t5,t6⟩
 ·have e1 : decide (0 < ([] : List Stp).length) = false:=rfl
  rw [e1]
  simp only [Bool.false_eq_true,if_false]
  have eT : relTx (nm,S,[]) = nm ++ [58,32] ++ subsTx S ++ [59]:=rfl
  have hsl:=subsTx_len S hS
  rw [lenSub,opt_s]
  refine loopP_inv (fun vs=>∃ i : Nat,i ≤ S.length ∧ vs = [strsV ((S.take i).map subTx),vI (i : Nat)]) (fun vs=>S.length - natOf (gv vs 1)) ⟨0,Nat.zero_le _,rfl⟩ ?_
  rintro rr _ ⟨i,hi,rfl⟩ hr
  refine ⟨rfl,?_⟩
  simp only [gv_0,gv_s]
  rw [bLt,opt_s,iteB_bool]
  by_cases hlt : i < S.length
  ·rw [if_pos (by simpa using hlt)]
   obtain ⟨x,hx⟩ : ∃ x,S[i]? = some x:=⟨_,List.getElem?_eq_getElem hlt⟩
   have hxm:=List.mem_of_getElem? hx
   have hxl:=subTx_len (hS x hxm)
   rw [subAt' hx,opt_s,(subC x).2.2,(subC x).1,strNe,opt_s]
   have etake : (S.take (i + 1)).map subTx = (S.take i).map subTx ++ [subTx x]:=by
    rw [List.take_add_one,hx]; simp
   refine jn (X:=[strsV ((S.take i).map subTx),.str (subTx x)]) ?_ ?_
   ·intro r1 h1
    rw [iteB_bool]
    by_cases hb : x.2.2 = []
    ·rw [if_neg (by simp [hb])]
     have : subTx x = x.1:=if_pos hb
     rw [this] at h1
     exact h1
    ·rw [if_pos (by simp [hb])]
     have e : subTx x = x.1 ++ ([35] ++ x.2.2):=if_neg hb
     have l1:=nm_len (hS x hxm).1.1
     have l2:=nm_len ((hS x hxm).2.2.resolve_left hb).1
     rw [bS (by simp only [List.length_cons,List.length_nil]; omega),opt_s,bS (by simp only [List.length_append,List.length_cons,List.length_nil]; omega),opt_s,← e]
     exact h1
   ·simp only [gv_0,gv_s]
    refine ⟨rfl,?_⟩
    rw [litS1,opt_s,appStr (by rw [List.length_map,List.length_take]; omega),opt_s,add1 (by omega),opt_s,← etake]
    exact hr _ ⟨i + 1,by omega,rfl⟩ (by simp only [gv_0,gv_s,natOf]; omega)
  ·rw [if_neg (by simpa using hlt)]
   have e : S.take i = S:=List.take_of_length_le (by omega)
   rw [e,eT]
   have h64 : (subsTx S).length ≤ 3200:=by omega
   have hj : Lib.join (S.map subTx) [32,124,32] = subsTx S:=rfl
   rw [bSadd _ _ (by simp only [List.length_cons,List.length_nil]; omega),opt_s,c2,Fjoin (by rw [List.length_map]; omega) (by rw [hj]; omega),opt_s,hj]
   rw [bSadd _ _ (by simp only [List.length_append,List.length_cons,List.length_nil]; omega),opt_s]
   rw [bSadd _ _ (by simp only [List.length_append,List.length_cons,List.length_nil]; omega),opt_s]
 ·have hx : X ≠ []:=by rw [← t4]; exact steps_ne t
  have e1 : decide (0 < X.length) = true:=by simpa using List.length_pos_iff.2 hx
  rw [e1]
  simp only [if_true]
  have eT : relTx (nm,[],X) = nm ++ [32,61,32] ++ (toldM X).getD [] ++ [59]:=if_neg hx
  have ep : (toldM X).getD [] = t.pce.1:=by rw [← t4,toldM_tr t1 t5]; rfl
  have hpl:=pce_len t2
  have hF : F_sche_told [stpsV X] = some (.tup [.str ((toldM X).getD []),.bool true]):=by rw [← t4]; exact Ftold t1 t2 t5
  rw [c1,hF,opt_s,ext_tup,ext_tup]
  simp only [List.getElem?_cons_zero,List.getElem?_cons_succ,opt_s]
  rw [ep,bSadd _ _ (by simp only [List.length_cons,List.length_nil]; omega),opt_s]
  rw [bSadd _ _ (by simp only [List.length_append,List.length_cons,List.length_nil]; omega),opt_s]
  rw [bSadd _ _ (by simp only [List.length_append,List.length_cons,List.length_nil]; omega),opt_s]
  rw [eT,ep]
theorem ok_sche_relText : SpecL Try.prog n_sche_relText F_sche_relText:=by
 refine go_sche_relText (T:=TRT) (TabOk.cons ok_sche_told (TabOk.cons ok_strings_Join TabOk.nil)) fun args v hv=>?_
 obtain ⟨r,rfl,h,rfl⟩:=specOf_inv hv
 exact ⟨rfl,by simp [canos,relW_cano],rfl,relText_wp r h⟩
end Go.Fbs
namespace Go.Fbs
open Go.Proofs
attribute [local irreducible] FunWpE FunWp opt
theorem eqSub_ (x : Sub) : eqAK [2,2,2] true (subW x) (subW x) = some (.bool false):=by
 simp [eqAK,subW,eqCells,eqS]
theorem eqStp_ (x : Stp) : eqAK [1,2,2] true (stpW x) (stpW x) = some (.bool false):=by
 simp [eqAK,stpW,eqCells,eqS]
theorem neSelf (n : Int) : binK .neq (vI n) (vI n) = some (.bool false):=by rw [bNeq]; simp
theorem eqS_ (a : List UInt8) : binK .eql (.str a) (.str a) = some (.bool true):=by rw [bSeq]; simp
theorem neS_ (a : List UInt8) : binK .neq (.str a) (.str a) = some (.bool false):=by rw [bSne]; simp
theorem subsV_inj {a b : List Sub} (h : subsV a = subsV b) : a = b:=by
 simp only [subsV,V.sl.injEq,true_and] at h
 exact map_injV (fun _ _=>subW_inj) h
theorem relsV_inj {a b : List Rel} (h : relsV a = relsV b) : a = b:=by
 simp only [relsV,V.sl.injEq,true_and] at h
 exact map_injV (fun _ _=>relW_inj) h
theorem typsV_inj {a b : List Typ} (h : typsV a = typsV b) : a = b:=by
 simp only [typsV,V.sl.injEq,true_and] at h
 exact map_injV (fun _ _=>typW_inj) h
noncomputable abbrev eqF (α : Type) (f : α → V) (ok : α → Prop) : Spec:=specOf (fun l : α=>[f l,f l]) ok (fun _=>.bool true)
theorem eqF_eq {α : Type} {f : α → V} {ok : α → Prop} (inj : ∀ a b,f a = f b → a = b) {a : α} (h : ok a) : eqF α f ok [f a,f a] = some (.bool true) :=
 specOf_eq (a:=a) (fun a b h=>inj a b (by simpa using h)) h
theorem eqF_inv {α : Type} (f : α → V) (ok : α → Prop) {args : List V} {v : V} (h : eqF α f ok args = some v) : ∃ l,args = [f l,f l] ∧ ok l ∧ v = .bool true:=specOf_inv h
def shortL {α : Type} (l : List α) : Prop:=l.length ≤ 800
def okR (r : Rel) : Prop:=shortL r.2.1 ∧ shortL r.2.2
def okT (t : Typ) : Prop:=shortL t.2 ∧ ∀ r ∈ t.2,okR r
def okTs (l : List Typ) : Prop:=shortL l ∧ ∀ t ∈ l,okT t
theorem bLt' (i n : Nat) (h : i < n) : binK .lss (vI (i : Nat)) (vI (n : Nat)) = some (.bool true):=by rw [bLt,decide_eq_true h]
theorem bLf' (i n : Nat) (h : ¬ i < n) : binK .lss (vI (i : Nat)) (vI (n : Nat)) = some (.bool false):=by rw [bLt,decide_eq_false h]
noncomputable def F_subsE : Spec:=eqF (List Sub) subsV shortL
noncomputable def F_stpsE : Spec:=eqF (List Stp) stpsV shortL
theorem FsubsE {l : List Sub} (h : shortL l) : F_subsE [subsV l,subsV l] = some (.bool true):=eqF_eq (fun _ _=>subsV_inj) h
theorem FstpsE {l : List Stp} (h : shortL l) : F_stpsE [stpsV l,stpsV l] = some (.bool true):=eqF_eq (fun _ _=>stpsV_inj) h
theorem ok_slices_Equal_api_Sub_api_Sub : SpecL Try.prog n_slices_Equal_api_Sub_api_Sub F_subsE:=by
 refine go_slices_Equal_api_Sub_api_Sub (T:=[]) TabOk.nil fun args v hv=>?_
 obtain ⟨l,rfl,hl,rfl⟩:=eqF_inv subsV shortL hv
 have hl : l.length ≤ 800:=hl
 refine ⟨rfl,by simp [canos,subsV_cano],rfl,?_⟩
 refine Eq.mpr (e_slices_Equal_api_Sub_api_Sub (tab _) _ _ _) ?_
 rw [lenSub,opt_s,opt_s,neSelf,opt_s,iteB_false,opt_s]
 refine loopP_inv (fun vs=>∃ i : Nat,i ≤ l.length ∧ vs = [vI (i : Nat)]) (fun vs=>l.length - natOf (gv vs 0)) ⟨0,Nat.zero_le _,rfl⟩ ?_
 rintro rr _ ⟨i,hi,rfl⟩ hr
 refine ⟨rfl,?_⟩
 simp only [gv_0]
 by_cases hlt : i < l.length
 ·rw [bLt' i _ hlt,opt_s,iteB_true]
  obtain ⟨x,hx⟩ : ∃ x,l[i]? = some x:=⟨_,List.getElem?_eq_getElem hlt⟩
  rw [subAt' hx,opt_s,opt_s,eqSub_,opt_s,iteB_false,add1 (by omega),opt_s]
  exact hr _ ⟨i + 1,by omega,rfl⟩ (by simp only [gv_0,natOf]; omega)
 ·rw [bLf' i _ hlt,opt_s,iteB_false]; trivial
theorem ok_slices_Equal_api_Step_api_Step : SpecL Try.prog n_slices_Equal_api_Step_api_Step F_stpsE:=by
 refine go_slices_Equal_api_Step_api_Step (T:=[]) TabOk.nil fun args v hv=>?_
 obtain ⟨l,rfl,hl,rfl⟩:=eqF_inv stpsV shortL hv
 have hl : l.length ≤ 800:=hl
 refine ⟨rfl,by simp [canos,stpsV_cano],rfl,?_⟩
 refine Eq.mpr (e_slices_Equal_api_Step_api_Step (tab _) _ _ _) ?_
 rw [lenStp,opt_s,opt_s,neSelf,opt_s,iteB_false,opt_s]
 refine loopP_inv (fun vs=>∃ i : Nat,i ≤ l.length ∧ vs = [vI (i : Nat)]) (fun vs=>l.length - natOf (gv vs 0)) ⟨0,Nat.zero_le _,rfl⟩ ?_
 rintro rr _ ⟨i,hi,rfl⟩ hr
 refine ⟨rfl,?_⟩
 simp only [gv_0]
 by_cases hlt : i < l.length
 ·rw [bLt' i _ hlt,opt_s,iteB_true]
  obtain ⟨x,hx⟩ : ∃ x,l[i]? = some x:=⟨_,List.getElem?_eq_getElem hlt⟩
  rw [stpAt' hx,opt_s,opt_s,eqStp_,opt_s,iteB_false,add1 (by omega),opt_s]
  exact hr _ ⟨i + 1,by omega,rfl⟩ (by simp only [gv_0,natOf]; omega)
 ·rw [bLf' i _ hlt,opt_s,iteB_false]; trivial
noncomputable def F_relE : Spec:=eqF Rel relW okR
theorem FrelE {r : Rel} (h : okR r) : F_relE [relW r,relW r] = some (.bool true):=eqF_eq (fun _ _=>relW_inj) h
noncomputable abbrev TSE4 : List (FuncId × Spec):=[(n_slices_Equal_api_Sub_api_Sub,F_subsE),(n_slices_Equal_api_Step_api_Step,F_stpsE)]
theorem ok_sche_sameRel : SpecL Try.prog n_sche_sameRel F_relE:=by
 refine go_sche_sameRel (T:=TSE4) (TabOk.cons ok_slices_Equal_api_Sub_api_Sub (TabOk.cons ok_slices_Equal_api_Step_api_Step TabOk.nil)) fun args v hv=>?_
 have c1 : ∀ args,tab TSE4 n_slices_Equal_api_Sub_api_Sub args = F_subsE args:=fun _=>rfl
 have c2 : ∀ args,tab TSE4 n_slices_Equal_api_Step_api_Step args = F_stpsE args:=fun _=>rfl
 obtain ⟨r,rfl,⟨h1,h2⟩,rfl⟩:=eqF_inv relW okR hv
 refine ⟨rfl,by simp [canos,relW_cano],rfl,?_⟩
 refine Eq.mpr (e_sche_sameRel (tab _) _ _ _) ?_
 rw [chRel,opt_s,opt_s,(relC r).1,(relC r).2.1,(relC r).2.2,eqS_,opt_s,gTT,c1,FsubsE h1,opt_s,pBool,if_pos rfl,opt_s,chkB_bool,opt_s,gTT,c2,FstpsE h2,opt_s,pBool,if_pos rfl,opt_s]
theorem funTabR (l : List V) : callvK (tab [(n_sche_sameRel,F_relE)]) (.func 56 []) l = F_relE l:=by
 show tab [(n_sche_sameRel,F_relE)] 56 (l ++ []) = _
 rw [List.append_nil]; rfl
noncomputable def F_relsE : Spec:=specOf (fun l : List Rel=>[relsV l,relsV l,.func 56 []]) (fun l=>shortL l ∧ ∀ r ∈ l,okR r) (fun _=>.bool true)
theorem FrelsE {l : List Rel} (h : shortL l ∧ ∀ r ∈ l,okR r) : F_relsE [relsV l,relsV l,.func 56 []] = some (.bool true):=specOf_eq (a:=l) (fun a b h=>relsV_inj (by simpa using h)) h
theorem ok_slices_EqualFunc_api_Rel : SpecL Try.prog n_slices_EqualFunc_api_Rel_api_Rel_api_Rel_api_Rel F_relsE:=by
 refine go_slices_EqualFunc_api_Rel_api_Rel_api_Rel_api_Rel (T:=[(n_sche_sameRel,F_relE)]) (TabOk.cons ok_sche_sameRel TabOk.nil) fun args v hv=>?_
 obtain ⟨l,rfl,⟨hl,hG⟩,rfl⟩:=specOf_inv hv
 have hl : l.length ≤ 800:=hl
 refine ⟨rfl,by simp [canos,relsV_cano,V.cano],rfl,?_⟩
 refine Eq.mpr (e_slices_EqualFunc_api_Rel_api_Rel_api_Rel_api_Rel (tab _) _ _ _ _) ?_
 rw [lenRel,opt_s,opt_s,neSelf,opt_s,iteB_false,opt_s]
 refine loopP_inv (fun vs=>∃ i : Nat,i ≤ l.length ∧ vs = [vI (i : Nat)]) (fun vs=>l.length - natOf (gv vs 0)) ⟨0,Nat.zero_le _,rfl⟩ ?_
 rintro rr _ ⟨i,hi,rfl⟩ hr
 refine ⟨rfl,?_⟩
 simp only [gv_0]
 by_cases hlt : i < l.length
 ·rw [bLt' i _ hlt,opt_s,iteB_true]
  obtain ⟨x,hx⟩ : ∃ x,l[i]? = some x:=⟨_,List.getElem?_eq_getElem hlt⟩
  rw [relAt' hx,opt_s,opt_s,funTabR,FrelE (hG x (List.mem_of_getElem? hx)),opt_s,not_bool,opt_s,iteB_bool,if_neg (by simp),add1 (by omega),opt_s]
  exact hr _ ⟨i + 1,by omega,rfl⟩ (by simp only [gv_0,natOf]; omega)
 ·rw [bLf' i _ hlt,opt_s,iteB_false]; trivial
noncomputable def F_typE : Spec:=eqF Typ typW okT
theorem FtypE {t : Typ} (h : okT t) : F_typE [typW t,typW t] = some (.bool true):=eqF_eq (fun _ _=>typW_inj) h
noncomputable abbrev TSE1 : List (FuncId × Spec):=[(n_slices_EqualFunc_api_Rel_api_Rel_api_Rel_api_Rel,F_relsE)]
theorem ok_sche_Same_1 : SpecL Try.prog n_sche_Same_1 F_typE:=by
 refine go_sche_Same_1 (T:=TSE1) (TabOk.cons ok_slices_EqualFunc_api_Rel TabOk.nil) fun args v hv=>?_
 have c1 : ∀ args,tab TSE1 n_slices_EqualFunc_api_Rel_api_Rel_api_Rel_api_Rel args = F_relsE args:=fun _=>rfl
 obtain ⟨t,rfl,h,rfl⟩:=eqF_inv typW okT hv
 refine ⟨rfl,by simp [canos,typW_cano],rfl,?_⟩
 refine Eq.mpr (e_sche_Same_1 (tab _) _ _ _) ?_
 rw [chTyp,opt_s,opt_s,(typC t).1,(typC t).2,eqS_,opt_s,gTT,c1,FrelsE h,opt_s,pBool,if_pos rfl,opt_s]
theorem funTabT (l : List V) : callvK (tab [(n_sche_Same_1,F_typE)]) (.func 54 []) l = F_typE l:=by
 show tab [(n_sche_Same_1,F_typE)] 54 (l ++ []) = _
 rw [List.append_nil]; rfl
noncomputable def F_typsE : Spec:=specOf (fun l : List Typ=>[typsV l,typsV l,.func 54 []]) okTs (fun _=>.bool true)
theorem FtypsE {l : List Typ} (h : okTs l) : F_typsE [typsV l,typsV l,.func 54 []] = some (.bool true):=specOf_eq (a:=l) (fun a b h=>typsV_inj (by simpa using h)) h
theorem ok_slices_EqualFunc_api_Type : SpecL Try.prog n_slices_EqualFunc_api_Type_api_Type_api_Type_api_Type F_typsE:=by
 refine go_slices_EqualFunc_api_Type_api_Type_api_Type_api_Type (T:=[(n_sche_Same_1,F_typE)]) (TabOk.cons ok_sche_Same_1 TabOk.nil) fun args v hv=>?_
 obtain ⟨l,rfl,⟨hl,hG⟩,rfl⟩:=specOf_inv hv
 have hl : l.length ≤ 800:=hl
 refine ⟨rfl,by simp [canos,typsV_cano,V.cano],rfl,?_⟩
 refine Eq.mpr (e_slices_EqualFunc_api_Type_api_Type_api_Type_api_Type (tab _) _ _ _ _) ?_
 rw [lenTyp,opt_s,opt_s,neSelf,opt_s,iteB_false,opt_s]
 refine loopP_inv (fun vs=>∃ i : Nat,i ≤ l.length ∧ vs = [vI (i : Nat)]) (fun vs=>l.length - natOf (gv vs 0)) ⟨0,Nat.zero_le _,rfl⟩ ?_
 rintro rr _ ⟨i,hi,rfl⟩ hr
 refine ⟨rfl,?_⟩
 simp only [gv_0]
 by_cases hlt : i < l.length
 ·rw [bLt' i _ hlt,opt_s,iteB_true]
  obtain ⟨x,hx⟩ : ∃ x,l[i]? = some x:=⟨_,List.getElem?_eq_getElem hlt⟩
  rw [typAt' hx,opt_s,opt_s,funTabT,FtypE (hG x (List.mem_of_getElem? hx)),opt_s,not_bool,opt_s,iteB_bool,if_neg (by simp),add1 (by omega),opt_s]
  exact hr _ ⟨i + 1,by omega,rfl⟩ (by simp only [gv_0,natOf]; omega)
 ·rw [bLf' i _ hlt,opt_s,iteB_false]; trivial
noncomputable def F_sameE : Spec:=eqF (List Typ) typsV okTs
theorem FsameE {l : List Typ} (h : okTs l) : F_sameE [typsV l,typsV l] = some (.bool true):=eqF_eq (fun _ _=>typsV_inj) h
noncomputable abbrev TSE2 : List (FuncId × Spec):=[(n_slices_EqualFunc_api_Type_api_Type_api_Type_api_Type,F_typsE)]
theorem ok_sche_Same : SpecL Try.prog n_sche_Same F_sameE:=by
 refine go_sche_Same (T:=TSE2) (TabOk.cons ok_slices_EqualFunc_api_Type TabOk.nil) fun args v hv=>?_
 have c1 : ∀ args,tab TSE2 n_slices_EqualFunc_api_Type_api_Type_api_Type_api_Type args = F_typsE args:=fun _=>rfl
 obtain ⟨l,rfl,h,rfl⟩:=eqF_inv typsV okTs hv
 refine ⟨rfl,by simp [canos,typsV_cano],rfl,?_⟩
 refine Eq.mpr (e_sche_Same (tab _) _ _ _) ?_
 rw [c1,FtypsE h,opt_s]
theorem ok_entailref6_SameSubs : SpecL Try.prog n_entailref6_SameSubs F_subsE:=by
 refine go_entailref6_SameSubs (T:=[]) TabOk.nil fun args v hv=>?_
 obtain ⟨l,rfl,hl,rfl⟩:=eqF_inv subsV shortL hv
 have hl : l.length ≤ 800:=hl
 refine ⟨rfl,by simp [canos,subsV_cano],rfl,?_⟩
 refine Eq.mpr (e_entailref6_SameSubs (tab _) _ _ _) ?_
 rw [lenSub,opt_s,opt_s,neSelf,opt_s,iteB_false]
 refine loopP_inv (fun vs=>∃ i : Nat,i ≤ l.length ∧ vs = [vI (i : Nat)]) (fun vs=>l.length - natOf (gv vs 0)) ⟨0,Nat.zero_le _,rfl⟩ ?_
 rintro rr _ ⟨i,hi,rfl⟩ hr
 refine ⟨rfl,?_⟩
 simp only [gv_0]
 rw [opt_s]
 by_cases hlt : i < l.length
 ·rw [bLt' i _ hlt,opt_s,iteB_true]
  obtain ⟨x,hx⟩ : ∃ x,l[i]? = some x:=⟨_,List.getElem?_eq_getElem hlt⟩
  rw [subAt' hx,opt_s,opt_s,eqSub_,opt_s,iteB_false,add1 (by omega),opt_s]
  exact hr _ ⟨i + 1,by omega,rfl⟩ (by simp only [gv_0,natOf]; omega)
 ·rw [bLf' i _ hlt,opt_s,iteB_false]; trivial
theorem ok_entailref6_SameSteps : SpecL Try.prog n_entailref6_SameSteps F_stpsE:=by
 refine go_entailref6_SameSteps (T:=[]) TabOk.nil fun args v hv=>?_
 obtain ⟨l,rfl,hl,rfl⟩:=eqF_inv stpsV shortL hv
 have hl : l.length ≤ 800:=hl
 refine ⟨rfl,by simp [canos,stpsV_cano],rfl,?_⟩
 refine Eq.mpr (e_entailref6_SameSteps (tab _) _ _ _) ?_
 rw [lenStp,opt_s,opt_s,neSelf,opt_s,iteB_false]
 refine loopP_inv (fun vs=>∃ i : Nat,i ≤ l.length ∧ vs = [vI (i : Nat)]) (fun vs=>l.length - natOf (gv vs 0)) ⟨0,Nat.zero_le _,rfl⟩ ?_
 rintro rr _ ⟨i,hi,rfl⟩ hr
 refine ⟨rfl,?_⟩
 simp only [gv_0]
 rw [opt_s]
 by_cases hlt : i < l.length
 ·rw [bLt' i _ hlt,opt_s,iteB_true]
  obtain ⟨x,hx⟩ : ∃ x,l[i]? = some x:=⟨_,List.getElem?_eq_getElem hlt⟩
  rw [stpAt' hx,opt_s,opt_s,eqStp_,opt_s,iteB_false,add1 (by omega),opt_s]
  exact hr _ ⟨i + 1,by omega,rfl⟩ (by simp only [gv_0,natOf]; omega)
 ·rw [bLf' i _ hlt,opt_s,iteB_false]; trivial
noncomputable abbrev TSE3 : List (FuncId × Spec):=[(n_entailref6_SameSubs,F_subsE),(n_entailref6_SameSteps,F_stpsE)]
theorem prt1 (t : Typ) : partK false 1 1 (typW t) = some (relsV t.2):=nr rfl
theorem ok_entailref6_Same : SpecL Try.prog n_entailref6_Same F_sameE:=by
 refine go_entailref6_Same (T:=TSE3) (TabOk.cons ok_entailref6_SameSubs (TabOk.cons ok_entailref6_SameSteps TabOk.nil)) fun args v hv=>?_
 have c1 : ∀ args,tab TSE3 n_entailref6_SameSubs args = F_subsE args:=fun _=>rfl
 have c2 : ∀ args,tab TSE3 n_entailref6_SameSteps args = F_stpsE args:=fun _=>rfl
 obtain ⟨l,rfl,⟨hl,hG⟩,rfl⟩:=eqF_inv typsV okTs hv
 have hl : l.length ≤ 800:=hl
 refine ⟨rfl,by simp [canos,typsV_cano],rfl,?_⟩
 refine Eq.mpr (e_entailref6_Same (tab _) _ _ _) ?_
 rw [lenTyp,opt_s,opt_s,neSelf,opt_s,iteB_false]
 refine loopP_inv (fun vs=>∃ i : Nat,i ≤ l.length ∧ vs = [vI (i : Nat)]) (fun vs=>l.length - natOf (gv vs 0)) ⟨0,Nat.zero_le _,rfl⟩ ?_
 rintro rr _ ⟨i,hi,rfl⟩ hr
 refine ⟨rfl,?_⟩
 simp only [gv_0]
 rw [opt_s]
 by_cases hlt : i < l.length
 ·rw [bLt' i _ hlt,opt_s,iteB_true]
  obtain ⟨x,hx⟩ : ∃ x,l[i]? = some x:=⟨_,List.getElem?_eq_getElem hlt⟩
  obtain ⟨hx1,hx2⟩:=hG x (List.mem_of_getElem? hx)
  have hx1 : x.2.length ≤ 800:=hx1
  rw [typAt' hx,opt_s,opt_s,(typC x).1,neS_]
  simp only [opt_s,gFF,prt1,lenRel,neSelf,pBool,iteB_false,(typC x).2,Bool.false_eq_true,if_false]
  refine loopP_inv (fun vs=>∃ j : Nat,j ≤ x.2.length ∧ vs = [vI (j : Nat)]) (fun vs=>x.2.length - natOf (gv vs 0)) ⟨0,Nat.zero_le _,rfl⟩ ?_
  rintro r2 _ ⟨j,hj,rfl⟩ hr2
  refine ⟨rfl,?_⟩
  simp only [gv_0]
  by_cases hlj : j < x.2.length
  ·rw [bLt' j _ hlj,opt_s,iteB_true]
   obtain ⟨y,hy⟩ : ∃ y,x.2[j]? = some y:=⟨_,List.getElem?_eq_getElem hlj⟩
   obtain ⟨hy1,hy2⟩:=hx2 y (List.mem_of_getElem? hy)
   rw [relAt' hy,opt_s,opt_s,(relC y).1,(relC y).2.1,(relC y).2.2,neS_,opt_s,gFF,c1,FsubsE hy1,opt_s,gFF,not_bool,opt_s,pBool,if_neg (by simp),opt_s]
   simp only [Bool.not_true]
   rw [gFF,c2,FstpsE hy2,opt_s,gFF,not_bool,opt_s,pBool,if_neg (by simp),opt_s]
   simp only [Bool.not_true]
   rw [iteB_false,add1 (by omega),opt_s]
   exact hr2 _ ⟨j + 1,by omega,rfl⟩ (by simp only [gv_0,natOf]; omega)
  ·rw [bLf' j _ hlj,opt_s,iteB_false,add1 (by omega),opt_s]
   exact hr _ ⟨i + 1,by omega,rfl⟩ (by simp only [gv_0,natOf]; omega)
 ·rw [bLf' i _ hlt,opt_s,iteB_false]; trivial
end Go.Fbs
namespace Go.Fbs
open Go.Proofs
attribute [local irreducible] FunWpE FunWp opt parseM
theorem Fws (u : Bool) {l s : List UInt8} (h : l.length + s.length ≤ 1000000) : F_x_strings_Builder_WriteString [bdW u (bytV l),.str s] = some (.tup [vI s.length,.any,bdW true (bytV (l ++ s))]):=by
 unfold F_x_strings_Builder_WriteString bdW
 simp only [unBs_bytV]
 rw [if_pos (by omega)]
theorem Fln (u : Bool) (l : List UInt8) : F_x_strings_Builder_Len [bdW u (bytV l)] = some (.tup [vI l.length,bdW u (bytV l)]):=by
 unfold F_x_strings_Builder_Len bdW
 simp only [bytV_canos,if_true]
 rw [show (bytV l).length = l.length from List.length_map ..]
theorem Fst (u : Bool) {l : List UInt8} (h0 : l ≠ []) (h : l.length ≤ 1000000) : F_x_strings_Builder_String [bdW u (bytV l)] = some (.tup [.str l,bdW u (bytV l)]):=by
 unfold F_x_strings_Builder_String bdW
 simp only [unBs_bytV]
 rw [if_pos ⟨h0,by omega⟩]
theorem agBd (u : Bool) (l : List UInt8) : aggK [.bool u,.sl .ro (bytV l)] = some (bdW u (bytV l)):=agg_s rfl
theorem ckBd (u : Bool) (l : List UInt8) : chkK 2 (bdW u (bytV l)) = some (bdW u (bytV l)):=chk_agg rfl rfl
theorem bdC (u : Bool) (l : List UInt8) : cellD (bdW u (bytV l)) 0 = .bool u ∧ cellD (bdW u (bytV l)) 1 = .sl .ro (bytV l):=⟨rfl,rfl⟩
theorem preT (a b c : V) : preK 2 (.tup [a,b,c]) = some (.tup [a,b]):=rfl
theorem ex0 (a : V) (l : List V) : extractV (.tup (a :: l)) 0 = some a:=rfl
theorem ex1 (a b : V) (l : List V) : extractV (.tup (a :: b :: l)) 1 = some b:=rfl
theorem ex2 (a b c : V) (l : List V) : extractV (.tup (a :: b :: c :: l)) 2 = some c:=rfl
theorem relsN_le : ∀ (l : List Rel) (j : Nat),relsN (l.take j) ≤ relsN l
 | [],j=>by simp
 | r :: l,0=>by simp [relsN]
 | r :: l,j + 1=>by
  have:=relsN_le l j
  have e : ∀ l : List Rel,relsN (r :: l) = relN r + relsN l:=fun l=>by simp [relsN]
  rw [List.take_succ_cons,e,e]; omega
theorem typsN_le : ∀ (l : List Typ) (j : Nat),typsN (l.take j) ≤ typsN l
 | [],j=>by simp
 | r :: l,0=>by simp [typsN]
 | r :: l,j + 1=>by
  have:=typsN_le l j
  have e : ∀ l : List Typ,typsN (r :: l) = typN r + typsN l:=fun l=>by simp [typsN]
  rw [List.take_succ_cons,e,e]; omega
theorem typsTx_take {l : List Typ} {i : Nat} {t : Typ} (h : l[i]? = some t) : typsTx (l.take (i + 1)) = typsTx (l.take i) ++ typTx t:=by
 rw [List.take_add_one,h]; simp [typsTx]
theorem relsTx_take {l : List Rel} {i : Nat} {t : Rel} (h : l[i]? = some t) : relsTx (l.take (i + 1)) = relsTx (l.take i) ++ ([9] ++ relTx t ++ [10]):=by
 rw [List.take_add_one,h]; simp [relsTx]
theorem typsTx_ne {l : List Typ} (h : l ≠ []) : typsTx l ≠ []:=by
 obtain ⟨t,r,rfl⟩:=List.exists_cons_of_ne_nil h
 simp [typsTx,typTx]
def gdT (l : List Typ) : Prop:=(∀ t ∈ l,typG t) ∧ l.length ≤ 200 ∧ typsN l ≤ 600
theorem gdT_eq {l : List Typ} (h : gdT l) : okTs l:=by
 refine ⟨by have:=h.2.1; unfold shortL; omega,fun t ht=>⟨by have:=(h.1 t ht).2.1; unfold shortL; omega,fun r hr=>?_⟩⟩
 have hr:=(h.1 t ht).2.2 r hr
 rcases hr.2 with ⟨e,_,h3,_⟩ | ⟨e,t,_,_,_,e2,h6,_⟩
 ·exact ⟨by unfold shortL; omega,by rw [e]; unfold shortL; simp⟩
 ·exact ⟨by rw [e]; unfold shortL; simp,by rw [← e2]; unfold shortL; omega⟩
theorem gdT_len {l : List Typ} (h : gdT l) : (typsTx l).length ≤ 38400:=by
 have:=typsTx_len l h.1
 have:=h.2.2
 omega
theorem Fparse {l : List Typ} (h : gdT l) : F_sche_Parse [.str (typsTx l)] = some (.tup [typsV l,vI 0,vI 0]):=by
 have hl:=gdT_len h
 have hp:=parse_print h.1 h.2.1 (by omega)
 unfold F_sche_Parse
 simp only
 rw [if_pos (by unfold big; omega),hp]
 rfl
noncomputable def F_sche_Text : Spec:=specOf (fun l : List Typ=>[typsV l]) (fun l=>gdT l ∧ l ≠ []) (fun l=>.tup [.str (typsTx l),.bool true])
theorem Ftext {l : List Typ} (h : gdT l) (h0 : l ≠ []) : F_sche_Text [typsV l] = some (.tup [.str (typsTx l),.bool true]):=specOf_eq (a:=l) (fun a b h=>typsV_inj (by simpa using h)) ⟨h,h0⟩
noncomputable abbrev TTX : List (FuncId × Spec):=[(x_strings_Builder_WriteString,F_x_strings_Builder_WriteString),(x_strings_Builder_Len,F_x_strings_Builder_Len),(x_strings_Builder_String,F_x_strings_Builder_String),(n_sche_relText,F_sche_relText),(n_sche_Parse,F_sche_Parse),(n_sche_Same,F_sameE)]
theorem text_wp (l : List Typ) (h : gdT l) (h0 : l ≠ []) : FunWp tyT (tab TTX) 70 q_sche_Text [.tmp 2,.tmp 3] (cB Try.f14) [typsV l] (fun v=>v = .tup [.str (typsTx l),.bool true]):=by
 have c1 : ∀ args,tab TTX x_strings_Builder_WriteString args = F_x_strings_Builder_WriteString args:=fun _=>rfl
 have c2 : ∀ args,tab TTX x_strings_Builder_Len args = F_x_strings_Builder_Len args:=fun _=>rfl
 have c3 : ∀ args,tab TTX x_strings_Builder_String args = F_x_strings_Builder_String args:=fun _=>rfl
 have c4 : ∀ args,tab TTX n_sche_relText args = F_sche_relText args:=fun _=>rfl
 have c5 : ∀ args,tab TTX n_sche_Parse args = F_sche_Parse args:=fun _=>rfl
 have c6 : ∀ args,tab TTX n_sche_Same args = F_sameE args:=fun _=>rfl
 refine Eq.mpr (e_sche_Text (tab _) _ (typsV l)) ?_
 have hM:=gdT_len h
 have hN:=h.2.2
 have h200:=h.2.1
 rw [lenTyp,opt_s]
 refine loopP_inv (fun vs=>∃ (i : Nat) (u : Bool),i ≤ l.length ∧ vs = [.bool u,vI (i : Nat),.sl .ro (bytV (typsTx (l.take i)))]) (fun vs=>l.length - natOf (gv vs 1)) ⟨0,false,Nat.zero_le _,rfl⟩ ?_
 rintro rr _ ⟨i,u,hi,rfl⟩ hr
 refine ⟨rfl,?_⟩
 simp only [gv_0,gv_s]
 have b1:=typsTx_len (l.take i) fun t ht=>h.1 t (List.mem_of_mem_take ht)
 have b2:=typsN_le l i
 by_cases hlt : i < l.length
 ·rw [bLt' i _ hlt,opt_s,iteB_true]
  obtain ⟨t,ht⟩ : ∃ t,l[i]? = some t:=⟨_,List.getElem?_eq_getElem hlt⟩
  have htG:=h.1 t (List.mem_of_getElem? ht)
  have hnm:=nm_len htG.1.1
  have b3:=typsN_le l (i + 1)
  have b4 : typsN (l.take (i + 1)) = typsN (l.take i) + typN t:=by rw [List.take_add_one,ht]; simp [typsN]
  have b5 : typN t = 1 + relsN t.2:=rfl
  have hnx:=hr [.bool true,vI ((i + 1 : Nat) : Int),.sl .ro (bytV (typsTx (l.take (i + 1))))] ⟨i + 1,true,by omega,rfl⟩ (by simp only [gv_0,gv_s,natOf]; omega)
  rw [typsTx_take ht] at hnx
  generalize hP : typsTx (l.take i) = P at *
  rw [typAt' ht,opt_s,(typC t).1,(typC t).2,bSadd _ _ (by simp only [List.length_cons,List.length_nil]; omega),opt_s,agBd,opt_s,c1,Fws u (by simp only [List.length_append,List.length_cons,List.length_nil]; omega),opt_s,preT,opt_s,ex2,opt_s,ckBd,opt_s,lenRel,opt_s,bGt0,opt_s,iteB_bool]
  by_cases hR : t.2 = []
  ·rw [if_neg (by simp [hR]),(bdC _ _).1,(bdC _ _).2,agBd,opt_s,c1,Fws true (by simp only [List.length_append,List.length_cons,List.length_nil]; omega),opt_s,preT,opt_s,ex2,opt_s,ckBd,opt_s,add1 (by omega),opt_s,(bdC _ _).1,(bdC _ _).2]
   have e : typTx t = [116,121,112,101,32] ++ t.1 ++ [10]:=by unfold typTx; rw [if_pos hR]; simp
   rw [e] at hnx
   simpa only [List.append_assoc] using hnx
  ·rw [if_pos (by simpa using List.length_pos_iff.2 hR),(bdC _ _).1,(bdC _ _).2,agBd,opt_s,c1,Fws true (by simp only [List.length_append,List.length_cons,List.length_nil]; omega),opt_s,preT,opt_s,ex2,opt_s,ckBd,opt_s,opt_s,(bdC _ _).1,(bdC _ _).2]
   have e : typTx t = [116,121,112,101,32] ++ t.1 ++ ([32,123,10] ++ relsTx t.2 ++ [125]) ++ [10]:=by unfold typTx; rw [if_neg hR]
   rw [e] at hnx
   have ht2:=htG.2.1
   generalize hW : P ++ ([116,121,112,101,32] ++ t.1) ++ [32,123,10] = W at *
   have hWl : W.length = P.length + 8 + t.1.length:=by rw [← hW]; simp only [List.length_append,List.length_cons,List.length_nil]; omega
   refine loopP_inv (fun vs=>∃ (j : Nat) (u : Bool),j ≤ t.2.length ∧ vs = [.bool u,.sl .ro (bytV (W ++ relsTx (t.2.take j))),vI (j : Nat)]) (fun vs=>t.2.length - natOf (gv vs 2)) ⟨0,true,Nat.zero_le _,by rw [show relsTx (t.2.take 0) = [] from rfl,List.append_nil]; rfl⟩ ?_
   rintro r2 _ ⟨j,u2,hj,rfl⟩ hr2
   refine ⟨rfl,?_⟩
   simp only [gv_0,gv_s]
   have d1:=relsTx_len (t.2.take j) fun r hr=>htG.2.2 r (List.mem_of_mem_take hr)
   have d2:=relsN_le t.2 j
   by_cases hlj : j < t.2.length
   ·rw [bLt' j _ hlj,opt_s,iteB_true]
    obtain ⟨r,hr⟩ : ∃ r,t.2[j]? = some r:=⟨_,List.getElem?_eq_getElem hlj⟩
    have hrG:=htG.2.2 r (List.mem_of_getElem? hr)
    have d3:=relTx_len hrG
    have d4:=relsN_le t.2 (j + 1)
    have d5 : relsN (t.2.take (j + 1)) = relsN (t.2.take j) + relN r:=by rw [List.take_add_one,hr]; simp [relsN]
    have hnx2:=hr2 [.bool true,.sl .ro (bytV (W ++ relsTx (t.2.take (j + 1)))),vI ((j + 1 : Nat) : Int)] ⟨j + 1,true,by omega,rfl⟩ (by simp only [gv_0,gv_s,natOf]; omega)
    rw [relsTx_take hr] at hnx2
    generalize hX : relsTx (t.2.take j) = X at *
    have hgt : binK .gtr (vI ((W ++ X).length : Nat)) (.int .i64 100000) = some (.bool false):=by
     rw [bGtr,decide_eq_false]
     simp only [List.length_append]; omega
    rw [relAt' hr,opt_s,c4,FrelText hrG,opt_s,ex0,opt_s,ex1,opt_s,not_bool,opt_s]
    simp only [Bool.not_true]
    rw [iteB_false,agBd,opt_s,c2,Fln,opt_s,ex0,opt_s,ex1,opt_s,ckBd,opt_s,hgt,opt_s,iteB_false]
    rw [bSadd _ _ (by simp only [List.length_cons,List.length_nil]; omega),opt_s,bSadd _ _ (by simp only [List.length_append,List.length_cons,List.length_nil]; omega),opt_s,(bdC _ _).1,(bdC _ _).2,agBd,opt_s,c1,Fws _ (by simp only [List.length_append,List.length_cons,List.length_nil]; omega),opt_s,preT,opt_s,ex2,opt_s,ckBd,opt_s,add1 (by omega),opt_s,(bdC _ _).1,(bdC _ _).2]
    simpa only [List.append_assoc] using hnx2
   ·rw [bLf' j _ hlj,opt_s,iteB_false]
    have eT : t.2.take j = t.2:=List.take_of_length_le (by omega)
    rw [eT] at d1 ⊢
    rw [agBd,opt_s,c1,Fws _ (by simp only [List.length_append,List.length_cons,List.length_nil]; omega),opt_s,preT,opt_s,ex2,opt_s,ckBd,opt_s,(bdC _ _).1,(bdC _ _).2,agBd,opt_s,c1,Fws _ (by simp only [List.length_append,List.length_cons,List.length_nil]; omega),opt_s,preT,opt_s,ex2,opt_s,ckBd,opt_s,add1 (by omega),opt_s,(bdC _ _).1,(bdC _ _).2]
    rw [← hW]
    simpa only [List.append_assoc] using hnx
 ·rw [bLf' i _ hlt,opt_s,iteB_false]
  have eT : l.take i = l:=List.take_of_length_le (by omega)
  rw [eT]
  rw [agBd,opt_s,c3,Fst u (typsTx_ne h0) (by omega),opt_s,ex0,opt_s,ex1,opt_s,ckBd,opt_s,c5,Fparse h,opt_s,ex0,opt_s,ex1,opt_s,ex2,opt_s,neSelf,opt_s,gFF,c6,FsameE (gdT_eq h),opt_s,gFF,not_bool,opt_s,pBool,if_neg (by simp),opt_s]
  simp only [Bool.not_true]
  rw [iteB_false,(bdC _ _).1,(bdC _ _).2,agBd,opt_s,c3,Fst u (typsTx_ne h0) (by omega),opt_s,ex0,opt_s,ex1,opt_s,ckBd,opt_s]
theorem ok_sche_Text : SpecL Try.prog n_sche_Text F_sche_Text:=by
 refine go_sche_Text (T:=TTX) (TabOk.consE okx_strings_Builder_WriteString (TabOk.consE okx_strings_Builder_Len (TabOk.consE okx_strings_Builder_String (TabOk.cons ok_sche_relText (TabOk.cons ok_sche_Parse (TabOk.cons ok_sche_Same TabOk.nil)))))) fun args v hv=>?_
 obtain ⟨l,rfl,⟨h,h0⟩,rfl⟩:=specOf_inv hv
 exact ⟨rfl,by simp [canos,typsV_cano],rfl,text_wp l h h0⟩
end Go.Fbs

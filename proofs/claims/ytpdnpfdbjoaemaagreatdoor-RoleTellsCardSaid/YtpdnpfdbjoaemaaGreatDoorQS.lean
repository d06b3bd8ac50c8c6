import Derived.Test.YtpdnpfdbjoaemaaGreatDoorQR
set_option linter.unusedSimpArgs false
set_option linter.unusedVariables false
set_option linter.unusedSectionVars false
set_option maxRecDepth 100000
namespace Go.Fbs
open Go.Proofs
attribute [local irreducible] FunWpE FunWp opt
def textF : List Fct → List UInt8 → Option (List UInt8)
 | [],t=>some t
 | f :: fs,t=>if 200000 < (t ++ (toldT f ++ [10])).length then none else textF fs (t ++ (toldT f ++ [10]))
def textM (fs : List Fct) : List UInt8 × Bool :=
 match textF fs [] with
 | none=>([],false)
 | some t=>if (roleM t).2.2 ≠ 0 then ([],false) else if sameL (roleM t).1 fs = true then (t,true) else ([],false)
def textV (fs : List Fct) : V:=.tup [.str (textM fs).1,.bool (textM fs).2]
def okTx (fs : List Fct) : Prop:=fs ≠ [] ∧ fs.length ≤ 1000000 ∧ ∀ o ∈ fs,okT o
noncomputable def F_role_TextN : Spec:=specOf (fun fs : List Fct=>[factsV fs]) okTx textV
theorem Ftext {fs : List Fct} (h : okTx fs) : F_role_TextN [factsV fs] = some (textV fs):=specOf_eq (a:=fs) (fun a b h=>factsV_inj (by simpa using h)) h
theorem parse_okF (s : List UInt8) : ∀ o ∈ (roleM s).1,okF o:=by
 have hok:=linesM_ok s
 have key : ∀ (f : Frm) (ws : List Wrd) (i : Nat) (o : Fct),(fillM f i ws o).1.l.length ≤ o.l.length + ws.length:=by
  intro f ws
  induction ws with
  | nil=>intro i o; exact Nat.le_refl _
  | cons w ws ih =>
   intro i o
   rw [List.length_cons]
   unfold fillM
   split
   ·split
    ·have:=ih (i + 1) { o with n:=(by assumption : Int) }
     rename_i n _
     have:=ih (i + 1) { o with n:=n }
     simp only at this ⊢
     omega
    ·simp only; omega
   ·split
    ·simp only; omega
    ·split
     ·have:=ih (i + 1) { o with l:=o.l ++ [w.1] }
      simp only [List.length_append,List.length_singleton] at this ⊢
      omega
     ·split
      ·have:=ih (i + 1) { o with a:=w.1 }
       simp only at this ⊢
       omega
      ·split
       ·have:=ih (i + 1) { o with b:=w.1 }
        simp only at this ⊢
        omega
       ·have:=ih (i + 1) { o with c:=w.1 }
        simp only at this ⊢
        omega
 have kf : ∀ x : Lin,okLin x → okF (factM x).1:=by
  intro x hx
  unfold factM okF
  split
  ·exact Nat.zero_le _
  ·rename_i w ws hw
   split
   ·exact Nat.zero_le _
   ·rename_i f hf
    split
    ·exact Nat.zero_le _
    ·have h1:=hx.1
     rw [hw,List.length_cons] at h1
     split
     ·rename_i o _ he
      have:=key f ws 0 { fct0 with kind:=f.kind,at_:=x.1 }
      rw [he] at this
      simp only [fct0,List.length_nil] at this
      simp only; omega
     ·exact Nat.zero_le _
 have kl : ∀ (L : List Lin) (i : Nat) (out : List Fct),(∀ x ∈ L,okLin x) → (∀ o ∈ out,okF o) → ∀ o ∈ (factsF L i out).1,okF o:=by
  intro L
  induction L with
  | nil=>intro i out _ h2; exact h2
  | cons x L ih =>
   intro i out h1 h2
   unfold factsF
   split
   ·intro o ho; simp at ho
   ·split
    ·refine ih _ _ (fun y hy=>h1 y (List.mem_cons_of_mem _ hy)) fun o ho=>?_
     rcases List.mem_append.1 ho with ho | ho
     ·exact h2 o ho
     ·simp only [List.mem_singleton] at ho
      subst ho
      exact kf x (h1 x List.mem_cons_self)
    ·intro o ho; simp at ho
 unfold roleM
 split
 ·intro o ho; simp at ho
 ·exact kl _ _ _ hok fun o ho=>by simp at ho
theorem factsF_len : ∀ (L : List Lin) (i : Nat) (out : List Fct),i ≤ 2000 → (factsF L i out).1.length ≤ out.length + (2000 - i)
 | [],i,out,_=>by unfold factsF; simp only; omega
 | x :: L,i,out,hi=>by
  unfold factsF
  split
  ·simp
  ·split
   ·have:=factsF_len L (i + 1) (out ++ [(factM x).1]) (by omega)
    rw [List.length_append] at this
    simp only [List.length_singleton] at this
    omega
   ·simp
theorem roleM_len (s : List UInt8) : (roleM s).1.length ≤ 2000:=by
 unfold roleM
 split
 ·simp
 ·have:=factsF_len (linesM s).1 0 [] (by omega)
  simpa using this
noncomputable abbrev TTx : List (FuncId × Spec):=[(n_role_told,F_role_told),(x_strings_Builder_WriteString,F_x_strings_Builder_WriteString),(x_strings_Builder_Len,F_x_strings_Builder_Len),(x_strings_Builder_String,F_x_strings_Builder_String),(n_role_Parse,F_role_Parse),(n_slices_EqualFunc_api_Fact_api_Fact_api_Fact_api_Fact,F_EqualFunc)]
theorem aggBd (u : Bool) (t : List UInt8) : aggK [.bool u,.sl .ro (bytV t)] = some (bdW u (bytV t)):=agg_s rfl
theorem wrBd (u : Bool) (t s : List UInt8) (h : (t.length + s.length) * 2 ≤ 70368744177664) : F_x_strings_Builder_WriteString [bdW u (bytV t),.str s] = some (.tup [vI s.length,.any,bdW true (bytV (t ++ s))]):=by
 show (match unBs (bytV t) with | some l=>_ | none=>_) = _
 rw [unBs_bytV]
 exact if_pos h
theorem lenBd (u : Bool) (t : List UInt8) : F_x_strings_Builder_Len [bdW u (bytV t)] = some (.tup [vI t.length,bdW u (bytV t)]):=by
 show (if canos (bytV t) = true then some (V.tup [vI (bytV t).length,bdW u (bytV t)]) else none) = _
 rw [if_pos (bytV_canos t)]
 simp [bytV]
theorem strBd (u : Bool) (t : List UInt8) (h0 : t ≠ []) (h : t.length ≤ 140737488355328) : F_x_strings_Builder_String [bdW u (bytV t)] = some (.tup [.str t,bdW u (bytV t)]):=by
 show (match unBs (bytV t) with | some l=>_ | none=>_) = _
 rw [unBs_bytV]
 exact if_pos ⟨h0,h⟩
theorem chkBd (u : Bool) (t : List UInt8) : chkK 2 (bdW u (bytV t)) = some (bdW u (bytV t)):=chk_agg rfl rfl
theorem told_len {o : Fct} (h : okT o) : (toldT o).length ≤ 1000000000:=by
 unfold toldT
 split
 ·simp
 ·exact h.2.1
theorem text_wp (fs : List Fct) (hok : okTx fs) : FunWp tyT (tab TTx) 38 q_role_Text [.tmp 2,.tmp 3] (cB Tryz.f13) [factsV fs] (fun v=>v = textV fs):=by
 have c1 : ∀ args,tab TTx n_role_told args = F_role_told args:=fun _=>rfl
 have c2 : ∀ args,tab TTx x_strings_Builder_WriteString args = F_x_strings_Builder_WriteString args:=fun _=>rfl
 have c3 : ∀ args,tab TTx x_strings_Builder_Len args = F_x_strings_Builder_Len args:=fun _=>rfl
 have c4 : ∀ args,tab TTx x_strings_Builder_String args = F_x_strings_Builder_String args:=fun _=>rfl
 have c5 : ∀ args,tab TTx n_role_Parse args = F_role_Parse args:=fun _=>rfl
 have c6 : ∀ args,tab TTx n_slices_EqualFunc_api_Fact_api_Fact_api_Fact_api_Fact args = F_EqualFunc args:=fun _=>rfl
 obtain ⟨hne,hlen,hG⟩:=hok
 refine Eq.mpr (e_role_Text (tab _) _ (factsV fs)) ?_
 rw [lenFct,opt_s]
 have hV : textV fs = textV fs:=rfl
 conv at hV=>rhs; unfold textV textM
 have hpos : 0 < fs.length:=List.length_pos_iff.2 hne
 generalize hR : textF fs [] = R at hV
 refine loopP_inv (fun vs=>∃ (i : Nat) (u : Bool) (t : List UInt8),i ≤ fs.length ∧ (0 < i → t ≠ []) ∧ t.length ≤ 200000 ∧ textF (fs.drop i) t = R ∧ vs = [.bool u,vI (i : Nat),.sl .ro (bytV t)]) (fun vs=>fs.length - natOf (gv vs 1)) ⟨0,false,[],Nat.zero_le _,fun h=>absurd h (Nat.lt_irrefl 0),Nat.zero_le _,hR,rfl⟩ ?_
 rintro rr _ ⟨i,u,t,hi,ht0,htl,hf,rfl⟩ hr
 refine ⟨rfl,?_⟩
 simp only [gv_0,gv_s]
 rw [bLt,opt_s,iteB_bool]
 have b0 : ∀ (u : Bool) (t : List UInt8),cellD (bdW u (bytV t)) 0 = .bool u:=fun _ _=>rfl
 have b1 : ∀ (u : Bool) (t : List UInt8),cellD (bdW u (bytV t)) 1 = .sl .ro (bytV t):=fun _ _=>rfl
 by_cases hlt : i < fs.length
 ·obtain ⟨x,hx⟩ : ∃ x,fs[i]? = some x:=⟨_,List.getElem?_eq_getElem hlt⟩
  rw [drop_cons hx] at hf
  unfold textF at hf
  have hxT:=hG x (List.mem_of_getElem? hx)
  have hxl:=told_len hxT
  have hln : (toldT x ++ [10]).length = (toldT x).length + 1:=by simp
  have hap : (t ++ (toldT x ++ [10])).length = t.length + ((toldT x).length + 1):=by simp
  have hadd : binK .add (.str (toldT x)) (.str [10]) = some (.str (toldT x ++ [10])):=bSadd _ _ (by simp; omega)
  rw [if_pos (by simpa using hlt),fctAt hx,opt_s,c1,Ftold hxT,opt_s,hadd,opt_s,aggBd,opt_s,c2,wrBd _ _ _ (by rw [hln]; omega),opt_s]
  simp only [preK,List.take_succ_cons,List.take_zero,opt_s,ext_tup,List.getElem?_cons_zero,List.getElem?_cons_succ,chkBd,b0,b1,aggBd,c3,lenBd]
  have hgt : binK .gtr (vI ((t ++ (toldT x ++ [10])).length : Nat)) (.int .i64 200000) = some (.bool (decide (200000 < (t ++ (toldT x ++ [10])).length))):=by
   rw [bGtr]
   by_cases h : 200000 < (t ++ (toldT x ++ [10])).length
   ·have : (200000 : Int) < ((t ++ (toldT x ++ [10])).length : Nat):=by omega
    rw [decide_eq_true h,decide_eq_true this]
   ·have : ¬ (200000 : Int) < ((t ++ (toldT x ++ [10])).length : Nat):=by omega
    rw [decide_eq_false h,decide_eq_false this]
  rw [hgt,opt_s,iteB_bool]
  by_cases hb : 200000 < (t ++ (toldT x ++ [10])).length
  ·rw [if_pos hb] at hf
   rw [if_pos (decide_eq_true hb),hV]
   rw [← hf]
  ·rw [if_neg hb] at hf
   rw [if_neg (by simpa using hb),add1' (by omega),opt_s]
   exact hr _ ⟨i + 1,true,t ++ (toldT x ++ [10]),by omega,fun _ h=>by simp at h,by omega,hf,rfl⟩ (by simp only [gv_0,gv_s,natOf]; omega)
 ·have hd : fs.drop i = []:=List.drop_eq_nil_of_le (by omega)
  rw [hd] at hf
  have ht:=ht0 (by omega)
  unfold textF at hf
  rw [← hf] at hV
  simp only at hV
  rw [if_neg (by simpa using hlt),aggBd,opt_s,c4,strBd _ _ ht (by omega),opt_s]
  simp only [ext_tup,List.getElem?_cons_zero,List.getElem?_cons_succ,opt_s,chkBd]
  rw [c5,show F_role_Parse [.str t] = some (roleV t) from rfl,opt_s]
  unfold roleV
  have hpf:=parse_okF t
  have hpl:=roleM_len t
  generalize roleM t = RR at hV hpf hpl
  obtain ⟨bk,k,e⟩:=RR
  simp only at hV hpf hpl ⊢
  simp only [ext_tup,List.getElem?_cons_zero,List.getElem?_cons_succ,opt_s]
  rw [bNeq,opt_s,c6,FequalFunc (by omega) hpf]
  by_cases he : e = 0
  ·subst he
   simp only [ne_eq,not_true_eq_false,if_false] at hV
   rw [show (!decide ((0 : Int) = 0)) = false by decide,gFF,opt_s,not_bool,gFF,opt_s,pBool,if_neg (by simp),opt_s,iteB_bool]
   cases hs : sameL bk fs with
   | true =>
    rw [hs,if_pos rfl] at hV
    rw [if_neg (by simp),b0,b1,aggBd,opt_s,c4,strBd _ _ ht (by omega),opt_s]
    simp only [ext_tup,List.getElem?_cons_zero,List.getElem?_cons_succ,opt_s,chkBd]
    rw [hV]
   | false =>
    rw [hs,if_neg (by simp)] at hV
    rw [if_pos (by simp),hV]
  ·rw [if_pos he] at hV
   have hd9 : (!decide (e = 0)) = true:=by simp [he]
   rw [hd9,gTF,opt_s,gTF,opt_s,pBool,if_pos rfl,opt_s,iteB_true,hV]
theorem ok_role_TextN : SpecL Tryz.prog n_role_Text F_role_TextN:=by
 refine go_role_Text (T:=TTx) (TabOk.cons ok_role_told (TabOk.consE okx_strings_Builder_WriteString (TabOk.consE okx_strings_Builder_Len (TabOk.consE okx_strings_Builder_String (TabOk.cons ok_role_Parse (TabOk.cons ok_slices_EqualFunc TabOk.nil)))))) fun args v hv=>?_
 obtain ⟨fs,rfl,h,rfl⟩:=specOf_inv hv
 exact ⟨rfl,by simp [canos,factsV_cano],rfl,text_wp fs h⟩
end Go.Fbs

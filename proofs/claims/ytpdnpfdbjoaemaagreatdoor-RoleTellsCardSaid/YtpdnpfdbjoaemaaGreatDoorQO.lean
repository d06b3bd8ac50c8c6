import Derived.Test.YtpdnpfdbjoaemaaGreatDoorQN
set_option linter.unusedSimpArgs false
set_option linter.unusedVariables false
set_option linter.unusedSectionVars false
set_option maxRecDepth 100000
namespace Go.Fbs
open Go.Proofs
attribute [local irreducible] FunWpE FunWp opt
def okLin (l : Lin) : Prop:=l.2.length ≤ 300000 ∧ ∀ w ∈ l.2,w.1.length ≤ bigT
def okLinI (l : LinI) : Prop:=l.2.length ≤ 300000 ∧ ∀ w ∈ l.2,w.1.length ≤ bigT
def factV (l : Lin) : V:=.tup [fctW (factM l).1,vI (factM l).2.1,vI (factM l).2.2]
noncomputable def F_role_Fact : Spec:=specOf (fun l : LinI=>[linIW l]) okLinI factIV
theorem FfactI {l : LinI} (h : okLinI l) : F_role_Fact [linIW l] = some (factIV l):=specOf_eq (a:=l) (fun a b h=>linIW_inj a b (by simpa using h)) h
theorem okLin_cast {l : Lin} (h : okLin l) : okLinI (castL l):=⟨by simpa [castL] using h.1,fun w hw=>by
 simp only [castL,List.mem_map] at hw
 obtain ⟨v,hv,rfl⟩:=hw
 exact h.2 v hv⟩
theorem Ffact {l : Lin} (h : okLin l) : F_role_Fact [linW l] = some (factV l):=by
 rw [← cast_lin,FfactI (okLin_cast h),fact_cast]; rfl
theorem slWrd (w : WrdI) (ws : List WrdI) : slLK 2 (wrdsI (w :: ws)) (some (.int .i64 1)) none = some (wrdsI ws):=by
 have h : (1 : Int) ≤ (ws.length : Int) + 1:=by omega
 simp only [slLK,wrdsI,boundV]
 simp [wrdIW,V.cells,h]
 rw [List.take_of_length_le (by simp)]
theorem chkLin (l : LinI) : chkK 2 (linIW l) = some (linIW l):=chk_agg rfl rfl
theorem subI1 (n : Nat) (h : n + 1 ≤ 4611686018427387000) : binK .sub (vI ((n + 1 : Nat) : Int)) (.int .i64 1) = some (vI (n : Nat)):=by
 rw [bSub,wrap_in (by omega) (by omega)]
 congr 2; omega
noncomputable abbrev TFa : List (FuncId × Spec):=[(n_role_formOf,F_role_formOf),(x_role_form_fill,F_x_role_form_fill)]
theorem fact_wp (l : LinI) (hl : okLinI l) : FunWp tyT (tab TFa) 70 q_role_Fact [.cell 2 31,.tmp 3,.tmp 4] (cB Tryz.f6) [linIW l] (fun v=>v = factIV l):=by
 have c1 : ∀ args,tab TFa n_role_formOf args = F_role_formOf args:=fun _=>rfl
 have c2 : ∀ args,tab TFa x_role_form_fill args = F_x_role_form_fill args:=fun _=>rfl
 refine Eq.mpr (e_role_Fact (tab _) _ (linIW l)) ?_
 have l0 : cellD (linIW l) 0 = vI l.1:=rfl
 have l1 : cellD (linIW l) 1 = wrdsI l.2:=rfl
 have z0 : aggK [(.int .i64 0),(.str []),(.str []),(.str []),(.int .i64 0),(.sl .ro []),(.int .i64 0)] = some (fctW fct0):=agg_s rfl
 have z1 : aggK [cellD (fctW fct0) 0,cellD (fctW fct0) 1,cellD (fctW fct0) 2,cellD (fctW fct0) 3,cellD (fctW fct0) 4,(.sl .ro []),cellD (fctW fct0) 6] = some (fctW fct0):=agg_s rfl
 rw [chkLin,opt_s,l0,l1,lenWrdI,opt_s,show binK .eql (vI (l.2.length : Nat)) (.int .i64 0) = _ from bEqN l.2.length 0,opt_s,iteB_bool,z0,opt_s,z1,opt_s]
 have hfac : factIV l = (fun R : Fct × Int × Int × Int=>V.tup [fctA R.1 R.2.1,vI R.2.2.1,vI R.2.2.2]) (factI l):=rfl
 have hfI : factI l = factI l:=rfl
 conv at hfI=>rhs; unfold factI
 obtain ⟨hl1,hl2⟩:=hl
 cases hw : l.2 with
 | nil =>
  rw [hw] at hfI
  rw [if_pos (by simp),hfac,hfI]
  rfl
 | cons w ws =>
  rw [hw] at hl1 hl2 hfI
  simp only at hfI
  rw [if_neg (by simp)]
  have w0 : cellD (wrdIW w) 0 = .str w.1:=rfl
  have w1 : cellD (wrdIW w) 1 = vI w.2:=rfl
  rw [show idxLK true 2 (wrdsI (w :: ws)) (.int .i64 0) = some (wrdIW w) from wrdAtI (i:=0) rfl,opt_s,w0,c1,show F_role_formOf [.str w.1] = some _ from rfl,opt_s]
  have hsub:=subI1 ws.length (by simp at hl1; omega)
  cases hf : formM w.1 with
  | none =>
   rw [hf] at hfI
   simp only at hfI ⊢
   rw [ext_tup,ext_tup]
   simp only [List.getElem?_cons_zero,List.getElem?_cons_succ,opt_s]
   rw [chkFrm,opt_s,List.length_cons,hsub,opt_s,not_bool,opt_s]
   have f3 : cellD (frmV (frmK 0)) 3 = vI (0 : Nat):=rfl
   have f4 : cellD (frmV (frmK 0)) 4 = vI (0 : Nat):=rfl
   rw [f3,f4,bLt,opt_s,Bool.not_false,pBool,if_pos rfl,opt_s,bGtr,opt_s,pBool,if_pos rfl,opt_s,iteB_true,w1,z1,opt_s,hfac,hfI]
   rfl
  | some f =>
   obtain ⟨j,j1,j8,_,hfj⟩:=form_inv hf
   obtain ⟨s1,s2,s3⟩:=frm_small j1 j8
   rw [hf] at hfI
   simp only at hfI ⊢
   rw [ext_tup,ext_tup]
   simp only [List.getElem?_cons_zero,List.getElem?_cons_succ,opt_s]
   rw [chkFrm,opt_s,List.length_cons,hsub,opt_s,not_bool,opt_s]
   have f0 : cellD (frmV f) 0 = vI f.kind:=rfl
   have f3 : cellD (frmV f) 3 = vI f.least:=rfl
   have f4 : cellD (frmV f) 4 = vI f.most:=rfl
   have gt : binK .gtr (vI (ws.length : Nat)) (vI (f.most : Nat)) = some (.bool (decide (f.most < ws.length))):=by
    rw [bGtr]; congr 2
    by_cases h : f.most < ws.length <;> simp [h]
   rw [f0,f3,f4,bLt,opt_s,Bool.not_true,pBool,if_neg (by simp),opt_s,gt,opt_s,pBool,opt_s]
   have hcond : (if decide (ws.length < f.least) = true then V.bool true else V.bool (decide (f.most < ws.length))) = .bool (decide (ws.length < f.least ∨ f.most < ws.length)):=by
    by_cases h1 : ws.length < f.least
    ·simp [h1]
    ·simp [h1]
   rw [hcond,iteB_bool]
   by_cases hc : ws.length < f.least ∨ f.most < ws.length
   ·rw [if_pos hc] at hfI
    rw [if_pos (by simpa using hc),w1,z1,opt_s,hfac,hfI]
    rfl
   ·rw [if_neg hc] at hfI
    rw [if_neg (by simpa using hc)]
    have z2 : aggK [vI f.kind,(.str []),(.str []),(.str []),(.int .i64 0),(.sl .ro []),vI l.1] = some (fctA { fct0 with kind:=f.kind } l.1):=agg_s rfl
    have z3 : aggK [cellD (fctA { fct0 with kind:=f.kind } l.1) 0,cellD (fctA { fct0 with kind:=f.kind } l.1) 1,cellD (fctA { fct0 with kind:=f.kind } l.1) 2,cellD (fctA { fct0 with kind:=f.kind } l.1) 3,cellD (fctA { fct0 with kind:=f.kind } l.1) 4,(.sl .ro []),cellD (fctA { fct0 with kind:=f.kind } l.1) 6] = some (fctA { fct0 with kind:=f.kind } l.1):=agg_s rfl
    have hfl:=Ffill (f:=f) (o:={ fct0 with kind:=f.kind }) (k:=l.1) (ws:=ws) rfl (by rw [hfj]; omega) (by simp [fct0] at hl1 ⊢; omega) (fun v hv=>hl2 v (List.mem_cons_of_mem _ hv))
    rw [z2,opt_s,slWrd,opt_s,z3,opt_s,c2,hfl,opt_s]
    generalize hR : fillI f 0 ws { fct0 with kind:=f.kind } = R at hfI
    obtain ⟨o',k,e⟩:=R
    simp only at hfI ⊢
    simp only [preK,List.take_succ_cons,List.take_zero,opt_s,ext_tup,List.getElem?_cons_zero,List.getElem?_cons_succ,chkFctA]
    rw [bNeq,opt_s,iteB_bool]
    by_cases he : e = 0
    ·subst he
     simp only at hfI
     rw [if_neg (by simp),hfac,hfI]
    ·have : factI l = (fct0,0,k,e):=by
      rw [hfI]
      split
      ·rename_i h; simp only [Prod.mk.injEq] at h; exact absurd h.2.2 he
      ·rename_i h; simp only [Prod.mk.injEq] at h; obtain ⟨_,rfl,rfl⟩:=h; rfl
     rw [if_pos (by simpa using he),z1,opt_s,hfac,this]
     rfl
theorem ok_role_Fact : SpecL Tryz.prog n_role_Fact F_role_Fact:=by
 refine go_role_Fact (T:=TFa) (TabOk.cons ok_role_formOf (TabOk.consE okx_role_form_fill TabOk.nil)) fun args v hv=>?_
 obtain ⟨l,rfl,hl,rfl⟩:=specOf_inv hv
 refine ⟨rfl,?_,?_,fact_wp l hl⟩
 ·simp only [canos,linIW_cano,Bool.and_self]
 ·simp only [factIV,V.cano,canos,fctA_cano,Bool.and_self]
def factsV (l : List Fct) : V:=.sl .ro (l.map fctW)
theorem factsV_cano (l : List Fct) : (factsV l).cano = true:=by
 simp only [factsV,V.cano]
 exact canos_map fctW_cano
theorem factsV_inj {a b : List Fct} (h : factsV a = factsV b) : a = b:=by
 simp only [factsV,V.sl.injEq,true_and] at h
 exact mapI fctW_inj h
def roleV (s : List UInt8) : V:=.tup [factsV (roleM s).1,vI (roleM s).2.1,vI (roleM s).2.2]
def F_role_Parse : Spec
 | [.str s]=>some (roleV s)
 | _=>none
theorem wordsF_le : ∀ (f : Nat) (l : List UInt8) (k : Nat),(wordsF f l k).length ≤ l.length ∧ ∀ w ∈ wordsF f l k,w.1.length ≤ l.length
 | 0,l,k=>by simp [wordsF]
 | f + 1,[],k=>by simp [wordsF]
 | f + 1,c :: r,k=>by
  unfold wordsF
  split
  ·obtain ⟨h1,h2⟩:=wordsF_le f r (k + 1)
   simp only [List.length_cons]
   exact ⟨by omega,fun w hw=>by have:=h2 w hw; omega⟩
  ·split
   ·simp
   ·rename_i hb _
    have hw1 : wordL (c :: r) = c :: r.takeWhile fun c=>!isBl c:=by unfold wordL; rw [List.takeWhile_cons,if_pos (by simpa using hb)]
    have hpos : 1 ≤ (wordL (c :: r)).length:=by rw [hw1]; simp
    have hle : (wordL (c :: r)).length ≤ (c :: r).length:=(List.takeWhile_prefix _).length_le
    obtain ⟨h1,h2⟩:=wordsF_le f ((c :: r).drop (wordL (c :: r)).length) (k + (wordL (c :: r)).length)
    rw [List.length_drop] at h1 h2
    refine ⟨by rw [List.length_cons]; omega,fun w hw=>?_⟩
    rcases List.mem_cons.1 hw with rfl | hw
    ·exact hle
    ·have:=h2 w hw; omega
theorem linesF_le (N : Nat) : ∀ (ps : List (List UInt8)) (k : Nat) (out : List Lin),(∀ p ∈ ps,p.length ≤ N) → (∀ x ∈ out,x.2.length ≤ N ∧ ∀ w ∈ x.2,w.1.length ≤ N) → ∀ x ∈ (linesF ps k out).1,x.2.length ≤ N ∧ ∀ w ∈ x.2,w.1.length ≤ N
 | [],k,out,_,h,x,hx=>h x hx
 | p :: ps,k,out,hp,h,x,hx=>by
  unfold linesF at hx
  split at hx
  ·simp at hx
  ·refine linesF_le N ps _ _ (fun q hq=>hp q (List.mem_cons_of_mem _ hq)) (fun y hy=>?_) x hx
   rcases List.mem_append.1 hy with hy | hy
   ·exact h y hy
   ·have hpl:=hp p List.mem_cons_self
    have hbl:=bareM_le p
    obtain ⟨g1,g2⟩:=wordsF_le (bareM p).length (bareM p) k
    unfold lineM at hy
    split at hy
    ·simp at hy
    ·rename_i w ws hw
     simp only [List.mem_singleton] at hy
     subst hy
     unfold wordsM at hw
     rw [hw] at g1 g2
     exact ⟨by simp only; omega,fun v hv=>by have:=g2 v hv; omega⟩
theorem sum_mem {l : List (List UInt8)} {p : List UInt8} (h : p ∈ l) : p.length + 1 ≤ (l.map fun p=>p.length + 1).sum:=by
 induction l with
 | nil=>simp at h
 | cons q l ih =>
  rw [List.map_cons,List.sum_cons]
  rcases List.mem_cons.1 h with rfl | h
  ·omega
  ·have:=ih h; omega
theorem linesM_ok (s : List UInt8) : ∀ x ∈ (linesM s).1,okLin x:=by
 unfold linesM
 split
 ·intro x hx; simp at hx
 ·rename_i hb
  intro x hx
  obtain ⟨g1,g2⟩:=linesF_le s.length (pieces s) 0 [] (fun p hp=>by have:=sum_mem hp; rw [pieces_sum] at this; omega) (fun x hx=>by simp at hx) x hx
  exact ⟨by omega,fun w hw=>by have:=g2 w hw; unfold bigT; omega⟩
theorem lenLin (l : List Lin) : lenL (linsV l) = some (vI l.length):=by simp [lenL,linsV]
theorem linAt {l : List Lin} {i : Nat} {x : Lin} (h : l[i]? = some x) : idxLK true 2 (linsV l) (vI (i : Nat)) = some (linW x):=by
 refine idxL_agg (cs:=[vI x.1,wrdsV x.2]) ?_ rfl rfl .i64
 rw [List.getElem?_map,h]; rfl
theorem litFct (o : Fct) : litK 7 [fctW o] = some (.sl .ro [fctW o]):=lit_s (n:=7) (by simp) rfl
theorem appFct {l : List Fct} (h : l.length ≤ 300000) (x : Fct) : appK 7 96 (factsV l) (.sl .ro [fctW x]) = some (factsV (l ++ [x])):=by
 have:=app_s (n:=7) (b:=96) (g:=.ro) (g':=.ro) (es:=l.map fctW) (ys:=[fctW x]) (by simp; omega) (all_map_len fun a=>rfl) rfl
 unfold factsV
 rw [List.map_append]
 exact this
noncomputable abbrev TPa : List (FuncId × Spec):=[(n_line_Lines,F_line_Lines),(n_role_Fact,F_role_Fact)]
theorem parse_wp (s : List UInt8) : FunWp tyT (tab TPa) 51 q_role_Parse [.tmp 2,.tmp 3,.tmp 4] (cB Tryz.f9) [.str s] (fun v=>v = roleV s):=by
 have c1 : ∀ args,tab TPa n_line_Lines args = F_line_Lines args:=fun _=>rfl
 have c2 : ∀ args,tab TPa n_role_Fact args = F_role_Fact args:=fun _=>rfl
 refine Eq.mpr (e_role_Parse (tab _) _ (.str s)) ?_
 have hok:=linesM_ok s
 have hR : roleV s = roleV s:=rfl
 conv at hR=>rhs; unfold roleV roleM
 rw [c1,show F_line_Lines [.str s] = some (lineT s) from rfl,opt_s]
 unfold lineT
 generalize hL : linesM s = LL at hok hR
 obtain ⟨L,k,e⟩:=LL
 simp only at hok hR ⊢
 simp only [ext_tup,List.getElem?_cons_zero,List.getElem?_cons_succ,opt_s]
 rw [bNeq,opt_s,iteB_bool]
 by_cases he : e = 0
 ·subst he
  simp only [ne_eq,not_true_eq_false,if_false] at hR
  rw [if_neg (by simp),lenLin,opt_s]
  generalize hRR : factsF L 0 [] = RR at hR
  refine loopP_inv (fun vs=>∃ (i : Nat) (out : List Fct),i ≤ L.length ∧ i ≤ 2000 ∧ out.length = i ∧ factsF (L.drop i) i out = RR ∧ vs = [factsV out,vI (i : Nat)]) (fun vs=>L.length - natOf (gv vs 1)) ⟨0,[],Nat.zero_le _,Nat.zero_le _,rfl,hRR,rfl⟩ ?_
  rintro rr _ ⟨i,out,hi,hi2,ho,hf,rfl⟩ hr
  refine ⟨rfl,?_⟩
  simp only [gv_0,gv_s]
  rw [bLt,opt_s,iteB_bool]
  by_cases hlt : i < L.length
  ·obtain ⟨x,hx⟩ : ∃ x,L[i]? = some x:=⟨_,List.getElem?_eq_getElem hlt⟩
   have hd : L.drop i = x :: L.drop (i + 1):=by
    obtain ⟨h9,e9⟩:=List.getElem?_eq_some_iff.1 hx
    rw [List.drop_eq_getElem_cons h9,e9]
   rw [hd] at hf
   unfold factsF at hf
   have x0 : cellD (linW x) 0 = vI x.1:=rfl
   rw [if_pos (by simpa using hlt),linAt hx,opt_s,show binK .geq (vI (i : Nat)) (.int .i64 2000) = _ from bGeN i 2000,opt_s,iteB_bool,x0]
   by_cases h2 : 2000 ≤ i
   ·rw [if_pos h2] at hf
    rw [if_pos (by simpa using h2),hR,← hf]
    rfl
   ·rw [if_neg h2] at hf
    rw [if_neg (by simpa using h2),c2,Ffact (hok x (List.mem_of_getElem? hx)),opt_s]
    unfold factV
    generalize factM x = F at hf ⊢
    obtain ⟨o,k',e'⟩:=F
    simp only at hf ⊢
    simp only [ext_tup,List.getElem?_cons_zero,List.getElem?_cons_succ,opt_s,chkFct]
    rw [bNeq,opt_s,iteB_bool]
    by_cases he' : e' = 0
    ·rw [if_pos he'] at hf
     rw [if_neg (by simp [he']),litFct,opt_s,appFct (by omega),opt_s,add1' (by omega),opt_s]
     exact hr _ ⟨i + 1,out ++ [o],by omega,by omega,by simp [ho],hf,rfl⟩ (by simp only [gv_0,gv_s,natOf]; omega)
    ·rw [if_neg he'] at hf
     rw [if_pos (by simpa using he'),hR,← hf]
     rfl
  ·have hd : L.drop i = []:=List.drop_eq_nil_of_le (by omega)
   rw [hd] at hf
   unfold factsF at hf
   rw [if_neg (by simpa using hlt),hR,← hf]
   rfl
 ·rw [if_pos (show e ≠ 0 from he)] at hR
  rw [if_pos (by simpa using he),hR]
  rfl
theorem ok_role_Parse : SpecL Tryz.prog n_role_Parse F_role_Parse:=by
 refine go_role_Parse (T:=TPa) (TabOk.cons ok_line_Lines (TabOk.cons ok_role_Fact TabOk.nil)) fun args v hv=>?_
 unfold F_role_Parse at hv
 split at hv <;> simp only [Option.some.injEq,reduceCtorEq] at hv
 rename_i s
 subst hv
 refine ⟨rfl,rfl,?_,parse_wp s⟩
 simp only [roleV,V.cano,canos,factsV_cano,Bool.and_self]
end Go.Fbs

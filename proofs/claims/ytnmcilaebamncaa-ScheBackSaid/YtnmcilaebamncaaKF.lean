/- Schemas read: terms, sums: told. -/
import Derived.Test.YtnmcilaebamncaaKE
set_option maxRecDepth 100000
namespace Go.Fbs
open Go.Proofs
theorem agSL (s : PSt) : aggK [tokensV s.l,vI s.n,vI s.at_,vI s.e,vI s.d,stpsV s.x] = some (vSt s):=nr rfl
theorem cells_S (s : PSt) : cellD (vSt s) 0 = tokensV s.l ∧ cellD (vSt s) 1 = vI s.n ∧ cellD (vSt s) 2 = vI s.at_ ∧ cellD (vSt s) 3 = vI s.e ∧ cellD (vSt s) 4 = vI s.d ∧ cellD (vSt s) 5 = stpsV s.x:=⟨rfl,rfl,rfl,rfl,rfl,rfl⟩
noncomputable abbrev TT1 (f : Nat) : List (FuncId × Spec):=[(x_sche_parser_factor,F_factor f),(x_sche_parser_here,F_x_sche_parser_here),(x_sche_parser_may,F_x_sche_parser_may),(x_sche_parser_put,F_x_sche_parser_put)]
theorem term_ok (f : Nat) (hfac : SpecE Try.prog n_sche_parser_factor s_x_sche_parser_factor (F_factor f)) : SpecE Try.prog n_sche_parser_term s_x_sche_parser_term (F_term f):=by
 refine go_x_sche_parser_term (T:=TT1 f) (TabOk.consE hfac (TabOk.consE okx_sche_parser_here (TabOk.consE okx_sche_parser_may (TabOk.consE okx_sche_parser_put TabOk.nil)))) fun words v hv=>?_
 have c1 : ∀ args,tab (TT1 f) x_sche_parser_factor args = F_factor f args:=fun _=>rfl
 have c2 : ∀ args,tab (TT1 f) x_sche_parser_here args = F_x_sche_parser_here args:=fun _=>rfl
 have c5 : ∀ args,tab (TT1 f) x_sche_parser_may args = F_x_sche_parser_may args:=fun _=>rfl
 have c8 : ∀ args,tab (TT1 f) x_sche_parser_put args = F_x_sche_parser_put args:=fun _=>rfl
 obtain ⟨s,rfl,⟨hd,hf⟩,rfl⟩:=specOf_inv hv
 refine ⟨_,rfl,rfl,by simp [canos,vSt_cano,V.cano],by simp [canos,vSt_cano,V.cano],rfl,rfl,?_⟩
 refine Eq.mpr (e_x_sche_parser_term (tab _) _ (tokensV s.l) (vI s.n) (vI s.at_) (vI s.e) (vI s.d) (stpsV s.x)) ?_
 have gd:=good_M f
 simp only [agS0,opt_s,c1,Ffactor (show okF f s from ⟨hd,hf⟩),ext_tup,List.getElem?_cons_zero,List.getElem?_cons_succ,chS,agS,not_bool,iteB_bool]
 unfold termOf
 have hd1:=gd.d s
 generalize hr : factorM f s = r at *
 obtain ⟨b,s1⟩:=r
 simp only at hd1 ⊢
 cases b with
 | false=>simp only [Bool.not_false,if_true,Bool.false_eq_true,if_false]
 | true =>
  simp only [Bool.not_true,Bool.false_eq_true,if_false,if_true,c2,Fhere,opt_s,ext_tup,List.getElem?_cons_zero,List.getElem?_cons_succ,chS,pT1]
  refine loopP_inv (fun vs=>∃ (a : Nat) (t : PSt),vs = [stpsV t.x,vI a,tokensV t.l,vI t.n,vI t.at_,vI t.e,vI t.d] ∧ t.d = s.d ∧ t.l.length ≤ s1.l.length ∧ termLoop (factorM f) (t.l.length + 1) a t = termLoop (factorM f) (s1.l.length + 1) (hereM s1).2.1 s1)
   (fun vs=>match gv vs 2 with | .sl _ es=>es.length | _=>0) ⟨_,s1,rfl,hd1,Nat.le_refl _,rfl⟩ ?_
  rintro r _ ⟨a,t,rfl,htd,htl,ht⟩ hr
  refine ⟨rfl,?_⟩
  rw [← ht]
  simp only [gv_0,gv_s,agSL,opt_s,c5,Fmay,ext_tup,List.getElem?_cons_zero,List.getElem?_cons_succ,chS,iteB_bool]
  unfold termLoop
  have hm1:=may_d [38] t
  have hm2:=may_lt (g:=[38]) (s:=t)
  generalize hm : mayM [38] t = m at *
  obtain ⟨b2,t2⟩:=m
  simp only at hm1 hm2 ⊢
  cases b2 with
  | false=>simp only [Bool.false_eq_true,if_false,agS,opt_s]
  | true =>
   have hm2:=hm2 rfl
   have hok : okF f t2:=⟨by omega,by omega⟩
   have e1:=gd.d t2
   have e2:=gd.l t2
   simp only [if_true,agS,opt_s,c1,Ffactor hok,ext_tup,List.getElem?_cons_zero,List.getElem?_cons_succ,chS,not_bool,ag0St,iteB_bool]
   generalize hq : factorM f t2 = q at *
   obtain ⟨b3,t3⟩:=q
   simp only at e1 e2 ⊢
   cases b3 with
   | false=>simp only [Bool.not_false,if_true,Bool.false_eq_true,if_false]
   | true =>
    have e3:=put_d (5,[],[]) a t3
    simp only [Bool.not_true,Bool.false_eq_true,if_false,if_true,c8,Fput,opt_s,ext_tup,List.getElem?_cons_zero,List.getElem?_cons_succ,chS,agS,not_bool,iteB_bool]
    generalize hp : putM (5,[],[]) a t3 = u at *
    obtain ⟨b4,t4⟩:=u
    simp only at e3 ⊢
    cases b4 with
    | false=>simp only [Bool.not_false,if_true,Bool.false_eq_true,if_false]
    | true =>
     simp only [Bool.not_true,Bool.false_eq_true,if_false,if_true,c2,Fhere,opt_s,ext_tup,List.getElem?_cons_zero,List.getElem?_cons_succ,chS,pT1]
     rw [(cells_S t4).1,(cells_S t4).2.1,(cells_S t4).2.2.1,(cells_S t4).2.2.2.1,(cells_S t4).2.2.2.2.1,(cells_S t4).2.2.2.2.2]
     have hl4 : t4.l.length < t.l.length:=by rw [e3.2]; omega
     have e5:=termLoop_fuel gd t4.l.length t.l.length (t4.l.length + 1) (hereM t4).2.1 t4 (Nat.le_refl _) hl4 (Nat.lt_succ_self _)
     have ht' : termLoop (factorM f) (t4.l.length + 1) (hereM t4).2.1 t4 = termLoop (factorM f) (s1.l.length + 1) (hereM s1).2.1 s1:=by
      rw [← ht]
      conv=>rhs; unfold termLoop
      simp only [hm,if_true,hq,hp]
      rw [e5]
     exact hr _ ⟨_,t4,rfl,by rw [e3.1,e1]; omega,by omega,ht'⟩ (by simp only [gv_0,gv_s,tokensV,List.length_map]; exact hl4)
noncomputable abbrev TS1 (f : Nat) : List (FuncId × Spec):=[(x_sche_parser_term,F_term f),(x_sche_parser_is,F_x_sche_parser_is),(x_sche_parser_here,F_x_sche_parser_here),(x_sche_parser_may,F_x_sche_parser_may),(x_sche_parser_put,F_x_sche_parser_put)]
theorem is_both {s : PSt} (h : isM [43] s = true) : isM [45] s = false:=by
 simp only [isM,Bool.and_eq_true,beq_iff_eq] at h
 simp [isM,h.2]
theorem sum_ok (f : Nat) (hter : SpecE Try.prog n_sche_parser_term s_x_sche_parser_term (F_term f)) : SpecE Try.prog n_sche_parser_sum s_x_sche_parser_sum (F_sum f):=by
 refine go_x_sche_parser_sum (T:=TS1 f) (TabOk.consE hter (TabOk.consE okx_sche_parser_is (TabOk.consE okx_sche_parser_here (TabOk.consE okx_sche_parser_may (TabOk.consE okx_sche_parser_put TabOk.nil))))) fun words v hv=>?_
 have c1 : ∀ args,tab (TS1 f) x_sche_parser_term args = F_term f args:=fun _=>rfl
 have c2 : ∀ args,tab (TS1 f) x_sche_parser_here args = F_x_sche_parser_here args:=fun _=>rfl
 have c3 : ∀ args,tab (TS1 f) x_sche_parser_is args = F_x_sche_parser_is args:=fun _=>rfl
 have c5 : ∀ args,tab (TS1 f) x_sche_parser_may args = F_x_sche_parser_may args:=fun _=>rfl
 have c8 : ∀ args,tab (TS1 f) x_sche_parser_put args = F_x_sche_parser_put args:=fun _=>rfl
 obtain ⟨s,rfl,⟨hd,hf⟩,rfl⟩:=specOf_inv hv
 refine ⟨_,rfl,rfl,by simp [canos,vSt_cano,V.cano],by simp [canos,vSt_cano,V.cano],rfl,rfl,?_⟩
 refine Eq.mpr (e_x_sche_parser_sum (tab _) _ (tokensV s.l) (vI s.n) (vI s.at_) (vI s.e) (vI s.d) (stpsV s.x)) ?_
 have gd:=good_term (good_M f)
 simp only [agS0,opt_s,c1,Fterm (show okF f s from ⟨hd,hf⟩),ext_tup,List.getElem?_cons_zero,List.getElem?_cons_succ,chS,agS,not_bool,iteB_bool]
 unfold sumOf
 have hd1:=gd.d s
 generalize hr : termOf (factorM f) s = r at *
 obtain ⟨b,s1⟩:=r
 simp only at hd1 ⊢
 cases b with
 | false=>simp only [Bool.not_false,if_true,Bool.false_eq_true,if_false]
 | true =>
  simp only [Bool.not_true,Bool.false_eq_true,if_false,if_true]
  refine loopP_inv (fun vs=>∃ (t : PSt),vs = [stpsV t.x,tokensV t.l,vI t.n,vI t.at_,vI t.e,vI t.d] ∧ t.d = s.d ∧ t.l.length ≤ s1.l.length ∧ sumLoop (termOf (factorM f)) (t.l.length + 1) t = sumLoop (termOf (factorM f)) (s1.l.length + 1) s1)
   (fun vs=>match gv vs 1 with | .sl _ es=>es.length | _=>0) ⟨s1,rfl,hd1,Nat.le_refl _,rfl⟩ ?_
  rintro r _ ⟨t,rfl,htd,htl,ht⟩ hr
  refine ⟨rfl,?_⟩
  rw [← ht]
  simp only [gv_0,gv_s,agSL,opt_s,c3,Fis,ext_tup,List.getElem?_cons_zero,List.getElem?_cons_succ,chS,agS,ckB,iteB_bool]
  have step : ∀ (kd : Int),isM [43] t = true ∨ isM [45] t = true → kd = (if isM [43] t = true then 3 else 4) →
    (opt (F_term f [vSt (popM t)]) fun y40=>opt (extractV y40 0) fun y41=>opt (extractV y40 1) fun y42=>opt (chkK 6 y42) fun y43=>opt (unV .not y41) fun y44=>opt (aggK [vI kd,.str [],.str []]) fun y45 =>
     iteB y44 (opt (aggK [(cellD y43 0),(cellD y43 1),(cellD y43 2),(cellD y43 3),(cellD y43 4),(cellD y43 5)]) fun y46=>(.tup [(.bool false),y46] = V.tup [.bool (sumLoop (termOf (factorM f)) (t.l.length + 1) t).1,vSt (sumLoop (termOf (factorM f)) (t.l.length + 1) t).2]))
     (opt (aggK [(cellD y43 0),(cellD y43 1),(cellD y43 2),(cellD y43 3),(cellD y43 4),(cellD y43 5)]) fun y46=>opt (tab (TS1 f) x_sche_parser_put [y46,y45,vI (hereM t).2.1]) fun y47=>opt (extractV y47 0) fun y48=>opt (extractV y47 1) fun y49=>opt (chkK 6 y49) fun y50=>opt (unV .not y48) fun y51 =>
      iteB y51 (opt (aggK [(cellD y50 0),(cellD y50 1),(cellD y50 2),(cellD y50 3),(cellD y50 4),(cellD y50 5)]) fun y52=>(.tup [(.bool false),y52] = V.tup [.bool (sumLoop (termOf (factorM f)) (t.l.length + 1) t).1,vSt (sumLoop (termOf (factorM f)) (t.l.length + 1) t).2]))
      (r [(cellD y50 5),(cellD y50 0),(cellD y50 1),(cellD y50 2),(cellD y50 3),(cellD y50 4)]))):=by
   intro kd hsg hkd
   have hne : t.l ≠ []:=by rcases hsg with h | h <;> exact is_ne h
   have h3:=pop_lt hne
   have hok : okF f (popM t):=⟨by show t.d ≤ 20; omega,by show 21 ≤ t.d + f; omega⟩
   have e1:=gd.d (popM t)
   have e2:=gd.l (popM t)
   have hsum : sumLoop (termOf (factorM f)) (t.l.length + 1) t = (let r:=termOf (factorM f) (popM t); if r.1 then let q:=putM (kd,[],[]) (hereM t).2.1 r.2; if q.1 then sumLoop (termOf (factorM f)) t.l.length q.2 else (false,q.2) else (false,r.2)):=by
    conv=>lhs; unfold sumLoop
    rw [if_pos (by simpa using hsg),← hkd]
   rw [hsum]
   simp only [opt_s,Fterm hok,ext_tup,List.getElem?_cons_zero,List.getElem?_cons_succ,chS,not_bool,ag0St,iteB_bool,agS]
   generalize hq : termOf (factorM f) (popM t) = q at *
   obtain ⟨b3,t3⟩:=q
   simp only at e1 e2 ⊢
   cases b3 with
   | false=>simp only [Bool.not_false,if_true,Bool.false_eq_true,if_false]
   | true =>
    have e3:=put_d (kd,[],[]) (hereM t).2.1 t3
    simp only [Bool.not_true,Bool.false_eq_true,if_false,if_true,c8,Fput,opt_s,ext_tup,List.getElem?_cons_zero,List.getElem?_cons_succ,chS,agS,not_bool,iteB_bool]
    generalize hp : putM (kd,[],[]) (hereM t).2.1 t3 = u at *
    obtain ⟨b4,t4⟩:=u
    simp only at e3 ⊢
    cases b4 with
    | false=>simp only [Bool.not_false,if_true,Bool.false_eq_true,if_false]
    | true =>
     simp only [Bool.not_true,Bool.false_eq_true,if_false]
     rw [(cells_S t4).1,(cells_S t4).2.1,(cells_S t4).2.2.1,(cells_S t4).2.2.2.1,(cells_S t4).2.2.2.2.1,(cells_S t4).2.2.2.2.2]
     have hl4 : t4.l.length < t.l.length:=by rw [e3.2]; omega
     have e5:=sumLoop_fuel gd t4.l.length t.l.length (t4.l.length + 1) t4 (Nat.le_refl _) hl4 (Nat.lt_succ_self _)
     refine hr _ ⟨t4,rfl,?_,by omega,?_⟩ (by simp only [gv_0,gv_s,tokensV,List.length_map]; exact hl4)
     ·rw [e3.1,e1]; exact htd
     ·rw [← ht,hsum]
      simp only [hq,hp,if_true]
      exact e5.symm
  have pm : ∀ g,isM g t = true → mayM g t = (true,popM t):=fun g h=>by simp [mayM,h]
  have pf : ∀ g,isM g t = false → mayM g t = (false,t):=fun g h=>by simp [mayM,h]
  cases h1 : isM [43] t with
  | true =>
   have h2:=is_both h1
   simp only [if_true,c2,Fhere,opt_s,ext_tup,List.getElem?_cons_zero,List.getElem?_cons_succ,chS,agS,pT1,c5,Fmay,pm _ h1,not_bool,Bool.not_true,joinP_eq,iteB_bool,Bool.false_eq_true,if_false,List.length_cons,List.length_nil,gv_0,gv_s,true_and]
   have:=step 3 (.inl h1) (by rw [if_pos h1])
   exact this
  | false =>
   cases h2 : isM [45] t with
   | true =>
    simp only [Bool.false_eq_true,if_false,if_true,c3,Fis,h2,c2,Fhere,opt_s,ext_tup,List.getElem?_cons_zero,List.getElem?_cons_succ,chS,agS,pT1,c5,Fmay,pf _ h1,pm _ h2,not_bool,Bool.not_false,joinP_eq,iteB_bool,List.length_cons,List.length_nil,gv_0,gv_s,true_and]
    have:=step 4 (.inr h2) (by rw [if_neg (by rw [h1]; simp)])
    exact this
   | false =>
    have hend : sumLoop (termOf (factorM f)) (t.l.length + 1) t = (true,t):=by
     unfold sumLoop
     rw [if_neg (by rw [h1,h2]; simp)]
    rw [hend]
    simp only [Bool.false_eq_true,if_false,c3,Fis,h2,opt_s,ext_tup,List.getElem?_cons_zero,List.getElem?_cons_succ,chS,agS,iteB_bool]
theorem fts_ok : ∀ f,SpecE Try.prog n_sche_parser_factor s_x_sche_parser_factor (F_factor f) ∧ SpecE Try.prog n_sche_parser_term s_x_sche_parser_term (F_term f) ∧ SpecE Try.prog n_sche_parser_sum s_x_sche_parser_sum (F_sum f)
 | 0=>by
  have h : SpecE Try.prog n_sche_parser_factor s_x_sche_parser_factor (F_factor 0):=by
   refine go_x_sche_parser_factor (T:=[]) TabOk.nil fun words v hv=>?_
   obtain ⟨s,rfl,⟨h1,h2⟩,rfl⟩:=specOf_inv hv
   omega
  exact ⟨h,term_ok 0 h,sum_ok 0 (term_ok 0 h)⟩
 | f + 1=>by
  have h:=factor_ok f (fts_ok f).2.2
  exact ⟨h,term_ok (f + 1) h,sum_ok (f + 1) (term_ok (f + 1) h)⟩
end Go.Fbs

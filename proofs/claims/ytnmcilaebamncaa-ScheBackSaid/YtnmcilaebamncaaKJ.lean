/- Schemas read: a type: told. -/
import Derived.Test.YtnmcilaebamncaaKI
set_option maxRecDepth 100000
namespace Go.Fbs
open Go.Proofs
attribute [local irreducible] FunWpE opt sumM factorM F_sum F_sum21 relationM subsM
theorem name_none {s : PSt} (h : (nameM s).1 = false) : (nameM s).2.2 = none:=by
 unfold nameM at h ⊢
 split at h
 ·simp at h
 ·rename_i hn; rw [if_neg hn]
theorem ag0Typ : aggK [.str [],.sl .ro []] = some (typW ([],[])):=nr rfl
noncomputable def F_one : Spec:=specOf (fun q : PSt × Int=>[vSt q.1,vI q.2]) (fun q=>q.1.d = 0) (fun q=>.tup [typW (oneM q.2 q.1).2.2,.bool (oneM q.2 q.1).1,vSt (oneM q.2 q.1).2.1])
theorem Fone {s : PSt} (h : s.d = 0) (n : Int) : F_one [vSt s,vI n] = some (.tup [typW (oneM n s).2.2,.bool (oneM n s).1,vSt (oneM n s).2.1]):=specOf_eq (a:=(s,n)) injSI h
noncomputable abbrev TO1 : List (FuncId × Spec):=[(x_sche_parser_some,F_x_sche_parser_some),(x_sche_parser_word,F_x_sche_parser_word),(x_sche_parser_fail,F_x_sche_parser_fail),(x_sche_parser_name_1,F_x_sche_parser_name_1),(x_sche_parser_may,F_x_sche_parser_may),(x_sche_parser_relation,F_relation)]
theorem one_wp (s : PSt) (n : Int) (hd : s.d = 0) : FunWpE tyT (tab TO1) 43 q_x_sche_parser_one [.cell 4 35,.tmp 5] s_x_sche_parser_one (cB Try.f33) [vSt s,vI n] (fun r=>r = V.tup [typW (oneM n s).2.2,.bool (oneM n s).1,vSt (oneM n s).2.1]):=by
 have c1 : ∀ args,tab TO1 x_sche_parser_some args = F_x_sche_parser_some args:=fun _=>rfl
 have c2 : ∀ args,tab TO1 x_sche_parser_word args = F_x_sche_parser_word args:=fun _=>rfl
 have c3 : ∀ args,tab TO1 x_sche_parser_fail args = F_x_sche_parser_fail args:=fun _=>rfl
 have c4 : ∀ args,tab TO1 x_sche_parser_name_1 args = F_x_sche_parser_name_1 args:=fun _=>rfl
 have c5 : ∀ args,tab TO1 x_sche_parser_may args = F_x_sche_parser_may args:=fun _=>rfl
 have c6 : ∀ args,tab TO1 x_sche_parser_relation args = F_relation args:=fun _=>rfl
 refine Eq.mpr (e_x_sche_parser_one (tab _) _ (tokensV s.l) (vI s.n) (vI s.at_) (vI s.e) (vI s.d) (stpsV s.x) (vI n)) ?_
 unfold oneM
 simp only [agSL,opt_s,c1,Fsome,ext_tup,List.getElem?_cons_zero,List.getElem?_cons_succ,chS,agS,not_bool,iteB_bool]
 have g1:=some_d n 200 s
 generalize someM n 200 s = a at *
 obtain ⟨b1,t1⟩:=a
 simp only at g1 ⊢
 cases b1 with
 | false=>simp only [Bool.not_false,if_true,Bool.false_eq_true,if_false,ag0Typ,opt_s]
 | true =>
 simp only [Bool.not_true,Bool.false_eq_true,if_false,if_true,opt_s,c2,Fword,ext_tup,List.getElem?_cons_zero,List.getElem?_cons_succ,chS,agS,not_bool,iteB_bool]
 have hne:=@word_ne t1
 generalize wordM t1 = w at *
 cases w with
 | false=>simp only [Bool.not_false,if_true,Bool.false_eq_true,if_false,ag0Typ,opt_s,c3,Ffail,ext_tup,List.getElem?_cons_zero,List.getElem?_cons_succ,chS,agS]
 | true =>
 have hne:=hne rfl
 simp only [Bool.not_true,Bool.false_eq_true,if_false,if_true,sl0 hne,agPop2,ag0Typ,opt_s,c4,Fname1',ext_tup,List.getElem?_cons_zero,List.getElem?_cons_succ,chS,agS,chTyp,not_bool,iteB_bool]
 have g2:=name_d (popM t1)
 have g2' : (popM t1).d = t1.d:=rfl
 have g2n:=@name_none (popM t1)
 generalize nameM (popM t1) = q at *
 obtain ⟨b2,t2,o2⟩:=q
 simp only at g2 g2n ⊢
 cases b2 with
 | false =>
  have e2 : o2 = none:=g2n rfl
  subst e2
  simp only [Bool.not_false,if_true,Bool.false_eq_true,if_false,agS,opt_s,Option.getD_none]
 | true =>
 simp only [Bool.not_true,Bool.false_eq_true,if_false,if_true,opt_s,c5,Fmay,ext_tup,List.getElem?_cons_zero,List.getElem?_cons_succ,chS,agS,not_bool,iteB_bool]
 have g3:=may_d [123] t2
 generalize mayM [123] t2 = m at *
 obtain ⟨b3,t3⟩:=m
 simp only at g3 ⊢
 have hd3 : t3.d = 0:=by rw [g3.1,g2.1,g2',g1.1,hd]
 cases b3 with
 | false=>simp only [Bool.not_false,if_true,Bool.false_eq_true,if_false,opt_s]
 | true =>
 simp only [Bool.not_true,Bool.false_eq_true,if_false,if_true]
 rw [(cells_S t3).1,(cells_S t3).2.1,(cells_S t3).2.2.1,(cells_S t3).2.2.2.1,(cells_S t3).2.2.2.2.1,(cells_S t3).2.2.2.2.2]
 refine loopP_inv (fun vs=>∃ (t : PSt) (l : List Rel),vs = [stpsV t.x,relsV l,tokensV t.l,vI t.n,vI t.at_,vI t.e,vI t.d,.str (o2.getD [])] ∧ t.d = 0 ∧ relLoop (t.l.length + 1) t l = relLoop (t3.l.length + 1) t3 [])
  (fun vs=>match gv vs 2 with | .sl _ es=>es.length | _=>0) ⟨t3,[],rfl,hd3,rfl⟩ ?_
 rintro r _ ⟨t,l,rfl,htd,ht⟩ hr
 refine ⟨rfl,?_⟩
 rw [← ht]
 have hstep : relLoop (t.l.length + 1) t l = relLoop (t.l.length + 1) t l:=rfl
 conv at hstep=>rhs; unfold relLoop
 simp only [gv_0,gv_s,agSL,opt_s,c5,Fmay,ext_tup,List.getElem?_cons_zero,List.getElem?_cons_succ,chS,agS,not_bool,iteB_bool]
 have g4:=may_d [125] t
 generalize mayM [125] t = m at *
 obtain ⟨b4,t4⟩:=m
 simp only at g4 hstep ⊢
 cases b4 with
 | true =>
  simp only [if_true] at hstep
  rw [hstep]
  simp only [Bool.not_true,Bool.false_eq_true,if_false,agTyp,opt_s,agS]
 | false =>
  simp only [Bool.false_eq_true,if_false] at hstep
  have g5:=relation_d t4 l
  have hd4 : t4.d = 0:=by rw [g4.1,htd]
  simp only [Bool.not_false,if_true,agTyp,opt_s,c6,Frelation hd4,ext_tup,List.getElem?_cons_zero,List.getElem?_cons_succ,chS,chTyp,agS,not_bool,iteB_bool]
  generalize relationM t4 l = q at *
  obtain ⟨b5,t5,l5⟩:=q
  simp only at g5 hstep ⊢
  cases b5 with
  | false =>
   simp only [Bool.false_eq_true,if_false] at hstep
   rw [hstep]
   simp only [Bool.not_false,if_true,agS,opt_s]
  | true =>
   have g6:=g5.2.2 rfl
   simp only [if_true] at hstep
   simp only [Bool.not_true,Bool.false_eq_true,if_false]
   rw [(cells_S t5).1,(cells_S t5).2.1,(cells_S t5).2.2.1,(cells_S t5).2.2.2.1,(cells_S t5).2.2.2.2.1,(cells_S t5).2.2.2.2.2]
   refine hr _ ⟨t5,l5,rfl,by rw [g5.1,hd4],?_⟩ (by simp only [gv_0,gv_s,tokensV,List.length_map]; omega)
   rw [← ht,hstep]
   exact relLoop_fuel t5.l.length _ _ _ _ (Nat.le_refl _) (Nat.lt_succ_self _) (by omega)
theorem one_ok : SpecE Try.prog n_sche_parser_one s_x_sche_parser_one F_one:=by
 refine go_x_sche_parser_one (T:=TO1) (TabOk.consE okx_sche_parser_some (TabOk.consE okx_sche_parser_word (TabOk.consE okx_sche_parser_fail (TabOk.consE okx_sche_parser_name_1 (TabOk.consE okx_sche_parser_may (TabOk.consE relation_ok TabOk.nil)))))) fun words v hv=>?_
 obtain ⟨⟨s,n⟩,rfl,hd,rfl⟩:=specOf_inv hv
 exact ⟨_,rfl,rfl,by simp [canos,vSt_cano,V.cano],by simp [canos,vSt_cano,typW_cano,V.cano],rfl,rfl,one_wp s n hd⟩
end Go.Fbs

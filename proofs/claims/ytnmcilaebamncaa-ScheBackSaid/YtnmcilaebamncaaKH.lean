/- Schemas read: subjects, relations: told. -/
import Derived.Test.YtnmcilaebamncaaKG
set_option maxRecDepth 100000
namespace Go.Fbs
open Go.Proofs
theorem sub_all (l : List Sub) : (l.map subW).all (fun e=>e.cells.length == 3) = true:=by simp [subW,V.cells]
theorem rel_all (l : List Rel) : (l.map relW).all (fun e=>e.cells.length == 3) = true:=by simp [relW,V.cells]
theorem typ_all (l : List Typ) : (l.map typW).all (fun e=>e.cells.length == 2) = true:=by simp [typW,V.cells]
theorem lenSub (l : List Sub) : lenL (subsV l) = some (vI l.length):=by simp [lenL,subsV]
theorem lenRel (l : List Rel) : lenL (relsV l) = some (vI l.length):=by simp [lenL,relsV]
theorem lenTyp (l : List Typ) : lenL (typsV l) = some (vI l.length):=by simp [lenL,typsV]
theorem appSub {l : List Sub} (h : l.length < 1000) (x : Sub) : appK 3 48 (subsV l) (.sl .ro [subW x]) = some (subsV (l ++ [x])):=by
 show appK 3 48 (.sl .ro (l.map subW)) (.sl .ro ([x].map subW)) = some (.sl .ro ((l ++ [x]).map subW))
 rw [app_s (by simp only [List.length_map,List.length_singleton]; omega) (sub_all _) (sub_all [x]),List.map_append]
theorem appRel {l : List Rel} (h : l.length < 1000) (x : Rel) : appK 3 64 (relsV l) (.sl .ro [relW x]) = some (relsV (l ++ [x])):=by
 show appK 3 64 (.sl .ro (l.map relW)) (.sl .ro ([x].map relW)) = some (.sl .ro ((l ++ [x]).map relW))
 rw [app_s (by simp only [List.length_map,List.length_singleton]; omega) (rel_all _) (rel_all [x]),List.map_append]
theorem appTyp {l : List Typ} (h : l.length < 1000) (x : Typ) : appK 2 40 (typsV l) (.sl .ro [typW x]) = some (typsV (l ++ [x])):=by
 show appK 2 40 (.sl .ro (l.map typW)) (.sl .ro ([x].map typW)) = some (.sl .ro ((l ++ [x]).map typW))
 rw [app_s (by simp only [List.length_map,List.length_singleton]; omega) (typ_all _) (typ_all [x]),List.map_append]
theorem litSub (x : Sub) : litK 3 [subW x] = some (.sl .ro [subW x]):=nr rfl
theorem litRel (x : Rel) : litK 3 [relW x] = some (.sl .ro [relW x]):=nr rfl
theorem litTyp (x : Typ) : litK 2 [typW x] = some (.sl .ro [typW x]):=nr rfl
theorem ag0Sub : aggK [.str [],.str [],.str []] = some (subW ([],[],[])):=nr rfl
theorem agSub (p : Sub) : aggK [cellD (subW p) 0,cellD (subW p) 1,cellD (subW p) 2] = some (subW p):=nr rfl
theorem chSub (p : Sub) : chkK 3 (subW p) = some (subW p):=nr rfl
theorem agRel (n : List UInt8) (l : List Sub) (x : List Stp) : aggK [.str n,subsV l,stpsV x] = some (relW (n,l,x)):=nr rfl
theorem Fname2' (s : PSt) (p : Sub) : F_x_sche_parser_name_2 [vSt s,subW p] = some (.tup [.bool (nameM s).1,vSt (nameM s).2.1,subW ((nameM s).2.2.getD p.1,p.2.1,p.2.2)]):=by
 have:=Fname2 s (b0:=.str p.1) (b1:=.str p.2.1) (b2:=.str p.2.2) rfl rfl rfl rfl rfl rfl
 rw [putN_str] at this; exact this
theorem Fname4s (s : PSt) (p : Sub) : F_x_sche_parser_name_4 [vSt s,subW p] = some (.tup [.bool (nameM s).1,vSt (nameM s).2.1,subW (p.1,p.2.1,(nameM s).2.2.getD p.2.2)]):=by
 have:=Fname4 s (b0:=.str p.1) (b1:=.str p.2.1) (b2:=.str p.2.2) rfl rfl rfl rfl rfl rfl
 rw [putN_str] at this; exact this
noncomputable def F_subjects : Spec:=specOf (fun q : PSt × Rel=>[vSt q.1,relW q.2]) (fun _=>True) (fun q=>.tup [.bool (subsM q.1 q.2.2.1).1,vSt (subsM q.1 q.2.2.1).2.1,relW (q.2.1,(subsM q.1 q.2.2.1).2.2,q.2.2.2)])
theorem Fsubjects (s : PSt) (r : Rel) : F_subjects [vSt s,relW r] = some (.tup [.bool (subsM s r.2.1).1,vSt (subsM s r.2.1).2.1,relW (r.1,(subsM s r.2.1).2.2,r.2.2)]):=specOf_eq (a:=(s,r)) (fun a b h=>by
 simp only [List.cons.injEq,and_true] at h
 exact Prod.ext (vSt_inj h.1) (relW_inj h.2)) trivial
noncomputable abbrev TB1 : List (FuncId × Spec):=[(x_sche_parser_some,F_x_sche_parser_some),(x_sche_parser_name_2,F_x_sche_parser_name_2),(x_sche_parser_name_4,F_x_sche_parser_name_4),(x_sche_parser_may,F_x_sche_parser_may)]
theorem subjects_ok : SpecE Try.prog n_sche_parser_subjects s_x_sche_parser_subjects F_subjects:=by
 refine go_x_sche_parser_subjects (T:=TB1) (TabOk.consE okx_sche_parser_some (TabOk.consE okx_sche_parser_name_2 (TabOk.consE okx_sche_parser_name_4 (TabOk.consE okx_sche_parser_may TabOk.nil)))) fun words v hv=>?_
 have c1 : ∀ args,tab TB1 x_sche_parser_some args = F_x_sche_parser_some args:=fun _=>rfl
 have c2 : ∀ args,tab TB1 x_sche_parser_name_2 args = F_x_sche_parser_name_2 args:=fun _=>rfl
 have c3 : ∀ args,tab TB1 x_sche_parser_name_4 args = F_x_sche_parser_name_4 args:=fun _=>rfl
 have c5 : ∀ args,tab TB1 x_sche_parser_may args = F_x_sche_parser_may args:=fun _=>rfl
 obtain ⟨⟨s,nm,subs,ex⟩,rfl,_,rfl⟩:=specOf_inv hv
 refine ⟨_,rfl,rfl,by simp [canos,vSt_cano,relW_cano],by simp [canos,vSt_cano,relW_cano,V.cano],rfl,rfl,?_⟩
 refine Eq.mpr (e_x_sche_parser_subjects (tab _) _ (tokensV s.l) (vI s.n) (vI s.at_) (vI s.e) (vI s.d) (stpsV s.x) (.str nm) (subsV subs) (stpsV ex)) ?_
 dsimp only
 refine loopP_inv (fun vs=>∃ (t : PSt) (l : List Sub) (more : Bool),vs = [stpsV t.x,subsV l,.bool more,tokensV t.l,vI t.n,vI t.at_,vI t.e,vI t.d] ∧ (if more then subLoop (t.l.length + 1) t l else (true,t,l)) = subsM s subs)
  (fun vs=>match gv vs 3 with | .sl _ es=>es.length | _=>0) ⟨s,subs,true,rfl,rfl⟩ ?_
 rintro r _ ⟨t,l,more,rfl,ht⟩ hr
 refine ⟨rfl,?_⟩
 rw [← ht]
 simp only [gv_0,gv_s,iteB_bool]
 cases more with
 | false=>simp only [Bool.false_eq_true,if_false,agSL,opt_s,agRel]
 | true =>
  simp only [if_true,lenSub,agSL,opt_s,c1,Fsome,ext_tup,List.getElem?_cons_zero,List.getElem?_cons_succ,chS,agS,not_bool,iteB_bool]
  simp only [if_true] at ht
  have hstep : subLoop (t.l.length + 1) t l = subLoop (t.l.length + 1) t l:=rfl
  conv at hstep=>rhs; unfold subLoop
  have g1:=some_d l.length 50 t
  generalize ha : someM l.length 50 t = a at *
  obtain ⟨b1,t1⟩:=a
  simp only at g1 hstep ⊢
  cases b1 with
  | false =>
   simp only [Bool.false_eq_true,if_false] at hstep
   rw [hstep]
   simp only [Bool.not_false,if_true,agRel,opt_s]
  | true =>
   have hlt : l.length < 1000:=by have:=(g1.2.2 rfl).1; omega
   simp only [if_true] at hstep
   simp only [Bool.not_true,Bool.false_eq_true,if_false,ag0Sub,opt_s,c2,Fname2',ext_tup,List.getElem?_cons_zero,List.getElem?_cons_succ,chS,agS,chSub,not_bool,iteB_bool]
   have g2:=name_lt (s:=t1)
   generalize hn : nameM t1 = n at *
   obtain ⟨b2,t2,o2⟩:=n
   simp only at g2 hstep ⊢
   cases b2 with
   | false =>
    simp only [Bool.false_eq_true,if_false] at hstep
    rw [hstep]
    simp only [Bool.not_false,if_true,agRel,opt_s]
   | true =>
    have g2:=g2 rfl
    simp only [if_true] at hstep
    simp only [Bool.not_true,Bool.false_eq_true,if_false,opt_s,c5,Fmay,ext_tup,List.getElem?_cons_zero,List.getElem?_cons_succ,chS,agS,ckB,iteB_bool]
    have g3:=may_d [35] t2
    generalize hm : mayM [35] t2 = m at *
    obtain ⟨b3,t3⟩:=m
    simp only at g3 hstep ⊢
    have next : ∀ (x : Sub) (t4 : PSt),t4.l.length < t.l.length → subLoop (t.l.length + 1) t l = (let b:=mayM [124] t4; if b.1 then subLoop t.l.length b.2 (l ++ [x]) else (true,b.2,l ++ [x])) →
      r [cellD (vSt (mayM [124] t4).2) 5,subsV (l ++ [x]),.bool (mayM [124] t4).1,cellD (vSt (mayM [124] t4).2) 0,cellD (vSt (mayM [124] t4).2) 1,cellD (vSt (mayM [124] t4).2) 2,cellD (vSt (mayM [124] t4).2) 3,cellD (vSt (mayM [124] t4).2) 4]:=by
     intro x t4 h4 hs
     have g5:=may_d [124] t4
     generalize mayM [124] t4 = q at *
     obtain ⟨b5,t5⟩:=q
     simp only at g5 hs ⊢
     refine hr _ ⟨t5,l ++ [x],b5,rfl,?_⟩ (by
      rw [(cells_S t5).1]
      simp only [gv_0,gv_s,tokensV,List.length_map]; omega)
     rw [← ht,hs]
     cases b5 with
     | false=>rfl
     | true =>
      simp only [if_true]
      exact subLoop_fuel t5.l.length _ _ _ _ (Nat.le_refl _) (Nat.lt_succ_self _) (by omega)
    have hl1 : t1.l.length = t.l.length:=by rw [g1.2.1]
    cases b3 with
    | false =>
     simp only [Bool.false_eq_true,if_false] at hstep
     simp only [Bool.false_eq_true,if_false,litSub,appSub hlt,opt_s,agS,c5,Fmay,ext_tup,List.getElem?_cons_zero,List.getElem?_cons_succ,chS]
     exact next _ t3 (by omega) hstep
    | true =>
     simp only [if_true] at hstep
     simp only [if_true,agSub,opt_s,c3,Fname4s,ext_tup,List.getElem?_cons_zero,List.getElem?_cons_succ,chS,chSub,agS,not_bool,iteB_bool]
     have g4:=name_d t3
     generalize hq : nameM t3 = q at *
     obtain ⟨b4,t4,o4⟩:=q
     simp only at g4 hstep ⊢
     cases b4 with
     | false =>
      simp only [Bool.false_eq_true,if_false] at hstep
      rw [hstep]
      simp only [Bool.not_false,if_true,agRel,opt_s]
     | true =>
      simp only [if_true] at hstep
      simp only [Bool.not_true,Bool.false_eq_true,if_false,litSub,appSub hlt,opt_s,c5,Fmay,ext_tup,List.getElem?_cons_zero,List.getElem?_cons_succ,chS]
      exact next _ t4 (by omega) hstep
end Go.Fbs

/- Schemas read: a relation: told. -/
import Derived.Test.YtnmcilaebamncaaKH
set_option maxRecDepth 100000
namespace Go.Fbs
open Go.Proofs
theorem typW_inj {a b : Typ} (h : typW a = typW b) : a = b:=by
 obtain ⟨k,n⟩:=a
 obtain ⟨k',n'⟩:=b
 simp only [typW,relsV,V.agg.injEq,List.cons.injEq,V.str.injEq,V.sl.injEq,and_true,true_and] at h
 obtain ⟨h1,h2⟩:=h
 rw [h1,map_injV (fun _ _=>relW_inj) h2]
theorem agTyp (n : List UInt8) (l : List Rel) : aggK [.str n,relsV l] = some (typW (n,l)):=nr rfl
theorem chTyp (p : Typ) : chkK 2 (typW p) = some (typW p):=nr rfl
theorem chRel (p : Rel) : chkK 3 (relW p) = some (relW p):=nr rfl
theorem ag0Rel : aggK [.str [],.sl .ro [],.sl .ro []] = some (relW ([],[],[])):=nr rfl
theorem agRel' (p : Rel) : aggK [cellD (relW p) 0,cellD (relW p) 1,cellD (relW p) 2] = some (relW p):=nr rfl
theorem agRelX (p : Rel) (x : List Stp) : aggK [cellD (relW p) 0,cellD (relW p) 1,stpsV x] = some (relW (p.1,p.2.1,x)):=nr rfl
theorem agNoX (s : PSt) : aggK [cellD (vSt s) 0,cellD (vSt s) 1,cellD (vSt s) 2,cellD (vSt s) 3,cellD (vSt s) 4,.sl .ro []] = some (vSt { s with x:=[] }):=nr rfl
theorem Fname0' (s : PSt) (p : Rel) : F_x_sche_parser_name_0 [vSt s,relW p] = some (.tup [.bool (nameM s).1,vSt (nameM s).2.1,relW ((nameM s).2.2.getD p.1,p.2.1,p.2.2)]):=by
 have:=Fname0 s (b0:=.str p.1) (b1:=subsV p.2.1) (b2:=stpsV p.2.2) rfl rfl rfl (subsV_cano _) rfl (stpsV_cano _) ⟨_,rfl⟩
 rw [putN_str] at this; exact this
theorem Fname1' (s : PSt) (p : Typ) : F_x_sche_parser_name_1 [vSt s,typW p] = some (.tup [.bool (nameM s).1,vSt (nameM s).2.1,typW ((nameM s).2.2.getD p.1,p.2)]):=by
 have:=Fname1 s (b0:=.str p.1) (b1:=relsV p.2) rfl rfl rfl (relsV_cano _) ⟨_,rfl⟩
 rw [putN_str] at this; exact this
noncomputable def F_sum21 : Spec:=F_sum 21
theorem sum21_ok : SpecE Try.prog n_sche_parser_sum s_x_sche_parser_sum F_sum21:=(fts_ok 21).2.2
theorem Fsum21 {s : PSt} (h : s.d = 0) : F_sum21 [vSt s] = some (.tup [.bool (sumM s).1,vSt (sumM s).2]):=by
 unfold F_sum21 sumM
 exact Fsum (f:=21) (s:=s) ⟨by omega,by omega⟩
attribute [local irreducible] FunWpE opt sumM factorM F_sum F_sum21 relationM subsM
noncomputable def F_relation : Spec:=specOf (fun q : PSt × Typ=>[vSt q.1,typW q.2]) (fun q=>q.1.d = 0) (fun q=>.tup [.bool (relationM q.1 q.2.2).1,vSt (relationM q.1 q.2.2).2.1,typW (q.2.1,(relationM q.1 q.2.2).2.2)])
theorem Frelation {s : PSt} (h : s.d = 0) (r : Typ) : F_relation [vSt s,typW r] = some (.tup [.bool (relationM s r.2).1,vSt (relationM s r.2).2.1,typW (r.1,(relationM s r.2).2.2)]):=specOf_eq (a:=(s,r)) (fun a b h=>by
 simp only [List.cons.injEq,and_true] at h
 exact Prod.ext (vSt_inj h.1) (typW_inj h.2)) h
noncomputable abbrev TR1 : List (FuncId × Spec):=[(x_sche_parser_some,F_x_sche_parser_some),(x_sche_parser_name_0,F_x_sche_parser_name_0),(x_sche_parser_may,F_x_sche_parser_may),(x_sche_parser_sum,F_sum21),(x_sche_parser_sign,F_x_sche_parser_sign),(x_sche_parser_subjects,F_subjects)]
theorem relation_wp (s : PSt) (nm : List UInt8) (rels : List Rel) (hd : s.d = 0) : FunWpE tyT (tab TR1) 53 q_x_sche_parser_relation [.tmp 4] s_x_sche_parser_relation (cB Try.f64) [vSt s,typW (nm,rels)] (fun r=>r = V.tup [.bool (relationM s rels).1,vSt (relationM s rels).2.1,typW (nm,(relationM s rels).2.2)]):=by
 have c1 : ∀ args,tab TR1 x_sche_parser_some args = F_x_sche_parser_some args:=fun _=>rfl
 have c2 : ∀ args,tab TR1 x_sche_parser_name_0 args = F_x_sche_parser_name_0 args:=fun _=>rfl
 have c3 : ∀ args,tab TR1 x_sche_parser_may args = F_x_sche_parser_may args:=fun _=>rfl
 have c4 : ∀ args,tab TR1 x_sche_parser_sum args = F_sum21 args:=fun _=>rfl
 have c5 : ∀ args,tab TR1 x_sche_parser_sign args = F_x_sche_parser_sign args:=fun _=>rfl
 have c6 : ∀ args,tab TR1 x_sche_parser_subjects args = F_subjects args:=fun _=>rfl
 refine Eq.mpr (e_x_sche_parser_relation (tab _) _ (tokensV s.l) (vI s.n) (vI s.at_) (vI s.e) (vI s.d) (stpsV s.x) (.str nm) (relsV rels)) ?_
 unfold relationM
 simp only [lenRel,agSL,opt_s,c1,Fsome,ext_tup,List.getElem?_cons_zero,List.getElem?_cons_succ,chS,agS,not_bool,iteB_bool]
 have g1:=some_d rels.length 200 s
 generalize someM rels.length 200 s = a at *
 obtain ⟨b1,t1⟩:=a
 simp only at g1 ⊢
 cases b1 with
 | false=>simp only [Bool.not_false,if_true,Bool.false_eq_true,if_false,agTyp,opt_s]
 | true =>
 have hlt : rels.length < 1000:=by have:=(g1.2.2 rfl).1; omega
 simp only [Bool.not_true,Bool.false_eq_true,if_false,if_true,ag0Rel,opt_s,c2,Fname0',ext_tup,List.getElem?_cons_zero,List.getElem?_cons_succ,chS,agS,chRel,not_bool,iteB_bool]
 have g2:=name_d t1
 generalize nameM t1 = n at *
 obtain ⟨b2,t2,o2⟩:=n
 simp only at g2 ⊢
 cases b2 with
 | false=>simp only [Bool.not_false,if_true,Bool.false_eq_true,if_false,agTyp,opt_s]
 | true =>
 simp only [Bool.not_true,Bool.false_eq_true,if_false,if_true,opt_s,c3,Fmay,ext_tup,List.getElem?_cons_zero,List.getElem?_cons_succ,chS,agS,ckB,iteB_bool]
 have g3:=may_d [61] t2
 generalize mayM [61] t2 = m at *
 obtain ⟨b3,t3⟩:=m
 simp only at g3 ⊢
 have hd3 : t3.d = 0:=by rw [g3.1,g2.1,g1.1,hd]
 cases b3 with
 | true =>
  have hd4 : ({ t3 with x:=[] } : PSt).d = 0:=hd3
  simp only [if_true,agNoX,opt_s,c4,Fsum21 hd4,ext_tup,List.getElem?_cons_zero,List.getElem?_cons_succ,chS,agS,not_bool,iteB_bool]
  generalize sumM { t3 with x:=[] } = q at *
  obtain ⟨b4,t4⟩:=q
  simp only
  cases b4 with
  | false=>simp only [Bool.not_false,if_true,Bool.false_eq_true,if_false,agTyp,opt_s,joinP_eq]
  | true =>
   rw [(cells_S t4).2.2.2.2.2]
   simp only [Bool.not_true,Bool.false_eq_true,if_false,if_true,joinP_eq,List.length_cons,List.length_nil,gv_0,gv_s,true_and,agRelX,opt_s,litRel,appRel hlt,c5]
   rw [← (cells_S t4).2.2.2.2.2]
   simp only [agS,Fsign,opt_s,ext_tup,List.getElem?_cons_zero,List.getElem?_cons_succ,chS,agTyp]
 | false =>
  simp only [Bool.false_eq_true,if_false,opt_s,c5,Fsign,ext_tup,List.getElem?_cons_zero,List.getElem?_cons_succ,chS,agS,not_bool,iteB_bool]
  generalize signM [58] t3 = c at *
  obtain ⟨b4,t4⟩:=c
  simp only
  cases b4 with
  | false=>simp only [Bool.not_false,if_true,Bool.false_eq_true,if_false,agTyp,opt_s,joinP_eq]
  | true =>
   simp only [Bool.not_true,Bool.false_eq_true,if_false,if_true,agRel',opt_s,c6,Fsubjects,ext_tup,List.getElem?_cons_zero,List.getElem?_cons_succ,chS,agS,chRel,not_bool,iteB_bool]
   generalize subsM t4 [] = q at *
   obtain ⟨b5,t5,sb⟩:=q
   simp only
   cases b5 with
   | false=>simp only [Bool.not_false,if_true,Bool.false_eq_true,if_false,agTyp,opt_s,joinP_eq]
   | true =>
    simp only [Bool.not_true,Bool.false_eq_true,if_false,if_true,joinP_eq,List.length_cons,List.length_nil,gv_0,gv_s,true_and,agRel',opt_s,litRel,appRel hlt,c5,agS,Fsign,ext_tup,List.getElem?_cons_zero,List.getElem?_cons_succ,chS,agTyp]
theorem relation_ok : SpecE Try.prog n_sche_parser_relation s_x_sche_parser_relation F_relation:=by
 refine go_x_sche_parser_relation (T:=TR1) (TabOk.consE okx_sche_parser_some (TabOk.consE okx_sche_parser_name_0 (TabOk.consE okx_sche_parser_may (TabOk.consE sum21_ok (TabOk.consE okx_sche_parser_sign (TabOk.consE subjects_ok TabOk.nil)))))) fun words v hv=>?_
 obtain ⟨⟨s,nm,rels⟩,rfl,hd,rfl⟩:=specOf_inv hv
 exact ⟨_,rfl,rfl,by simp [canos,vSt_cano,typW_cano],by simp [canos,vSt_cano,typW_cano,V.cano],rfl,rfl,relation_wp s nm rels hd⟩
end Go.Fbs

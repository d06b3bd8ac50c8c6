/- Schemas read: factors, terms, sums: told. -/
import Derived.Test.YtnmcilaebamncaaKD
set_option maxRecDepth 100000
namespace Go.Fbs
open Go.Proofs
def okF (f : Nat) (s : PSt) : Prop:=s.d ≤ 20 ∧ 21 ≤ s.d + f
noncomputable def F_factor (f : Nat) : Spec:=specOf (fun s : PSt=>[vSt s]) (okF f) (fun s=>.tup [.bool (factorM f s).1,vSt (factorM f s).2])
noncomputable def F_term (f : Nat) : Spec:=specOf (fun s : PSt=>[vSt s]) (okF f) (fun s=>.tup [.bool (termOf (factorM f) s).1,vSt (termOf (factorM f) s).2])
noncomputable def F_sum (f : Nat) : Spec:=specOf (fun s : PSt=>[vSt s]) (okF f) (fun s=>.tup [.bool (sumOf (termOf (factorM f)) s).1,vSt (sumOf (termOf (factorM f)) s).2])
theorem Ffactor {f : Nat} {s : PSt} (h : okF f s) : F_factor f [vSt s] = some (.tup [.bool (factorM f s).1,vSt (factorM f s).2]):=specOf_eq inj1 h
theorem Fterm {f : Nat} {s : PSt} (h : okF f s) : F_term f [vSt s] = some (.tup [.bool (termOf (factorM f) s).1,vSt (termOf (factorM f) s).2]):=specOf_eq inj1 h
theorem Fsum {f : Nat} {s : PSt} (h : okF f s) : F_sum f [vSt s] = some (.tup [.bool (sumOf (termOf (factorM f)) s).1,vSt (sumOf (termOf (factorM f)) s).2]):=specOf_eq inj1 h
theorem agSt (p : Stp) : aggK [cellD (stpW p) 0,cellD (stpW p) 1,cellD (stpW p) 2] = some (stpW p):=nr rfl
theorem chSt (p : Stp) : chkK 3 (stpW p) = some (stpW p):=nr rfl
theorem ag2St (p : Stp) (k : Int) : aggK [vI k,cellD (stpW p) 1,cellD (stpW p) 2] = some (stpW (k,p.2.1,p.2.2)):=nr rfl
theorem ag0St (k : Int) : aggK [vI k,.str [],.str []] = some (stpW (k,[],[])):=nr rfl
theorem putN_str (o : Option (List UInt8)) (x : List UInt8) : putN o (.str x) = .str (o.getD x):=by cases o <;> rfl
theorem Fname3' (s : PSt) (p : Stp) : F_x_sche_parser_name_3 [vSt s,stpW p] = some (.tup [.bool (nameM s).1,vSt (nameM s).2.1,stpW (p.1,(nameM s).2.2.getD p.2.1,p.2.2)]):=by
 have:=Fname3 s (b0:=vI p.1) (b1:=.str p.2.1) (b2:=.str p.2.2) rfl rfl rfl rfl rfl rfl
 rw [putN_str] at this; exact this
theorem Fname4' (s : PSt) (p : Stp) : F_x_sche_parser_name_4 [vSt s,stpW p] = some (.tup [.bool (nameM s).1,vSt (nameM s).2.1,stpW (p.1,p.2.1,(nameM s).2.2.getD p.2.2)]):=by
 have:=Fname4 s (b0:=vI p.1) (b1:=.str p.2.1) (b2:=.str p.2.2) rfl rfl rfl rfl rfl rfl
 rw [putN_str] at this; exact this
theorem agD (s : PSt) (d : Nat) : aggK [cellD (vSt s) 0,cellD (vSt s) 1,cellD (vSt s) 2,cellD (vSt s) 3,vI d,cellD (vSt s) 5] = some (vSt { s with d:=d }):=nr rfl
theorem eqD (s : PSt) : binK .eql (cellD (vSt s) 4) (vI 20) = some (.bool (decide (s.d = 20))):=by
 have : cellD (vSt s) 4 = vI s.d:=rfl
 rw [this,bEql]
 congr 2
 rw [decide_eq_decide]; omega
theorem addD {s : PSt} (h : s.d ≤ 30) : binK .add (cellD (vSt s) 4) (vI 1) = some (vI (s.d + 1 : Nat)):=by
 have : cellD (vSt s) 4 = vI s.d:=rfl
 rw [this,bAdd,wrap_in (by omega) (by omega)]; rfl
theorem subD {s : PSt} (h : 1 ≤ s.d) (h2 : s.d ≤ 30) : binK .sub (cellD (vSt s) 4) (vI 1) = some (vI (s.d - 1 : Nat)):=by
 have : cellD (vSt s) 4 = vI s.d:=rfl
 rw [this,bSub,wrap_in (by omega) (by omega)]
 congr 2; omega
noncomputable abbrev TF (f : Nat) : List (FuncId × Spec):=[(x_sche_parser_is,F_x_sche_parser_is),(x_sche_parser_here,F_x_sche_parser_here),(x_sche_parser_fail,F_x_sche_parser_fail),(x_sche_parser_sign,F_x_sche_parser_sign),(x_sche_parser_may,F_x_sche_parser_may),
 (x_sche_parser_name_3,F_x_sche_parser_name_3),(x_sche_parser_name_4,F_x_sche_parser_name_4),(x_sche_parser_put,F_x_sche_parser_put),(x_sche_parser_sum,F_sum f)]
theorem factor_ok (f : Nat) (hsum : SpecE Try.prog n_sche_parser_sum s_x_sche_parser_sum (F_sum f)) : SpecE Try.prog n_sche_parser_factor s_x_sche_parser_factor (F_factor (f + 1)):=by
 refine go_x_sche_parser_factor (T:=TF f) (TabOk.consE okx_sche_parser_is (TabOk.consE okx_sche_parser_here (TabOk.consE okx_sche_parser_fail (TabOk.consE okx_sche_parser_sign (TabOk.consE okx_sche_parser_may (TabOk.consE okx_sche_parser_name_3 (TabOk.consE okx_sche_parser_name_4 (TabOk.consE okx_sche_parser_put (TabOk.consE hsum TabOk.nil))))))))) fun words v hv=>?_
 have c1 : ∀ args,tab (TF f) x_sche_parser_is args = F_x_sche_parser_is args:=fun _=>rfl
 have c2 : ∀ args,tab (TF f) x_sche_parser_here args = F_x_sche_parser_here args:=fun _=>rfl
 have c3 : ∀ args,tab (TF f) x_sche_parser_fail args = F_x_sche_parser_fail args:=fun _=>rfl
 have c4 : ∀ args,tab (TF f) x_sche_parser_sign args = F_x_sche_parser_sign args:=fun _=>rfl
 have c5 : ∀ args,tab (TF f) x_sche_parser_may args = F_x_sche_parser_may args:=fun _=>rfl
 have c6 : ∀ args,tab (TF f) x_sche_parser_name_3 args = F_x_sche_parser_name_3 args:=fun _=>rfl
 have c7 : ∀ args,tab (TF f) x_sche_parser_name_4 args = F_x_sche_parser_name_4 args:=fun _=>rfl
 have c8 : ∀ args,tab (TF f) x_sche_parser_put args = F_x_sche_parser_put args:=fun _=>rfl
 have c9 : ∀ args,tab (TF f) x_sche_parser_sum args = F_sum f args:=fun _=>rfl
 obtain ⟨s,rfl,⟨hd,hf⟩,rfl⟩:=specOf_inv hv
 refine ⟨_,rfl,rfl,by simp [canos,vSt_cano,V.cano],by simp [canos,vSt_cano,V.cano],rfl,rfl,?_⟩
 refine Eq.mpr (e_x_sche_parser_factor (tab _) _ (tokensV s.l) (vI s.n) (vI s.at_) (vI s.e) (vI s.d) (stpsV s.x)) ?_
 rw [show factorM (f + 1) s = factorOf (sumOf (termOf (factorM f))) s from rfl]
 simp only [sS,if_true,if_false,reduceCtorEq,agS0,c1,Fis,List.getElem?_cons_zero,List.getElem?_cons_succ,chS,agS]
 unfold factorOf
 cases hi : isM [40] s with
 | true =>
  simp only [Bool.not_true,Bool.false_eq_true,if_false,if_true,eqD,opt_s,iteB_bool]
  by_cases h20 : s.d = 20
  ·simp only [h20,decide_true,if_true,c3,Ffail,opt_s,ext_tup,List.getElem?_cons_zero,List.getElem?_cons_succ,chS,agS]
  ·simp only [h20,decide_false,Bool.false_eq_true,if_false,addD (show s.d ≤ 30 by omega),opt_s,agD]
   have hs : signM [40] { s with d:=s.d + 1 } = (true,popM { s with d:=s.d + 1 }):=by
    unfold signM
    rw [if_pos (show isM [40] { s with d:=s.d + 1 } = true from hi)]
   have hok : okF f (popM { s with d:=s.d + 1 }):=⟨by show s.d + 1 ≤ 20; omega,by show 21 ≤ s.d + 1 + f; omega⟩
   simp only [c4,Fsign,hs,opt_s,ext_tup,List.getElem?_cons_zero,List.getElem?_cons_succ,chS,agS,ckB,iteB_true,c9,Fsum hok]
   have hgd : (sumOf (termOf (factorM f)) (popM { s with d:=s.d + 1 })).2.d = s.d + 1:=(good_sum (good_term (good_M f))).d _
   generalize sumOf (termOf (factorM f)) (popM { s with d:=s.d + 1 }) = r at *
   obtain ⟨b,s2⟩:=r
   simp only at hgd ⊢
   cases b with
   | true =>
    have h5:=(sign_d [41] s2).1
    simp only [iteB_true,if_true,opt_s,Fsign,ext_tup,List.getElem?_cons_zero,List.getElem?_cons_succ,chS,subD (s:=(signM [41] s2).2) (by omega) (by omega),agD]
   | false =>
    simp only [iteB_false,Bool.false_eq_true,if_false,opt_s,subD (s:=s2) (by omega) (by omega),agD]
 | false =>
  simp only [Bool.not_false,Bool.false_eq_true,if_false,if_true,opt_s,ag0St,c2,Fhere,ext_tup,List.getElem?_cons_zero,List.getElem?_cons_succ,chS,agS,pT1,agSt,c6,Fname3',chSt,not_bool]
  generalize hr : nameM s = r
  obtain ⟨b,s1,o⟩:=r
  simp only [iteB_bool]
  cases b with
  | false=>simp only [Bool.not_false,if_true,Bool.false_eq_true,if_false]
  | true =>
   simp only [Bool.not_true,Bool.false_eq_true,if_false,if_true,c5,Fmay,opt_s,ext_tup,List.getElem?_cons_zero,List.getElem?_cons_succ,chS,agS,joinP_eq,iteB_bool]
   generalize hm : mayM [45,62] s1 = m
   obtain ⟨b2,s2⟩:=m
   simp only
   cases b2 with
   | false =>
    simp only [Bool.false_eq_true,if_false,List.length_cons,List.length_nil,gv_0,gv_s,agSt,agS,opt_s,c8,Fput,ext_tup,List.getElem?_cons_zero,List.getElem?_cons_succ,chS,true_and]
   | true =>
    simp only [if_true,ag2St,opt_s,c7,Fname4',ext_tup,List.getElem?_cons_zero,List.getElem?_cons_succ,chS,chSt,not_bool,iteB_bool]
    generalize hq : nameM s2 = q
    obtain ⟨b3,s3,o3⟩:=q
    simp only
    cases b3 with
    | false=>simp only [Bool.not_false,if_true,agS,opt_s,Bool.false_eq_true,if_false]
    | true =>
     simp only [Bool.not_true,Bool.false_eq_true,if_false,if_true,List.length_cons,List.length_nil,gv_0,gv_s,agSt,agS,opt_s,c8,Fput,ext_tup,List.getElem?_cons_zero,List.getElem?_cons_succ,chS,true_and]
end Go.Fbs

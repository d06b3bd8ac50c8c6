/- Schemas read: signs, names. -/
import Derived.Test.YtnmcilaebamncaaKA
set_option maxRecDepth 100000
namespace Go.Fbs
open Go.Proofs
noncomputable def F_x_sche_parser_is : Spec:=specOf (fun q : PSt × List UInt8=>[vSt q.1,.str q.2]) (fun _=>True) (fun q=>.tup [.bool (isM q.2 q.1),vSt q.1])
theorem injSS : ∀ a b : PSt × List UInt8,[vSt a.1,V.str a.2] = [vSt b.1,V.str b.2] → a = b:=fun a b h=>by
 simp only [List.cons.injEq,V.str.injEq,and_true] at h
 exact Prod.ext (vSt_inj h.1) h.2
theorem Fis (s : PSt) (g : List UInt8) : F_x_sche_parser_is [vSt s,.str g] = some (.tup [.bool (isM g s),vSt s]):=specOf_eq (a:=(s,g)) injSS trivial
noncomputable abbrev T1 : List (FuncId × Spec):=[(x_sche_parser_here,F_x_sche_parser_here)]
theorem okx_sche_parser_is : SpecE Try.prog n_sche_parser_is s_x_sche_parser_is F_x_sche_parser_is:=by
 refine go_x_sche_parser_is (T:=[(x_sche_parser_here,F_x_sche_parser_here)]) (TabOk.consE okx_sche_parser_here TabOk.nil) fun words v hv=>?_
 have c1 : ∀ args,tab [(x_sche_parser_here,F_x_sche_parser_here)] x_sche_parser_here args = F_x_sche_parser_here args:=fun _=>rfl
 obtain ⟨⟨s,g⟩,rfl,_,rfl⟩:=specOf_inv hv
 refine ⟨_,rfl,rfl,by simp [canos,vSt_cano,V.cano],by simp [canos,vSt_cano,V.cano],rfl,rfl,?_⟩
 refine Eq.mpr (e_x_sche_parser_is (tab _) _ (tokensV s.l) (vI s.n) (vI s.at_) (vI s.e) (vI s.d) (stpsV s.x) (.str g)) ?_
 simp only [sS,if_true,if_false,reduceCtorEq,agS0,c1,Fhere,List.getElem?_cons_zero,List.getElem?_cons_succ,chS,chT,cT0,cT2,agS,isM]
noncomputable def F_x_sche_parser_word : Spec:=specOf (fun s : PSt=>[vSt s]) (fun _=>True) (fun s=>.tup [.bool (wordM s),vSt s])
theorem Fword (s : PSt) : F_x_sche_parser_word [vSt s] = some (.tup [.bool (wordM s),vSt s]):=specOf_eq inj1 trivial
theorem okx_sche_parser_word : SpecE Try.prog n_sche_parser_word s_x_sche_parser_word F_x_sche_parser_word:=by
 refine go_x_sche_parser_word (T:=[(x_sche_parser_here,F_x_sche_parser_here)]) (TabOk.consE okx_sche_parser_here TabOk.nil) fun words v hv=>?_
 have c1 : ∀ args,tab [(x_sche_parser_here,F_x_sche_parser_here)] x_sche_parser_here args = F_x_sche_parser_here args:=fun _=>rfl
 obtain ⟨s,rfl,_,rfl⟩:=specOf_inv hv
 refine ⟨_,rfl,rfl,by simp [canos,vSt_cano,V.cano],by simp [canos,vSt_cano,V.cano],rfl,rfl,?_⟩
 refine Eq.mpr (e_x_sche_parser_word (tab _) _ (tokensV s.l) (vI s.n) (vI s.at_) (vI s.e) (vI s.d) (stpsV s.x)) ?_
 simp only [sS,if_true,if_false,reduceCtorEq,agS0,c1,Fhere,List.getElem?_cons_zero,List.getElem?_cons_succ,chS,chT,cT0,cT2,agS,wordM]
noncomputable def F_x_sche_parser_some : Spec:=specOf (fun q : PSt × Int × Int=>[vSt q.1,vI q.2.1,vI q.2.2]) (fun _=>True) (fun q=>.tup [.bool (someM q.2.1 q.2.2 q.1).1,vSt (someM q.2.1 q.2.2 q.1).2])
theorem Fsome (s : PSt) (a b : Int) : F_x_sche_parser_some [vSt s,vI a,vI b] = some (.tup [.bool (someM a b s).1,vSt (someM a b s).2]):=specOf_eq (a:=(s,a,b)) (fun a b h=>by
 simp only [List.cons.injEq,V.int.injEq,and_true,true_and] at h
 exact Prod.ext (vSt_inj h.1) (Prod.ext h.2.1 h.2.2)) trivial
theorem okx_sche_parser_some : SpecE Try.prog n_sche_parser_some s_x_sche_parser_some F_x_sche_parser_some:=by
 refine go_x_sche_parser_some (T:=[(x_sche_parser_fail,F_x_sche_parser_fail)]) (TabOk.consE okx_sche_parser_fail TabOk.nil) fun words v hv=>?_
 have c1 : ∀ args,tab [(x_sche_parser_fail,F_x_sche_parser_fail)] x_sche_parser_fail args = F_x_sche_parser_fail args:=fun _=>rfl
 obtain ⟨⟨s,a,b⟩,rfl,_,rfl⟩:=specOf_inv hv
 refine ⟨_,rfl,rfl,by simp [canos,vSt_cano,V.cano],by simp [canos,vSt_cano,V.cano],rfl,rfl,?_⟩
 refine Eq.mpr (e_x_sche_parser_some (tab _) _ (tokensV s.l) (vI s.n) (vI s.at_) (vI s.e) (vI s.d) (stpsV s.x) (vI a) (vI b)) ?_
 simp only [sS,if_true,if_false,reduceCtorEq,agS0,c1,Ffail,List.getElem?_cons_zero,List.getElem?_cons_succ,chS,agS,someM]
 by_cases h : a < b <;> simp [h]
noncomputable def F_x_sche_parser_sign : Spec:=specOf (fun q : PSt × List UInt8=>[vSt q.1,.str q.2]) (fun _=>True) (fun q=>.tup [.bool (signM q.2 q.1).1,vSt (signM q.2 q.1).2])
theorem Fsign (s : PSt) (g : List UInt8) : F_x_sche_parser_sign [vSt s,.str g] = some (.tup [.bool (signM g s).1,vSt (signM g s).2]):=specOf_eq (a:=(s,g)) injSS trivial
noncomputable abbrev T2 : List (FuncId × Spec):=[(x_sche_parser_is,F_x_sche_parser_is),(x_sche_parser_fail,F_x_sche_parser_fail)]
theorem okx_sche_parser_sign : SpecE Try.prog n_sche_parser_sign s_x_sche_parser_sign F_x_sche_parser_sign:=by
 refine go_x_sche_parser_sign (T:=T2) (TabOk.consE okx_sche_parser_is (TabOk.consE okx_sche_parser_fail TabOk.nil)) fun words v hv=>?_
 have c1 : ∀ args,tab T2 x_sche_parser_is args = F_x_sche_parser_is args:=fun _=>rfl
 have c2 : ∀ args,tab T2 x_sche_parser_fail args = F_x_sche_parser_fail args:=fun _=>rfl
 obtain ⟨⟨s,g⟩,rfl,_,rfl⟩:=specOf_inv hv
 refine ⟨_,rfl,rfl,by simp [canos,vSt_cano,V.cano],by simp [canos,vSt_cano,V.cano],rfl,rfl,?_⟩
 refine Eq.mpr (e_x_sche_parser_sign (tab _) _ (tokensV s.l) (vI s.n) (vI s.at_) (vI s.e) (vI s.d) (stpsV s.x) (.str g)) ?_
 simp only [sS,if_true,if_false,reduceCtorEq,agS0,c1,c2,Fis,Ffail,List.getElem?_cons_zero,List.getElem?_cons_succ,chS,agS,signM]
 cases h : isM g s with
 | false=>simp only [Bool.not_false,if_true,Bool.false_eq_true,if_false]
 | true=>simp only [Bool.not_true,if_true,Bool.false_eq_true,if_false,sl0 (is_ne h),opt_s,agPop2]
noncomputable def F_x_sche_parser_may : Spec:=specOf (fun q : PSt × List UInt8=>[vSt q.1,.str q.2]) (fun _=>True) (fun q=>.tup [.bool (mayM q.2 q.1).1,vSt (mayM q.2 q.1).2])
theorem Fmay (s : PSt) (g : List UInt8) : F_x_sche_parser_may [vSt s,.str g] = some (.tup [.bool (mayM g s).1,vSt (mayM g s).2]):=specOf_eq (a:=(s,g)) injSS trivial
noncomputable abbrev T3 : List (FuncId × Spec):=[(x_sche_parser_is,F_x_sche_parser_is),(x_sche_parser_sign,F_x_sche_parser_sign)]
theorem okx_sche_parser_may : SpecE Try.prog n_sche_parser_may s_x_sche_parser_may F_x_sche_parser_may:=by
 refine go_x_sche_parser_may (T:=T3) (TabOk.consE okx_sche_parser_is (TabOk.consE okx_sche_parser_sign TabOk.nil)) fun words v hv=>?_
 have c1 : ∀ args,tab T3 x_sche_parser_is args = F_x_sche_parser_is args:=fun _=>rfl
 have c2 : ∀ args,tab T3 x_sche_parser_sign args = F_x_sche_parser_sign args:=fun _=>rfl
 obtain ⟨⟨s,g⟩,rfl,_,rfl⟩:=specOf_inv hv
 refine ⟨_,rfl,rfl,by simp [canos,vSt_cano,V.cano],by simp [canos,vSt_cano,V.cano],rfl,rfl,?_⟩
 refine Eq.mpr (e_x_sche_parser_may (tab _) _ (tokensV s.l) (vI s.n) (vI s.at_) (vI s.e) (vI s.d) (stpsV s.x) (.str g)) ?_
 simp only [sS,if_true,if_false,reduceCtorEq,agS0,c1,c2,Fis,Fsign,List.getElem?_cons_zero,List.getElem?_cons_succ,chS,agS,mayM,signM]
 cases h : isM g s with
 | false=>simp only [Bool.not_false,if_true,Bool.false_eq_true,if_false]
 | true=>simp only [Bool.not_true,if_true,Bool.false_eq_true,if_false]
noncomputable def F_sche_named : Spec:=specOf (fun t : Tok=>[tokW t]) okTok (fun t=>.bool (namedM t))
theorem Fnamed {t : Tok} (h : okTok t) : F_sche_named [tokW t] = some (.bool (namedM t)):=specOf_eq (fun a b h=>tokW_inj (by simpa using h)) h
theorem ok_sche_named : SpecL Try.prog n_sche_named F_sche_named:=by
 refine go_sche_named (T:=[]) TabOk.nil fun args v hv=>?_
 obtain ⟨t,rfl,ht,rfl⟩:=specOf_inv hv
 refine ⟨rfl,rfl,rfl,?_⟩
 rw [e_sche_named]
 simp only [sS,if_true,if_false,reduceCtorEq,chT,cT0,cT2,namedM]
 obtain ⟨k,n,x⟩:=t
 dsimp only
 by_cases hk : k = 1
 ·subst hk
  cases x with
  | nil=>exact absurd rfl (ht rfl)
  | cons c r =>
   have hi : indexS (.str (c :: r)) (.int .i64 0) = some (.int .u8 c.toNat):=idxS_at (l:=c :: r) (k:=0) rfl .i64
   have hl : decide (((c :: r).length : Int) ≤ 30) = decide ((c :: r).length ≤ 30):=by rw [decide_eq_decide]; omega
   have hc : decide ((c.toNat : Int) = 95) = (c == 95):=by
    by_cases h : c = 95
    ·subst h; rfl
    ·have : ¬ (c.toNat : Int) = 95:=fun e=>h (UInt8.toNat_inj.1 (by show c.toNat = 95; omega))
     simp [h,this]
   simp only [hi,hl,hc,sS,if_true,if_false,reduceCtorEq,decide_true,List.head?_cons]
   by_cases h1 : (c :: r).length ≤ 30
   ·simp only [h1,decide_true,sS,if_true,if_false,reduceCtorEq]
    by_cases h2 : c = 95
    ·simp [h2,bne]
    ·have hc' : decide ((c.toNat : Int) = 95) = false:=by rw [hc]; simp [h2]
     simp [h2,bne,hc']
   ·simp only [h1,decide_false,sS,if_true,if_false,reduceCtorEq]
 ·simp only [hk,decide_false,sS,if_true,if_false,reduceCtorEq]
end Go.Fbs

/- Schemas read: names into boxes; steps. -/
import Derived.Test.YtnmcilaebamncaaKB
set_option maxRecDepth 100000
namespace Go.Fbs
open Go.Proofs
def putN (o : Option (List UInt8)) (v : V) : V:=match o with | some s=>.str s | none=>v
noncomputable abbrev TN : List (FuncId × Spec):=[(x_sche_parser_here,F_x_sche_parser_here),(x_sche_parser_fail,F_x_sche_parser_fail),(n_sche_named,F_sche_named)]
theorem scl (g : Tag) (es : List V) : sc (.sl g es) = true:=rfl
theorem scs (s : List UInt8) : sc (.str s) = true:=rfl
theorem sci (k : IntKind) (n : Int) : sc (.int k n) = true:=rfl
theorem scN {v : V} (h : sc v = true) (o : Option (List UInt8)) : sc (putN o v) = true:=by cases o; exact h; rfl
theorem here_ok (s : PSt) : okTok (hereM s):=by
 by_cases h : s.l = []
 ·unfold hereM okTok; rw [h]; intro h; simp at h
 ·exact s.w _ (here_mem h)
theorem name_pop {s : PSt} (h : namedM (hereM s) = true) : nameM s = (true,popM s,some (hereM s).2.2):=by simp [nameM,h]
theorem name_bad {s : PSt} (h : namedM (hereM s) = false) : nameM s = (false,failM 9 s,none):=by simp [nameM,h]
noncomputable def F_x_sche_parser_name_0 : Spec:=specOf (fun q : PSt × V × V × V=>[vSt q.1,.agg [q.2.1,q.2.2.1,q.2.2.2]]) (fun q=>sc q.2.1 = true ∧ (q.2.1).cano = true ∧ sc q.2.2.1 = true ∧ (q.2.2.1).cano = true ∧ sc q.2.2.2 = true ∧ (q.2.2.2).cano = true ∧ ∃ es,q.2.2.1 = .sl .ro es) (fun q=>.tup [.bool (nameM q.1).1,vSt (nameM q.1).2.1,.agg [putN (nameM q.1).2.2 q.2.1,q.2.2.1,q.2.2.2]])
theorem Fname0 (s : PSt) {b0 b1 b2 : V} (h0 : sc b0 = true) (g0 : b0.cano = true) (h1 : sc b1 = true) (g1 : b1.cano = true) (h2 : sc b2 = true) (g2 : b2.cano = true) (hl : ∃ es,b1 = .sl .ro es) : F_x_sche_parser_name_0 [vSt s,.agg [b0,b1,b2]] = some (.tup [.bool (nameM s).1,vSt (nameM s).2.1,.agg [putN (nameM s).2.2 b0,b1,b2]]):=specOf_eq (a:=(s,b0,b1,b2)) (fun a b h=>by
 simp only [List.cons.injEq,V.agg.injEq,and_true] at h
 exact Prod.ext (vSt_inj h.1) (Prod.ext h.2.1 (Prod.ext h.2.2.1 h.2.2.2)))
 ⟨h0,g0,h1,g1,h2,g2,hl⟩
theorem okx_sche_parser_name_0 : SpecE Try.prog n_sche_parser_name s_x_sche_parser_name_0 F_x_sche_parser_name_0:=by
 refine go_x_sche_parser_name_0 (T:=TN) (TabOk.consE okx_sche_parser_here (TabOk.consE okx_sche_parser_fail (TabOk.cons ok_sche_named TabOk.nil))) fun words v hv=>?_
 have c1 : ∀ args,tab TN x_sche_parser_here args = F_x_sche_parser_here args:=fun _=>rfl
 have c2 : ∀ args,tab TN x_sche_parser_fail args = F_x_sche_parser_fail args:=fun _=>rfl
 have c3 : ∀ args,tab TN n_sche_named args = F_sche_named args:=fun _=>rfl
 obtain ⟨⟨s,b0,b1,b2⟩,rfl,ok,rfl⟩:=specOf_inv hv
 dsimp only at ok ⊢
 obtain ⟨h0,g0,h1,g1,h2,g2,es,rfl⟩:=ok
 have pn : ∀ o v,v.cano = true → (putN o v).cano = true:=fun o v h=>by cases o <;> first | exact h | rfl
 have ga:=fun s : List V=>agg_s (l:=s)
 refine ⟨_,rfl,by simp [wordsOk,s_x_sche_parser_name_0,vSt,scl,sci,scs,tokensV,stpsV,shapeC,h0,h2],by simp [canos,vSt_cano,V.cano,g0,g1,g2] <;> simpa [V.cano] using g1,?_,rfl,?_,?_⟩
 ·simp [canos,vSt_cano,V.cano,g0,g1,g2,pn _ _ g0] <;> simpa [V.cano] using g1
 ·simp [s_x_sche_parser_name_0,outKs,boxKs,List.map_cons,List.map_nil,CK.out,shapeB,shapeC,vSt,tokensV,stpsV,scl,sci,scs,h0,h2,scN h0]
 refine Eq.mpr (e_x_sche_parser_name_0 (tab _) _ (tokensV s.l) (vI s.n) (vI s.at_) (vI s.e) (vI s.d) (stpsV s.x) b0 (.sl .ro es) b2) ?_
 have a1 : aggK [b0,.sl .ro es,b2] = some (.agg [b0,.sl .ro es,b2]):=agg_s (by simp [List.all_cons,h0,h2,scl,sci,scs])
 have a2 : aggK [.str (hereM s).2.2,.sl .ro es,b2] = some (.agg [.str (hereM s).2.2,.sl .ro es,b2]):=agg_s (by simp [List.all_cons,h2,scl,sci,scs])
 simp only [sS,if_true,if_false,reduceCtorEq,agS0,c1,c2,c3,Fhere,Ffail,Fnamed (here_ok s),List.getElem?_cons_zero,List.getElem?_cons_succ,chS,agS,pT2,a1]
 cases h : namedM (hereM s) with
 | false=>simp only [Bool.not_false,if_true,name_bad h,putN]
 | true=>simp only [Bool.not_true,Bool.false_eq_true,if_false,sl0 (named_ne h),opt_s,agPop2,a2,name_pop h,putN]
noncomputable def F_x_sche_parser_name_1 : Spec:=specOf (fun q : PSt × V × V=>[vSt q.1,.agg [q.2.1,q.2.2]]) (fun q=>sc q.2.1 = true ∧ (q.2.1).cano = true ∧ sc q.2.2 = true ∧ (q.2.2).cano = true ∧ ∃ es,q.2.2 = .sl .ro es) (fun q=>.tup [.bool (nameM q.1).1,vSt (nameM q.1).2.1,.agg [putN (nameM q.1).2.2 q.2.1,q.2.2]])
theorem Fname1 (s : PSt) {b0 b1 : V} (h0 : sc b0 = true) (g0 : b0.cano = true) (h1 : sc b1 = true) (g1 : b1.cano = true) (hl : ∃ es,b1 = .sl .ro es) : F_x_sche_parser_name_1 [vSt s,.agg [b0,b1]] = some (.tup [.bool (nameM s).1,vSt (nameM s).2.1,.agg [putN (nameM s).2.2 b0,b1]]):=specOf_eq (a:=(s,b0,b1)) (fun a b h=>by
 simp only [List.cons.injEq,V.agg.injEq,and_true] at h
 exact Prod.ext (vSt_inj h.1) (Prod.ext h.2.1 h.2.2))
 ⟨h0,g0,h1,g1,hl⟩
theorem okx_sche_parser_name_1 : SpecE Try.prog n_sche_parser_name s_x_sche_parser_name_1 F_x_sche_parser_name_1:=by
 refine go_x_sche_parser_name_1 (T:=TN) (TabOk.consE okx_sche_parser_here (TabOk.consE okx_sche_parser_fail (TabOk.cons ok_sche_named TabOk.nil))) fun words v hv=>?_
 have c1 : ∀ args,tab TN x_sche_parser_here args = F_x_sche_parser_here args:=fun _=>rfl
 have c2 : ∀ args,tab TN x_sche_parser_fail args = F_x_sche_parser_fail args:=fun _=>rfl
 have c3 : ∀ args,tab TN n_sche_named args = F_sche_named args:=fun _=>rfl
 obtain ⟨⟨s,b0,b1⟩,rfl,ok,rfl⟩:=specOf_inv hv
 dsimp only at ok ⊢
 obtain ⟨h0,g0,h1,g1,es,rfl⟩:=ok
 have pn : ∀ o v,v.cano = true → (putN o v).cano = true:=fun o v h=>by cases o <;> first | exact h | rfl
 have ga:=fun s : List V=>agg_s (l:=s)
 refine ⟨_,rfl,by simp [wordsOk,s_x_sche_parser_name_1,vSt,scl,sci,scs,tokensV,stpsV,shapeC,h0],by simp [canos,vSt_cano,V.cano,g0,g1] <;> simpa [V.cano] using g1,?_,rfl,?_,?_⟩
 ·simp [canos,vSt_cano,V.cano,g0,g1,pn _ _ g0] <;> simpa [V.cano] using g1
 ·simp [s_x_sche_parser_name_1,outKs,boxKs,List.map_cons,List.map_nil,CK.out,shapeB,shapeC,vSt,tokensV,stpsV,scl,sci,scs,h0,scN h0]
 refine Eq.mpr (e_x_sche_parser_name_1 (tab _) _ (tokensV s.l) (vI s.n) (vI s.at_) (vI s.e) (vI s.d) (stpsV s.x) b0 (.sl .ro es)) ?_
 have a1 : aggK [b0,.sl .ro es] = some (.agg [b0,.sl .ro es]):=agg_s (by simp [List.all_cons,h0,scl,sci,scs])
 have a2 : aggK [.str (hereM s).2.2,.sl .ro es] = some (.agg [.str (hereM s).2.2,.sl .ro es]):=agg_s (by simp [List.all_cons,scl,sci,scs])
 simp only [sS,if_true,if_false,reduceCtorEq,agS0,c1,c2,c3,Fhere,Ffail,Fnamed (here_ok s),List.getElem?_cons_zero,List.getElem?_cons_succ,chS,agS,pT2,a1]
 cases h : namedM (hereM s) with
 | false=>simp only [Bool.not_false,if_true,name_bad h,putN]
 | true=>simp only [Bool.not_true,Bool.false_eq_true,if_false,sl0 (named_ne h),opt_s,agPop2,a2,name_pop h,putN]
noncomputable def F_x_sche_parser_name_2 : Spec:=specOf (fun q : PSt × V × V × V=>[vSt q.1,.agg [q.2.1,q.2.2.1,q.2.2.2]]) (fun q=>sc q.2.1 = true ∧ (q.2.1).cano = true ∧ sc q.2.2.1 = true ∧ (q.2.2.1).cano = true ∧ sc q.2.2.2 = true ∧ (q.2.2.2).cano = true) (fun q=>.tup [.bool (nameM q.1).1,vSt (nameM q.1).2.1,.agg [putN (nameM q.1).2.2 q.2.1,q.2.2.1,q.2.2.2]])
theorem Fname2 (s : PSt) {b0 b1 b2 : V} (h0 : sc b0 = true) (g0 : b0.cano = true) (h1 : sc b1 = true) (g1 : b1.cano = true) (h2 : sc b2 = true) (g2 : b2.cano = true) : F_x_sche_parser_name_2 [vSt s,.agg [b0,b1,b2]] = some (.tup [.bool (nameM s).1,vSt (nameM s).2.1,.agg [putN (nameM s).2.2 b0,b1,b2]]):=specOf_eq (a:=(s,b0,b1,b2)) (fun a b h=>by
 simp only [List.cons.injEq,V.agg.injEq,and_true] at h
 exact Prod.ext (vSt_inj h.1) (Prod.ext h.2.1 (Prod.ext h.2.2.1 h.2.2.2)))
 ⟨h0,g0,h1,g1,h2,g2⟩
theorem okx_sche_parser_name_2 : SpecE Try.prog n_sche_parser_name s_x_sche_parser_name_2 F_x_sche_parser_name_2:=by
 refine go_x_sche_parser_name_2 (T:=TN) (TabOk.consE okx_sche_parser_here (TabOk.consE okx_sche_parser_fail (TabOk.cons ok_sche_named TabOk.nil))) fun words v hv=>?_
 have c1 : ∀ args,tab TN x_sche_parser_here args = F_x_sche_parser_here args:=fun _=>rfl
 have c2 : ∀ args,tab TN x_sche_parser_fail args = F_x_sche_parser_fail args:=fun _=>rfl
 have c3 : ∀ args,tab TN n_sche_named args = F_sche_named args:=fun _=>rfl
 obtain ⟨⟨s,b0,b1,b2⟩,rfl,ok,rfl⟩:=specOf_inv hv
 dsimp only at ok ⊢
 obtain ⟨h0,g0,h1,g1,h2,g2⟩:=ok
 have pn : ∀ o v,v.cano = true → (putN o v).cano = true:=fun o v h=>by cases o <;> first | exact h | rfl
 have ga:=fun s : List V=>agg_s (l:=s)
 refine ⟨_,rfl,by simp [wordsOk,s_x_sche_parser_name_2,vSt,scl,sci,scs,tokensV,stpsV,shapeC,h0,h1,h2],by simp [canos,vSt_cano,V.cano,g0,g1,g2] <;> simpa [V.cano] using g0,?_,rfl,?_,?_⟩
 ·simp [canos,vSt_cano,V.cano,g0,g1,g2,pn _ _ g0] <;> simpa [V.cano] using g0
 ·simp [s_x_sche_parser_name_2,outKs,boxKs,List.map_cons,List.map_nil,CK.out,shapeB,shapeC,vSt,tokensV,stpsV,scl,sci,scs,h0,h1,h2,scN h0]
 refine Eq.mpr (e_x_sche_parser_name_2 (tab _) _ (tokensV s.l) (vI s.n) (vI s.at_) (vI s.e) (vI s.d) (stpsV s.x) b0 b1 b2) ?_
 have a1 : aggK [b0,b1,b2] = some (.agg [b0,b1,b2]):=agg_s (by simp [h0,h1,h2,scl,sci,scs])
 have a2 : aggK [.str (hereM s).2.2,b1,b2] = some (.agg [.str (hereM s).2.2,b1,b2]):=agg_s (by simp [List.all_cons,h1,h2,scl,sci,scs])
 simp only [sS,if_true,if_false,reduceCtorEq,agS0,c1,c2,c3,Fhere,Ffail,Fnamed (here_ok s),List.getElem?_cons_zero,List.getElem?_cons_succ,chS,agS,pT2,a1]
 cases h : namedM (hereM s) with
 | false=>simp only [Bool.not_false,if_true,name_bad h,putN]
 | true=>simp only [Bool.not_true,Bool.false_eq_true,if_false,sl0 (named_ne h),opt_s,agPop2,a2,name_pop h,putN]
noncomputable def F_x_sche_parser_name_3 : Spec:=specOf (fun q : PSt × V × V × V=>[vSt q.1,.agg [q.2.1,q.2.2.1,q.2.2.2]]) (fun q=>sc q.2.1 = true ∧ (q.2.1).cano = true ∧ sc q.2.2.1 = true ∧ (q.2.2.1).cano = true ∧ sc q.2.2.2 = true ∧ (q.2.2.2).cano = true) (fun q=>.tup [.bool (nameM q.1).1,vSt (nameM q.1).2.1,.agg [q.2.1,putN (nameM q.1).2.2 q.2.2.1,q.2.2.2]])
theorem Fname3 (s : PSt) {b0 b1 b2 : V} (h0 : sc b0 = true) (g0 : b0.cano = true) (h1 : sc b1 = true) (g1 : b1.cano = true) (h2 : sc b2 = true) (g2 : b2.cano = true) : F_x_sche_parser_name_3 [vSt s,.agg [b0,b1,b2]] = some (.tup [.bool (nameM s).1,vSt (nameM s).2.1,.agg [b0,putN (nameM s).2.2 b1,b2]]):=specOf_eq (a:=(s,b0,b1,b2)) (fun a b h=>by
 simp only [List.cons.injEq,V.agg.injEq,and_true] at h
 exact Prod.ext (vSt_inj h.1) (Prod.ext h.2.1 (Prod.ext h.2.2.1 h.2.2.2)))
 ⟨h0,g0,h1,g1,h2,g2⟩
theorem okx_sche_parser_name_3 : SpecE Try.prog n_sche_parser_name s_x_sche_parser_name_3 F_x_sche_parser_name_3:=by
 refine go_x_sche_parser_name_3 (T:=TN) (TabOk.consE okx_sche_parser_here (TabOk.consE okx_sche_parser_fail (TabOk.cons ok_sche_named TabOk.nil))) fun words v hv=>?_
 have c1 : ∀ args,tab TN x_sche_parser_here args = F_x_sche_parser_here args:=fun _=>rfl
 have c2 : ∀ args,tab TN x_sche_parser_fail args = F_x_sche_parser_fail args:=fun _=>rfl
 have c3 : ∀ args,tab TN n_sche_named args = F_sche_named args:=fun _=>rfl
 obtain ⟨⟨s,b0,b1,b2⟩,rfl,ok,rfl⟩:=specOf_inv hv
 dsimp only at ok ⊢
 obtain ⟨h0,g0,h1,g1,h2,g2⟩:=ok
 have pn : ∀ o v,v.cano = true → (putN o v).cano = true:=fun o v h=>by cases o <;> first | exact h | rfl
 have ga:=fun s : List V=>agg_s (l:=s)
 refine ⟨_,rfl,by simp [wordsOk,s_x_sche_parser_name_3,vSt,scl,sci,scs,tokensV,stpsV,shapeC,h0,h1,h2],by simp [canos,vSt_cano,V.cano,g0,g1,g2] <;> simpa [V.cano] using g0,?_,rfl,?_,?_⟩
 ·simp [canos,vSt_cano,V.cano,g0,g1,g2,pn _ _ g1] <;> simpa [V.cano] using g0
 ·simp [s_x_sche_parser_name_3,outKs,boxKs,List.map_cons,List.map_nil,CK.out,shapeB,shapeC,vSt,tokensV,stpsV,scl,sci,scs,h0,h1,h2,scN h1]
 refine Eq.mpr (e_x_sche_parser_name_3 (tab _) _ (tokensV s.l) (vI s.n) (vI s.at_) (vI s.e) (vI s.d) (stpsV s.x) b0 b1 b2) ?_
 have a1 : aggK [b0,b1,b2] = some (.agg [b0,b1,b2]):=agg_s (by simp [h0,h1,h2,scl,sci,scs])
 have a2 : aggK [b0,.str (hereM s).2.2,b2] = some (.agg [b0,.str (hereM s).2.2,b2]):=agg_s (by simp [List.all_cons,h0,h2,scl,sci,scs])
 simp only [sS,if_true,if_false,reduceCtorEq,agS0,c1,c2,c3,Fhere,Ffail,Fnamed (here_ok s),List.getElem?_cons_zero,List.getElem?_cons_succ,chS,agS,pT2,a1]
 cases h : namedM (hereM s) with
 | false=>simp only [Bool.not_false,if_true,name_bad h,putN]
 | true=>simp only [Bool.not_true,Bool.false_eq_true,if_false,sl0 (named_ne h),opt_s,agPop2,a2,name_pop h,putN]
noncomputable def F_x_sche_parser_name_4 : Spec:=specOf (fun q : PSt × V × V × V=>[vSt q.1,.agg [q.2.1,q.2.2.1,q.2.2.2]]) (fun q=>sc q.2.1 = true ∧ (q.2.1).cano = true ∧ sc q.2.2.1 = true ∧ (q.2.2.1).cano = true ∧ sc q.2.2.2 = true ∧ (q.2.2.2).cano = true) (fun q=>.tup [.bool (nameM q.1).1,vSt (nameM q.1).2.1,.agg [q.2.1,q.2.2.1,putN (nameM q.1).2.2 q.2.2.2]])
theorem Fname4 (s : PSt) {b0 b1 b2 : V} (h0 : sc b0 = true) (g0 : b0.cano = true) (h1 : sc b1 = true) (g1 : b1.cano = true) (h2 : sc b2 = true) (g2 : b2.cano = true) : F_x_sche_parser_name_4 [vSt s,.agg [b0,b1,b2]] = some (.tup [.bool (nameM s).1,vSt (nameM s).2.1,.agg [b0,b1,putN (nameM s).2.2 b2]]):=specOf_eq (a:=(s,b0,b1,b2)) (fun a b h=>by
 simp only [List.cons.injEq,V.agg.injEq,and_true] at h
 exact Prod.ext (vSt_inj h.1) (Prod.ext h.2.1 (Prod.ext h.2.2.1 h.2.2.2)))
 ⟨h0,g0,h1,g1,h2,g2⟩
theorem okx_sche_parser_name_4 : SpecE Try.prog n_sche_parser_name s_x_sche_parser_name_4 F_x_sche_parser_name_4:=by
 refine go_x_sche_parser_name_4 (T:=TN) (TabOk.consE okx_sche_parser_here (TabOk.consE okx_sche_parser_fail (TabOk.cons ok_sche_named TabOk.nil))) fun words v hv=>?_
 have c1 : ∀ args,tab TN x_sche_parser_here args = F_x_sche_parser_here args:=fun _=>rfl
 have c2 : ∀ args,tab TN x_sche_parser_fail args = F_x_sche_parser_fail args:=fun _=>rfl
 have c3 : ∀ args,tab TN n_sche_named args = F_sche_named args:=fun _=>rfl
 obtain ⟨⟨s,b0,b1,b2⟩,rfl,ok,rfl⟩:=specOf_inv hv
 dsimp only at ok ⊢
 obtain ⟨h0,g0,h1,g1,h2,g2⟩:=ok
 have pn : ∀ o v,v.cano = true → (putN o v).cano = true:=fun o v h=>by cases o <;> first | exact h | rfl
 have ga:=fun s : List V=>agg_s (l:=s)
 refine ⟨_,rfl,by simp [wordsOk,s_x_sche_parser_name_4,vSt,scl,sci,scs,tokensV,stpsV,shapeC,h0,h1,h2],by simp [canos,vSt_cano,V.cano,g0,g1,g2] <;> simpa [V.cano] using g0,?_,rfl,?_,?_⟩
 ·simp [canos,vSt_cano,V.cano,g0,g1,g2,pn _ _ g2] <;> simpa [V.cano] using g0
 ·simp [s_x_sche_parser_name_4,outKs,boxKs,List.map_cons,List.map_nil,CK.out,shapeB,shapeC,vSt,tokensV,stpsV,scl,sci,scs,h0,h1,h2,scN h2]
 refine Eq.mpr (e_x_sche_parser_name_4 (tab _) _ (tokensV s.l) (vI s.n) (vI s.at_) (vI s.e) (vI s.d) (stpsV s.x) b0 b1 b2) ?_
 have a1 : aggK [b0,b1,b2] = some (.agg [b0,b1,b2]):=agg_s (by simp [h0,h1,h2,scl,sci,scs])
 have a2 : aggK [b0,b1,.str (hereM s).2.2] = some (.agg [b0,b1,.str (hereM s).2.2]):=agg_s (by simp [List.all_cons,h0,h1,scl,sci,scs])
 simp only [sS,if_true,if_false,reduceCtorEq,agS0,c1,c2,c3,Fhere,Ffail,Fnamed (here_ok s),List.getElem?_cons_zero,List.getElem?_cons_succ,chS,agS,pT2,a1]
 cases h : namedM (hereM s) with
 | false=>simp only [Bool.not_false,if_true,name_bad h,putN]
 | true=>simp only [Bool.not_true,Bool.false_eq_true,if_false,sl0 (named_ne h),opt_s,agPop2,a2,name_pop h,putN]
theorem stp_all (l : List Stp) : (l.map stpW).all (fun e=>e.cells.length == 3) = true:=by simp [stpW,V.cells]
noncomputable def F_x_sche_parser_put : Spec:=specOf (fun q : PSt × Stp × Nat=>[vSt q.1,stpW q.2.1,vI q.2.2]) (fun _=>True) (fun q=>.tup [.bool (putM q.2.1 q.2.2 q.1).1,vSt (putM q.2.1 q.2.2 q.1).2])
theorem Fput (s : PSt) (p : Stp) (a : Nat) : F_x_sche_parser_put [vSt s,stpW p,vI a] = some (.tup [.bool (putM p a s).1,vSt (putM p a s).2]):=specOf_eq (a:=(s,p,a)) (fun a b h=>by
 simp only [List.cons.injEq,V.int.injEq,and_true,true_and] at h
 exact Prod.ext (vSt_inj h.1) (Prod.ext (stpW_inj h.2.1) (Int.ofNat_inj.1 h.2.2))) trivial
theorem okx_sche_parser_put : SpecE Try.prog n_sche_parser_put s_x_sche_parser_put F_x_sche_parser_put:=by
 refine go_x_sche_parser_put (T:=[]) TabOk.nil fun words v hv=>?_
 obtain ⟨⟨s,p,a⟩,rfl,_,rfl⟩:=specOf_inv hv
 refine ⟨_,rfl,rfl,by simp [canos,vSt_cano,V.cano,stpW],by simp [canos,vSt_cano,V.cano],rfl,rfl,?_⟩
 refine Eq.mpr (e_x_sche_parser_put (tab _) _ (tokensV s.l) (vI s.n) (vI s.at_) (vI s.e) (vI s.d) (stpsV s.x) (stpW p) (vI a)) ?_
 have h1 : chkK 3 (stpW p) = some (stpW p):=rfl
 have h2 : lenL (stpsV s.x) = some (.int .i64 s.x.length):=by simp [lenL,stpsV]
 have h3 : litK 3 [stpW p] = some (.sl .ro [stpW p]):=rfl
 simp only [h1,h2,h3,sS,if_true,if_false,reduceCtorEq,ck1I,putM]
 by_cases h : 200 ≤ s.x.length
 ·have hd : decide ((200 : Int) ≤ (s.x.length : Int)) = true:=decide_eq_true (by omega)
  have ha : aggK [tokensV s.l,vI s.n,vI a,.int .i64 8,vI s.d,stpsV s.x] = some (vSt { s with e:=8,at_:=a }):=rfl
  simp only [hd,if_true,ha,opt_s,if_pos h]
 ·have hd : decide ((200 : Int) ≤ (s.x.length : Int)) = false:=decide_eq_false (by omega)
  have ha : aggK [tokensV s.l,vI s.n,vI s.at_,vI s.e,vI s.d,stpsV (s.x ++ [p])] = some (vSt { s with x:=s.x ++ [p] }):=rfl
  have hp : appK 3 40 (stpsV s.x) (.sl .ro [stpW p]) = some (stpsV (s.x ++ [p])):=by
   show appK 3 40 (.sl .ro (s.x.map stpW)) (.sl .ro ([p].map stpW)) = some (.sl .ro ((s.x ++ [p]).map stpW))
   rw [app_s (by simp only [List.length_map,List.length_singleton]; omega) (stp_all _) (stp_all [p]),List.map_append]
  simp only [hd,Bool.false_eq_true,if_false,hp,opt_s,ha,if_neg h]
end Go.Fbs

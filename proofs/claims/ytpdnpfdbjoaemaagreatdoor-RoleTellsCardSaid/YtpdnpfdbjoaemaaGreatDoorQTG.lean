import Derived.Test.YtpdnpfdbjoaemaaGreatDoorQTF
set_option linter.unusedSimpArgs false
set_option linter.unusedVariables false
set_option linter.unusedSectionVars false
set_option maxRecDepth 100000
namespace Go.Fbs
open Go.Proofs
attribute [local irreducible] FunWpE FunWp opt
theorem bEqI (a b : Int) : binK .eql (vI a) (vI b) = some (.bool (decide (a = b))):=by
 show binK .eql (.int .i64 a) (.int .i64 b) = _
 rw [bEql]
theorem nm_end {f : Frm} {m : Nat} {o : Fct} (h : RfI f m o) (hm : f.names ≤ m) : nmW f m o = [o.a,o.b,o.c].take f.names ++ o.l:=by
 unfold nmW
 by_cases hle : m ≤ f.names
 ·obtain rfl : m = f.names:=by omega
  rw [if_pos (Nat.le_refl _),h.l (by omega),List.append_nil]
 ·rw [if_neg hle]
theorem fact_made {j : Nat} (j1 : 1 ≤ j) (j8 : j ≤ 8) {o : Fct} {m : Nat} (h : RfI (frmK j) m o) (hm : (frmK j).names ≤ m) (hnl : (frmK j).num = false → j ≠ 8 → o.l = []) (at0 : Int) {Q : V → Prop} (hQ : Q (.tup [fctA o at0,.int .i64 0,.int .i64 0])) :
  (opt (idxLK false 1 (strsV (nmW (frmK j) m o)) (.int .i64 0)) fun y19=>opt (binK .eql (vI (j : Nat)) (.int .i64 3)) fun y20=>joinP (fun w2=>w2.length = 2 ∧ (iteB (gv w2 0) (opt (idxLK false 1 (gv w2 1) (.int .i64 1)) fun y23=>opt (aggK [vI (j : Nat),y19,y23,.str [],vI o.n,(.sl .ro []),vI at0]) fun y24=>Q (.tup [y24,(.int .i64 0),(.int .i64 0)])) (opt (binK .eql (vI (j : Nat)) (.int .i64 5)) fun y23=>iteB y23 (opt (idxLK false 1 (gv w2 1) (.int .i64 1)) fun y24=>opt (idxLK false 1 (gv w2 1) (.int .i64 2)) fun y25=>opt (aggK [vI (j : Nat),y19,y24,y25,vI o.n,(.sl .ro []),vI at0]) fun y26=>Q (.tup [y26,(.int .i64 0),(.int .i64 0)])) (opt (binK .eql (vI (j : Nat)) (.int .i64 6)) fun y24=>joinP (fun w2=>w2.length = 2 ∧ (iteB (gv w2 0) (opt (slLK 1 (gv w2 1) (some (.int .i64 1)) none) fun y27=>opt (aggK [vI (j : Nat),y19,.str [],.str [],vI o.n,y27,vI at0]) fun y28=>Q (.tup [y28,(.int .i64 0),(.int .i64 0)])) (opt (binK .eql (vI (j : Nat)) (.int .i64 8)) fun y27=>iteB y27 (opt (idxLK false 1 (gv w2 1) (.int .i64 1)) fun y28=>opt (slLK 1 (gv w2 1) (some (.int .i64 2)) none) fun y29=>opt (aggK [vI (j : Nat),y19,y28,.str [],vI o.n,y29,vI at0]) fun y30=>Q (.tup [y30,(.int .i64 0),(.int .i64 0)])) (opt (aggK [vI (j : Nat),y19,.str [],.str [],vI o.n,(.sl .ro []),vI at0]) fun y28=>Q (.tup [y28,(.int .i64 0),(.int .i64 0)]))))) fun r2=>iteB y24 (r2 [y24,(gv w2 1)]) (opt (binK .eql (vI (j : Nat)) (.int .i64 7)) fun y25=>r2 [y25,(gv w2 1)]))))) fun r2=>iteB y20 (r2 [y20,strsV (nmW (frmK j) m o)]) (opt (binK .eql (vI (j : Nat)) (.int .i64 4)) fun y21=>r2 [y21,strsV (nmW (frmK j) m o)])):=by
 rw [nm_end h hm]
 have e3 : binK .eql (vI (j : Nat)) (.int .i64 3) = _:=bEqN j 3
 have e4 : binK .eql (vI (j : Nat)) (.int .i64 4) = _:=bEqN j 4
 have e5 : binK .eql (vI (j : Nat)) (.int .i64 5) = _:=bEqN j 5
 have e6 : binK .eql (vI (j : Nat)) (.int .i64 6) = _:=bEqN j 6
 have e7 : binK .eql (vI (j : Nat)) (.int .i64 7) = _:=bEqN j 7
 have e8 : binK .eql (vI (j : Nat)) (.int .i64 8) = _:=bEqN j 8
 have hk:=h.kind
 have hb:=h.b
 have hc:=h.c
 have ag : ∀ (y19 y24 y25 : List UInt8) (L : List (List UInt8)),y19 = o.a → y24 = o.b → y25 = o.c → L = o.l → (j : Int) = o.kind → aggK [vI (j : Nat),.str y19,.str y24,.str y25,vI o.n,strsV L,vI at0] = some (fctA o at0):=fun y19 y24 y25 L h1 h2 h3 h4 h5=>by
  subst h1 h2 h3 h4
  rw [show vI (j : Nat) = vI o.kind from by rw [← h5]]
  exact agg_s rfl
 obtain ⟨o1,o2,o3,o4,o5,o6,o7⟩:=o
 simp only at hk hb hc hnl ag hQ ⊢
 have i0 : ∀ (x : List UInt8) (L : List (List UInt8)),idxLK false 1 (strsV (x :: L)) (.int .i64 0) = some (.str x):=fun x L=>strAt (i:=0) rfl
 have i1 : ∀ (x y : List UInt8) (L : List (List UInt8)),idxLK false 1 (strsV (x :: y :: L)) (.int .i64 1) = some (.str y):=fun x y L=>strAt (i:=1) rfl
 have i2 : ∀ (x y z : List UInt8) (L : List (List UInt8)),idxLK false 1 (strsV (x :: y :: z :: L)) (.int .i64 2) = some (.str z):=fun x y z L=>strAt (i:=2) rfl
 have d1 : ∀ (x : List UInt8) (L : List (List UInt8)),slLK 1 (strsV (x :: L)) (some (.int .i64 1)) none = some (strsV L):=fun x L=>slDrop (l:=x :: L) (k:=1) (by simp)
 have d2 : ∀ (x y : List UInt8) (L : List (List UInt8)),slLK 1 (strsV (x :: y :: L)) (some (.int .i64 2)) none = some (strsV L):=fun x y L=>slDrop (l:=x :: y :: L) (k:=2) (by simp)
 have nil : (V.sl .ro [] : V) = strsV []:=rfl
 have : j = 1 ∨ j = 2 ∨ j = 3 ∨ j = 4 ∨ j = 5 ∨ j = 6 ∨ j = 7 ∨ j = 8:=by omega
 rcases this with rfl | rfl | rfl | rfl | rfl | rfl | rfl | rfl
 all_goals (simp only [frmK,List.take_succ_cons,List.take_zero,List.cons_append,List.nil_append] at *)
 all_goals (simp only [e3,e4,e5,e6,e7,e8,opt_s,joinP_eq,Nat.reduceEqDiff,eq_self,decide_true,decide_false,iteB_true,iteB_false,gv_0,gv_s,i0,i1,i2,d1,d2,List.length_cons,List.length_nil,Nat.reduceAdd,true_and,nil])
 ·rw [ag o2 [] [] [] rfl (hb (by omega)).symm (hc (by omega)).symm (hnl trivial (by omega)).symm (by rw [hk]),opt_s]; exact hQ
 ·rw [ag o2 [] [] [] rfl (hb (by omega)).symm (hc (by omega)).symm (hnl trivial (by omega)).symm (by rw [hk]),opt_s]; exact hQ
 ·rw [ag o2 o3 [] [] rfl rfl (hc (by omega)).symm (hnl trivial (by omega)).symm (by rw [hk]),opt_s]; exact hQ
 ·rw [ag o2 o3 [] [] rfl rfl (hc (by omega)).symm (hnl trivial (by omega)).symm (by rw [hk]),opt_s]; exact hQ
 ·rw [ag o2 o3 o4 [] rfl rfl rfl (hnl trivial (by omega)).symm (by rw [hk]),opt_s]; exact hQ
 ·rw [ag o2 [] [] o6 rfl (hb (by omega)).symm (hc (by omega)).symm rfl (by rw [hk]),opt_s]; exact hQ
 ·rw [ag o2 [] [] o6 rfl (hb (by omega)).symm (hc (by omega)).symm rfl (by rw [hk]),opt_s]; exact hQ
 ·rw [ag o2 o3 [] o6 rfl rfl (hc (by omega)).symm rfl (by rw [hk]),opt_s]; exact hQ
theorem nm_next {f : Frm} (h3 : f.names ≤ 3) {m : Nat} {o : Fct} (h : RfI f m o) (x : List UInt8) (hn : ¬ (f.num = true ∧ m = f.names)) :
  (f.names ≤ m → nmW f (m + 1) { o with l:=o.l ++ [x] } = nmW f m o ++ [x] ∧ RfI f (m + 1) { o with l:=o.l ++ [x] }) ∧
  (¬ f.names ≤ m → (m = 0 → nmW f (m + 1) { o with a:=x } = nmW f m o ++ [x] ∧ RfI f (m + 1) { o with a:=x }) ∧ (m = 1 → nmW f (m + 1) { o with b:=x } = nmW f m o ++ [x] ∧ RfI f (m + 1) { o with b:=x }) ∧ (m ≠ 0 → m ≠ 1 → nmW f (m + 1) { o with c:=x } = nmW f m o ++ [x] ∧ RfI f (m + 1) { o with c:=x })):=by
 refine ⟨fun hm=>⟨?_,h.kind,h.b,h.c,fun hl=>?_⟩,fun hm=>⟨fun e=>?_,fun e=>?_,fun e0 e1=>?_⟩⟩
 ·rw [nm_end h hm]
  unfold nmW
  rw [if_neg (by omega),List.append_assoc]
 ·exfalso
  by_cases hnum : f.num = true
  ·rw [if_pos hnum] at hl
   exact hn ⟨hnum,by omega⟩
  ·rw [if_neg hnum] at hl; omega
 ·subst e
  refine ⟨?_,h.kind,h.b,h.c,fun hl=>h.l (by omega)⟩
  unfold nmW
  rw [if_pos (by omega),if_pos (by omega)]
  rfl
 ·subst e
  refine ⟨?_,h.kind,fun g=>by omega,h.c,fun hl=>h.l (by omega)⟩
  unfold nmW
  rw [if_pos (by omega),if_pos (by omega)]
  rfl
 ·have hm2 : m = 2:=by omega
  subst hm2
  refine ⟨?_,h.kind,h.b,fun g=>by omega,fun hl=>h.l (by omega)⟩
  unfold nmW
  rw [if_pos (by omega),if_pos (by omega)]
  rfl
theorem nm_len {f : Frm} {m : Nat} {o : Fct} : (nmW f m o).length ≤ 3 + o.l.length:=by
 unfold nmW
 split
 ·rw [List.length_take]; simp; omega
 ·rw [List.length_append,List.length_take]; simp; omega
theorem rfact_wp (l : LinI) (hl : okLinI l) : FunWp tyT (tab TRf) 167 q_entailref13_Fact [.cell 2 31,.tmp 3,.tmp 4] (cB Tryz.f7) [linIW l] (fun v=>v = factIV l):=by
 have c1 : ∀ args,tab TRf n_entailref13_words args = F_entailref13_words args:=fun _=>rfl
 have c2 : ∀ args,tab TRf n_entailref13_number args = F_entailref13_number args:=fun _=>rfl
 have c3 : ∀ args,tab TRf n_entailref1_Name args = F_entailref1_Name args:=fun _=>rfl
 refine Eq.mpr (e_entailref13_Fact (tab _) _ (linIW l)) ?_
 have l0 : cellD (linIW l) 0 = vI l.1:=rfl
 have l1 : cellD (linIW l) 1 = wrdsI l.2:=rfl
 have z0 : aggK [(.int .i64 0),(.str []),(.str []),(.str []),(.int .i64 0),(.sl .ro []),(.int .i64 0)] = some (fctW fct0):=agg_s rfl
 have z1 : aggK [cellD (fctW fct0) 0,cellD (fctW fct0) 1,cellD (fctW fct0) 2,cellD (fctW fct0) 3,cellD (fctW fct0) 4,(.sl .ro []),cellD (fctW fct0) 6] = some (fctW fct0):=agg_s rfl
 have zA : aggK [(.int .i64 0),(.str []),(.str []),(.str []),(.int .i64 0),(.sl .ro []),vI l.1] = some (fctA fct0 l.1):=agg_s rfl
 rw [chkLin,opt_s,l0,l1,lenWrdI,opt_s,show binK .eql (vI (l.2.length : Nat)) (.int .i64 0) = _ from bEqN l.2.length 0,opt_s,iteB_bool,z0,opt_s,z1,opt_s]
 obtain ⟨hl1,hl2⟩:=hl
 cases hw : l.2 with
 | nil =>
  rw [if_pos (by simp)]
  unfold factIV factI
  rw [hw]
  rfl
 | cons w ws =>
  rw [hw] at hl1 hl2
  rw [if_neg (by simp),zA,opt_s,c1,show F_entailref13_words [] = some (strsV kwsT) from rfl,opt_s]
  have a0 : cellD (fctA fct0 l.1) 0 = vI (0 : Nat):=rfl
  have a2 : cellD (fctA fct0 l.1) 2 = .str []:=rfl
  have a3 : cellD (fctA fct0 l.1) 3 = .str []:=rfl
  have a4 : cellD (fctA fct0 l.1) 4 = vI (0 : Int):=rfl
  have a6 : cellD (fctA fct0 l.1) 6 = vI l.1:=rfl
  rw [a0,a2,a3,a4,a6]
  have hw0 : idxLK true 2 (wrdsI (w :: ws)) (.int .i64 0) = some (wrdIW w):=wrdAtI (i:=0) rfl
  have w0 : cellD (wrdIW w) 0 = .str w.1:=rfl
  have w1 : cellD (wrdIW w) 1 = vI w.2:=rfl
  refine loopP_inv (fun vs=>∃ k : Nat,1 ≤ k ∧ k ≤ 9 ∧ vs = [vI (k : Nat),vI (kdF w.1 k : Nat)]) (fun vs=>9 - natOf (gv vs 0)) ⟨1,Nat.le_refl _,by omega,rfl⟩ ?_
  rintro r0 _ ⟨k,k1,k9,rfl⟩ hr0
  refine ⟨rfl,?_⟩
  simp only [gv_0,gv_s]
  rw [lenStr,opt_s,show binK .lss (vI (k : Nat)) (vI (kwsT.length : Nat)) = _ from bLt k 9,opt_s,iteB_bool]
  by_cases hk : k < 9
  ·have hkw : kwsT[k]? = some (kwM k):=by
    have : k = 1 ∨ k = 2 ∨ k = 3 ∨ k = 4 ∨ k = 5 ∨ k = 6 ∨ k = 7 ∨ k = 8:=by omega
    rcases this with rfl | rfl | rfl | rfl | rfl | rfl | rfl | rfl <;> rfl
   have hkd : kdF w.1 (k + 1) = if kwM k = w.1 then k else kdF w.1 k:=by
    conv=>lhs; unfold kdF
    by_cases h : kwM k = w.1
    ·rw [if_pos ⟨k1,h⟩,if_pos h]
    ·rw [if_neg (fun g=>h g.2),if_neg h]
   rw [if_pos (by simpa using hk),strAt hkw,opt_s,hw0,opt_s,w0,bSeqD,opt_s,iteB_bool]
   by_cases h : kwM k = w.1
   ·rw [if_pos h] at hkd
    rw [if_pos (by simpa using h),add1' (by omega),opt_s]
    exact hr0 _ ⟨k + 1,by omega,by omega,by rw [hkd]⟩ (by simp only [gv_0,natOf]; omega)
   ·rw [if_neg h] at hkd
    rw [if_neg (by simpa using h),add1' (by omega),opt_s]
    exact hr0 _ ⟨k + 1,by omega,by omega,by rw [hkd]⟩ (by simp only [gv_0,natOf]; omega)
  ·obtain rfl : k = 9:=by omega
   clear hr0
   rw [if_neg (by simp),opt_s]
   have q0 : ∀ v : V,v = factIV l → v = factIV l:=fun _ h=>h
   have es : ∀ K c : Nat,binK .eql (vI (K : Nat)) (vI (c : Nat)) = some (.bool (decide (K = c))):=bEqN
   obtain ⟨N,hN⟩ : ∃ N,(w :: ws).length = N:=⟨_,rfl⟩
   have n2 : binK .eql (vI (N : Nat)) (.int .i64 2) = _:=bEqN N 2
   have n3 : binK .eql (vI (N : Nat)) (.int .i64 3) = _:=bEqN N 3
   have n4 : binK .eql (vI (N : Nat)) (.int .i64 4) = _:=bEqN N 4
   have g5 : binK .geq (vI (N : Nat)) (.int .i64 5) = _:=bGeN N 5
   have g3 : binK .geq (vI (N : Nat)) (.int .i64 3) = _:=bGeN N 3
   rw [hN]
   rcases kd_form w.1 with ⟨hf,hK⟩ | ⟨j,j1,j8,hf,hK⟩
   ·-- no keyword
    have hres : factIV l = .tup [fctW fct0,vI w.2,.int .i64 9]:=by
     unfold factIV factI
     rw [hw]
     simp only [hf]
     rfl
    rw [hK]
    have e : ∀ c : Nat,c ≠ 0 → binK .eql (vI ((0 : Nat) : Int)) (vI (c : Nat)) = some (.bool false):=fun c hc=>by rw [bEqN,decide_eq_false (fun h=>hc h.symm)]
    rw [show binK .eql (vI ((0 : Nat) : Int)) (.int .i64 1) = some (.bool false) from e 1 (by omega),opt_s]
    refine jnQ (X:=[.bool false]) (fun r h=>?_) ⟨rfl,?_⟩
    ·rw [iteB_false,show binK .eql (vI ((0 : Nat) : Int)) (.int .i64 2) = some (.bool false) from e 2 (by omega),opt_s]; exact h
    simp only [gv_0]
    refine jnK fun r1 _=>?_
    rw [iteB_false,show binK .eql (vI ((0 : Nat) : Int)) (.int .i64 3) = some (.bool false) from e 3 (by omega),opt_s]
    refine jnQ (X:=[.bool false]) (fun r h=>?_) ⟨rfl,?_⟩
    ·rw [iteB_false,show binK .eql (vI ((0 : Nat) : Int)) (.int .i64 4) = some (.bool false) from e 4 (by omega),opt_s]; exact h
    simp only [gv_0]
    rw [iteB_false,show binK .eql (vI ((0 : Nat) : Int)) (.int .i64 5) = some (.bool false) from e 5 (by omega),opt_s,iteB_false,show binK .eql (vI ((0 : Nat) : Int)) (.int .i64 6) = some (.bool false) from e 6 (by omega),opt_s]
    refine jnQ (X:=[.bool false]) (fun r h=>?_) ⟨rfl,?_⟩
    ·rw [iteB_false,show binK .eql (vI ((0 : Nat) : Int)) (.int .i64 7) = some (.bool false) from e 7 (by omega),opt_s]; exact h
    simp only [gv_0]
    rw [iteB_false,show binK .eql (vI ((0 : Nat) : Int)) (.int .i64 8) = some (.bool false) from e 8 (by omega),opt_s,iteB_false,opt_s,hw0,opt_s,z1,opt_s,w1,hres]
   ·rw [hK]
    obtain ⟨s1,s2,s3,s4,s5⟩:=frm_facts j1 j8
    have hgood:=good_form (m:=ws.length) j1 j8 (by simp at hl1; omega)
    have hN' : N = ws.length + 1:=by rw [← hN]; rfl
    rw [← hN'] at hgood
    have j18 : j = 1 ∨ j = 2 ∨ j = 3 ∨ j = 4 ∨ j = 5 ∨ j = 6 ∨ j = 7 ∨ j = 8:=by omega
    rw [show binK .eql (vI (j : Nat)) (.int .i64 1) = _ from bEqN j 1,opt_s]
    refine jnQ (X:=[.bool (decide (j = 1) || decide (j = 2))]) (fun r h=>?_) ⟨rfl,?_⟩
    ·rw [iteB_bool]
     by_cases h1 : j = 1
     ·rw [if_pos (by simpa using h1)]
      rw [decide_eq_true h1,Bool.true_or] at h
      rw [decide_eq_true h1]; exact h
     ·rw [if_neg (by simpa using h1),show binK .eql (vI (j : Nat)) (.int .i64 2) = _ from bEqN j 2,opt_s]
      rw [decide_eq_false h1,Bool.false_or] at h
      exact h
    simp only [gv_0]
    refine jnQ (X:=[.bool (goodB j N)]) (fun r1 h1=>?_) ⟨rfl,?_⟩
    ·have e3 : binK .eql (vI (j : Nat)) (.int .i64 3) = _:=bEqN j 3
     have e4 : binK .eql (vI (j : Nat)) (.int .i64 4) = _:=bEqN j 4
     have e5 : binK .eql (vI (j : Nat)) (.int .i64 5) = _:=bEqN j 5
     have e6 : binK .eql (vI (j : Nat)) (.int .i64 6) = _:=bEqN j 6
     have e7 : binK .eql (vI (j : Nat)) (.int .i64 7) = _:=bEqN j 7
     have e8 : binK .eql (vI (j : Nat)) (.int .i64 8) = _:=bEqN j 8
     clear hgood s1 s2 s3 s4 s5 hf hK
     rcases j18 with rfl | rfl | rfl | rfl | rfl | rfl | rfl | rfl
     all_goals (simp only [e3,e4,e5,e6,e7,e8,n2,n3,n4,g5,g3,opt_s,joinP_eq,Nat.reduceEqDiff,eq_self,decide_true,decide_false,Bool.or_false,Bool.or_true,Bool.true_or,Bool.false_or,iteB_true,iteB_false,gv_0,List.length_cons,List.length_nil,Nat.reduceAdd,true_and]; exact h1)
    simp only [gv_0]
    rw [not_bool,opt_s,iteB_bool]
    cases hg : goodB j N with
    | false =>
     have hc:=hgood
     rw [hg] at hc
     have hc : ws.length < (frmK j).least ∨ (frmK j).most < ws.length:=by
      by_cases h : ws.length < (frmK j).least ∨ (frmK j).most < ws.length
      ·exact h
      ·exact absurd (hc.2 h) (by simp)
     have hres : factIV l = .tup [fctW fct0,vI w.2,.int .i64 9]:=by
      unfold factIV factI
      rw [hw]
      simp only [hf]
      rw [if_pos hc]
      rfl
     rw [if_pos (by simp),opt_s,hw0,opt_s,z1,opt_s,w1,hres]
    | true =>
     have hc:=hgood.1 hg
     rw [if_neg (by simp)]
     have hlong : (frmK j).num = false → j ≠ 8 → (frmK j).most = (frmK j).names:=by
      rcases j18 with rfl | rfl | rfl | rfl | rfl | rfl | rfl | rfl <;> simp [frmK]
     clear j18 hgood hg hK n2 n3 n4 g5 g3 es q0
     generalize hR : fillI (frmK j) 0 ws { fct0 with kind:=(frmK j).kind } = R
     have hX:=fun {o : Fct} {k e : Int} (h : R = (o,k,e))=>fact_exit hw hf hc (hR.trans h)
     refine loopP_inv (fun vs=>∃ (m : Nat) (o : Fct),m ≤ ws.length ∧ RfI (frmK j) m o ∧ o.l.length ≤ m ∧ fillI (frmK j) m (ws.drop m) o = R ∧ vs = [strsV (nmW (frmK j) m o),vI ((m + 1 : Nat) : Int),vI o.n]) (fun vs=>N - natOf (gv vs 1))
      ⟨0,{ fct0 with kind:=(frmK j).kind },Nat.zero_le _,⟨rfl,fun _=>rfl,fun _=>rfl,fun _=>rfl⟩,Nat.le_refl _,hR,by simp [nmW,strsV]; rfl⟩ ?_
     rintro r1 _ ⟨m,o,hm,hI,hol,hfl,rfl⟩ hr1
     refine ⟨rfl,?_⟩
     simp only [gv_0,gv_s]
     rw [bLt,opt_s,iteB_bool]
     by_cases hlt : m + 1 < N
     ·rw [if_pos (by simpa using hlt)]
      obtain ⟨x,hx⟩ : ∃ x,ws[m]? = some x:=⟨_,List.getElem?_eq_getElem (show m < ws.length by omega)⟩
      have hd : ws.drop m = x :: ws.drop (m + 1):=drop_cons hx
      rw [hd] at hfl
      unfold fillI at hfl
      refine jnK fun r2 h2=>?_
      have nx : ∀ o' : Fct,RfI (frmK j) (m + 1) o' → o'.l.length ≤ m + 1 → fillI (frmK j) (m + 1) (ws.drop (m + 1)) o' = R → ∀ L,L = nmW (frmK j) (m + 1) o' → r2 [strsV L,vI o'.n]:=fun o' g1 g2 g3 L hL=>h2 _ ⟨rfl,by
       simp only [gv_0,gv_s]
       simp only [List.length_cons] at hl1
       rw [add1' (by omega),opt_s,hL]
       exact hr1 _ ⟨m + 1,o',by omega,g1,g2,g3,rfl⟩ (by simp only [gv_0,gv_s,natOf]; omega)⟩
      have x0 : cellD (wrdIW x) 0 = .str x.1:=rfl
      have x1 : cellD (wrdIW x) 1 = vI x.2:=rfl
      have hxl : x.1.length ≤ bigT:=hl2 x (List.mem_cons_of_mem _ (List.mem_of_getElem? hx))
      rw [show idxLK true 2 (wrdsI (w :: ws)) (vI ((m + 1 : Nat) : Int)) = some (wrdIW x) from wrdAtI (i:=m + 1) hx,opt_s]
      refine gCond (m + 1) j _ ?_
      rw [iteB_bool,x0,x1]
      by_cases hcn : (frmK j).num = true ∧ m = (frmK j).names
      ·rw [if_pos hcn] at hfl
       rw [if_pos ((s5 m).2 hcn),c2,show F_entailref13_number [.str x.1] = some (vI (nuI x.1)) from if_pos hxl,opt_s,chk1_s rfl,opt_s,show binK .eql (vI (nuI x.1)) (.int .i64 0) = _ from bEqI (nuI x.1) 0,opt_s,iteB_bool]
       unfold nuI
       cases hnm : numM x.1 with
       | none =>
        rw [hnm] at hfl
        simp only at hfl ⊢
        have:=hX hfl.symm
        rw [if_neg (by decide)] at this
        rw [if_pos (by simp),opt_s,z1,opt_s,this]
       | some n =>
        rw [hnm] at hfl
        simp only at hfl ⊢
        have hp:=(numM_pos hnm).1
        rw [if_neg (by simp; omega)]
        refine nx { o with n:=n } ⟨hI.kind,hI.b,hI.c,fun g=>hI.l (by rw [if_pos hcn.1]; omega)⟩ (by simp only; omega) hfl _ ?_
        unfold nmW
        rw [if_pos (by omega),if_neg (by omega)]
        simp only
        rw [hI.l (by rw [if_pos hcn.1]; omega),List.append_nil,hcn.2]
      ·rw [if_neg hcn] at hfl
       rw [if_neg (fun h=>hcn ((s5 m).1 h)),c3,show F_entailref1_Name [.str x.1] = some (.bool (nameD x.1)) from if_pos hxl,opt_s,not_bool,opt_s,iteB_bool]
       cases hnd : nameD x.1 with
       | false =>
        rw [hnd,if_pos rfl] at hfl
        have:=hX hfl.symm
        rw [if_neg (by decide)] at this
        rw [if_pos (by simp),opt_s,z1,opt_s,this]
       | true =>
        rw [hnd,if_neg (by simp)] at hfl
        have hnl:=nm_len (f:=frmK j) (m:=m) (o:=o)
        simp only [List.length_cons] at hl1
        rw [if_neg (by simp),lit1,opt_s,appStrs (by simp only [List.length_singleton]; omega),opt_s]
        obtain ⟨t1,t2⟩:=nm_next s3 hI x.1 hcn
        by_cases hle : (frmK j).names ≤ m
        ·rw [if_pos hle] at hfl
         obtain ⟨u1,u2⟩:=t1 hle
         exact nx { o with l:=o.l ++ [x.1] } u2 (by simp; omega) hfl _ u1.symm
        ·rw [if_neg hle] at hfl
         obtain ⟨v0,v1,v2⟩:=t2 hle
         by_cases hz : m = 0
         ·rw [if_pos hz] at hfl
          obtain ⟨u1,u2⟩:=v0 hz
          exact nx { o with a:=x.1 } u2 (by simp only; omega) hfl _ u1.symm
         ·rw [if_neg hz] at hfl
          by_cases hz1 : m = 1
          ·rw [if_pos hz1] at hfl
           obtain ⟨u1,u2⟩:=v1 hz1
           exact nx { o with b:=x.1 } u2 (by simp only; omega) hfl _ u1.symm
          ·rw [if_neg hz1] at hfl
           obtain ⟨u1,u2⟩:=v2 hz hz1
           exact nx { o with c:=x.1 } u2 (by simp only; omega) hfl _ u1.symm
     ·have hme : m = ws.length:=by omega
      rw [if_neg (by simpa using hlt)]
      have hd : ws.drop m = []:=List.drop_eq_nil_of_le (by omega)
      rw [hd] at hfl
      unfold fillI at hfl
      have hres:=hX hfl.symm
      rw [if_pos rfl] at hres
      have hle : (frmK j).names ≤ m:=by omega
      exact fact_made j1 j8 hI hle (fun h1 h2=>hI.l (by have:=hlong h1 h2; omega)) l.1 (Q:=fun v=>v = factIV l) (by rw [hres])
theorem ok_entailref13_Fact : SpecL Tryz.prog n_entailref13_Fact F_entailref13_Fact:=by
 refine go_entailref13_Fact (T:=TRf) (TabOk.cons ok_entailref13_words (TabOk.cons ok_entailref13_number (TabOk.cons ok_entailref1_Name TabOk.nil))) fun args v hv=>?_
 obtain ⟨l,rfl,hl,rfl⟩:=specOf_inv hv
 refine ⟨rfl,?_,?_,rfact_wp l hl⟩
 ·simp only [canos,linIW_cano,Bool.and_self]
 ·simp only [factIV,V.cano,canos,fctA_cano,Bool.and_self]
end Go.Fbs

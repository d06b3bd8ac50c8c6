import Derived.Test.YtpdnpfdbjoaemaaGreatDoorQM
set_option linter.unusedSimpArgs false
set_option linter.unusedVariables false
set_option linter.unusedSectionVars false
set_option maxRecDepth 100000
namespace Go.Fbs
open Go.Proofs
attribute [local irreducible] FunWpE FunWp opt
theorem mapI {α β : Type} {f : α → β} (hf : ∀ a b,f a = f b → a = b) : ∀ {l m : List α},l.map f = m.map f → l = m
 | [],[],_=>rfl
 | [],_ :: _,h=>by simp at h
 | _ :: _,[],h=>by simp at h
 | a :: l,b :: m,h=>by
  simp only [List.map_cons,List.cons.injEq] at h
  rw [hf _ _ h.1,mapI hf h.2]
def strsV (l : List (List UInt8)) : V:=.sl .ro (l.map V.str)
theorem strsV_cano (l : List (List UInt8)) : (strsV l).cano = true:=by
 simp only [strsV,V.cano]
 exact canos_map fun w=>rfl
theorem strsV_inj {a b : List (List UInt8)} (h : strsV a = strsV b) : a = b:=by
 simp only [strsV,V.sl.injEq,true_and] at h
 exact mapI (fun a b h=>by simpa using h) h
def frmV (f : Frm) : V:=.agg [vI f.kind,vI f.names,.bool f.num,vI f.least,vI f.most]
def fctW (o : Fct) : V:=.agg [vI o.kind,.str o.a,.str o.b,.str o.c,vI o.n,strsV o.l,vI o.at_]
theorem fctW_cano (o : Fct) : (fctW o).cano = true:=by simp only [fctW,V.cano,canos,strsV_cano,Bool.and_self]
theorem frmV_inj {a b : Frm} (h : frmV a = frmV b) : a = b:=by
 cases a; cases b
 simp only [frmV,V.agg.injEq,List.cons.injEq,and_true,V.int.injEq,true_and,V.bool.injEq] at h
 simp only [Frm.mk.injEq]
 refine ⟨by omega,by omega,h.2.2.1,by omega,by omega⟩
theorem fctW_inj (a b : Fct) (h : fctW a = fctW b) : a = b:=by
 cases a; cases b
 simp only [fctW,V.agg.injEq,List.cons.injEq,and_true,V.int.injEq,true_and,V.str.injEq] at h
 obtain ⟨h1,h2,h3,h4,h5,h6,h7⟩:=h
 simp only [Fct.mk.injEq]
 exact ⟨h1,h2,h3,h4,h5,strsV_inj h6,by omega⟩
theorem bSeqD (s u : List UInt8) : binK .eql (.str s) (.str u) = some (.bool (decide (s = u))):=by
 rw [bSeq]
 congr 2
 by_cases h : s = u
 ·simp [h]
 ·simp [h]
def F_role_formOf : Spec
 | [.str w]=>some (match formM w with | some f=>.tup [frmV f,.bool true] | none=>.tup [frmV (frmK 0),.bool false])
 | _=>none
theorem ok_role_formOf : SpecL Tryz.prog n_role_formOf F_role_formOf:=by
 refine go_role_formOf (T:=[]) (TabOk.nil) fun args v hv=>?_
 unfold F_role_formOf at hv
 split at hv <;> (try simp only [Option.ite_none_right_eq_some,Option.some.injEq,reduceCtorEq] at hv)
 rename_i w
 subst hv
 refine ⟨rfl,rfl,by split <;> rfl,?_⟩
 rw [e_role_formOf]
 have a1 : aggK [(.int .i64 1),(.int .i64 1),(.bool false),(.int .i64 1),(.int .i64 1)] = some (frmV (frmK 1)):=agg_s rfl
 have a2 : aggK [(.int .i64 2),(.int .i64 1),(.bool false),(.int .i64 1),(.int .i64 1)] = some (frmV (frmK 2)):=agg_s rfl
 have a3 : aggK [(.int .i64 3),(.int .i64 2),(.bool false),(.int .i64 2),(.int .i64 2)] = some (frmV (frmK 3)):=agg_s rfl
 have a4 : aggK [(.int .i64 4),(.int .i64 2),(.bool false),(.int .i64 2),(.int .i64 2)] = some (frmV (frmK 4)):=agg_s rfl
 have a5 : aggK [(.int .i64 5),(.int .i64 3),(.bool false),(.int .i64 3),(.int .i64 3)] = some (frmV (frmK 5)):=agg_s rfl
 have a6 : aggK [(.int .i64 6),(.int .i64 1),(.bool true),(.int .i64 4),(.int .i64 1073741824)] = some (frmV (frmK 6)):=agg_s rfl
 have a7 : aggK [(.int .i64 7),(.int .i64 1),(.bool true),(.int .i64 4),(.int .i64 1073741824)] = some (frmV (frmK 7)):=agg_s rfl
 have a8 : aggK [(.int .i64 8),(.int .i64 2),(.bool false),(.int .i64 2),(.int .i64 1073741824)] = some (frmV (frmK 8)):=agg_s rfl
 have a0 : aggK [(.int .i64 0),(.int .i64 0),(.bool false),(.int .i64 0),(.int .i64 0)] = some (frmV (frmK 0)):=agg_s rfl
 rw [a0,a1,a2,a3,a4,a5,a6,a7,a8]
 simp only [bSeqD,opt_s,iteB_bool]
 unfold formM
 simp only [decide_eq_true_eq,kwM]
 repeat' split
 all_goals (simp_all)
def F_role_keyword : Spec
 | [.int .i64 k]=>some (.str (kwM k.toNat))
 | _=>none
theorem kw_out {k : Int} (h : k < 1 ∨ 9 ≤ k) : kwM k.toNat = []:=by
 have : k.toNat = 0 ∨ 9 ≤ k.toNat:=by omega
 rcases this with e | e
 ·rw [e]; rfl
 ·obtain ⟨m,hm⟩ : ∃ m,k.toNat = m + 9:=⟨k.toNat - 9,by omega⟩
  rw [hm]; rfl
theorem ok_role_keyword : SpecL Tryz.prog n_role_keyword F_role_keyword:=by
 refine go_role_keyword (T:=[]) (TabOk.nil) fun args v hv=>?_
 unfold F_role_keyword at hv
 split at hv <;> (try simp only [Option.ite_none_right_eq_some,Option.some.injEq,reduceCtorEq] at hv)
 rename_i k
 subst hv
 refine ⟨rfl,rfl,rfl,?_⟩
 rw [e_role_keyword]
 have a0 : aggK [(.str []),(.str [117,115,101,114]),(.str [114,111,108,101]),(.str [105,110,104,101,114,105,116]),(.str [97,115,115,105,103,110]),(.str [103,114,97,110,116]),(.str [115,115,100]),(.str [100,115,100]),(.str [115,101,115,115,105,111,110])] = some (.agg [(.str []),(.str [117,115,101,114]),(.str [114,111,108,101]),(.str [105,110,104,101,114,105,116]),(.str [97,115,115,105,103,110]),(.str [103,114,97,110,116]),(.str [115,115,100]),(.str [100,115,100]),(.str [115,101,115,115,105,111,110])]):=agg_s rfl
 rw [a0,opt_s,bLss,opt_s,bGeq,opt_s,pBool,opt_s]
 by_cases h1 : k < 1
 ·rw [kw_out (.inl h1)]
  simp only [decide_eq_true h1,if_true,iteB_true]
 ·by_cases h9 : 9 ≤ k
  ·rw [kw_out (.inr h9)]
   simp only [decide_eq_false h1,decide_eq_true h9,Bool.false_eq_true,if_false,iteB_true]
  ·simp only [decide_eq_false h1,decide_eq_false h9,Bool.false_eq_true,if_false,iteB_false]
   have : k = 1 ∨ k = 2 ∨ k = 3 ∨ k = 4 ∨ k = 5 ∨ k = 6 ∨ k = 7 ∨ k = 8:=by omega
   rcases this with rfl | rfl | rfl | rfl | rfl | rfl | rfl | rfl <;> simp [inbK,nthK,chk1K,sc,cellD,V.cells,opt_s,kwM]
abbrev WrdI:=List UInt8 × Int
abbrev LinI:=Int × List WrdI
def wrdIW (w : WrdI) : V:=.agg [.str w.1,vI w.2]
def wrdsI (l : List WrdI) : V:=.sl .ro (l.map wrdIW)
theorem wrdsI_cano (l : List WrdI) : (wrdsI l).cano = true:=canos_map fun _=>rfl
def linIW (x : LinI) : V:=.agg [vI x.1,wrdsI x.2]
theorem linIW_cano (x : LinI) : (linIW x).cano = true:=by simp only [linIW,V.cano,canos,wrdsI_cano,Bool.and_self]
theorem wrdIW_inj (a b : WrdI) (h : wrdIW a = wrdIW b) : a = b:=by
 simp only [wrdIW,vI,V.agg.injEq,List.cons.injEq,V.str.injEq,V.int.injEq,true_and,and_true] at h
 exact Prod.ext h.1 h.2
theorem wrdsI_inj {a b : List WrdI} (h : wrdsI a = wrdsI b) : a = b:=by
 simp only [wrdsI,V.sl.injEq,true_and] at h
 exact mapI wrdIW_inj h
theorem linIW_inj (a b : LinI) (h : linIW a = linIW b) : a = b:=by
 simp only [linIW,vI,V.agg.injEq,List.cons.injEq,V.int.injEq,true_and,and_true] at h
 exact Prod.ext h.1 (wrdsI_inj h.2)
def castW (w : Wrd) : WrdI:=(w.1,(w.2 : Int))
def castL (x : Lin) : LinI:=((x.1 : Int),x.2.map castW)
theorem cast_wrds (l : List Wrd) : wrdsI (l.map castW) = wrdsV l:=by
 simp only [wrdsI,wrdsV,List.map_map]; rfl
theorem cast_lin (x : Lin) : linIW (castL x) = linW x:=by
 simp only [linIW,castL,cast_wrds]; rfl
def fctA (o : Fct) (at_ : Int) : V:=.agg [vI o.kind,.str o.a,.str o.b,.str o.c,vI o.n,strsV o.l,vI at_]
theorem fctA_cano (o : Fct) (k : Int) : (fctA o k).cano = true:=by simp only [fctA,V.cano,canos,strsV_cano,Bool.and_self]
def fillI (f : Frm) : Nat → List WrdI → Fct → Fct × Int × Int
 | _,[],o=>(o,0,0)
 | i,w :: ws,o =>
  if f.num = true ∧ i = f.names then
   match numM w.1 with
   | some n=>fillI f (i + 1) ws { o with n:=n }
   | none=>(o,w.2,9)
  else if nameD w.1 = false then (o,w.2,15)
  else if f.names ≤ i then fillI f (i + 1) ws { o with l:=o.l ++ [w.1] }
  else if i = 0 then fillI f (i + 1) ws { o with a:=w.1 }
  else if i = 1 then fillI f (i + 1) ws { o with b:=w.1 }
  else fillI f (i + 1) ws { o with c:=w.1 }
theorem fill_cast (f : Frm) : ∀ (ws : List Wrd) (i : Nat) (o : Fct),fillI f i (ws.map castW) o = ((fillM f i ws o).1,((fillM f i ws o).2.1 : Int),(fillM f i ws o).2.2)
 | [],i,o=>rfl
 | w :: ws,i,o=>by
  rw [List.map_cons]
  unfold fillI fillM
  have e1 : (castW w).1 = w.1:=rfl
  have e2 : (castW w).2 = (w.2 : Int):=rfl
  rw [e1,e2]
  split
  ·cases numM w.1 with
   | some n=>exact fill_cast f ws _ _
   | none=>rfl
  ·split
   ·rfl
   ·split
    ·exact fill_cast f ws _ _
    ·split
     ·exact fill_cast f ws _ _
     ·split
      ·exact fill_cast f ws _ _
      ·exact fill_cast f ws _ _
theorem fill_to (f : Frm) : ∀ (ws : List Wrd) (i : Nat) (o : Fct) (k : Nat),fillM f i ws { o with at_:=k } = ({ (fillM f i ws o).1 with at_:=k },(fillM f i ws o).2.1,(fillM f i ws o).2.2)
 | [],i,o,k=>rfl
 | w :: ws,i,o,k=>by
  unfold fillM
  split
  ·cases numM w.1 with
   | some n=>exact fill_to f ws _ { o with n:=n } k
   | none=>rfl
  ·split
   ·rfl
   ·split
    ·exact fill_to f ws _ { o with l:=o.l ++ [w.1] } k
    ·split
     ·exact fill_to f ws _ { o with a:=w.1 } k
     ·split
      ·exact fill_to f ws _ { o with b:=w.1 } k
      ·exact fill_to f ws _ { o with c:=w.1 } k
def factI (l : LinI) : Fct × Int × Int × Int :=
 match l.2 with
 | []=>(fct0,0,l.1,9)
 | w :: ws =>
  match formM w.1 with
  | none=>(fct0,0,w.2,9)
  | some f=>if ws.length < f.least ∨ f.most < ws.length then (fct0,0,w.2,9) else
   match fillI f 0 ws { fct0 with kind:=f.kind } with
   | (o,_,0)=>(o,l.1,0,0)
   | (_,k,e)=>(fct0,0,k,e)
def factIV (l : LinI) : V:=.tup [fctA (factI l).1 (factI l).2.1,vI (factI l).2.2.1,vI (factI l).2.2.2]
theorem fact_cast (x : Lin) : factIV (castL x) = .tup [fctW (factM x).1,vI (factM x).2.1,vI (factM x).2.2]:=by
 obtain ⟨k,ws⟩:=x
 cases ws with
 | nil=>rfl
 | cons w ws =>
  unfold factIV factI factM castL
  simp only [List.map_cons]
  rw [show (castW w).1 = w.1 from rfl,show (castW w).2 = (w.2 : Int) from rfl]
  cases hf : formM w.1 with
  | none=>rfl
  | some f =>
   simp only [List.length_map]
   by_cases hc : ws.length < f.least ∨ f.most < ws.length
   ·rw [if_pos hc,if_pos hc]; rfl
   ·rw [if_neg hc,if_neg hc,fill_cast,fill_to f ws 0 { fct0 with kind:=f.kind } k]
    generalize fillM f 0 ws { fct0 with kind:=f.kind } = R
    obtain ⟨o,q,e⟩:=R
    by_cases he : e = 0
    ·subst he; rfl
    ·simp only
     rfl
abbrev Fct0:={ o : Fct // o.at_ = 0 }
theorem fctA_inj {o o' : Fct0} {k k' : Int} (h : fctA o.1 k = fctA o'.1 k') : o = o' ∧ k = k':=by
 simp only [fctA,vI,V.agg.injEq,List.cons.injEq,V.str.injEq,V.int.injEq,true_and,and_true] at h
 obtain ⟨h1,h2,h3,h4,h5,h6,h7⟩:=h
 refine ⟨?_,h7⟩
 replace h6:=strsV_inj h6
 obtain ⟨⟨a1,a2,a3,a4,a5,a6,a7⟩,ha⟩:=o
 obtain ⟨⟨b1,b2,b3,b4,b5,b6,b7⟩,hb⟩:=o'
 simp only at ha hb h1 h2 h3 h4 h5 h6
 subst h1 h2 h3 h4 h5 h6 ha hb
 rfl
noncomputable def F_x_role_form_fill : Spec:=specOf (fun q : Frm × Fct0 × Int × List WrdI=>[frmV q.1,fctA q.2.1.1 q.2.2.1,wrdsI q.2.2.2]) (fun q=>q.1.names ≤ 1000000 ∧ q.2.1.1.l.length + q.2.2.2.length ≤ 300000 ∧ ∀ w ∈ q.2.2.2,w.1.length ≤ bigT)
 (fun q=>.tup [vI (fillI q.1 0 q.2.2.2 q.2.1.1).2.1,vI (fillI q.1 0 q.2.2.2 q.2.1.1).2.2,fctA (fillI q.1 0 q.2.2.2 q.2.1.1).1 q.2.2.1])
theorem Ffill {f : Frm} {o : Fct} {k : Int} {ws : List WrdI} (ho : o.at_ = 0) (h0 : f.names ≤ 1000000) (h1 : o.l.length + ws.length ≤ 300000) (h2 : ∀ w ∈ ws,w.1.length ≤ bigT) :
  F_x_role_form_fill [frmV f,fctA o k,wrdsI ws] = some (.tup [vI (fillI f 0 ws o).2.1,vI (fillI f 0 ws o).2.2,fctA (fillI f 0 ws o).1 k]) :=
 specOf_eq (a:=(f,(⟨o,ho⟩ : Fct0),k,ws)) (fun a b h=>by
  simp only [List.cons.injEq,and_true] at h
  obtain ⟨g1,g2⟩:=fctA_inj h.2.1
  exact Prod.ext (frmV_inj h.1) (Prod.ext g1 (Prod.ext g2 (wrdsI_inj h.2.2)))) ⟨h0,h1,h2⟩
theorem lenWrdI (l : List WrdI) : lenL (wrdsI l) = some (vI l.length):=by simp [lenL,wrdsI]
theorem wrdAtI {l : List WrdI} {i : Nat} {x : WrdI} (h : l[i]? = some x) : idxLK true 2 (wrdsI l) (vI (i : Nat)) = some (wrdIW x):=by
 refine idxL_agg (cs:=[.str x.1,vI x.2]) ?_ rfl rfl .i64
 rw [List.getElem?_map,h]; rfl
theorem chkFctA (o : Fct) (k : Int) : chkK 7 (fctA o k) = some (fctA o k):=chk_agg rfl rfl
theorem lenWrd (l : List Wrd) : lenL (wrdsV l) = some (vI l.length):=by simp [lenL,wrdsV]
theorem wrdAt {l : List Wrd} {i : Nat} {x : Wrd} (h : l[i]? = some x) : idxLK true 2 (wrdsV l) (vI (i : Nat)) = some (wrdW x):=by
 refine idxL_agg (cs:=[.str x.1,vI x.2]) ?_ rfl rfl .i64
 rw [List.getElem?_map,h]; rfl
theorem appStr {l : List (List UInt8)} (h : l.length ≤ 300000) (x : List UInt8) : appK 1 16 (strsV l) (.sl .ro [.str x]) = some (strsV (l ++ [x])):=by
 have:=app_s (n:=1) (b:=16) (g:=.ro) (g':=.ro) (es:=l.map V.str) (ys:=[.str x]) (by simp; omega) (all_map_len fun a=>rfl) rfl
 unfold strsV
 rw [List.map_append]
 exact this
theorem litStr (x : List UInt8) : litK 1 [.str x] = some (.sl .ro [.str x]):=lit_s (n:=1) (by simp) rfl
theorem chkFrm (f : Frm) : chkK 5 (frmV f) = some (frmV f):=chk_agg rfl rfl
theorem chkFct (o : Fct) : chkK 7 (fctW o) = some (fctW o):=chk_agg rfl rfl
theorem add1' {a : Nat} (h : a ≤ 4611686018427387000) : binK .add (vI (a : Nat)) (.int .i64 1) = some (vI ((a + 1 : Nat) : Int)):=addK (b:=1) (by omega)
theorem bEqN (a b : Nat) : binK .eql (vI (a : Nat)) (vI (b : Nat)) = some (.bool (decide (a = b))):=by
 rw [bEql]; congr 2; by_cases h : a = b
 ·simp [h]
 ·have : ¬ (a : Int) = (b : Int):=by omega
  simp [h,this]
theorem bGeN (a b : Nat) : binK .geq (vI (a : Nat)) (vI (b : Nat)) = some (.bool (decide (b ≤ a))):=by
 rw [bGeq]; congr 2; by_cases h : b ≤ a
 ·simp [h]
 ·have : ¬ (b : Int) ≤ (a : Int):=by omega
  simp [h]
theorem okx_role_form_fill : SpecE Tryz.prog n_role_form_fill s_x_role_form_fill F_x_role_form_fill:=by
 refine go_x_role_form_fill (T:=[(n_role_number,F_role_number),(n_atom_Name,F_atom_Name)]) (TabOk.cons ok_role_number (TabOk.cons ok_atom_Name TabOk.nil)) fun words v hv=>?_
 have c1 : ∀ args,tab [(n_role_number,F_role_number),(n_atom_Name,F_atom_Name)] n_role_number args = F_role_number args:=fun _=>rfl
 have c2 : ∀ args,tab [(n_role_number,F_role_number),(n_atom_Name,F_atom_Name)] n_atom_Name args = F_atom_Name args:=fun _=>rfl
 obtain ⟨⟨f,⟨o,ho⟩,at0,ws⟩,rfl,⟨h0,h1,h2⟩,rfl⟩:=specOf_inv hv
 simp only at h0 h1 h2
 refine ⟨_,rfl,rfl,?_,?_,rfl,?_,?_⟩
 ·have:=wrdsI_cano ws
  have h3:=fctA_cano o at0
  simp only [canos,this,h3,Bool.and_true]; rfl
 ·have h3:=fctA_cano (fillI f 0 ws o).1 at0
  simp only [canos,h3,Bool.and_true]; rfl
 ·rfl
 refine Eq.mpr (e_x_role_form_fill (tab _) _ (frmV f) (vI o.kind) (.str o.a) (.str o.b) (.str o.c) (vI o.n) (strsV o.l) (vI at0) (wrdsI ws)) ?_
 rw [chkFrm,opt_s,lenWrdI,opt_s]
 have hc1 : cellD (frmV f) 1 = vI f.names:=rfl
 have hc2 : cellD (frmV f) 2 = .bool f.num:=rfl
 generalize hR : fillI f 0 ws o = R
 refine loopP_inv (fun vs=>∃ (i : Nat) (q : Fct),i ≤ ws.length ∧ q.kind = o.kind ∧ q.l.length ≤ o.l.length + i ∧ fillI f i (ws.drop i) q = R ∧ vs = [strsV q.l,vI (i : Nat),.str q.c,.str q.b,.str q.a,vI q.n]) (fun vs=>ws.length - natOf (gv vs 1)) ⟨0,o,Nat.zero_le _,rfl,Nat.le_refl _,hR,rfl⟩ ?_
 rintro rr _ ⟨i,q,hi,hq1,hq3,hq4,rfl⟩ hr
 refine ⟨rfl,?_⟩
 simp only [gv_0,gv_s,hc1,hc2]
 have hag : aggK [vI o.kind,.str q.a,.str q.b,.str q.c,vI q.n,strsV q.l,vI at0] = some (fctA q at0):=by
  rw [← hq1]; exact agg_s rfl
 rw [bLt,opt_s,iteB_bool]
 by_cases hlt : i < ws.length
 ·rw [if_pos (by simpa using hlt)]
  obtain ⟨w,hw⟩ : ∃ w,ws[i]? = some w:=⟨_,List.getElem?_eq_getElem hlt⟩
  have hd : ws.drop i = w :: ws.drop (i + 1):=by
   obtain ⟨h9,e9⟩:=List.getElem?_eq_some_iff.1 hw
   rw [List.drop_eq_getElem_cons h9,e9]
  have hwl : w.1.length ≤ bigT:=h2 w (List.mem_of_getElem? hw)
  rw [hd] at hq4
  unfold fillI at hq4
  have hw0 : cellD (wrdIW w) 0 = .str w.1:=rfl
  have hw1 : cellD (wrdIW w) 1 = vI w.2:=rfl
  have ha:=add1' (a:=i) (by omega)
  have hnx : ∀ q' : Fct,q'.kind = q.kind → q'.l.length ≤ q.l.length + 1 → fillI f (i + 1) (ws.drop (i + 1)) q' = R → rr [strsV q'.l,vI ((i + 1 : Nat) : Int),.str q'.c,.str q'.b,.str q'.a,vI q'.n]:=fun q' g1 g3 g4 =>
   hr _ ⟨i + 1,q',by omega,g1.trans hq1,by omega,g4,rfl⟩ (by simp only [gv_0,gv_s,natOf]; omega)
  rw [wrdAtI hw,opt_s]
  simp only [hw0,hw1]
  rw [chkB_bool,opt_s,opt_s,opt_s,opt_s,bEqN,opt_s,pBool,opt_s]
  by_cases hn : f.num = true ∧ i = f.names
  ·rw [if_pos hn] at hq4
   rw [hn.1,if_pos rfl,decide_eq_true hn.2,iteB_true,c1,show F_role_number [.str w.1] = some (numV w.1) from if_pos hwl,opt_s]
   unfold numV
   cases hm : numM w.1 with
   | none =>
    rw [hm] at hq4
    simp only at hq4 ⊢
    rw [ext_tup,ext_tup]
    simp only [List.getElem?_cons_zero,List.getElem?_cons_succ,opt_s,not_bool,Bool.not_false,iteB_true]
    rw [hag,opt_s,← hq4]
   | some n =>
    rw [hm] at hq4
    simp only at hq4 ⊢
    rw [ext_tup,ext_tup]
    simp only [List.getElem?_cons_zero,List.getElem?_cons_succ,opt_s,not_bool,Bool.not_true,iteB_false]
    rw [chk1_s rfl,opt_s,ha,opt_s]
    exact hnx { q with n:=n } rfl (by simp) hq4
  ·rw [if_neg hn] at hq4
   have hcond : (if f.num = true then V.bool (decide (i = f.names)) else V.bool false) = .bool false:=by
    cases hf : f.num with
    | false=>rfl
    | true =>
     rw [if_pos rfl]
     rw [decide_eq_false (fun e=>hn ⟨hf,e⟩)]
   rw [hcond,iteB_false,c2,show F_atom_Name [.str w.1] = some (.bool (nameD w.1)) from if_pos hwl,opt_s,not_bool,opt_s,iteB_bool]
   cases hg : nameD w.1 with
   | false =>
    rw [hg,if_pos rfl] at hq4
    rw [Bool.not_false,if_pos rfl,hag,opt_s,← hq4]
   | true =>
    rw [hg,if_neg (by simp)] at hq4
    rw [Bool.not_true,if_neg (by simp),bGeN,opt_s,iteB_bool]
    by_cases hle : f.names ≤ i
    ·rw [if_pos hle] at hq4
     rw [if_pos (by simpa using hle),litStr,opt_s,appStr (by omega),opt_s,ha,opt_s]
     exact hnx { q with l:=q.l ++ [w.1] } rfl (by simp) hq4
    ·rw [if_neg hle] at hq4
     rw [if_neg (by simpa using hle)]
     rw [show binK .eql (vI (i : Nat)) (.int .i64 0) = _ from bEqN i 0,opt_s,iteB_bool]
     by_cases hz : i = 0
     ·rw [if_pos hz] at hq4
      rw [if_pos (by simpa using hz),ha,opt_s]
      exact hnx { q with a:=w.1 } rfl (by simp) hq4
     ·rw [if_neg hz] at hq4
      rw [if_neg (by simpa using hz),show binK .eql (vI (i : Nat)) (.int .i64 1) = _ from bEqN i 1,opt_s,iteB_bool]
      by_cases hz1 : i = 1
      ·rw [if_pos hz1] at hq4
       rw [if_pos (by simpa using hz1),ha,opt_s]
       exact hnx { q with b:=w.1 } rfl (by simp) hq4
      ·rw [if_neg hz1] at hq4
       rw [if_neg (by simpa using hz1),ha,opt_s]
       exact hnx { q with c:=w.1 } rfl (by simp) hq4
 ·have hd : ws.drop i = []:=List.drop_eq_nil_of_le (by omega)
  rw [hd] at hq4
  unfold fillI at hq4
  rw [if_neg (by simpa using hlt),hag,opt_s,← hq4]
end Go.Fbs

import Derived.Test.YtpdnpfdbjoaemaaGreatDoorQTI
import Derived.LaidMore
import Derived.ProofKit
import Derived.Lib.LaidTab
set_option linter.unusedSimpArgs false
set_option linter.unusedVariables false
set_option linter.unusedSectionVars false
set_option maxRecDepth 100000
namespace Go.Fbs
open Go.Proofs
attribute [local irreducible] FunWpE FunWp opt
theorem fillI_len (f : Frm) : ∀ (ws : List WrdI) (i : Nat) (o : Fct),(fillI f i ws o).1.l.length ≤ o.l.length + ws.length
 | [],i,o=>Nat.le_refl _
 | w :: ws,i,o=>by
  rw [List.length_cons]
  unfold fillI
  split
  ·cases numM w.1 with
   | some n=>have:=fillI_len f ws (i + 1) { o with n:=n }; simp only at this ⊢; omega
   | none=>simp only; omega
  ·split
   ·simp only; omega
   ·split
    ·have:=fillI_len f ws (i + 1) { o with l:=o.l ++ [w.1] }
     simp only [List.length_append,List.length_singleton] at this ⊢
     omega
    ·split
     ·have:=fillI_len f ws (i + 1) { o with a:=w.1 }; simp only at this ⊢; omega
     ·split
      ·have:=fillI_len f ws (i + 1) { o with b:=w.1 }; simp only at this ⊢; omega
      ·have:=fillI_len f ws (i + 1) { o with c:=w.1 }; simp only at this ⊢; omega
theorem factI_len {l : LinI} (h : l.2.length ≤ 300000) : (factI l).1.l.length ≤ 300000:=by
 unfold factI
 split
 ·exact Nat.zero_le _
 ·rename_i w ws hw
  split
  ·exact Nat.zero_le _
  ·rename_i f hf
   split
   ·exact Nat.zero_le _
   ·have:=fillI_len f ws 0 { fct0 with kind:=f.kind }
    rw [hw,List.length_cons] at h
    split
    ·rename_i o _ he
     rw [he] at this
     simp only [fct0,List.length_nil] at this
     simp only; omega
    ·exact Nat.zero_le _
noncomputable abbrev TTe : List (FuncId × Spec):=[(n_role_Fact,F_role_Fact),(n_entailref13_Fact,F_entailref13_Fact),(n_entaillaw13_SameAt,F_entaillaw13_SameAt),(n_role_Parse,F_role_Parse),(n_entailref13_Parse,F_entailref13_Parse),(n_entaillaw12_Tame,F_entaillaw12_Tame),(n_entaillaw13_File,F_entaillaw13_File),(n_entaillaw13_awake,F_true0)]
theorem litP (p : FctP) : litK 7 [fctP p] = some (factsA [p]):=lit_s (n:=7) (by simp) rfl
theorem same_parse (s : List UInt8) : F_entaillaw13_SameAt [factsV (roleM s).1,factsV (roleM s).1] = some (.bool true):=by
 rw [← factsA_V]
 refine FsameAt ⟨?_,fun p hp=>?_⟩
 ·have:=roleM_len s
  rw [List.length_map]; omega
 ·obtain ⟨o,ho,rfl⟩:=List.mem_map.1 hp
  exact parse_okF s o ho
theorem tells_wp (s : List UInt8) (l : List Int) (b : Bool) (n c : Int) (raw : LinI) : FunWp tyT (tab TTe) 144 q_entaillaw13_RoleTells [.tmp 12] (cB Tryz.f3) [.str s,intsV l,.bool b,.int .i64 n,.int .u8 c,linIW raw] (fun v=>v = .bool true):=by
 have c1 : ∀ args,tab TTe n_role_Fact args = F_role_Fact args:=fun _=>rfl
 have c2 : ∀ args,tab TTe n_entailref13_Fact args = F_entailref13_Fact args:=fun _=>rfl
 have c3 : ∀ args,tab TTe n_entaillaw13_SameAt args = F_entaillaw13_SameAt args:=fun _=>rfl
 have c4 : ∀ args,tab TTe n_role_Parse args = F_role_Parse args:=fun _=>rfl
 have c5 : ∀ args,tab TTe n_entailref13_Parse args = F_entailref13_Parse args:=fun _=>rfl
 have c6 : ∀ args,tab TTe n_entaillaw12_Tame args = F_entaillaw12_Tame args:=fun _=>rfl
 have c7 : ∀ args,tab TTe n_entaillaw13_File args = F_entaillaw13_File args:=fun _=>rfl
 have c8 : ∀ args,tab TTe n_entaillaw13_awake args = F_true0 args:=fun _=>rfl
 refine Eq.mpr (e_entaillaw13_RoleTells (tab _) _ (.str s) (intsV l) (.bool b) (.int .i64 n) (.int .u8 c) (linIW raw)) ?_
 have l1 : cellD (linIW raw) 1 = wrdsI raw.2:=rfl
 have ht : tab TTe n_entaillaw13_awake [] = some (.bool true):=(c8 _).trans rfl
 rw [chkLin,opt_s,lenS_s,opt_s,show binK .gtr (vI (s.length : Nat)) (.int .i64 1000) = _ from gtrD s.length 1000,opt_s,l1,lenWrdI,opt_s,show binK .gtr (vI (raw.2.length : Nat)) (.int .i64 20) = _ from gtrD raw.2.length 20,opt_s,pOrD,opt_s,iteB_bool,ht]
 by_cases hbig : 1000 < s.length ∨ 20 < raw.2.length
 ·rw [if_pos (by simpa using hbig),opt_s]
 ·rw [if_neg (by simpa using hbig)]
  refine loopP_inv (fun vs=>∃ i : Nat,i ≤ raw.2.length ∧ (∀ (j : Nat) x,j < i → raw.2[j]? = some x → x.1.length ≤ 100) ∧ vs = [vI (i : Nat)]) (fun vs=>raw.2.length - natOf (gv vs 0)) ⟨0,Nat.zero_le _,fun j x h=>by omega,rfl⟩ ?_
  rintro r0 _ ⟨i,hi,hx,rfl⟩ hr
  refine ⟨rfl,?_⟩
  simp only [gv_0]
  rw [opt_s,bLt,opt_s,iteB_bool]
  by_cases hlt : i < raw.2.length
  ·obtain ⟨x,hxi⟩ : ∃ x,raw.2[i]? = some x:=⟨_,List.getElem?_eq_getElem hlt⟩
   have x0 : cellD (wrdIW x) 0 = .str x.1:=rfl
   rw [if_pos (by simpa using hlt),wrdAtI hxi,opt_s,x0,lenS_s,opt_s,show binK .gtr (vI (x.1.length : Nat)) (.int .i64 100) = _ from gtrD x.1.length 100,opt_s,iteB_bool]
   by_cases h100 : 100 < x.1.length
   ·rw [if_pos (by simpa using h100),opt_s]
   ·rw [if_neg (by simpa using h100),add1' (by omega),opt_s]
    refine hr _ ⟨i + 1,by omega,fun j y hj hy=>?_,rfl⟩ (by simp only [gv_0,natOf]; omega)
    by_cases hji : j = i
    ·subst hji; rw [hxi] at hy; simp only [Option.some.injEq] at hy; subst hy; omega
    ·exact hx j y (by omega) hy
  ·clear hr
   rw [if_neg (by simpa using hlt)]
   have hraw : okLinI raw:=⟨by omega,fun w hw=>by
    obtain ⟨j,hj⟩:=List.mem_iff_getElem?.1 hw
    have:=hx j w (by have:=(List.getElem?_eq_some_iff.1 hj).1; omega) hj
    unfold bigT; omega⟩
   have hfl:=factI_len hraw.1
   rw [c1,FfactI hraw,opt_s]
   have hfac : factIV raw = .tup [fctP (toP (factI raw).1 (factI raw).2.1),vI (factI raw).2.2.1,vI (factI raw).2.2.2]:=rfl
   rw [c2,FrfactI hraw,hfac]
   have hsame : F_entaillaw13_SameAt [factsA [toP (factI raw).1 (factI raw).2.1],factsA [toP (factI raw).1 (factI raw).2.1]] = some (.bool true):=FsameAt ⟨by simp,fun p hp=>by
    simp only [List.mem_singleton] at hp
    subst hp
    exact hfl⟩
   generalize toP (factI raw).1 (factI raw).2.1 = P at hsame ⊢
   generalize (factI raw).2.2.1 = k
   generalize (factI raw).2.2.2 = e
   have hchk : chkK 7 (fctP P) = some (fctP P):=chkFctA _ _
   simp only [ext_tup,List.getElem?_cons_zero,List.getElem?_cons_succ,opt_s,hchk]
   rw [litP,opt_s,opt_s,c3,hsame,opt_s,not_bool,opt_s,bNeq,opt_s,pOrD,opt_s,bNeq,opt_s,pOrD,opt_s]
   have d0 : (!true || !decide (k = k) || !decide (e = e)) = false:=by simp
   rw [d0,iteB_false]
   refine loopP_inv (fun vs=>∃ (i : Nat) (t : List UInt8),i ≤ 4 ∧ t.length ≤ 1000 ∧ vs = [.str t,vI (i : Nat)]) (fun vs=>4 - natOf (gv vs 1)) ⟨0,s,by omega,by omega,rfl⟩ ?_
   rintro r1 _ ⟨i,t,hi4,htl,rfl⟩ hr
   refine ⟨rfl,?_⟩
   simp only [gv_0,gv_s]
   rw [show binK .lss (vI (i : Nat)) (.int .i64 4) = _ from bLt i 4,opt_s,iteB_bool]
   by_cases h4 : i < 4
   ·have nx : ∀ t' : List UInt8,t'.length ≤ 1000 → r1 [.str t',vI ((i + 1 : Nat) : Int)]:=fun t' h=>hr _ ⟨i + 1,t',by omega,h,rfl⟩ (by simp only [gv_0,gv_s,natOf]; omega)
    have hbt : t.length ≤ bigT:=by unfold bigT; omega
    rw [if_pos (by simpa using h4),c4,show F_role_Parse [.str t] = some (roleV t) from rfl,opt_s]
    have hsp:=same_parse t
    rw [c5,show F_entailref13_Parse [.str t] = some (roleV t) from if_pos hbt]
    unfold roleV
    generalize (roleM t).1 = a at hsp ⊢
    generalize (roleM t).2.1 = k'
    generalize (roleM t).2.2 = e'
    simp only [ext_tup,List.getElem?_cons_zero,List.getElem?_cons_succ,opt_s]
    rw [c3,hsp,opt_s,not_bool,opt_s,bNeq,opt_s,pOrD,opt_s,bNeq,opt_s,pOrD,opt_s]
    have d1 : (!true || !decide ((k' : Int) = (k' : Int)) || !decide (e' = e')) = false:=by simp
    rw [d1,iteB_false,show binK .eql (vI (i : Nat)) (.int .i64 0) = _ from bEqN i 0,opt_s,iteB_bool]
    by_cases h0 : i = 0
    ·rw [if_pos (by simpa using h0),c6,show F_entaillaw12_Tame [.str t] = some (.str (tameX t)) from if_pos hbt,opt_s,add1' (by omega),opt_s]
     exact nx _ (by have:=tameX_len t; omega)
    ·rw [if_neg (by simpa using h0),show binK .eql (vI (i : Nat)) (.int .i64 1) = _ from bEqN i 1,opt_s,iteB_bool]
     by_cases h1 : i = 1
     ·rw [if_pos (by simpa using h1),c7,Ffile,opt_s,add1' (by omega),opt_s]
      exact nx _ (fileX_len l b)
     ·rw [if_neg (by simpa using h1),show binK .eql (vI (i : Nat)) (.int .i64 2) = _ from bEqN i 2,opt_s,iteB_bool]
      by_cases h2 : i = 2
      ·obtain ⟨t',f1,f2⟩:=flip_some (s:=t) (by omega) n c
       rw [if_pos (by simpa using h2),f1,opt_s,add1' (by omega),opt_s]
       exact nx _ (by omega)
      ·rw [if_neg (by simpa using h2),add1' (by omega),opt_s]
       exact nx _ htl
   ·rw [if_neg (by simpa using h4)]; trivial
noncomputable def F_entaillaw13_RoleTells : Spec:=specOf (fun q : List UInt8 × List Int × Bool × Int × Int × LinI=>[.str q.1,intsV q.2.1,.bool q.2.2.1,.int .i64 q.2.2.2.1,.int .u8 q.2.2.2.2.1,linIW q.2.2.2.2.2]) (fun _=>True) (fun _=>.bool true)
theorem FroleTells (s : List UInt8) (l : List Int) (b : Bool) (n c : Int) (raw : LinI) : F_entaillaw13_RoleTells [.str s,.sl .ro (l.map (V.int .i64)),.bool b,.int .i64 n,.int .u8 c,linIW raw] = some (.bool true):=specOf_eq (a:=(s,l,b,n,c,raw)) (fun x y h=>by
 simp only [List.cons.injEq,and_true,V.str.injEq,V.bool.injEq,V.int.injEq,true_and] at h
 obtain ⟨h1,h2,h3,h4,h5,h6⟩:=h
 exact Prod.ext h1 (Prod.ext (intsV_inj h2) (Prod.ext h3 (Prod.ext h4 (Prod.ext h5 (linIW_inj _ _ h6)))))) trivial
theorem ok_entaillaw13_RoleTells : SpecL Tryz.prog n_entaillaw13_RoleTells F_entaillaw13_RoleTells:=by
 refine go_entaillaw13_RoleTells (T:=TTe) (TabOk.cons ok_role_Fact (TabOk.cons ok_entailref13_Fact (TabOk.cons ok_entaillaw13_SameAt (TabOk.cons ok_role_Parse (TabOk.cons ok_entailref13_Parse (TabOk.cons ok_entaillaw12_Tame (TabOk.cons ok_entaillaw13_File (TabOk.cons ok_entaillaw13_awake TabOk.nil)))))))) fun args v hv=>?_
 obtain ⟨⟨s,l,b,n,c,raw⟩,rfl,_,rfl⟩:=specOf_inv hv
 exact ⟨rfl,by simp [canos,intsV_cano,linIW_cano,V.cano],rfl,tells_wp s l b n c raw⟩
end Go.Fbs

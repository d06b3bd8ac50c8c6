import Derived.Test.YtpdnpfdbjoaemaaGreatDoorQZ
import Derived.LaidMore
import Derived.ProofKit
import Derived.Lib.LaidTab
set_option linter.unusedSimpArgs false
set_option linter.unusedVariables false
set_option linter.unusedSectionVars false
set_option maxRecDepth 100000
namespace Go.Fbs
open Go.Proofs
attribute [local irreducible] FunWpE FunWp opt
noncomputable abbrev TRb : List (FuncId × Spec):=[(n_entaillaw13_File,F_entaillaw13_File),(n_role_Parse,F_role_Parse),(n_role_Text,F_role_Text),(n_entailref13_SameFacts,F_entailref13_SameFacts),(n_entailref1_Name,F_entailref1_Name),(n_entaillaw13_awake,F_true0)]
theorem aggF0 (k n : Int) (a b c : List UInt8) : aggK [.int .i64 k,.str a,.str b,.str c,.int .i64 n,.sl .ro [],.int .i64 0] = some (fctW ⟨k,a,b,c,n,[],0⟩):=agg_s rfl
theorem aggF1 (k n : Int) (a b c : List UInt8) (l : List (List UInt8)) : aggK [.int .i64 k,.str a,.str b,.str c,.int .i64 n,strsV l,.int .i64 0] = some (fctW ⟨k,a,b,c,n,l,0⟩):=agg_s rfl
theorem lit2 (a b : List UInt8) : litK 1 [.str a,.str b] = some (strsV [a,b]):=lit_s (n:=1) (by simp) rfl
theorem litF (o : Fct) : litK 7 [fctW o] = some (factsV [o]):=lit_s (n:=7) (by simp) rfl
theorem litBad : litK 7 (badF.map fctW) = some (factsV badF):=lit_s (n:=7) (by simp [badF]) (by kernel_rfl)
theorem text_got {s : List UInt8} {fs : List Fct} {k : Nat} (h : roleM s = (fs,k,0)) (hl : s.length ≤ 199999) : F_role_Text [factsV fs] = some (.tup [.str (roleT fs),.bool true]):=by
 obtain ⟨h1,_,h3,_⟩:=text_read h hl
 by_cases hn : fs = []
 ·subst hn
  exact Ftext0
 ·rw [Ftext1 (h3 hn)]
  unfold textV
  rw [h1]
theorem back_wp (l : List Int) (n : Int) : FunWp tyT (tab TRb) 113 q_entaillaw13_RoleBack [.tmp 4] (cB Tryz.f4) [intsV l,.int .i64 n] (fun v=>v = .bool true):=by
 have c1 : ∀ args,tab TRb n_entaillaw13_File args = F_entaillaw13_File args:=fun _=>rfl
 have c2 : ∀ args,tab TRb n_role_Parse args = F_role_Parse args:=fun _=>rfl
 have c3 : ∀ args,tab TRb n_role_Text args = F_role_Text args:=fun _=>rfl
 have c4 : ∀ args,tab TRb n_entailref13_SameFacts args = F_entailref13_SameFacts args:=fun _=>rfl
 have c5 : ∀ args,tab TRb n_entailref1_Name args = F_entailref1_Name args:=fun _=>rfl
 have c6 : ∀ args,tab TRb n_entaillaw13_awake args = F_true0 args:=fun _=>rfl
 refine Eq.mpr (e_entaillaw13_RoleBack (tab _) _ (intsV l) (.int .i64 n)) ?_
 rw [and1,opt_s,show binK .eql (vI ((n % ((2 : Nat) : Int)).toNat : Nat)) (.int .i64 1) = _ from bEqN _ 1,opt_s,c1,Ffile,opt_s,c2]
 generalize decide ((n % ((2 : Nat) : Int)).toNat = 1) = b
 have hfl:=fileX_len l b
 generalize fileX l b = s at hfl
 rw [show F_role_Parse [.str s] = some (roleV s) from rfl,opt_s]
 unfold roleV
 obtain ⟨a,k,e,hR⟩ : ∃ a k e,roleM s = (a,k,e):=⟨_,_,_,rfl⟩
 rw [hR]
 simp only [ext_tup,List.getElem?_cons_zero,List.getElem?_cons_succ,opt_s]
 rw [bEql,opt_s]
 refine jnQ (X:=[]) (fun r hr=>?_) ⟨rfl,?_⟩
 ·rw [iteB_bool]
  by_cases he : e = 0
  ·subst he
   obtain ⟨_,hl2,_,gs,g1,g2⟩:=text_read hR (by omega)
   have t1:=text_got hR (by omega)
   have t2:=text_got g1 (by omega)
   rw [roleT_to g2] at t2
   have hlen:=roleM_len s
   have hok:=parse_okF s
   rw [hR] at hlen hok
   have hs:=FsameFacts (a:=a) (b:=gs) (by simp only at hlen; omega) hok
   rw [sameL_iff.2 g2.symm] at hs
   rw [if_pos (by simp),c3,t1,opt_s]
   simp only [ext_tup,List.getElem?_cons_zero,List.getElem?_cons_succ,opt_s]
   rw [c2,show F_role_Parse [.str (roleT a)] = some (roleV (roleT a)) from rfl,opt_s]
   unfold roleV
   rw [g1]
   simp only [ext_tup,List.getElem?_cons_zero,List.getElem?_cons_succ,opt_s]
   rw [c3,t2,opt_s]
   simp only [ext_tup,List.getElem?_cons_zero,List.getElem?_cons_succ,opt_s]
   rw [not_bool,opt_s,bNeq,opt_s,pOr,opt_s]
   have d0 : (!true || !decide ((0 : Int) = 0)) = false:=by decide
   rw [d0,gFF,c4,hs,opt_s,gFF,not_bool,opt_s,pOr,opt_s,bSneD,opt_s,pOr,opt_s,opt_s,pOr,opt_s,iteB_bool,if_neg (by simp)]
   exact hr
  ·rw [if_neg (by simp [he])]
   exact hr
 ·simp only [aggF0,aggF1,lit1,lit2,opt_s]
  change opt (litK 7 (badF.map fctW)) _
  rw [litBad,opt_s,shr1,opt_s,and255,opt_s,lenFct,opt_s,remM _ _ (by decide),opt_s]
  obtain ⟨i,hi⟩ : ∃ i,(n.fdiv 2 % ((256 : Nat) : Int)).toNat % badF.length = i:=⟨_,rfl⟩
  have hlt : i < badF.length:=by rw [← hi]; exact Nat.mod_lt _ (by decide)
  rw [hi]
  obtain ⟨o,ho⟩ : ∃ o,badF[i]? = some o:=⟨_,List.getElem?_eq_getElem hlt⟩
  obtain ⟨b1,b2⟩:=bad_at ho
  have ht : F_role_Text [factsV [o]] = some (.tup [.str [],.bool false]):=by
   rw [Ftext1 b2]
   unfold textV
   rw [b1]
  rw [fctAt ho,opt_s,litF,opt_s,c3,ht,opt_s]
  simp only [ext_tup,List.getElem?_cons_zero,List.getElem?_cons_succ,opt_s]
  rw [not_bool,opt_s,bSeqD,opt_s,pAnd,opt_s]
  refine gAnd _ _ _ true ((c5 _).trans (by kernel_rfl)) ?_
  rw [chkB_bool,opt_s]
  exact gAnd _ _ _ true ((c6 _).trans rfl) (by simp)
noncomputable def F_entaillaw13_RoleBack : Spec:=specOf (fun q : List Int × Int=>[intsV q.1,.int .i64 q.2]) (fun _=>True) (fun _=>.bool true)
theorem FroleBack (l : List Int) (n : Int) : F_entaillaw13_RoleBack [.sl .ro (l.map (V.int .i64)),.int .i64 n] = some (.bool true):=specOf_eq (a:=(l,n)) (fun a b h=>by
 simp only [List.cons.injEq,and_true,V.int.injEq,true_and] at h
 exact Prod.ext (intsV_inj h.1) h.2) trivial
theorem ok_entaillaw13_RoleBack : SpecL Tryz.prog n_entaillaw13_RoleBack F_entaillaw13_RoleBack:=by
 refine go_entaillaw13_RoleBack (T:=TRb) (TabOk.cons ok_entaillaw13_File (TabOk.cons ok_role_Parse (TabOk.cons ok_role_Text (TabOk.cons ok_entailref13_SameFacts (TabOk.cons ok_entailref1_Name (TabOk.cons ok_entaillaw13_awake TabOk.nil)))))) fun args v hv=>?_
 obtain ⟨⟨l,n⟩,rfl,_,rfl⟩:=specOf_inv hv
 exact ⟨rfl,by simp [canos,intsV_cano,V.cano],rfl,back_wp l n⟩
theorem tab0_laid {W : World} (h : laidMetH Tryz.prog Go.Proofs.YtpdnpfdbjoaemaaGreatDoor.Rows.roleBackRow.laid W) : Tab0 W.heap:=by
 have h2 : laidMet Tryz.prog Go.Proofs.YtpdnpfdbjoaemaaGreatDoor.Rows.roleBackRow.laid W:=by rw [MakeChecks.laidMetH_plain _ _ _ (by kernel_rfl)] at h; exact h
 obtain ⟨ps,⟨_,_,_,_,_,q1,_,_,_,_,⟨_,_,_,_,_,q2,_,_,_,_,⟨g,t,cs,fuel,p,q3,hg,ht,hv,hd,_,_⟩,_⟩,_⟩,_⟩:=h2
 intro p hp
 simp only [tabs,List.mem_singleton] at hp
 subst hp
 have hg5 : Tryz.prog.globalNamed "internal/strconv.uint64pow10" = some 5 := by kernel_rfl
 have ht5 : (Tryz.prog.globals[5]?).map (·.type) = some 139:=by kernel_rfl
 have e1 : g = 5:=Option.some.inj (hg.symm.trans hg5)
 subst e1
 have e2 : t = 139:=Option.some.inj (ht.symm.trans ht5)
 subst e2
 have hz:=Lib.cells_of_tab (k:=.u64) (zs:=Lib.pow10Tab) (n:=20) Tryz.underlying139 (e:=120) Tryz.underlying120 (by kernel_rfl) (by kernel_rfl) hd
 unfold World.var? at hv
 rw [hg5] at hv
 simp only [Option.bind_some] at hv
 split at hv
 ·rename_i cs' t' fr' hh
  simp only [Option.some.injEq] at hv
  subst hv
  refine ⟨t',fr',hh.trans ?_⟩
  rw [show cs' = (Lib.pow10Tab.map fun z=>Value.int .u64 z).toArray from by rw [← hz]]
  simp only [Lib.pow10Tab,List.map_map]
  rfl
 ·cases hv
end Go.Fbs

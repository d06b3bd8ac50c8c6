import Derived.Test.YtpnflpbamlbpeaaGreatDoorVG
set_option linter.unusedSimpArgs false
set_option linter.unusedVariables false
set_option linter.unusedSectionVars false
set_option maxRecDepth 100000
namespace Go.Fbs
open Go.Proofs
theorem addS {s u : List UInt8} (h : s.length + u.length ≤ 1000) : binK .add (.str s) (.str u) = some (.str (s ++ u)):=bSadd _ _ (by omega)
def F_entaillaw17_Acl : Spec
 | [.int .i64 n,.bool true]=>some (.str (txts (aclE n)))
 | _=>none
theorem ok_entaillaw17_Acl : SpecL Tryz.prog n_entaillaw17_Acl F_entaillaw17_Acl:=by
 refine go_entaillaw17_Acl (T:=[(n_entaillaw17_Acl_1,F_entaillaw17_Acl_1)]) (TabOk.cons ok_entaillaw17_Acl_1 TabOk.nil) fun args v hv=>?_
 unfold F_entaillaw17_Acl at hv
 split at hv <;> simp only [Option.some.injEq,reduceCtorEq] at hv
 rename_i n
 subst hv
 refine ⟨rfl,rfl,rfl,?_⟩
 rw [e_entaillaw17_Acl]
 have cb : ∀ a,callvK (tab [(n_entaillaw17_Acl_1,F_entaillaw17_Acl_1)]) (.func 16 []) [vI a] = some (.str (bitsT a)):=fun a=>rfl
 have sh : ∀ (b : Nat),b ≤ 64 → binK .shr (.int .i64 n) (.int .u64 b) = some (vI (sr n b)):=fun b hb=>shrM hb
 have e2 : ∀ j,decide ((sr n j % ((2 : Nat) : Int)).toNat = 1) = b2 n j:=fun j=>rfl
 have e4 : decide ((sr n 26 % ((4 : Nat) : Int)).toNat = 0) = decide (md (sr n 26) 4 = 0):=rfl
 have h3 : ((3 : Nat) : Int) = 3:=rfl
 rw [show (V.int .i64 n) = vI n from rfl,cb,opt_s,addS (by simp [bits_len]),opt_s,addS (by simp [bits_len]),opt_s,show binK .shr (vI n) (.int .u64 3) = some (vI (sr n 3)) from sh 3 (by omega),opt_s,cb,opt_s,addS (by simp [bits_len]),opt_s,addS (by simp [bits_len]),opt_s,
  show binK .shr (vI n) (.int .u64 6) = some (vI (sr n 6)) from sh 6 (by omega),opt_s,cb,opt_s,addS (by simp [bits_len]),opt_s,show binK .shr (vI n) (.int .u64 9) = some (vI (sr n 9)) from sh 9 (by omega),opt_s,and1,opt_s,eq1,opt_s,e2]
 have t0 : [117,58,58] ++ bitsT n ++ [44,103,58,58] ++ bitsT (sr n 3) ++ [44,111,58,58] ++ bitsT (sr n 6) = txts (s0E n):=by
  simp [txts,s0E,joinC,txt_of,letE]
 have l0 : (txts (s0E n)).length = 20:=by rw [← t0]; simp [bits_len]
 rw [t0]
 refine joinP_inv (fun w=>w = [.str (txts (s1E n)),.func 16 [],.func 16 [],.func 16 [],.func 16 []] ∧ (txts (s1E n)).length ≤ 30) ?_ ?_
 case refine_2 =>
  intro r hr
  unfold s1E at hr
  cases h9 : b2 n 9
  ·rw [iteB_false]
   rw [h9] at hr
   simp only [Bool.false_eq_true,if_false,List.append_nil] at hr
   exact hr _ ⟨rfl,by omega⟩
  ·rw [h9] at hr
   simp only [if_true] at hr
   rw [txts_app _ (s0_ne n),txt_of] at hr
   have hlit : litK 1 [(.str [117]),(.str [118]),(.str [119])] = some (.sl .ro (uvwT.map V.str)):=rfl
   rw [iteB_true,addS (by simp [l0]),opt_s,hlit,opt_s,show binK .shr (vI n) (.int .u64 10) = some (vI (sr n 10)) from sh 10 (by omega),opt_s,and255,opt_s,show binK .rem (vI (((sr n 10 % ((256 : Nat) : Int)).toNat : Nat))) (.int .i64 3) = some (vI ((md (sr n 10) 256 % 3 : Nat) : Nat)) from remM _ 3 (by omega),opt_s]
   have hix : idxLK false 1 (.sl .ro (uvwT.map V.str)) (vI ((md (sr n 10) 256 % 3 : Nat) : Nat)) = some (.str (nm3 n)):=idxL_one (by rw [List.getElem?_map,nm3_at]; rfl) rfl _ _
   rw [hix,opt_s,addS (by simp [l0,nm3_len]),opt_s,addS (by simp [l0,nm3_len]),opt_s,show binK .shr (vI n) (.int .u64 18) = some (vI (sr n 18)) from sh 18 (by omega),opt_s,cb,opt_s,addS (by simp [l0,nm3_len,bits_len]),opt_s]
   refine hr _ ⟨?_,?_⟩
   ·simp [letE]
   ·simp [l0,nm3_len,bits_len]
 rintro _ ⟨rfl,l1⟩
 refine ⟨rfl,?_⟩
 simp only [gv_0,gv_s]
 rw [show binK .shr (vI n) (.int .u64 21) = some (vI (sr n 21)) from sh 21 (by omega),opt_s,and1,opt_s,eq1,opt_s,e2]
 refine joinP_inv (fun w=>w = [.str (txts (s2E n))] ∧ (txts (s2E n)).length ≤ 40) ?_ ?_
 case refine_2 =>
  intro r hr
  unfold s2E at hr
  cases h9 : b2 n 21
  ·rw [iteB_false]
   rw [h9] at hr
   simp only [Bool.false_eq_true,if_false,List.nil_append] at hr
   exact hr _ ⟨rfl,by omega⟩
  ·rw [h9] at hr
   simp only [if_true,List.singleton_append] at hr
   rw [txts_cons _ (s1_ne n),txt_of] at hr
   have hlit : litK 1 [(.str [103]),(.str [104])] = some (.sl .ro (ghT.map V.str)):=rfl
   rw [iteB_true,hlit,opt_s,show binK .shr (vI n) (.int .u64 22) = some (vI (sr n 22)) from sh 22 (by omega),opt_s,and1,opt_s]
   have hix : idxLK false 1 (.sl .ro (ghT.map V.str)) (vI (((sr n 22 % ((2 : Nat) : Int)).toNat : Nat))) = some (.str (nm2 n)):=idxL_one (by rw [List.getElem?_map,show ghT[(sr n 22 % ((2 : Nat) : Int)).toNat]? = some (nm2 n) from nm2_at n]; rfl) rfl _ _
   rw [hix,opt_s,addS (by simp [nm2_len]),opt_s,addS (by simp [nm2_len]),opt_s,show binK .shr (vI n) (.int .u64 23) = some (vI (sr n 23)) from sh 23 (by omega),opt_s,cb,opt_s,addS (by simp [nm2_len,bits_len]),opt_s,addS (by simp [nm2_len,bits_len]),opt_s,addS (by simp [nm2_len,bits_len]; omega),opt_s]
   refine hr _ ⟨?_,?_⟩
   ·simp [letE]
   ·simp [nm2_len,bits_len]; omega
 rintro _ ⟨rfl,l2⟩
 refine ⟨rfl,?_⟩
 simp only [gv_0,gv_s]
 rw [show binK .shr (vI n) (.int .u64 26) = some (vI (sr n 26)) from sh 26 (by omega),opt_s,and3,opt_s,eq0,opt_s,e4]
 refine joinP_inv (fun w=>w = [.str (txts (s3E n))] ∧ (txts (s3E n)).length ≤ 50) ?_ ?_
 case refine_2 =>
  intro r hr
  unfold s3E at hr
  by_cases h9 : md (sr n 26) 4 = 0
  ·rw [if_pos h9,txts_app _ (s2_ne n),txt_of] at hr
   rw [decide_eq_true h9,iteB_true,addS (by simp; omega),opt_s,show binK .shr (vI n) (.int .u64 28) = some (vI (sr n 28)) from sh 28 (by omega),opt_s,cb,opt_s,addS (by simp [bits_len]; omega),opt_s]
   refine hr _ ⟨?_,?_⟩
   ·simp [letE]
   ·simp [bits_len]; omega
  ·rw [if_neg h9,List.append_nil] at hr
   rw [decide_eq_false h9,iteB_false]
   exact hr _ ⟨rfl,by omega⟩
 rintro _ ⟨rfl,l3⟩
 refine ⟨rfl,?_⟩
 simp only [gv_0,gv_s]
 rw [chkB_bool,opt_s,show binK .shr (vI n) (.int .u64 31) = some (vI (sr n 31)) from sh 31 (by omega),gTT,opt_s,and1,gTT,opt_s,eq1,gTT,opt_s,e2,pBool,if_pos rfl,opt_s]
 unfold aclE
 cases h31 : b2 n 31
 ·rw [iteB_false]; rfl
 ·have t4 : txts (s3E n) ++ [44,100,58,117,58,58] ++ bitsT (sr n 32) ++ [44,100,58,103,58,58] ++ bitsT (sr n 35) ++ [44,100,58,111,58,58] ++ bitsT (sr n 38) = txts (s4E n):=by
   unfold s4E
   rw [show ∀ a b c : Ent,s3E n ++ [a,b,c] = s3E n ++ [a] ++ [b] ++ [c] from fun a b c=>by simp,txts_app _ (by simp),txts_app _ (by simp),txts_app _ (s3_ne n),txt_of,txt_of,txt_of]
   simp [letE]
  have l4 : (txts (s4E n)).length ≤ 90:=by rw [← t4]; simp [bits_len]; omega
  rw [iteB_true,addS (by simp; omega),opt_s,show binK .shr (vI n) (.int .u64 32) = some (vI (sr n 32)) from sh 32 (by omega),opt_s,cb,opt_s,addS (by simp [bits_len]; omega),opt_s,addS (by simp [bits_len]; omega),opt_s,
   show binK .shr (vI n) (.int .u64 35) = some (vI (sr n 35)) from sh 35 (by omega),opt_s,cb,opt_s,addS (by simp [bits_len]; omega),opt_s,addS (by simp [bits_len]; omega),opt_s,
   show binK .shr (vI n) (.int .u64 38) = some (vI (sr n 38)) from sh 38 (by omega),opt_s,cb,opt_s,addS (by simp [bits_len]; omega),opt_s,t4,show binK .shr (vI n) (.int .u64 41) = some (vI (sr n 41)) from sh 41 (by omega),opt_s,and1,opt_s,eq1,opt_s,e2]
  refine joinP_inv (fun w=>w = [.str (txts (s5E n))] ∧ (txts (s5E n)).length ≤ 120) ?_ ?_
  case refine_2 =>
   intro r hr
   unfold s5E at hr
   cases h9 : b2 n 41
   ·rw [iteB_false]
    rw [h9] at hr
    simp only [Bool.false_eq_true,if_false,List.append_nil] at hr
    exact hr _ ⟨rfl,by omega⟩
   ·rw [h9] at hr
    simp only [if_true] at hr
    rw [show ∀ a b : Ent,s4E n ++ [a,b] = s4E n ++ [a] ++ [b] from fun a b=>by simp,txts_app _ (by simp),txts_app _ (s4_ne n),txt_of,txt_of] at hr
    rw [iteB_true,addS (by simp; omega),opt_s,show binK .shr (vI n) (.int .u64 42) = some (vI (sr n 42)) from sh 42 (by omega),opt_s,cb,opt_s,addS (by simp [bits_len]; omega),opt_s,addS (by simp [bits_len]; omega),opt_s,
     show binK .shr (vI n) (.int .u64 45) = some (vI (sr n 45)) from sh 45 (by omega),opt_s,cb,opt_s,addS (by simp [bits_len]; omega),opt_s]
    refine hr _ ⟨?_,?_⟩
    ·simp [letE]
    ·simp [bits_len]; omega
  rintro _ ⟨rfl,l5⟩
  refine ⟨rfl,?_⟩
  simp only [gv_0,gv_s]
  rw [show binK .shr (vI n) (.int .u64 48) = some (vI (sr n 48)) from sh 48 (by omega),opt_s,and1,opt_s,eq1,opt_s,e2]
  cases h48 : b2 n 48
  ·rw [iteB_false]; simp
  ·rw [iteB_true,addS (by simp; omega),opt_s,show binK .shr (vI n) (.int .u64 49) = some (vI (sr n 49)) from sh 49 (by omega),opt_s,cb,opt_s,addS (by simp [bits_len]; omega),opt_s]
   simp only [if_true]
   rw [txts_app _ (s5_ne n),txt_of]
   simp [letE]
end Go.Fbs

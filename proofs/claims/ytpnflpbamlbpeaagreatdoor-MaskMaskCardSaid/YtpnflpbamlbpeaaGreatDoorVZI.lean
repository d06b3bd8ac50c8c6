import Derived.Test.YtpnflpbamlbpeaaGreatDoorVZH
import Derived.Test.YtpnflpbamlbpeaaGreatDoorVU
import Derived.Test.YtpnflpbamlbpeaaGreatDoorVTB
set_option linter.unusedSimpArgs false
set_option linter.unusedVariables false
set_option linter.unusedSectionVars false
set_option maxRecDepth 100000
namespace Go.Fbs
open Go.Proofs Go.RowKit Go.Shelf Go.Sort Go.Maps
mutual
def eqW : V → V → Bool
 | .bool a,.bool b=>a == b
 | .int k n,.int k' m=>decide (k = k') && (n == m)
 | .str s,.str t=>s == t
 | .sl .ro a,.sl .ro b=>eqWs a b
 | .agg a,.agg b=>eqWs a b
 | .tup a,.tup b=>eqWs a b
 | _,_=>false
def eqWs : List V → List V → Bool
 | [],[]=>true
 | x :: a,y :: b=>eqW x y && eqWs a b
 | _,_=>false
end
mutual
theorem eqW_eq : ∀ (a b : V),eqW a b = true → a = b
 | .bool a,.bool b,h=>by simp only [eqW,beq_iff_eq] at h; rw [h]
 | .int k n,.int k' m,h=>by simp only [eqW,Bool.and_eq_true,decide_eq_true_eq,beq_iff_eq] at h; rw [h.1,h.2]
 | .str s,.str t,h=>by simp only [eqW,beq_iff_eq] at h; rw [h]
 | .sl .ro a,.sl .ro b,h=>by simp only [eqW] at h; rw [eqWs_eq a b h]
 | .agg a,.agg b,h=>by simp only [eqW] at h; rw [eqWs_eq a b h]
 | .tup a,.tup b,h=>by simp only [eqW] at h; rw [eqWs_eq a b h]
theorem eqWs_eq : ∀ (a b : List V),eqWs a b = true → a = b
 | [],[],_=>rfl
 | x :: a,y :: b,h=>by simp only [eqWs,Bool.and_eq_true] at h; rw [eqW_eq x y h.1,eqWs_eq a b h.2]
end
def tabS : List (List V × V) → Spec
 | [],_=>none
 | r :: l,args=>bif eqWs r.1 args then some r.2 else tabS l args
theorem tabS_mem : ∀ {rows : List (List V × V)} {args : List V} {v : V},tabS rows args = some v → (args,v) ∈ rows
 | r :: l,args,v,h=>by
  unfold tabS at h
  cases hq : eqWs r.1 args with
  | true =>
   rw [hq] at h
   have e : r.2 = v:=by simpa using h
   rw [← eqWs_eq _ _ hq,← e]; exact List.mem_cons_self
  | false=>rw [hq] at h; exact List.mem_cons_of_mem _ (tabS_mem h)
theorem tabS_ok {P : Program} {f : FuncId} {F : Spec} (h : SpecL P f F) {rows : List (List V × V)} (hr : ∀ r ∈ rows,F r.1 = some r.2) : SpecL P f (tabS rows) :=
 ⟨h.enter,fun args v hv=>h.call args v (hr _ (tabS_mem hv))⟩
namespace Run
noncomputable def F_slices_Equal_string_string : Spec:=runSpec [] 26 q_slices_Equal_string_string [.tmp 4] (cB Tryz.f95) 100000 2
theorem ok_slices_Equal_string_string : SpecL Tryz.prog n_slices_Equal_string_string F_slices_Equal_string_string:=go_slices_Equal_string_string (T:=[]) (TabOk.nil) fun _ _ hv=>runSpec_inv hv
noncomputable def F_slices_Equal_api_Entry_api_Entry : Spec:=runSpec [] 26 q_slices_Equal_api_Entry_api_Entry [.tmp 4] (cB Tryz.f107) 100000 2
theorem ok_slices_Equal_api_Entry_api_Entry : SpecL Tryz.prog n_slices_Equal_api_Entry_api_Entry F_slices_Equal_api_Entry_api_Entry:=go_slices_Equal_api_Entry_api_Entry (T:=[]) (TabOk.nil) fun _ _ hv=>runSpec_inv hv
noncomputable def F_acls_same : Spec:=runSpec [(n_slices_Equal_string_string,F_slices_Equal_string_string),(n_slices_Equal_api_Entry_api_Entry,F_slices_Equal_api_Entry_api_Entry)] 45 q_acls_same [.tmp 4] (cB Tryz.f85) 100000 2
theorem ok_acls_same : SpecL Tryz.prog n_acls_same F_acls_same:=go_acls_same (T:=[(n_slices_Equal_string_string,F_slices_Equal_string_string),(n_slices_Equal_api_Entry_api_Entry,F_slices_Equal_api_Entry_api_Entry)]) (TabOk.cons ok_slices_Equal_string_string (TabOk.cons ok_slices_Equal_api_Entry_api_Entry (TabOk.nil))) fun _ _ hv=>runSpec_inv hv
noncomputable def F_slices_EqualFunc_api_File_api_File_api_File_api_File : Spec:=runSpec [(n_acls_same,F_acls_same)] 32 q_slices_EqualFunc_api_File_api_File_api_File_api_File [.tmp 6] (cB Tryz.f84) 100000 3
theorem ok_slices_EqualFunc_api_File_api_File_api_File_api_File : SpecL Tryz.prog n_slices_EqualFunc_api_File_api_File_api_File_api_File F_slices_EqualFunc_api_File_api_File_api_File_api_File:=go_slices_EqualFunc_api_File_api_File_api_File_api_File (T:=[(n_acls_same,F_acls_same)]) (TabOk.cons ok_acls_same (TabOk.nil)) fun _ _ hv=>runSpec_inv hv
noncomputable def F_acls_Same : Spec:=runSpec [(n_slices_EqualFunc_api_File_api_File_api_File_api_File,F_slices_EqualFunc_api_File_api_File_api_File_api_File)] 8 q_acls_Same [.tmp 4] (cB Tryz.f50) 100000 2
theorem ok_acls_Same : SpecL Tryz.prog n_acls_Same F_acls_Same:=go_acls_Same (T:=[(n_slices_EqualFunc_api_File_api_File_api_File_api_File,F_slices_EqualFunc_api_File_api_File_api_File_api_File)]) (TabOk.cons ok_slices_EqualFunc_api_File_api_File_api_File_api_File (TabOk.nil)) fun _ _ hv=>runSpec_inv hv
noncomputable def F_mask_Same : Spec:=runSpec [(n_acls_Same,F_acls_Same)] 8 q_mask_Same [.tmp 4] (cB Tryz.f24) 100000 2
theorem ok_mask_Same : SpecL Tryz.prog n_mask_Same F_mask_Same:=go_mask_Same (T:=[(n_acls_Same,F_acls_Same)]) (TabOk.cons ok_acls_Same (TabOk.nil)) fun _ _ hv=>runSpec_inv hv
end Run
def ents0 : List Ent:=[⟨1,false,[],0⟩,⟨3,false,[],0⟩,⟨6,false,[],0⟩]
def pol : List FM:=[⟨1,[117],[],[],[],0⟩,⟨2,[103],[],[],[],7⟩,⟨3,[47],[117],[103],ents0,15⟩,⟨4,[47,97],[117],[103],ents0,46⟩]
theorem pol_parse : Run.F_entailref17_Parse [.str Run.polT] = some (.tup [factsV pol,vI 0,vI 0]):=by kernel_rfl
theorem pol_ok : FsOk pol where
 ne:=by decide
 le:=by decide
 dis:=by decide
 all:=by
  intro f hf
  simp only [pol,List.mem_cons,List.not_mem_nil,or_false] at hf
  rcases hf with rfl | rfl | rfl | rfl <;> exact ⟨by decide,by decide,by decide,⟨by decide,by decide⟩,by decide,by decide⟩
theorem one_ok : FsOk (pol.drop 3) where
 ne:=by decide
 le:=by decide
 dis:=by decide
 all:=fun f hf=>pol_ok.all f (List.mem_of_mem_drop hf)
theorem pol_err : errL pol = none:=by kernel_rfl
theorem one_err : errL (pol.drop 3) = some (46,12):=by kernel_rfl
theorem pol_place : placeM pol:=by
 intro f hf h
 simp only [pol,List.mem_cons,List.not_mem_nil,or_false] at hf
 rcases hf with rfl | rfl | rfl | rfl
 ·cases h
 ·cases h
 ·exact .inl ⟨rfl,by decide⟩
 ·exact .inr ⟨rfl,by kernel_rfl⟩
theorem v_pol : F_mask_Valid [factsV pol] = some (.tup [vI 0,vI 0]):=by
 have:=specOf_eq (c:=fun l : List FM=>[factsV l]) (ok:=fun l=>FsOk l ∧ (errL l = none → placeM l)) (r:=fun l=>.tup [vI (resF (errL l)).1,vI (resF (errL l)).2]) (fun a b h=>factsV_inj (by simpa using h)) (a:=pol) ⟨pol_ok,fun _=>pol_place⟩
 rw [pol_err] at this
 exact this
theorem v_one : F_mask_Valid [factsV (pol.drop 3)] = some (.tup [vI 46,vI 12]):=by
 have:=specOf_eq (c:=fun l : List FM=>[factsV l]) (ok:=fun l=>FsOk l ∧ (errL l = none → placeM l)) (r:=fun l=>.tup [vI (resF (errL l)).1,vI (resF (errL l)).2]) (fun a b h=>factsV_inj (by simpa using h)) (a:=pol.drop 3) ⟨one_ok,fun h=>by rw [one_err] at h; cases h⟩
 rw [one_err] at this
 exact this
theorem n_pol : F_mask_Normal [factsV pol] = some (.sl .ro (List.replicate 4 (.agg (List.replicate 7 .any)))) :=
 specOf_eq (c:=fun l : List FM=>[factsV l]) (ok:=FsOk) (r:=fun l=>.sl .ro (List.replicate l.length (.agg (List.replicate 7 .any)))) (fun a b h=>factsV_inj (by simpa using h)) (a:=pol) pol_ok
def acl0 : List Ent:=[⟨6,false,[],0⟩,⟨1,false,[],6⟩,⟨3,false,[],4⟩]
def awT : List (FuncId × Spec):=[(n_mask_Acl,tabS [([entsV acl0],aclV (aclM acl0)),([entsV []],aclV (aclM []))]),(n_entailref17_Parse,tabS [([.str Run.polT],.tup [factsV pol,vI 0,vI 0])]),(n_mask_Valid,tabS [([factsV pol],.tup [vI 0,vI 0]),([factsV (pol.drop 3)],.tup [vI 46,vI 12])]),(n_mask_Normal,tabS [([factsV pol],.sl .ro (List.replicate 4 (.agg (List.replicate 7 .any))))]),(n_mask_Same,tabS [([factsV pol,factsV pol],.bool true)])]
theorem same_run : Run.F_mask_Same [factsV pol,factsV pol] = some (.bool true):=by kernel_rfl
theorem awT_ok : TabOk Tryz.prog tyT awT:=by
 refine TabOk.cons (tabS_ok ok_mask_Acl fun r hr=>?_) (TabOk.cons (tabS_ok Run.ok_entailref17_Parse fun r hr=>?_) (TabOk.cons (tabS_ok ok_mask_Valid fun r hr=>?_) (TabOk.cons (tabS_ok ok_mask_Normal fun r hr=>?_) (TabOk.cons (tabS_ok Run.ok_mask_Same fun r hr=>?_) TabOk.nil))))
 ·simp only [List.mem_cons,List.not_mem_nil,or_false] at hr
  rcases hr with rfl | rfl
  ·exact Facl ⟨by decide,by decide⟩
  ·exact Facl ⟨by decide,by decide⟩
 ·simp only [List.mem_cons,List.not_mem_nil,or_false] at hr
  subst hr
  exact pol_parse
 ·simp only [List.mem_cons,List.not_mem_nil,or_false] at hr
  rcases hr with rfl | rfl
  ·exact v_pol
  ·exact v_one
 ·simp only [List.mem_cons,List.not_mem_nil,or_false] at hr
  subst hr
  exact n_pol
 ·simp only [List.mem_cons,List.not_mem_nil,or_false] at hr
  subst hr
  exact same_run
end Go.Fbs

import Derived.Test.YtpnflpbamlbpeaaGreatDoorVK
set_option linter.unusedSimpArgs false
set_option linter.unusedVariables false
set_option linter.unusedSectionVars false
set_option maxRecDepth 100000
namespace Go.Fbs
open Go.Proofs
def aclV (o : Option (List Ent)) : V:=match o with | some a=>.tup [entsV a,.bool true] | none=>.tup [entsV [],.bool false]
def SmallE (l : List Ent) : Prop:=l.length ≤ 200 ∧ ∀ e ∈ l,e.name.length ≤ 100
noncomputable def F_mask_Acl : Spec:=specOf (fun l : List Ent=>[entsV l]) SmallE (fun l=>aclV (aclM l))
theorem Facl {l : List Ent} (h : SmallE l) : F_mask_Acl [entsV l] = some (aclV (aclM l)) :=
 specOf_eq (a:=l) (fun a b h=>by simp only [List.cons.injEq,and_true] at h; exact entsV_inj h) h
def F_entaillaw18_awake : Spec
 | []=>some (.bool true)
 | _=>none
def F_entaillaw18_MaskMask : Spec
 | [.int .i64 _,.int .i64 _]=>some (.bool true)
 | _=>none
theorem all4 (l : List Ent) : (l.map entW).all (fun e=>e.cells.length == 4) = true:=all_map_len fun _=>rfl
theorem slHi {l : List Ent} {k : Nat} (h : k ≤ l.length) : slLK 4 (entsV l) none (some (vI (k : Nat))) = some (entsV (l.take k)):=by
 have h1 : (0 : Int) ≤ (k : Int) ∧ (k : Int) ≤ (((l.map entW).length : Nat) : Int):=by rw [List.length_map]; omega
 simp only [slLK,entsV,boundV,vI,h1,and_self,if_true,Int.toNat_natCast,all4,List.drop_zero,List.map_take]
theorem slLo {l : List Ent} {k : Nat} (h : k ≤ l.length) : slLK 4 (entsV l) (some (vI (k : Nat))) none = some (entsV (l.drop k)):=by
 have h1 : (0 : Int) ≤ (k : Int) ∧ (k : Int) ≤ (((l.map entW).length : Nat) : Int):=by rw [List.length_map]; omega
 have h2 : (l.map entW).take (l.map entW).length = l.map entW:=List.take_length
 simp only [slLK,entsV,boundV,vI,h1,and_self,if_true,Int.toNat_natCast,all4,h2,List.map_drop]
theorem orK (a b : Int) : binK .or (vI a) (vI b) = some (vI (bitO a b)):=by
 unfold bitO
 simp only [binK,vI,intBin,if_true]
 rfl
theorem aclV_some (a : List Ent) : extractV (aclV (some a)) 0 = some (entsV a) ∧ extractV (aclV (some a)) 1 = some (.bool true):=⟨rfl,rfl⟩
theorem aclV_none : extractV (aclV none) 0 = some (entsV []) ∧ extractV (aclV none) 1 = some (.bool false):=⟨rfl,rfl⟩
theorem rot_perm (l : List Ent) (k : Nat) : (l.drop k ++ l.take k).Perm l:=by
 refine List.perm_append_comm.trans ?_
 rw [List.take_append_drop]
theorem take_succ' {l : List Ent} {i : Nat} {x : Ent} (h : l[i]? = some x) : l.take (i + 1) = l.take i ++ [x]:=by rw [List.take_add_one,h]; rfl
theorem told_snoc (d : Bool) (l : List Ent) (x : Ent) (t : Int) : toldE d (l ++ [x]) t = if isM d x then x.bits else toldE d l t:=by unfold toldE; rw [List.foldl_append]; rfl
theorem or_snoc (d : Bool) (l : List Ent) (x : Ent) (t : Int) : orB d (l ++ [x]) t = if bearsE d x then bitO (orB d l t) x.bits else orB d l t:=by unfold orB; rw [List.foldl_append]; rfl
theorem any_snoc (p : Ent → Bool) (l : List Ent) (x : Ent) : (l ++ [x]).any p = (l.any p || p x):=by simp
theorem take_all {l : List Ent} {i : Nat} (h : ¬ i < l.length) : l.take i = l:=List.take_of_length_le (by omega)
theorem mem_some {l : List Ent} {i : Nat} (h : i < l.length) : ∃ x,l[i]? = some x:=⟨l[i],List.getElem?_eq_getElem h⟩
theorem eqK (a b : Int) : binK .eql (vI a) (.int .i64 b) = some (.bool (decide (a = b))):=bEql .i64 a b
set_option maxHeartbeats 1000000 in
theorem law_MaskMask (hA : SpecL Tryz.prog n_mask_Acl F_mask_Acl) (hW : SpecL Tryz.prog n_entaillaw18_awake F_entaillaw18_awake) : SpecL Tryz.prog n_entaillaw18_MaskMask F_entaillaw18_MaskMask:=by
 refine go_entaillaw18_MaskMask (T:=[(n_entaillaw17_Acl,F_entaillaw17_Acl),(n_entailref17_Entries,F_entailref17_Entries),(n_mask_Acl,F_mask_Acl),(n_entailref17_SameAcl,F_entailref17_SameAcl),(n_entaillaw18_awake,F_entaillaw18_awake)])
  (TabOk.cons ok_entaillaw17_Acl (TabOk.cons ok_entailref17_Entries (TabOk.cons hA (TabOk.cons ok_entailref17_SameAcl (TabOk.cons hW TabOk.nil))))) fun args v hv=>?_
 have c1 : ∀ args,tab [(n_entaillaw17_Acl,F_entaillaw17_Acl),(n_entailref17_Entries,F_entailref17_Entries),(n_mask_Acl,F_mask_Acl),(n_entailref17_SameAcl,F_entailref17_SameAcl),(n_entaillaw18_awake,F_entaillaw18_awake)] n_entaillaw17_Acl args = F_entaillaw17_Acl args:=fun _=>rfl
 have c2 : ∀ args,tab [(n_entaillaw17_Acl,F_entaillaw17_Acl),(n_entailref17_Entries,F_entailref17_Entries),(n_mask_Acl,F_mask_Acl),(n_entailref17_SameAcl,F_entailref17_SameAcl),(n_entaillaw18_awake,F_entaillaw18_awake)] n_entailref17_Entries args = F_entailref17_Entries args:=fun _=>rfl
 have c3 : ∀ args,tab [(n_entaillaw17_Acl,F_entaillaw17_Acl),(n_entailref17_Entries,F_entailref17_Entries),(n_mask_Acl,F_mask_Acl),(n_entailref17_SameAcl,F_entailref17_SameAcl),(n_entaillaw18_awake,F_entaillaw18_awake)] n_mask_Acl args = F_mask_Acl args:=fun _=>rfl
 have c4 : ∀ args,tab [(n_entaillaw17_Acl,F_entaillaw17_Acl),(n_entailref17_Entries,F_entailref17_Entries),(n_mask_Acl,F_mask_Acl),(n_entailref17_SameAcl,F_entailref17_SameAcl),(n_entaillaw18_awake,F_entaillaw18_awake)] n_entailref17_SameAcl args = F_entailref17_SameAcl args:=fun _=>rfl
 have c5 : ∀ args,tab [(n_entaillaw17_Acl,F_entaillaw17_Acl),(n_entailref17_Entries,F_entailref17_Entries),(n_mask_Acl,F_mask_Acl),(n_entailref17_SameAcl,F_entailref17_SameAcl),(n_entaillaw18_awake,F_entaillaw18_awake)] n_entaillaw18_awake args = F_entaillaw18_awake args:=fun _=>rfl
 unfold F_entaillaw18_MaskMask at hv
 split at hv <;> simp only [Option.some.injEq,reduceCtorEq] at hv
 rename_i n turn
 subst hv
 refine ⟨rfl,rfl,rfl,?_⟩
 rw [e_entaillaw18_MaskMask,c1,show F_entaillaw17_Acl [.int .i64 n,.bool true] = some (.str (txts (aclE n))) from rfl,opt_s,c2,show F_entailref17_Entries [.str (txts (aclE n))] = _ from Fentries (tabL n),opt_s]
 dsimp only [tabL]
 have hf:=acl_fine n
 have ht:=acl_tab n
 have hne:=aclE_ne n
 generalize aclE n = l at *
 have hl0 : 0 < l.length:=List.length_pos_iff.2 hne
 have hsm : SmallE l:=⟨by omega,fun e he=>by have:=(ent_plain (ht.1 e he)).2.2.2; omega⟩
 have hk : md turn 256 % l.length < l.length:=Nat.mod_lt _ hl0
 rw [show extractV (.tup [entsV l,.bool true]) 0 = some (entsV l) from rfl,opt_s,show extractV (.tup [entsV l,.bool true]) 1 = some (.bool true) from rfl,opt_s,not_bool,opt_s,lenEnt,opt_s,show binK .eql (vI l.length) (.int .i64 0) = some (.bool (decide (l.length = 0))) from eq0 _,opt_s,decide_eq_false (by omega),pBool,if_neg (by simp),opt_s,iteB_false,
  show binK .and (.int .i64 turn) (.int .i64 255) = some (vI (md turn 256 : Nat)) from and255 turn,opt_s,opt_s,remM _ _ hl0,opt_s]
 generalize md turn 256 % l.length = k at *
 obtain ⟨e,hek⟩:=mem_some hk
 have hem : e ∈ l:=List.mem_of_getElem? hek
 rw [c3,Facl hsm,opt_s,acl_some hf]
 generalize hA' : sortE (masksM (sortE l)) = a at *
 have ha200 : a.length ≤ 14:=by
  rw [← hA',(sortE_perm _).length_eq]
  have h1:=masksM_len (sortE l)
  have h2:=(sortE_perm l).length_eq
  omega
 have hasm : SmallE a:=by
  refine ⟨by omega,fun x hx=>?_⟩
  rw [← hA',(sortE_perm _).mem_iff,masks_eq,List.mem_append] at hx
  rcases hx with hx | hx
  ·exact hsm.2 x ((sortE_perm l).mem_iff.1 hx)
  ·obtain ⟨d,hx,_⟩:=added_mem hx
   rw [(msk_mem hx).2]; simp [maskE]
 have hrot:=rot_perm l k
 have hrs : SmallE (l.drop k ++ l.take k):=⟨by rw [hrot.length_eq]; omega,fun x hx=>hsm.2 x (hrot.mem_iff.1 hx)⟩
 have hdup : SmallE (l ++ [e]):=⟨by simp; omega,fun x hx=>by rcases List.mem_append.1 hx with hx | hx; exact hsm.2 x hx; rw [List.mem_singleton.1 hx]; exact hsm.2 e hem⟩
 have hself : aclM a = some a:=by rw [← hA']; exact acl_self hf
 rw [(aclV_some a).1,opt_s,(aclV_some a).2,opt_s,show litK 4 [] = some (entsV []) from rfl,opt_s,slLo (by omega),opt_s,appEnt (by simp; omega),opt_s,slHi (by omega),opt_s,List.nil_append,appEnt (by simp; omega),opt_s,c3,Facl hrs,opt_s,acl_perm hf hrot,acl_some hf,hA',(aclV_some a).1,opt_s,(aclV_some a).2,opt_s,
  c3,Facl hasm,opt_s,hself,(aclV_some a).1,opt_s,(aclV_some a).2,opt_s,opt_s,appEnt (by simp; omega),opt_s,List.nil_append,entAt hek,opt_s,litEnt,opt_s,appEnt (by simp; omega),opt_s,c3,Facl hdup,opt_s,acl_dup hem,aclV_none.1,opt_s,aclV_none.2,opt_s]
 simp only [not_bool,Bool.not_true,opt_s,pBool,Bool.false_eq_true,if_false,chkB_bool,gFF,c4,Fsame (show a.length ≤ bigT by unfold bigT; omega)]
 rw [iteB_false]
 refine loopP_inv (fun vs=>∃ i : Nat,vs = [vI i] ∧ i ≤ 2) (fun vs=>2 - natOf (gv vs 0)) ⟨0,rfl,by omega⟩ ?_
 rintro r _ ⟨i,rfl,hi⟩ hr
 refine ⟨rfl,?_⟩
 simp only [gv_0]
 rw [show binK .lss (vI (i : Nat)) (.int .i64 2) = some (.bool (decide (i < 2))) from bLt i 2,opt_s]
 by_cases hlt : i < 2
 ·rw [decide_eq_true hlt,iteB_true]
  obtain ⟨d,hd⟩ : ∃ d : Bool,decide (i = 1) = d:=⟨_,rfl⟩
  have hw : IntKind.i64.wrap ((i : Int) + 1) = ((i + 1 : Nat) : Int):=by rw [IntKind.wrap_i64]; omega
  have hnext : r [vI ((i + 1 : Nat) : Int)]:=hr _ ⟨i + 1,rfl,hlt⟩ (by simp [gv,natOf,vI]; omega)
  refine loopP_inv (fun vs=>∃ j : Nat,vs = [vI (toldE d (l.take j) (-1)),vI j] ∧ j ≤ l.length) (fun vs=>l.length - natOf (gv vs 1)) ⟨0,rfl,by omega⟩ ?_
  rintro r1 _ ⟨j,rfl,hj⟩ hr1
  refine ⟨rfl,?_⟩
  simp only [gv_0,gv_s]
  rw [bLt,opt_s]
  by_cases hjl : j < l.length
  ·obtain ⟨x,hx⟩:=mem_some hjl
   have hn1 : r1 [vI (if isM d x then x.bits else toldE d (l.take j) (-1)),vI ((j + 1 : Nat) : Int)]:=hr1 _ ⟨j + 1,by rw [take_succ' hx,told_snoc],hjl⟩ (by simp [gv,natOf,vI]; omega)
   rw [decide_eq_true hjl,iteB_true,entAt hx,opt_s,eq1,opt_s,hd,ent1,eqB_eq,opt_s,Bool.bne_false]
   unfold isM at hn1
   cases hxd : x.dflt == d
   ·rw [hxd] at hn1
    simp only [Bool.false_and,Bool.false_eq_true,if_false] at hn1
    rw [gFT,opt_s,gFT,opt_s,gFT,opt_s,pBool,if_neg (by simp),opt_s,iteB_false,add1' (by omega),opt_s]
    exact hn1
   ·rw [hxd] at hn1
    simp only [Bool.true_and,decide_eq_true_eq] at hn1
    rw [gTT,opt_s,gTT,show partK false 1 0 (entW x) = some (vI x.kind) from rfl,opt_s,gTT,eqK,opt_s,pBool,if_pos rfl,opt_s]
    by_cases h5 : x.kind = 5
    ·rw [if_pos h5] at hn1
     rw [decide_eq_true h5,iteB_true,opt_s,add1' (by omega),opt_s,ent3]
     exact hn1
    ·rw [if_neg h5] at hn1
     rw [decide_eq_false h5,iteB_false,add1' (by omega),opt_s]
     exact hn1
  ·rw [decide_eq_false hjl,iteB_false,take_all hjl]
   refine loopP_inv (fun vs=>∃ j : Nat,vs = [.bool ((a.take j).any (·.dflt == d)),vI (toldE d (a.take j) (-1)),vI (orB d (a.take j) 0),vI j] ∧ j ≤ a.length) (fun vs=>a.length - natOf (gv vs 3)) ⟨0,rfl,by omega⟩ ?_
   rintro r2 _ ⟨m,rfl,hm⟩ hr2
   refine ⟨rfl,?_⟩
   simp only [gv_0,gv_s]
   rw [lenEnt,opt_s,bLt,opt_s]
   by_cases hml : m < a.length
   ·obtain ⟨x,hx⟩:=mem_some hml
    have hn2 : r2 [.bool ((a.take m).any (·.dflt == d) || x.dflt == d),vI (if isM d x then x.bits else toldE d (a.take m) (-1)),vI (if bearsE d x then bitO (orB d (a.take m) 0) x.bits else orB d (a.take m) 0),vI ((m + 1 : Nat) : Int)] :=
     hr2 _ ⟨m + 1,by rw [take_succ' hx,told_snoc,or_snoc,any_snoc],hml⟩ (by simp [gv,natOf,vI]; omega)
    rw [decide_eq_true hml,iteB_true]
    generalize (a.take m).any (·.dflt == d) = S at hn2 ⊢
    generalize toldE d (a.take m) (-1) = M at hn2 ⊢
    generalize orB d (a.take m) 0 = B at hn2 ⊢
    refine joinP_inv (fun w=>w = [.bool (S || x.dflt == d),vI (if isM d x then x.bits else M),vI (if bearsE d x then bitO B x.bits else B)]) ?_ ?_
    case refine_1 =>
     rintro _ rfl
     refine ⟨rfl,?_⟩
     simp only [gv_0,gv_s]
     rw [add1' (by omega),opt_s]
     exact hn2
    intro r3 hr3
    replace hr3:=hr3 _ rfl
    unfold isM bearsE at hr3
    rw [entAt hx,opt_s,eq1,opt_s,hd,ent1,eqB_eq,opt_s]
    cases hxd : x.dflt == d
    ·rw [hxd] at hr3
     simp only [Bool.false_and,Bool.false_eq_true,if_false,Bool.or_false] at hr3
     exact hr3
    ·rw [hxd] at hr3
     simp only [Bool.true_and,decide_eq_true_eq,Bool.or_true,Bool.or_eq_true] at hr3
     rw [show (true != true) = false from rfl,iteB_false,opt_s,ent0,eqK,opt_s]
     by_cases h5 : x.kind = 5
     ·rw [if_pos h5,if_neg (by omega)] at hr3
      rw [decide_eq_true h5,iteB_true,opt_s,ent3]
      exact hr3
     ·rw [if_neg h5] at hr3
      rw [decide_eq_false h5,iteB_false,eqK,opt_s]
      refine joinP_inv (fun w=>w = [.bool (decide ((x.kind = 2 ∨ x.kind = 3) ∨ x.kind = 4))]) ?_ ?_
      case refine_1 =>
       rintro _ rfl
       refine ⟨rfl,?_⟩
       simp only [gv_0]
       by_cases hb : (x.kind = 2 ∨ x.kind = 3) ∨ x.kind = 4
       ·rw [if_pos hb] at hr3
        rw [decide_eq_true hb,iteB_true,opt_s,ent3,orK,opt_s]
        exact hr3
       ·rw [if_neg hb] at hr3
        rw [decide_eq_false hb,iteB_false]
        exact hr3
      intro r4 hr4
      replace hr4:=hr4 _ rfl
      by_cases h2 : x.kind = 2
      ·rw [decide_eq_true h2,iteB_true]
       rwa [decide_eq_true (by omega)] at hr4
      ·rw [decide_eq_false h2,iteB_false,eqK,opt_s]
       by_cases h3 : x.kind = 3
       ·rw [decide_eq_true h3,iteB_true]
        rwa [decide_eq_true (by omega)] at hr4
       ·rw [decide_eq_false h3,iteB_false,eqK,opt_s]
        have : decide ((x.kind = 2 ∨ x.kind = 3) ∨ x.kind = 4) = decide (x.kind = 4):=by simp [h2,h3]
        rwa [this] at hr4
   ·rw [decide_eq_false hml,iteB_false,take_all hml]
    have hlaw:=mask_law hf d
    rw [hA'] at hlaw
    generalize a.any (·.dflt == d) = S at hlaw ⊢
    generalize toldE d l (-1) = T at hlaw ⊢
    generalize toldE d a (-1) = M at hlaw ⊢
    generalize orB d a 0 = B at hlaw ⊢
    have hge : binK .geq (vI T) (.int .i64 0) = some (.bool (decide (0 ≤ T))):=bGeq .i64 T 0
    have hls : binK .lss (vI T) (.int .i64 0) = some (.bool (decide (T < 0))):=bLss .i64 T 0
    have hn1 : binK .neq (vI M) (vI T) = some (.bool (!decide (M = T))):=bNeq .i64 M T
    have hn2 : binK .neq (vI M) (vI B) = some (.bool (!decide (M = B))):=bNeq .i64 M B
    rw [chkB_bool,opt_s,hge,opt_s]
    cases S
    ·simp only [sS,if_true,if_false,reduceCtorEq]
     rw [hw]
     exact hnext
    ·obtain ⟨q1,q2⟩:=hlaw rfl
     by_cases hT : 0 ≤ T
     ·have h1 : M = T:=q1 hT
      have h2 : ¬ T < 0:=by omega
      rw [decide_eq_true hT,hn1,hls,hn2]
      simp only [sS,if_true,if_false,reduceCtorEq,h1,decide_true,h2,decide_false]
      rw [hw]
      exact hnext
     ·have h1 : M = B:=q2 (by omega)
      have h2 : T < 0:=by omega
      rw [decide_eq_false hT,hn1,hls,hn2]
      simp only [sS,if_true,if_false,reduceCtorEq,h1,decide_true,h2]
      rw [hw]
      exact hnext
 ·rw [decide_eq_false hlt,iteB_false,c5]
  rfl
end Go.Fbs

import Derived.Test.YtpnflpbamlbpeaaGreatDoorVD
set_option linter.unusedSimpArgs false
set_option linter.unusedVariables false
set_option linter.unusedSectionVars false
set_option maxRecDepth 100000
namespace Go.Fbs
open Go.Proofs
def kindsV : V:=.sl .ro [.int .i64 1,.int .i64 3,.int .i64 6]
def kindK : Nat → Int | 0=>1 | 1=>3 | _=>6
theorem kindAt {i : Nat} (h : i < 3) : idxLK false 1 kindsV (vI (i : Nat)) = some (vI (kindK i)):=by
 match i,h with
 | 0,_=>rfl
 | 1,_=>rfl
 | 2,_=>rfl
theorem find_tup (o : Option Ent) : ∃ x,findV o = .tup [entW x,.bool o.isSome]:=by cases o <;> exact ⟨_,rfl⟩
noncomputable def F_mask_whole : Spec:=specOf (fun q : List Ent × Bool=>[entsV q.1,.bool q.2]) (fun q=>q.1.length ≤ bigT) (fun q=>.bool (wholeM q.1 q.2))
theorem Fwhole {l : List Ent} {d : Bool} (h : l.length ≤ bigT) : F_mask_whole [entsV l,.bool d] = some (.bool (wholeM l d)) :=
 specOf_eq (a:=(l,d)) (fun a b h=>by
  simp only [List.cons.injEq,and_true,V.bool.injEq] at h
  exact Prod.ext (entsV_inj h.1) h.2) h
theorem ok_mask_whole : SpecL Tryz.prog n_mask_whole F_mask_whole:=by
 refine go_mask_whole (T:=[(n_mask_Find,F_mask_Find)]) (TabOk.cons ok_mask_Find TabOk.nil) fun args v hv=>?_
 have c1 : ∀ args,tab [(n_mask_Find,F_mask_Find)] n_mask_Find args = F_mask_Find args:=fun _=>rfl
 obtain ⟨⟨l,d⟩,rfl,hl,rfl⟩:=specOf_inv hv
 refine ⟨rfl,by simp [canos,entsV_cano,V.cano],rfl,?_⟩
 rw [e_mask_whole]
 dsimp only at hl ⊢
 rw [show litK 1 [(.int .i64 1),(.int .i64 3),(.int .i64 6)] = some kindsV from rfl,opt_s,show lenL kindsV = some (vI ((3 : Nat) : Int)) from rfl,opt_s]
 refine loopP_inv (fun vs=>∃ i : Nat,vs = [vI i,kindsV] ∧ i ≤ 3 ∧ ∀ j < i,hasE l d (kindK j) = true) (fun vs=>3 - natOf (gv vs 0)) ⟨0,rfl,by omega,fun j hj=>by omega⟩ ?_
 rintro r _ ⟨i,rfl,hi,hf⟩ hr
 refine ⟨rfl,?_⟩
 simp only [gv_0,gv_s]
 rw [bLt,opt_s]
 by_cases hlt : i < 3
 ·rw [decide_eq_true hlt,iteB_true,kindAt hlt,opt_s,c1,Ffind hl,opt_s]
  obtain ⟨x,hx⟩:=find_tup (findE l d (kindK i) [])
  rw [hx,find_has,show extractV (.tup [entW x,.bool (hasE l d (kindK i))]) 0 = some (entW x) from rfl,opt_s,show extractV (.tup [entW x,.bool (hasE l d (kindK i))]) 1 = some (.bool (hasE l d (kindK i))) from rfl,opt_s,chkEnt,opt_s,not_bool,opt_s]
  cases hh : hasE l d (kindK i)
  ·rw [Bool.not_false,iteB_true]
   unfold wholeM
   match i,hlt,hh with
   | 0,_,hh=>rw [show hasE l d 1 = false from hh]; rfl
   | 1,_,hh=>rw [show hasE l d 3 = false from hh]; simp
   | 2,_,hh=>rw [show hasE l d 6 = false from hh]; simp
  ·rw [Bool.not_true,iteB_false,add1' (by omega),opt_s]
   exact hr _ ⟨i + 1,rfl,hlt,fun j hj=>by
    rcases Nat.lt_or_ge j i with h | h
    ·exact hf j h
    ·rw [show j = i by omega]; exact hh⟩ (by simp [gv,natOf,vI]; omega)
 ·rw [decide_eq_false hlt,iteB_false]
  unfold wholeM
  rw [show hasE l d 1 = true from hf 0 (by omega),show hasE l d 3 = true from hf 1 (by omega),show hasE l d 6 = true from hf 2 (by omega)]
  rfl
theorem eqEnt (x : Ent) : eqAK [1,0,2,1] true (entW x) (entW x) = some (.bool false):=by simp [eqAK,entW,vI,eqCells,eqS]
noncomputable def F_entailref17_SameAcl : Spec:=specOf (fun l : List Ent=>[entsV l,entsV l]) (fun l=>l.length ≤ bigT) (fun _=>.bool true)
theorem Fsame {l : List Ent} (h : l.length ≤ bigT) : F_entailref17_SameAcl [entsV l,entsV l] = some (.bool true) :=
 specOf_eq (a:=l) (fun a b h=>by simp only [List.cons.injEq,and_true] at h; exact entsV_inj h.1) h
theorem ok_entailref17_SameAcl : SpecL Tryz.prog n_entailref17_SameAcl F_entailref17_SameAcl:=by
 refine go_entailref17_SameAcl (T:=[]) TabOk.nil fun args v hv=>?_
 obtain ⟨l,rfl,hl,rfl⟩:=specOf_inv hv
 refine ⟨rfl,by simp [canos,entsV_cano],rfl,?_⟩
 rw [e_entailref17_SameAcl,lenEnt,opt_s,opt_s,show binK .neq (vI l.length) (vI l.length) = some (.bool false) from by rw [vI,bNeq]; simp,opt_s,iteB_false]
 unfold bigT at hl
 refine loopP_inv (fun vs=>∃ i : Nat,vs = [vI i] ∧ i ≤ l.length) (fun vs=>l.length - natOf (gv vs 0)) ⟨0,rfl,by omega⟩ ?_
 rintro r _ ⟨i,rfl,hi⟩ hr
 refine ⟨rfl,?_⟩
 simp only [gv_0]
 rw [opt_s,bLt,opt_s]
 by_cases hlt : i < l.length
 ·obtain ⟨x,hx⟩ : ∃ x,l[i]? = some x:=⟨l[i],List.getElem?_eq_getElem hlt⟩
  rw [decide_eq_true hlt,iteB_true,entAt hx,opt_s,opt_s,eqEnt,opt_s,iteB_false,add1' (by omega),opt_s]
  exact hr _ ⟨i + 1,rfl,hlt⟩ (by simp [gv,natOf,vI]; omega)
 ·rw [decide_eq_false hlt,iteB_false]
  trivial
def findK (s : List UInt8) (c : UInt8) (i : Nat) : Int:=match (s.drop i).findIdx? (· == c) with | some k=>((i + k : Nat) : Int) | none=>-1
def F_entailref1_Find : Spec
 | [.str s,.int .u8 c,.int .i64 i]=>if s.length ≤ bigT ∧ 0 ≤ i ∧ 0 ≤ c ∧ c < 256 then some (vI (findK s (UInt8.ofNat c.toNat) i.toNat)) else none
 | _=>none
theorem Ffirst {s : List UInt8} (c : UInt8) (i : Nat) (h : s.length ≤ bigT) : F_entailref1_Find [.str s,.int .u8 c.toNat,vI (i : Nat)] = some (vI (findK s c i)):=by
 have h1 : (c.toNat : Int) < 256:=by have:=c.toNat_lt; omega
 simp [F_entailref1_Find,vI,h,h1]
theorem ok_entailref1_Find : SpecL Tryz.prog n_entailref1_Find F_entailref1_Find:=by
 refine go_entailref1_Find (T:=[]) TabOk.nil fun args v hv=>?_
 unfold F_entailref1_Find at hv
 split at hv <;> simp only [Option.ite_none_right_eq_some,Option.some.injEq,reduceCtorEq] at hv
 rename_i s c0 i0
 obtain ⟨⟨hl,h0,hc0,hc1⟩,rfl⟩:=hv
 obtain ⟨p,rfl⟩ : ∃ p : Nat,i0 = p:=⟨i0.toNat,by omega⟩
 obtain ⟨c,rfl⟩ : ∃ c : UInt8,c0 = c.toNat:=⟨UInt8.ofNat c0.toNat,by simp; omega⟩
 have hcc : UInt8.ofNat ((c.toNat : Int)).toNat = c:=by simp
 rw [hcc,Int.toNat_natCast]
 unfold bigT at hl
 refine ⟨rfl,rfl,rfl,?_⟩
 rw [e_entailref1_Find]
 refine loopP_inv (fun vs=>∃ i : Nat,vs = [vI i] ∧ p ≤ i ∧ findK s c i = findK s c p) (fun vs=>s.length - natOf (gv vs 0)) ⟨p,rfl,Nat.le_refl _,rfl⟩ ?_
 rintro r _ ⟨i,rfl,hi,hf⟩ hr
 refine ⟨rfl,?_⟩
 simp only [gv_0]
 rw [lenS_s,opt_s,show (V.int .i64 (s.length : Int)) = vI (s.length : Nat) from rfl,bLt,opt_s]
 by_cases hlt : i < s.length
 ·obtain ⟨x,hx⟩ : ∃ x,s[i]? = some x:=⟨s[i],List.getElem?_eq_getElem hlt⟩
  have hd : s.drop i = x :: s.drop (i + 1):=by rw [List.drop_eq_getElem_cons hlt]; congr 1; exact Option.some.inj ((List.getElem?_eq_getElem hlt).symm.trans hx)
  rw [decide_eq_true hlt,iteB_true,show indexS (.str s) (vI (i : Nat)) = some (.int .u8 x.toNat) from idxS_at hx .i64,opt_s,bEql,opt_s]
  unfold findK at hf
  rw [hd,List.findIdx?_cons] at hf
  by_cases he : x = c
  ·subst he
   simp only [beq_self_eq_true,if_true,Nat.add_zero] at hf
   rw [decide_eq_true rfl,iteB_true]
   unfold findK
   rw [← hf]
  ·have he' : ¬ (x.toNat : Int) = c.toNat:=fun e=>he (UInt8.toNat_inj.1 (by omega))
   rw [decide_eq_false he',iteB_false,add1' (by omega),opt_s]
   refine hr _ ⟨i + 1,rfl,by omega,?_⟩ (by simp [gv,natOf,vI]; omega)
   have hb : (x == c) = false:=by simpa using he
   rw [hb] at hf
   unfold findK
   rw [← hf]
   simp only [if_false,Bool.false_eq_true]
   cases (s.drop (i + 1)).findIdx? (· == c)
   ·rfl
   ·simp only [Option.map_some]; congr 1; omega
 ·rw [decide_eq_false hlt,iteB_false]
  unfold findK at hf ⊢
  rw [List.drop_eq_nil_of_le (by omega)] at hf
  rw [← hf]; rfl
end Go.Fbs

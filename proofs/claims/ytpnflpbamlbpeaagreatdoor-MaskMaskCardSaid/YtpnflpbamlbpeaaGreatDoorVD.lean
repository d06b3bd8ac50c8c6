import Derived.Test.YtpnflpbamlbpeaaGreatDoorVT
import Derived.Test.YtpnflpbamlbpeaaGreatDoorVC
import Derived.Test.YtpnflpbamlbpeaaGreatDoorS2
set_option linter.unusedSimpArgs false
set_option linter.unusedVariables false
set_option linter.unusedSectionVars false
set_option maxRecDepth 100000
namespace Go.Fbs
open Go.Proofs
open Classical in
noncomputable def specOf {α : Type} (c : α → List V) (ok : α → Prop) (r : α → V) : Spec:=fun words=>if h : ∃ a,words = c a ∧ ok a then some (r (Classical.choose h)) else none
theorem specOf_eq {α : Type} {c : α → List V} {ok : α → Prop} {r : α → V} (inj : ∀ a b,c a = c b → a = b) {a : α} (h : ok a) : specOf c ok r (c a) = some (r a):=by
 have hex : ∃ b,c a = c b ∧ ok b:=⟨a,rfl,h⟩
 unfold specOf
 rw [dif_pos hex,← inj _ _ (Classical.choose_spec hex).1]
theorem specOf_inv {α : Type} {c : α → List V} {ok : α → Prop} {r : α → V} {words : List V} {v : V} (h : specOf c ok r words = some v) : ∃ a,words = c a ∧ ok a ∧ v = r a:=by
 unfold specOf at h
 split at h
 ·rename_i hex
  simp only [Option.some.injEq] at h
  exact ⟨_,(Classical.choose_spec hex).1,(Classical.choose_spec hex).2,h.symm⟩
 ·simp at h
def bigT : Nat:=1000000
theorem addK {a b : Nat} (h : a + b ≤ 4611686018427387904) : binK .add (vI (a : Nat)) (vI (b : Nat)) = some (vI ((a + b : Nat) : Int)):=by
 rw [bAdd]
 congr 2
 rw [IntKind.wrap_i64]
 omega
theorem bLt (i n : Nat) : binK .lss (vI (i : Nat)) (vI (n : Nat)) = some (.bool (decide (i < n))):=by
 rw [bLss]
 congr 2
 by_cases h : i < n <;> simp [h]
theorem add1' {a : Nat} (h : a ≤ 4611686018427387000) : binK .add (vI (a : Nat)) (.int .i64 1) = some (vI ((a + 1 : Nat) : Int)):=addK (b:=1) (by omega)
def F_atom_first : Spec
 | [.int .u8 c]=>some (.bool (alnB c))
 | _=>none
theorem ok_atom_first : SpecL Tryz.prog n_atom_first F_atom_first:=by
 refine go_atom_first (T:=[]) (TabOk.nil) fun args v hv=>?_
 unfold F_atom_first at hv
 split at hv <;> (try simp only [Option.ite_none_right_eq_some,Option.some.injEq,reduceCtorEq] at hv)
 rename_i c
 subst hv
 refine ⟨rfl,rfl,rfl,?_⟩
 rw [e_atom_first]
 by_cases h1 : 97 ≤ c <;> by_cases h2 : c ≤ 122 <;> by_cases h3 : 48 ≤ c <;> by_cases h4 : c ≤ 57 <;> simp [sS,if_true,if_false,reduceCtorEq,alnB,h1,h2,h3,h4]
def F_entailref1_alnum : Spec
 | [.int .u8 c]=>some (.bool (alnB c))
 | _=>none
theorem ok_entailref1_alnum : SpecL Tryz.prog n_entailref1_alnum F_entailref1_alnum:=by
 refine go_entailref1_alnum (T:=[]) (TabOk.nil) fun args v hv=>?_
 unfold F_entailref1_alnum at hv
 split at hv <;> (try simp only [Option.ite_none_right_eq_some,Option.some.injEq,reduceCtorEq] at hv)
 rename_i c
 subst hv
 refine ⟨rfl,rfl,rfl,?_⟩
 rw [e_entailref1_alnum]
 by_cases h1 : 97 ≤ c <;> by_cases h2 : c ≤ 122 <;> by_cases h3 : 48 ≤ c <;> by_cases h4 : c ≤ 57 <;> simp [sS,if_true,if_false,reduceCtorEq,alnB,h1,h2,h3,h4]
def F_atom_plain : Spec
 | [.int .u8 c]=>some (.bool (nameB c))
 | _=>none
theorem ok_atom_plain : SpecL Tryz.prog n_atom_plain F_atom_plain:=by
 refine go_atom_plain (T:=[(n_atom_first,F_atom_first)]) (TabOk.cons ok_atom_first TabOk.nil) fun args v hv=>?_
 have c_atom_first : ∀ args,tab [(n_atom_first,F_atom_first)] n_atom_first args = F_atom_first args:=fun _=>rfl
 unfold F_atom_plain at hv
 split at hv <;> (try simp only [Option.ite_none_right_eq_some,Option.some.injEq,reduceCtorEq] at hv)
 rename_i c
 subst hv
 refine ⟨rfl,rfl,rfl,?_⟩
 rw [e_atom_plain]
 cases h0 : alnB c <;> by_cases h1 : c = 95 <;> by_cases h2 : c = 45 <;> by_cases h3 : c = 46 <;> simp [sS,if_true,if_false,reduceCtorEq,c_atom_first,F_atom_first,nameB,h0,h1,h2,h3]
theorem all_take {p : UInt8 → Bool} {l : List UInt8} {k : Nat} {c : UInt8} (h : l[k]? = some c) (hk : (l.take k).all p = true) : (l.take (k + 1)).all p = p c:=by
 rw [List.take_add_one,h,List.all_append,hk]; simp
theorem all_not {p : UInt8 → Bool} {l : List UInt8} {k : Nat} {c : UInt8} (h : l[k]? = some c) (hc : p c = false) : l.all p = false:=by
 cases hh : l.all p
 ·rfl
 ·rw [List.all_eq_true.1 hh c (List.mem_of_getElem? h)] at hc; simp at hc
theorem all_end {p : UInt8 → Bool} {l : List UInt8} {k : Nat} (h : l.length ≤ k) (hk : (l.take k).all p = true) : l.all p = true:=by
 rwa [List.take_of_length_le h] at hk
def F_atom_Name : Spec
 | [.str l]=>if l.length ≤ bigT then some (.bool (nameD l)) else none
 | _=>none
theorem ok_atom_Name : SpecL Tryz.prog n_atom_Name F_atom_Name:=by
 refine go_atom_Name (T:=[(n_atom_first,F_atom_first),(n_atom_plain,F_atom_plain)]) (TabOk.cons ok_atom_first (TabOk.cons ok_atom_plain TabOk.nil)) fun args v hv=>?_
 have c_atom_first : ∀ args,tab [(n_atom_first,F_atom_first),(n_atom_plain,F_atom_plain)] n_atom_first args = F_atom_first args:=fun _=>rfl
 have c_atom_plain : ∀ args,tab [(n_atom_first,F_atom_first),(n_atom_plain,F_atom_plain)] n_atom_plain args = F_atom_plain args:=fun _=>rfl
 unfold F_atom_Name at hv
 split at hv <;> (try simp only [Option.ite_none_right_eq_some,Option.some.injEq,reduceCtorEq] at hv)
 rename_i l
 obtain ⟨hl,rfl⟩:=hv
 unfold bigT at hl
 refine ⟨rfl,rfl,rfl,?_⟩
 rw [e_atom_Name]
 cases l with
 | nil=>simp [sS,if_true,if_false,reduceCtorEq,nameD]
 | cons c t =>
  have e0 : ((c :: t : List UInt8) == []) = false:=rfl
  have i0 : indexS (.str (c :: t)) (.int .i64 0) = some (.int .u8 c.toNat):=idxS_at (k:=0) rfl .i64
  generalize hll : c :: t = l at *
  have hl1 : 1 ≤ l.length:=by rw [← hll]; simp
  have hg : l.getD 0 0 = c:=by rw [← hll]; rfl
  simp only [sS,if_true,if_false,reduceCtorEq,e0]
  by_cases h30 : l.length ≤ 30
  ·have h30' : ¬ (30 : Int) < (l.length : Int):=by omega
   simp only [sS,if_true,if_false,reduceCtorEq,h30',decide_false,i0,c_atom_first,F_atom_first]
   cases ha : alnB c.toNat
   ·simp only [sS,if_true,if_false,reduceCtorEq,nameD,hg,ha]
   ·simp only [sS,if_true,if_false,reduceCtorEq]
    refine loopP_inv (fun vs=>∃ k : Nat,vs = [vI k] ∧ k ≤ l.length ∧ (l.take k).all (fun c=>nameB c.toNat) = true) (fun vs=>l.length - natOf (gv vs 0)) ⟨0,rfl,Nat.zero_le _,rfl⟩ ?_
    rintro r _ ⟨k,rfl,hk,hn⟩ hr
    refine ⟨rfl,?_⟩
    simp only [sS,if_true,if_false,reduceCtorEq]
    by_cases hlt : k < l.length
    ·have hlt' : (k : Int) < (l.length : Int):=by omega
     obtain ⟨d,hd⟩ : ∃ d,l[k]? = some d:=⟨l[k],List.getElem?_eq_getElem hlt⟩
     simp only [hlt',decide_true,sS,if_true,if_false,reduceCtorEq,idxS_at hd,c_atom_plain,F_atom_plain]
     have h2:=all_take (p:=fun c=>nameB c.toNat) hd hn
     cases hp : nameB d.toNat
     ·simp only [sS,if_true,if_false,reduceCtorEq,nameD,all_not (p:=fun c=>nameB c.toNat) hd hp]
     ·simp only [sS,if_true,if_false,reduceCtorEq]
      rw [wrap_in (by omega) (by omega)]
      refine hr _ ⟨k + 1,by simp,hlt,by rw [h2]; exact hp⟩ ?_
      simp [gv,natOf]; omega
    ·have hlt' : ¬ (k : Int) < (l.length : Int):=by omega
     simp only [hlt',decide_false,sS,if_true,if_false,reduceCtorEq,nameD,hg,ha,hl1,h30,decide_true,all_end (p:=fun c=>nameB c.toNat) (by omega) hn]
  ·have h30' : (30 : Int) < (l.length : Int):=by omega
   simp [sS,if_true,if_false,reduceCtorEq,h30',nameD,h30]
def F_entailref1_Name : Spec
 | [.str l]=>if l.length ≤ bigT then some (.bool (nameD l)) else none
 | _=>none
theorem ok_entailref1_Name : SpecL Tryz.prog n_entailref1_Name F_entailref1_Name:=by
 refine go_entailref1_Name (T:=[(n_entailref1_alnum,F_entailref1_alnum)]) (TabOk.cons ok_entailref1_alnum TabOk.nil) fun args v hv=>?_
 have c_entailref1_alnum : ∀ args,tab [(n_entailref1_alnum,F_entailref1_alnum)] n_entailref1_alnum args = F_entailref1_alnum args:=fun _=>rfl
 unfold F_entailref1_Name at hv
 split at hv <;> (try simp only [Option.ite_none_right_eq_some,Option.some.injEq,reduceCtorEq] at hv)
 rename_i l
 obtain ⟨hl,rfl⟩:=hv
 unfold bigT at hl
 refine ⟨rfl,rfl,rfl,?_⟩
 rw [e_entailref1_Name]
 cases l with
 | nil=>simp [sS,if_true,if_false,reduceCtorEq,nameD]
 | cons c t =>
  have i0 : indexS (.str (c :: t)) (.int .i64 0) = some (.int .u8 c.toNat):=idxS_at (k:=0) rfl .i64
  generalize hll : c :: t = l at *
  have hl1 : 1 ≤ l.length:=by rw [← hll]; simp
  have hl1' : ¬ (l.length : Int) < 1:=by omega
  have hg : l.getD 0 0 = c:=by rw [← hll]; rfl
  simp only [sS,if_true,if_false,reduceCtorEq,hl1',decide_false]
  by_cases h30 : l.length ≤ 30
  ·have h30' : ¬ (30 : Int) < (l.length : Int):=by omega
   simp only [sS,if_true,if_false,reduceCtorEq,h30',decide_false,i0,c_entailref1_alnum,F_entailref1_alnum]
   cases ha : alnB c.toNat
   ·simp only [sS,if_true,if_false,reduceCtorEq,nameD,hg,ha]
   ·simp only [sS,if_true,if_false,reduceCtorEq]
    refine loopP_inv (fun vs=>∃ k : Nat,vs = [vI k] ∧ k ≤ l.length ∧ (l.take k).all (fun c=>nameB c.toNat) = true) (fun vs=>l.length - natOf (gv vs 0)) ⟨0,rfl,Nat.zero_le _,rfl⟩ ?_
    rintro r _ ⟨k,rfl,hk,hn⟩ hr
    refine ⟨rfl,?_⟩
    simp only [sS,if_true,if_false,reduceCtorEq]
    by_cases hlt : k < l.length
    ·have hlt' : (k : Int) < (l.length : Int):=by omega
     obtain ⟨d,hd⟩ : ∃ d,l[k]? = some d:=⟨l[k],List.getElem?_eq_getElem hlt⟩
     simp only [hlt',decide_true,sS,if_true,if_false,reduceCtorEq,idxS_at hd,c_entailref1_alnum,F_entailref1_alnum]
     have h2:=all_take (p:=fun c=>nameB c.toNat) hd hn
     have step : nameB d.toNat = true → r [vI (k + 1 : Nat)]:=fun hp=>hr _ ⟨k + 1,rfl,hlt,by rw [h2]; exact hp⟩ (by simp [gv,natOf]; omega)
     have stop_ : nameB d.toNat = false → nameD l = false:=fun hp=>by simp only [nameD,all_not (p:=fun c=>nameB c.toNat) hd hp,Bool.and_false]
     have hw : IntKind.i64.wrap ((k : Int) + 1) = ((k + 1 : Nat) : Int):=by rw [wrap_in (by omega) (by omega)]; omega
     simp only [nameB] at step stop_
     cases h0 : alnB d.toNat <;> by_cases h1 : (d.toNat : Int) = 95 <;> by_cases h3 : (d.toNat : Int) = 45 <;> by_cases h4 : (d.toNat : Int) = 46 <;> simp [h0,h1,h3,h4] at step stop_ <;> simp [sS,if_true,if_false,reduceCtorEq,h1,h3,h4,hw,stop_,step]
    ·have hlt' : ¬ (k : Int) < (l.length : Int):=by omega
     simp only [hlt',decide_false,sS,if_true,if_false,reduceCtorEq,nameD,hg,ha,hl1,h30,decide_true,all_end (p:=fun c=>nameB c.toNat) (by omega) hn]
  ·have h30' : (30 : Int) < (l.length : Int):=by omega
   simp [sS,if_true,if_false,reduceCtorEq,h30',nameD,h30]
def entW (e : Ent) : V:=.agg [vI e.kind,.bool e.dflt,.str e.name,vI e.bits]
def entsV (l : List Ent) : V:=.sl .ro (l.map entW)
theorem entW_inj {a b : Ent} (h : entW a = entW b) : a = b:=by
 cases a; cases b
 simp only [entW,vI,V.agg.injEq,List.cons.injEq,V.str.injEq,V.int.injEq,V.bool.injEq,true_and,and_true] at h
 obtain ⟨rfl,rfl,rfl,rfl⟩:=h
 rfl
theorem map_inj' {α : Type} {f : α → V} (hf : ∀ a b,f a = f b → a = b) : ∀ {l m : List α},l.map f = m.map f → l = m
 | [],[],_=>rfl
 | [],_ :: _,h=>by simp at h
 | _ :: _,[],h=>by simp at h
 | a :: l,b :: m,h=>by
  simp only [List.map_cons,List.cons.injEq] at h
  rw [hf a b h.1,map_inj' hf h.2]
theorem entsV_inj {l m : List Ent} (h : entsV l = entsV m) : l = m:=by
 simp only [entsV,V.sl.injEq,true_and] at h
 exact map_inj' (fun _ _=>entW_inj) h
theorem entsV_cano (l : List Ent) : (entsV l).cano = true:=by
 simp only [entsV,V.cano]
 exact canos_map fun w=>rfl
theorem lenEnt (l : List Ent) : lenL (entsV l) = some (vI l.length):=by simp [lenL,entsV]
theorem entAt {l : List Ent} {i : Nat} {x : Ent} (h : l[i]? = some x) : idxLK true 4 (entsV l) (vI (i : Nat)) = some (entW x):=by
 refine idxL_agg (cs:=[vI x.kind,.bool x.dflt,.str x.name,vI x.bits]) ?_ rfl rfl .i64
 rw [List.getElem?_map,h]; rfl
theorem chkEnt (x : Ent) : chkK 4 (entW x) = some (entW x):=chk_agg rfl rfl
theorem ent0 (x : Ent) : cellD (entW x) 0 = vI x.kind:=rfl
theorem ent1 (x : Ent) : cellD (entW x) 1 = .bool x.dflt:=rfl
theorem ent2 (x : Ent) : cellD (entW x) 2 = .str x.name:=rfl
theorem ent3 (x : Ent) : cellD (entW x) 3 = vI x.bits:=rfl
theorem litEnt (x : Ent) : litK 4 [entW x] = some (entsV [x]):=lit_s (by simp) rfl
theorem appEnt {l m : List Ent} (h : l.length + m.length ≤ 300000) : appK 4 40 (entsV l) (entsV m) = some (entsV (l ++ m)):=by
 have:=app_s (n:=4) (b:=40) (g:=.ro) (g':=.ro) (es:=l.map entW) (ys:=m.map entW) (by simp; omega) (all_map_len fun a=>rfl) (all_map_len fun a=>rfl)
 unfold entsV
 rw [this,List.map_append]
noncomputable def F_mask_good : Spec:=specOf (fun x : Ent=>[entW x]) (fun x=>x.name.length ≤ bigT) (fun x=>.bool (goodE x))
theorem Fgood {x : Ent} (h : x.name.length ≤ bigT) : F_mask_good [entW x] = some (.bool (goodE x)) :=
 specOf_eq (a:=x) (fun a b h=>by simp only [List.cons.injEq,and_true] at h; exact entW_inj h) h
theorem ok_mask_good : SpecL Tryz.prog n_mask_good F_mask_good:=by
 refine go_mask_good (T:=[(n_atom_Name,F_atom_Name)]) (TabOk.cons ok_atom_Name TabOk.nil) fun args v hv=>?_
 have c1 : ∀ args,tab [(n_atom_Name,F_atom_Name)] n_atom_Name args = F_atom_Name args:=fun _=>rfl
 obtain ⟨x,rfl,hl,rfl⟩:=specOf_inv hv
 refine ⟨rfl,rfl,rfl,?_⟩
 rw [e_mask_good]
 have hn : F_atom_Name [.str x.name] = some (.bool (nameD x.name)):=if_pos hl
 rw [chkEnt,opt_s,ent2,ent0,ent3]
 unfold goodE octB
 by_cases h2 : x.kind = 2
 ·simp [sS,if_true,if_false,reduceCtorEq,vI,h2,c1,hn,joinP_eq]
  cases nameD x.name <;> by_cases h0 : 0 ≤ x.bits <;> simp [h0]
 ·by_cases h4 : x.kind = 4
  ·simp [sS,if_true,if_false,reduceCtorEq,vI,h4,c1,hn,joinP_eq]
   cases nameD x.name <;> by_cases h0 : 0 ≤ x.bits <;> simp [h0]
  ·simp only [sS,if_true,if_false,reduceCtorEq,vI,h2,h4,joinP_eq]
   simp [sS,if_true,if_false,reduceCtorEq,Bool.and_assoc]
def findE (l : List Ent) (d : Bool) (k : Int) (nm : List UInt8) : Option Ent:=l.find? fun x=>x.dflt == d && decide (x.kind = k) && x.name == nm
def findV (o : Option Ent) : V:=match o with | some x=>.tup [entW x,.bool true] | none=>.tup [entW ⟨0,false,[],0⟩,.bool false]
theorem find_has (l : List Ent) (d : Bool) (k : Int) : (findE l d k []).isSome = hasE l d k:=by
 unfold findE hasE
 rw [Bool.eq_iff_iff,List.find?_isSome,List.any_eq_true]
noncomputable def F_mask_Find : Spec:=specOf (fun q : List Ent × Bool × Int × List UInt8=>[entsV q.1,.bool q.2.1,vI q.2.2.1,.str q.2.2.2]) (fun q=>q.1.length ≤ bigT) (fun q=>findV (findE q.1 q.2.1 q.2.2.1 q.2.2.2))
theorem Ffind {l : List Ent} {d : Bool} {k : Int} {nm : List UInt8} (h : l.length ≤ bigT) : F_mask_Find [entsV l,.bool d,vI k,.str nm] = some (findV (findE l d k nm)) :=
 specOf_eq (a:=(l,d,k,nm)) (fun a b h=>by
  simp only [List.cons.injEq,and_true,vI,V.bool.injEq,V.int.injEq,V.str.injEq,true_and] at h
  exact Prod.ext (entsV_inj h.1) (Prod.ext h.2.1 (Prod.ext h.2.2.1 h.2.2.2))) h
theorem ok_mask_Find : SpecL Tryz.prog n_mask_Find F_mask_Find:=by
 refine go_mask_Find (T:=[]) TabOk.nil fun args v hv=>?_
 obtain ⟨⟨l,d,k,nm⟩,rfl,hl,rfl⟩:=specOf_inv hv
 refine ⟨rfl,by simp [canos,entsV_cano,V.cano,vI],by cases findE l d k nm <;> rfl,?_⟩
 rw [e_mask_Find]
 dsimp only at hl ⊢
 unfold bigT at hl
 rw [lenEnt,opt_s]
 refine loopP_inv (fun vs=>∃ i : Nat,vs = [vI i] ∧ i ≤ l.length ∧ findE (l.drop i) d k nm = findE l d k nm) (fun vs=>l.length - natOf (gv vs 0)) ⟨0,rfl,Nat.zero_le _,rfl⟩ ?_
 rintro r _ ⟨i,rfl,hi,hf⟩ hr
 refine ⟨rfl,?_⟩
 simp only [gv_0]
 by_cases hlt : i < l.length
 ·obtain ⟨x,hx⟩ : ∃ x,l[i]? = some x:=⟨l[i],List.getElem?_eq_getElem hlt⟩
  have hd : l.drop i = x :: l.drop (i + 1):=by rw [List.drop_eq_getElem_cons hlt]; congr 1; exact Option.some.inj ((List.getElem?_eq_getElem hlt).symm.trans hx)
  rw [bLt,opt_s,decide_eq_true hlt,iteB_true,entAt hx,opt_s,ent1,ent0,ent2]
  rw [hd] at hf
  unfold findE at hf
  rw [List.find?_cons] at hf
  have hadd:=add1' (a:=i) (by omega)
  simp only [vI] at hadd ⊢
  simp only [sS,if_true,if_false,reduceCtorEq,hadd]
  cases hp : (x.dflt == d && decide (x.kind = k) && x.name == nm)
  ·rw [hp] at hf
   simp only [Bool.bne_false,hp,sS,if_true,if_false,reduceCtorEq]
   exact hr _ ⟨i + 1,rfl,hlt,hf⟩ (by simp [gv,natOf,vI]; omega)
  ·rw [hp] at hf
   simp only [Bool.bne_false,hp,sS,if_true,if_false,reduceCtorEq]
   unfold findE
   rw [← hf]; rfl
 ·rw [bLt,opt_s,decide_eq_false hlt,iteB_false]
  rw [List.drop_eq_nil_of_le (by omega)] at hf
  rw [agg_s rfl,opt_s,← hf]
  rfl
end Go.Fbs

import Derived.Test.YtpnflpbamlbpeaaGreatDoorVI
set_option linter.unusedSimpArgs false
set_option linter.unusedVariables false
set_option linter.unusedSectionVars false
set_option maxRecDepth 100000
namespace Go.Fbs
open Go.Proofs
theorem sliceMid {s : List UInt8} {i j : Nat} (hij : i ≤ j) (hj : j ≤ s.length) : sliceS (.str s) (some (vI (i : Nat))) (some (vI (j : Nat))) = some (.str ((s.drop i).take (j - i))):=by
 have h1 : (0 : Int) ≤ (j : Int) ∧ (j : Int) ≤ (s.length : Int):=by omega
 have h2 : (0 : Int) ≤ (i : Int) ∧ (i : Int) ≤ (j : Int):=by omega
 simp only [sliceS,boundV,vI,h1,h2,and_self,if_true,Int.toNat_natCast,Option.some.injEq,V.str.injEq]
 rw [List.drop_take]
def splitC : List UInt8 → List (List UInt8)
 | []=>[[]]
 | c :: s=>if c = 44 then [] :: splitC s else match splitC s with | p :: r=>(c :: p) :: r | []=>[[c]]
theorem splitC_one : ∀ {p : List UInt8},(∀ c ∈ p,c ≠ 44) → splitC p = [p]
 | [],_=>rfl
 | c :: p,h=>by
  unfold splitC
  rw [if_neg (h c (by simp)),splitC_one fun x hx=>h x (by simp [hx])]
theorem splitC_cons : ∀ {p t : List UInt8},(∀ c ∈ p,c ≠ 44) → splitC (p ++ 44 :: t) = p :: splitC t
 | [],t,_=>by simp [splitC]
 | c :: p,t,h=>by
  show (if c = 44 then [] :: splitC (p ++ 44 :: t) else match splitC (p ++ 44 :: t) with | p :: r=>(c :: p) :: r | []=>[[c]]) = _
  rw [if_neg (h c (by simp)),splitC_cons fun x hx=>h x (by simp [hx])]
theorem ent_plain {e : Ent} (h : e ∈ entTab) : (∀ c ∈ txtE e,c ≠ 44) ∧ (txtE e).length ≤ 9 ∧ goodE e = true ∧ e.name.length ≤ 1:=by
 have:=List.all_eq_true.1 plain_all e h
 simp only [Bool.and_eq_true,decide_eq_true_eq,List.all_eq_true,bne_iff_ne] at this
 exact ⟨this.1.1.1,this.1.1.2,this.1.2,this.2⟩
theorem txts_split : ∀ {l : List Ent},l ≠ [] → (∀ e ∈ l,e ∈ entTab) → splitC (txts l) = l.map txtE
 | [],h,_=>absurd rfl h
 | [e],_,h=>splitC_one (ent_plain (h e (by simp))).1
 | e :: f :: r,_,h=>by
  rw [txts_cons e (by simp),splitC_cons (ent_plain (h e (by simp))).1,txts_split (by simp) fun x hx=>h x (by simp only [List.mem_cons] at hx ⊢; exact .inr hx)]
  rfl
theorem map_look : ∀ {l : List Ent},(∀ e ∈ l,e ∈ entTab) → (l.map txtE).filterMap lookE = l
 | [],_=>rfl
 | e :: r,h=>by
  rw [List.map_cons,List.filterMap_cons,look_eq (h e (by simp)),map_look fun x hx=>h x (by simp [hx])]
abbrev TabL:={ l : List Ent // l ≠ [] ∧ l.length ≤ 50 ∧ ∀ e ∈ l,e ∈ entTab }
theorem txts_inj {a b : TabL} (h : txts a.1 = txts b.1) : a = b:=by
 have h1:=congrArg splitC h
 rw [txts_split a.2.1 a.2.2.2,txts_split b.2.1 b.2.2.2] at h1
 have h2:=congrArg (List.filterMap lookE) h1
 rw [map_look a.2.2.2,map_look b.2.2.2] at h2
 exact Subtype.ext h2
theorem txts_len : ∀ {l : List Ent},(∀ e ∈ l,e ∈ entTab) → (txts l).length ≤ 10 * l.length
 | [],_=>by simp [txts,joinC]
 | [e],h=>by have:=(ent_plain (h e (by simp))).2.1; simp [txts,joinC]; omega
 | e :: f :: r,h=>by
  have h1:=(ent_plain (h e (by simp))).2.1
  have h2:=txts_len (l:=f :: r) fun x hx=>h x (by simp only [List.mem_cons] at hx ⊢; exact .inr hx)
  rw [txts_cons e (by simp)]
  simp only [List.length_append,List.length_cons] at h2 ⊢
  omega
noncomputable def F_entailref17_Entries : Spec:=specOf (fun l : TabL=>[.str (txts l.1)]) (fun _=>True) (fun l=>.tup [entsV l.1,.bool true])
theorem Fentries (l : TabL) : F_entailref17_Entries [.str (txts l.1)] = some (.tup [entsV l.1,.bool true]) :=
 specOf_eq (a:=l) (fun a b h=>by simp only [List.cons.injEq,and_true,V.str.injEq] at h; exact txts_inj h) trivial
theorem find_no {p : List UInt8} (h : ∀ c ∈ p,c ≠ 44) (t : List UInt8) : (p ++ 44 :: t).findIdx? (· == 44) = some p.length:=by
 induction p with
 | nil=>simp [List.findIdx?_cons]
 | cons c p ih =>
  rw [List.cons_append,List.findIdx?_cons]
  have : (c == 44) = false:=by simpa using h c (by simp)
  rw [this,ih fun x hx=>h x (by simp [hx])]
  rfl
theorem find_end {p : List UInt8} (h : ∀ c ∈ p,c ≠ 44) : p.findIdx? (· == 44) = none:=by
 rw [List.findIdx?_eq_none_iff]
 intro c hc
 simpa using h c hc
theorem ok_entailref17_Entries : SpecL Tryz.prog n_entailref17_Entries F_entailref17_Entries:=by
 refine go_entailref17_Entries (T:=[(n_entailref1_Find,F_entailref1_Find),(n_entailref17_entry,F_entailref17_entry)]) (TabOk.cons ok_entailref1_Find (TabOk.cons ok_entailref17_entry TabOk.nil)) fun args v hv=>?_
 have c1 : ∀ args,tab [(n_entailref1_Find,F_entailref1_Find),(n_entailref17_entry,F_entailref17_entry)] n_entailref1_Find args = F_entailref1_Find args:=fun _=>rfl
 have c2 : ∀ args,tab [(n_entailref1_Find,F_entailref1_Find),(n_entailref17_entry,F_entailref17_entry)] n_entailref17_entry args = F_entailref17_entry args:=fun _=>rfl
 obtain ⟨⟨l,hne,h50,hmem⟩,rfl,_,rfl⟩:=specOf_inv hv
 refine ⟨rfl,rfl,by simp [V.cano,canos,entsV_cano],?_⟩
 rw [e_entailref17_Entries]
 dsimp only
 have hlen:=txts_len hmem
 generalize ht : txts l = t at *
 refine loopP_inv (fun vs=>∃ (pre rest : List Ent) (p : Nat),l = pre ++ rest ∧ vs = [entsV pre,vI p] ∧ (rest ≠ [] → t.drop p = txts rest ∧ p ≤ t.length) ∧ (rest = [] → p = t.length + 1)) (fun vs=>t.length + 1 - natOf (gv vs 1)) ⟨[],l,0,rfl,rfl,fun _=>⟨ht.symm,Nat.zero_le _⟩,fun h=>absurd h hne⟩ ?_
 rintro r _ ⟨pre,rest,p,hl,rfl,hr1,hr2⟩ hr
 refine ⟨rfl,?_⟩
 simp only [gv_0,gv_s]
 rw [lenS_s,opt_s,show ∀ n : Nat,V.int .i64 (n : Int) = vI (n : Nat) from fun _=>rfl,show binK .leq (vI (p : Nat)) (vI (t.length : Nat)) = some (.bool (decide (p ≤ t.length))) from by rw [vI,vI,bLeq]; congr 2; by_cases h : p ≤ t.length <;> simp [h],opt_s]
 cases rest with
 | nil =>
  have hp:=hr2 rfl
  rw [decide_eq_false (by omega),iteB_false]
  rw [List.append_nil] at hl
  rw [hl]
 | cons e rs =>
  obtain ⟨hd,hp⟩:=hr1 (by simp)
  have he : e ∈ entTab:=hmem e (by rw [hl]; simp)
  obtain ⟨hc,h9,_,_⟩:=ent_plain he
  have hdl : (t.drop p).length = t.length - p:=List.length_drop
  rw [decide_eq_true hp,iteB_true,c1,show (V.int .u8 44) = .int .u8 (((44 : UInt8).toNat : Nat) : Int) from rfl,Ffirst 44 p (by unfold bigT; omega),opt_s]
  have hpl : pre.length < 100:=by have:=congrArg List.length hl; simp at this; omega
  have hq : (txtE e).length ≤ t.length - p:=by
   rw [← hdl,hd]
   cases rs with
   | nil=>simp [txts,joinC]
   | cons f rs=>rw [txts_cons e (by simp)]; simp
  have htake : (t.drop p).take (txtE e).length = txtE e:=by
   rw [hd]
   cases rs with
   | nil=>simp [txts,joinC]
   | cons f rs=>rw [txts_cons e (by simp),List.take_left]
  have hnext : rs ≠ [] → t.drop (p + (txtE e).length + 1) = txts rs ∧ p + (txtE e).length + 1 ≤ t.length:=fun hrs=>by
   rw [txts_cons e hrs] at hd
   have h1 : (t.drop p).drop ((txtE e).length + 1) = txts rs:=by
    rw [hd]
    have : (txtE e ++ 44 :: txts rs) = (txtE e ++ [44]) ++ txts rs:=by simp
    rw [this,List.drop_left' (by simp)]
   rw [List.drop_drop] at h1
   refine ⟨by rw [Nat.add_assoc]; exact h1,?_⟩
   have:=congrArg List.length hd
   simp only [List.length_append,List.length_cons] at this
   omega
  rw [show binK .lss (vI (findK t 44 p)) (.int .i64 0) = some (.bool (decide (findK t 44 p < 0))) from by rw [vI,bLss],opt_s]
  refine joinP_inv (fun w=>w = [vI ((p + (txtE e).length : Nat) : Int),entsV pre]) ?_ ?_
  case refine_2 =>
   intro k hk
   replace hk:=hk _ rfl
   unfold findK
   cases rs with
   | nil =>
    have hd' : t.drop p = txtE e:=by rw [hd]; simp [txts,joinC]
    rw [hd',find_end hc]
    dsimp only
    rw [show decide ((-1 : Int) < 0) = true from rfl,iteB_true,opt_s]
    have : t.length = p + (txtE e).length:=by rw [hd'] at hdl; omega
    rw [this]; exact hk
   | cons f rs =>
    rw [hd,txts_cons e (by simp),find_no hc]
    dsimp only
    rw [decide_eq_false (by omega),iteB_false]
    exact hk
  rintro _ rfl
  refine ⟨rfl,?_⟩
  simp only [gv_0,gv_s]
  rw [sliceMid (by omega) (by omega),opt_s,show p + (txtE e).length - p = (txtE e).length by omega,htake,c2,Fentry he,opt_s]
  unfold entR
  rw [show extractV (.tup [entW e,.bool true]) 0 = some (entW e) from rfl,opt_s,show extractV (.tup [entW e,.bool true]) 1 = some (.bool true) from rfl,opt_s,chkEnt,opt_s,not_bool,opt_s,lenEnt,opt_s,Bool.not_true,
   show binK .eql (vI (pre.length : Nat)) (.int .i64 100) = some (.bool false) from by rw [vI,bEql]; simp; omega,opt_s,pBool,if_neg (by simp),opt_s,iteB_false,litEnt,opt_s,appEnt (by simp; omega),opt_s,add1' (by omega),opt_s]
  refine hr _ ⟨pre ++ [e],rs,_,by rw [hl]; simp,rfl,hnext,?_⟩ (by simp [gv,natOf,vI]; omega)
  intro hrs
  subst hrs
  have hd' : t.drop p = txtE e:=by rw [hd]; simp [txts,joinC]
  rw [hd'] at hdl
  omega
end Go.Fbs

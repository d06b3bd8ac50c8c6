import Derived.Lib.Bytealg
import Derived.Lib.Small
import Derived.Sort.Statements
set_option linter.unusedSimpArgs false
set_option linter.unusedVariables false
set_option linter.unusedSectionVars false
set_option maxRecDepth 100000
namespace Go.Fbs
structure Cmp {α : Type} (C : α → α → Int) : Prop where
 anti : ∀ x y,C y x = - C x y
 trans : ∀ x y z,C x y < 0 → C y z < 0 → C x z < 0
 eq0 : ∀ x y z,C x y = 0 → C x z = C y z
def lexC {α : Type} (C D : α → α → Int) (x y : α) : Int:=if C x y = 0 then D x y else C x y
theorem Cmp.self {α : Type} {C : α → α → Int} (h : Cmp C) (x : α) : C x x = 0:=by have:=h.anti x x; omega
theorem Cmp.eq0' {α : Type} {C : α → α → Int} (h : Cmp C) (x y z : α) (e : C y z = 0) : C x z = C x y:=by
 have h1:=h.eq0 y z x e
 have h2:=h.anti x z
 have h3:=h.anti x y
 omega
theorem Cmp.lex {α : Type} {C D : α → α → Int} (h : Cmp C) (g : Cmp D) : Cmp (lexC C D):=by
 refine ⟨fun x y=>?_,fun x y z=>?_,fun x y z=>?_⟩
 ·have h1:=h.anti x y
  have h2:=g.anti x y
  unfold lexC
  by_cases e : C x y = 0
  ·rw [if_pos e,if_pos (by omega)]; exact h2
  ·rw [if_neg e,if_neg (by omega)]; exact h1
 ·unfold lexC
  by_cases e1 : C x y = 0
  ·rw [if_pos e1,h.eq0 x y z e1]
   by_cases e2 : C y z = 0
   ·rw [if_pos e2,if_pos e2]; exact g.trans x y z
   ·rw [if_neg e2,if_neg e2]; exact fun _ h=>h
  ·rw [if_neg e1]
   by_cases e2 : C y z = 0
   ·rw [if_pos e2,h.eq0' x y z e2,if_neg e1]; exact fun h _=>h
   ·rw [if_neg e2]
    intro h1 h2
    have h3:=h.trans x y z h1 h2
    rw [if_neg (by omega)]; exact h3
 ·unfold lexC
  by_cases e1 : C x y = 0
  ·rw [if_pos e1]
   intro e2
   rw [h.eq0 x y z e1,g.eq0 x y z e2]
  ·rw [if_neg e1]; exact fun h=>absurd h e1
theorem Cmp.on {α β : Type} {C : β → β → Int} (h : Cmp C) (f : α → β) : Cmp (fun x y=>C (f x) (f y)):=⟨fun _ _=>h.anti _ _,fun _ _ _=>h.trans _ _ _,fun _ _ _=>h.eq0 _ _ _⟩
theorem cmpI_ok : Cmp Lib.compareInt:=by
 refine ⟨fun x y=>?_,fun x y z=>?_,fun x y z=>?_⟩ <;> unfold Lib.compareInt <;> (repeat' split) <;> omega
theorem cmpI_0 {x y : Int} : Lib.compareInt x y = 0 ↔ x = y:=by unfold Lib.compareInt; (repeat' split) <;> omega
theorem cmpB_anti : ∀ x y : List UInt8,Lib.compareBytes y x = - Lib.compareBytes x y
 | [],[]=>rfl
 | [],_ :: _=>rfl
 | _ :: _,[]=>rfl
 | a :: u,b :: v=>by
  have ih:=cmpB_anti u v
  have ha : ∀ a b : UInt8,a < b ↔ a.toNat < b.toNat:=fun _ _=>UInt8.lt_iff_toNat_lt
  simp only [Lib.compareBytes,ha]
  (repeat' split) <;> omega
theorem cmpB_0 : ∀ {x y : List UInt8},Lib.compareBytes x y = 0 ↔ x = y
 | [],[]=>by simp [Lib.compareBytes]
 | [],_ :: _=>by simp [Lib.compareBytes]
 | _ :: _,[]=>by simp [Lib.compareBytes]
 | a :: u,b :: v=>by
  have ih:=@cmpB_0 u v
  have ha : ∀ a b : UInt8,a < b ↔ a.toNat < b.toNat:=fun _ _=>UInt8.lt_iff_toNat_lt
  have hb : a = b ↔ a.toNat = b.toNat:=UInt8.toNat_inj.symm
  simp only [Lib.compareBytes,ha,List.cons.injEq,hb]
  by_cases h1 : a.toNat < b.toNat
  ·rw [if_pos h1]; constructor
   ·intro h; omega
   ·intro h; omega
  ·rw [if_neg h1]
   by_cases h2 : b.toNat < a.toNat
   ·rw [if_pos h2]; constructor
    ·intro h; omega
    ·intro h; omega
   ·rw [if_neg h2,ih]
    exact ⟨fun h=>⟨by omega,h⟩,fun h=>h.2⟩
theorem cmpB_trans : ∀ x y z : List UInt8,Lib.compareBytes x y < 0 → Lib.compareBytes y z < 0 → Lib.compareBytes x z < 0
 | [],[],_=>by simp [Lib.compareBytes]
 | [],_ :: _,[]=>by simp [Lib.compareBytes]
 | [],_ :: _,_ :: _=>by simp [Lib.compareBytes]
 | _ :: _,[],_=>by simp [Lib.compareBytes]
 | _ :: _,_ :: _,[]=>by simp [Lib.compareBytes]
 | a :: u,b :: v,c :: t=>by
  have ih:=cmpB_trans u v t
  have ha : ∀ a b : UInt8,a < b ↔ a.toNat < b.toNat:=fun _ _=>UInt8.lt_iff_toNat_lt
  simp only [Lib.compareBytes,ha]
  (repeat' split) <;> omega
theorem cmpB_ok : Cmp Lib.compareBytes:=⟨cmpB_anti,cmpB_trans,fun x y z e=>by rw [cmpB_0.1 e]⟩
structure Ent where
 kind : Int
 dflt : Bool
 name : List UInt8
 bits : Int
instance : Inhabited Ent:=⟨⟨0,false,[],0⟩⟩
def flagI (b : Bool) : Int:=if b then 1 else 0
def cmpE : Ent → Ent → Int:=lexC (fun x y=>Lib.compareInt (flagI x.dflt) (flagI y.dflt)) (lexC (fun x y=>Lib.compareInt x.kind y.kind) (fun x y=>Lib.compareBytes x.name y.name))
theorem cmpE_ok : Cmp cmpE:=(cmpI_ok.on _).lex ((cmpI_ok.on _).lex (cmpB_ok.on _))
theorem lexC_0 {α : Type} {C D : α → α → Int} {x y : α} : lexC C D x y = 0 ↔ C x y = 0 ∧ D x y = 0:=by
 unfold lexC
 by_cases h : C x y = 0
 ·rw [if_pos h]; exact ⟨fun g=>⟨h,g⟩,fun g=>g.2⟩
 ·rw [if_neg h]; exact ⟨fun g=>absurd g h,fun g=>absurd g.1 h⟩
theorem cmpE_0 {x y : Ent} : cmpE x y = 0 ↔ x.dflt = y.dflt ∧ x.kind = y.kind ∧ x.name = y.name:=by
 have hf : flagI x.dflt = flagI y.dflt ↔ x.dflt = y.dflt:=by cases x.dflt <;> cases y.dflt <;> simp [flagI]
 unfold cmpE
 rw [lexC_0,lexC_0,cmpI_0,cmpI_0,cmpB_0,hf]
theorem Cmp.swo {α : Type} {C : α → α → Int} (h : Cmp C) : Sort.SWO (fun x y=>decide (C x y < 0)):=by
 refine ⟨fun x=>?_,fun x y z h1 h2=>?_,fun x y z h1 h2=>?_⟩
 ·have:=h.self x
  simp only [decide_eq_false_iff_not]; omega
 ·simp only [decide_eq_true_eq] at *
  exact h.trans x y z h1 h2
 ·simp only [decide_eq_false_iff_not] at *
  intro h3
  have a1:=h.anti x y
  by_cases e : C y x < 0
  ·exact h2 (h.trans y x z e h3)
  ·have e0 : C x y = 0:=by omega
   rw [h.eq0 x y z e0] at h3
   exact h2 h3
def leE (x y : Ent) : Prop:=¬ cmpE y x < 0
theorem leE_trans {x y z : Ent} (h1 : leE x y) (h2 : leE y z) : leE x z:=by
 have:=cmpE_ok.swo.ntrans z y x
 simp only [decide_eq_false_iff_not] at this
 exact this h2 h1
def insE (x : Ent) : List Ent → List Ent
 | []=>[x]
 | y :: ys=>if cmpE y x < 0 then y :: insE x ys else x :: y :: ys
def sortE : List Ent → List Ent
 | []=>[]
 | x :: xs=>insE x (sortE xs)
theorem insE_perm (x : Ent) : ∀ l,(insE x l).Perm (x :: l)
 | []=>.refl _
 | y :: ys=>by
  unfold insE
  split
  ·exact ((insE_perm x ys).cons y).trans (.swap x y ys)
  ·exact .refl _
theorem sortE_perm : ∀ l,(sortE l).Perm l
 | []=>.refl _
 | x :: xs=>(insE_perm x _).trans ((sortE_perm xs).cons x)
theorem insE_sorted (x : Ent) : ∀ l,l.Pairwise leE → (insE x l).Pairwise leE
 | [],_=>List.pairwise_singleton _ _
 | y :: ys,h=>by
  obtain ⟨h1,h2⟩:=List.pairwise_cons.1 h
  unfold insE
  split
  ·rename_i hc
   refine List.pairwise_cons.2 ⟨fun z hz=>?_,insE_sorted x ys h2⟩
   rcases List.mem_cons.1 ((insE_perm x ys).mem_iff.1 hz) with rfl | hz
   ·unfold leE
    have:=cmpE_ok.anti y z
    omega
   ·exact h1 z hz
  ·rename_i hc
   refine List.pairwise_cons.2 ⟨fun z hz=>?_,h⟩
   rcases List.mem_cons.1 hz with rfl | hz
   ·exact hc
   ·exact leE_trans hc (h1 z hz)
theorem sortE_sorted : ∀ l,(sortE l).Pairwise leE
 | []=>.nil
 | x :: xs=>insE_sorted x _ (sortE_sorted xs)
def Dis (l : List Ent) : Prop:=l.Pairwise fun x y=>cmpE x y ≠ 0
theorem dis_perm {l d : List Ent} (h : d.Perm l) : Dis d ↔ Dis l:=h.pairwise_iff fun {x y} e=>by have:=cmpE_ok.anti x y; omega
theorem dis_eq : ∀ {l : List Ent} {a b : Ent},Dis l → a ∈ l → b ∈ l → cmpE a b = 0 → a = b
 | x :: xs,a,b,h,ha,hb,e=>by
  obtain ⟨h1,h2⟩:=List.pairwise_cons.1 h
  rcases List.mem_cons.1 ha with ea | ha'
  ·rcases List.mem_cons.1 hb with eb | hb'
   ·rw [ea,eb]
   ·rw [ea] at e; exact absurd e (h1 b hb')
  ·rcases List.mem_cons.1 hb with eb | hb'
   ·rw [eb] at e; exact absurd (by have:=cmpE_ok.anti a x; omega) (h1 a ha')
   ·exact dis_eq h2 ha' hb' e
theorem sort_one {l d : List Ent} (h : d.Perm l) (hs : d.Pairwise leE) (hd : Dis l) : d = sortE l:=by
 refine List.Perm.eq_of_pairwise (le:=leE) (fun a b ha hb h1 h2=>?_) hs (sortE_sorted l) (h.trans (sortE_perm l).symm)
 refine dis_eq hd (h.mem_iff.1 ha) ((sortE_perm l).mem_iff.1 hb) ?_
 unfold leE at h1 h2
 have:=cmpE_ok.anti a b
 omega
theorem sort_perm {l l' : List Ent} (h : l.Perm l') (hd : Dis l) : sortE l = sortE l' :=
 sort_one ((sortE_perm l).trans h) (sortE_sorted l) ((dis_perm h).1 hd)
def adjE : List Ent → Bool
 | []=>true
 | [_]=>true
 | x :: y :: r=>decide (cmpE x y ≠ 0) && adjE (y :: r)
theorem adj_dis : ∀ {d : List Ent},d.Pairwise leE → (adjE d = true ↔ Dis d)
 | [],_=>by simp [adjE,Dis]
 | [x],_=>by simp [adjE,Dis]
 | x :: y :: r,h=>by
  obtain ⟨h1,h2⟩:=List.pairwise_cons.1 h
  have ih:=adj_dis h2
  obtain ⟨h3,h4⟩:=List.pairwise_cons.1 h2
  simp only [adjE,Bool.and_eq_true,decide_eq_true_eq,ih]
  unfold Dis
  rw [List.pairwise_cons (a:=x)]
  refine and_congr ⟨fun hx z hz=>?_,fun hx=>hx y (by simp)⟩ Iff.rfl
  rcases List.mem_cons.1 hz with rfl | hz
  ·exact hx
  ·intro e
   have g1:=h1 y (by simp)
   have g2:=h3 z hz
   unfold leE at g1 g2
   have a1:=cmpE_ok.anti x y
   have a2:=cmpE_ok.anti y z
   have e1:=cmpE_ok.eq0' y x z e
   have e2:=cmpE_ok.anti x z
   omega
theorem adj_sort {l d : List Ent} (h : d.Perm l) (hs : d.Pairwise leE) : adjE d = adjE (sortE l):=by
 rw [Bool.eq_iff_iff,adj_dis hs,adj_dis (sortE_sorted l),dis_perm h,dis_perm (sortE_perm l)]
end Go.Fbs

import Derived.Test.YtnmcilaebamncaaCA
namespace Go.Fbs
open Go.Proofs
def blankB (c : UInt8) : Bool:=c == 32 || c == 9 || c == 13 || c == 10
def skipN : Bool → List UInt8 → Nat
 | _,[]=>0
 | true,c :: r=>if c = 10 then 1 + skipN false r else 1 + skipN true r
 | false,c :: r=>if c = 47 ∧ r.head? = some 47 then 1 + skipN true r else if blankB c then 1 + skipN false r else 0
def F_toke_skip : Spec
 | [.str l]=>if l.length ≤ big then some (vI (skipN false l)) else none
 | _=>none
theorem skipN_le : ∀ (b : Bool) (l : List UInt8),skipN b l ≤ l.length
 | b,[]=>by cases b <;> simp [skipN]
 | true,c :: r=>by
  have h1:=skipN_le false r
  have h2:=skipN_le true r
  simp only [skipN,List.length_cons]; split <;> omega
 | false,c :: r=>by
  have h1:=skipN_le false r
  have h2:=skipN_le true r
  simp only [skipN,List.length_cons]; split <;> (try split) <;> omega
theorem ixB_cons (b : UInt8) (l : List UInt8) (c : UInt8) : ixB (b :: l) c = if b == c then 0 else if ixB l c == -1 then -1 else ixB l c + 1:=rfl
theorem ixB_cases : ∀ (l : List UInt8) (c : UInt8),(ixB l c = -1 ∧ c ∉ l) ∨ ∃ k : Nat,ixB l c = k ∧ l[k]? = some c ∧ c ∉ l.take k
 | [],c=>.inl ⟨rfl,by simp⟩
 | b :: l,c=>by
  rw [ixB_cons]
  by_cases h : b = c
  ·subst h; exact .inr ⟨0,by simp,by simp,by simp⟩
  ·have hb : (b == c) = false:=by simpa using h
   rw [hb]
   rcases ixB_cases l c with ⟨h1,h2⟩ | ⟨k,h1,h2,h3⟩
   ·rw [h1]; exact .inl ⟨rfl,by simp [h2,Ne.symm h]⟩
   ·rw [h1]
    refine .inr ⟨k + 1,?_,by simpa using h2,by simp [h3,Ne.symm h]⟩
    have : ((k : Int) == -1) = false:=by simp <;> omega
    simp [this]
theorem skipN_note_all : ∀ (l : List UInt8),(10 : UInt8) ∉ l → skipN true l = l.length
 | [],_=>rfl
 | c :: r,h=>by
  simp only [List.mem_cons,not_or] at h
  simp only [skipN,List.length_cons]
  rw [if_neg (fun e=>h.1 e.symm),skipN_note_all r h.2,Nat.add_comm]
theorem skipN_note_to : ∀ (l : List UInt8) (k : Nat),l[k]? = some 10 → (10 : UInt8) ∉ l.take k → skipN true l = k + skipN false (l.drop k)
 | [],k,h,_=>by simp at h
 | c :: r,0,h,_=>by
  simp at h; subst h
  simp [skipN,blankB]
 | c :: r,k + 1,h,hn=>by
  simp only [List.take_succ_cons,List.mem_cons,not_or] at hn
  simp only [skipN,List.drop_succ_cons]
  rw [if_neg (fun e=>hn.1 e.symm),skipN_note_to r k (by simpa using h) hn.2,Nat.add_comm k 1,Nat.add_assoc]
theorem skipN_two (r : List UInt8) : skipN false (47 :: 47 :: r) = skipN true (47 :: 47 :: r):=by
 simp [skipN]
theorem sl_two {l : List UInt8} : List.isPrefixOf [47,47] l = true ↔ ∃ r,l = 47 :: 47 :: r:=by
 rw [List.isPrefixOf_iff_prefix]
 exact ⟨fun ⟨r,h⟩=>⟨r,by simpa using h.symm⟩,fun ⟨r,h⟩=>⟨r,by simpa using h.symm⟩⟩
theorem ixB_has (l : List UInt8) (c : UInt8) : decide (0 ≤ ixB l c) = decide (c ∈ l):=by
 rcases ixB_cases l c with ⟨h1,h2⟩ | ⟨k,h1,h2,_⟩
 ·rw [h1]; simp [h2]
 ·rw [h1]; simp [List.mem_of_getElem? h2]
theorem ixB_blank (c : UInt8) : decide (0 ≤ ixB [32,9,13,10] c) = blankB c:=by
 rw [ixB_has]
 simp only [blankB,List.mem_cons,List.not_mem_nil,or_false,Bool.decide_or,Bool.or_assoc]
 rfl
theorem ok_toke_skip : SpecL Try.prog n_toke_skip F_toke_skip:=by
 refine go_toke_skip (T:=[(n_strings_HasPrefix,F_strings_HasPrefix),(n_strings_Index,F_strings_Index),(n_strings_Contains,F_strings_Contains)]) (TabOk.cons ok_strings_HasPrefix (TabOk.cons ok_strings_Index (TabOk.cons ok_strings_Contains TabOk.nil))) fun args v hv=>?_
 have c_strings_HasPrefix : ∀ args,tab [(n_strings_HasPrefix,F_strings_HasPrefix),(n_strings_Index,F_strings_Index),(n_strings_Contains,F_strings_Contains)] n_strings_HasPrefix args = F_strings_HasPrefix args:=fun _=>rfl
 have c_strings_Index : ∀ args,tab [(n_strings_HasPrefix,F_strings_HasPrefix),(n_strings_Index,F_strings_Index),(n_strings_Contains,F_strings_Contains)] n_strings_Index args = F_strings_Index args:=fun _=>rfl
 have c_strings_Contains : ∀ args,tab [(n_strings_HasPrefix,F_strings_HasPrefix),(n_strings_Index,F_strings_Index),(n_strings_Contains,F_strings_Contains)] n_strings_Contains args = F_strings_Contains args:=fun _=>rfl
 unfold F_toke_skip at hv
 split at hv <;> (try simp only [Option.ite_none_right_eq_some,Option.some.injEq,reduceCtorEq] at hv)
 rename_i l
 obtain ⟨hl,rfl⟩:=hv
 have hl0:=hl
 unfold big at hl
 refine ⟨rfl,rfl,rfl,?_⟩
 rw [e_toke_skip]
 refine loopP_inv (fun vs=>∃ k : Nat,vs = [vI k] ∧ k ≤ l.length ∧ skipN false l = k + skipN false (l.drop k)) (fun vs=>l.length - natOf (gv vs 0)) ⟨0,rfl,Nat.zero_le _,by simp⟩ ?_
 rintro r _ ⟨k,rfl,hk,hs⟩ hr
 refine ⟨rfl,?_⟩
 simp only [sS,if_true,if_false,reduceCtorEq,sliceS_from hk,c_strings_HasPrefix,F_strings_HasPrefix]
 cases hc : List.isPrefixOf [47,47] (l.drop k)
 ·simp only [sS,if_true,if_false,reduceCtorEq]
  cases hd : l.drop k with
  | nil =>
   rw [hd] at hs
   simp [sS,if_true,if_false,reduceCtorEq,hs,skipN]
  | cons c t =>
   have e2 : sliceS (.str (c :: t)) none (some (.int .i64 1)) = some (.str [c]):=by
    have:=sliceS_to (l:=c :: t) (k:=1) (by simp) .i64
    simpa using this
   have hn : ¬ (c = 47 ∧ t.head? = some 47):=by
    rintro ⟨rfl,h⟩
    cases t with
    | nil=>simp at h
    | cons d t=>simp at h; subst h; rw [hd] at hc; simp at hc
   have hkl : k < l.length:=by
    have:=congrArg List.length hd; simp only [List.length_drop,List.length_cons] at this; omega
   have e1 : ((c :: t : List UInt8) == []) = false:=rfl
   rw [hd] at hs
   simp only [sS,if_true,if_false,reduceCtorEq,e1,Bool.not_false,e2,c_strings_Contains,F_strings_Contains,ixB_blank]
   cases hb : blankB c
   ·simp only [skipN,if_neg hn,hb,Bool.false_eq_true,if_false] at hs
    simp [sS,if_true,if_false,reduceCtorEq,hs]
   ·simp only [skipN,if_neg hn,hb,if_true] at hs
    simp only [sS,if_true,if_false,reduceCtorEq]
    rw [wrap_in (by omega) (by omega)]
    refine hr _ ⟨k + 1,by simp,hkl,?_⟩ (by simp [gv,natOf]; omega)
    have : l.drop (k + 1) = t:=by rw [← List.drop_drop,hd]; rfl
    rw [this,hs]; omega
 ·obtain ⟨t,hd⟩:=sl_two.1 hc
  have hkl : k + 2 ≤ l.length:=by
   have:=congrArg List.length hd; simp only [List.length_drop,List.length_cons] at this; omega
  simp only [sS,if_true,if_false,reduceCtorEq,c_strings_Index,F_strings_Index]
  rw [hd,skipN_two,← hd] at hs
  rcases ixB_cases (l.drop k) 10 with ⟨e1,e2⟩ | ⟨j,e1,e2,e3⟩
  ·rw [skipN_note_all _ e2] at hs
   simp only [List.length_drop] at hs
   simp [sS,if_true,if_false,reduceCtorEq,e1,hs] <;> omega
  ·rw [skipN_note_to _ j e2 e3] at hs
   have hj : k + j < l.length:=by
    have:=(List.getElem?_eq_some_iff.1 e2).1; simp only [List.length_drop] at this; omega
   have hj0 : j ≠ 0:=by rintro rfl; rw [hd] at e2; simp at e2
   have e4 : ¬ ((j : Int) < 0):=by omega
   simp only [sS,if_true,if_false,reduceCtorEq,e1,e4,decide_false]
   rw [wrap_in (by omega) (by omega)]
   refine hr _ ⟨k + j,by simp,by omega,?_⟩ (by simp [gv,natOf]; omega)
   rw [hs,List.drop_drop]; omega
def signsL : List UInt8:=[123,125,58,59,124,35,61,43,45,38,40,41]
def nextT (l : List UInt8) : Int × List UInt8 × Bool :=
 if 0 < rowN l then (1,l.take (rowN l),true)
 else if [45,62].isPrefixOf l then (2,[45,62],true)
 else (2,l.take 1,decide (l.getD 0 0 ∈ signsL))
def tokV (k : Int) (at_ : Int) (x : List UInt8) : V:=.agg [vI k,vI at_,.str x]
def F_toke_next : Spec
 | [.str l]=>if l ≠ [] ∧ l.length ≤ big then some (.tup [tokV (nextT l).1 0 (nextT l).2.1,.bool (nextT l).2.2]) else none
 | _=>none
theorem ok_toke_next : SpecL Try.prog n_toke_next F_toke_next:=by
 refine go_toke_next (T:=[(n_toke_row,F_toke_row),(n_strings_HasPrefix,F_strings_HasPrefix),(n_strings_Contains,F_strings_Contains)]) (TabOk.cons ok_toke_row (TabOk.cons ok_strings_HasPrefix (TabOk.cons ok_strings_Contains TabOk.nil))) fun args v hv=>?_
 have c_toke_row : ∀ args,tab [(n_toke_row,F_toke_row),(n_strings_HasPrefix,F_strings_HasPrefix),(n_strings_Contains,F_strings_Contains)] n_toke_row args = F_toke_row args:=fun _=>rfl
 have c_strings_HasPrefix : ∀ args,tab [(n_toke_row,F_toke_row),(n_strings_HasPrefix,F_strings_HasPrefix),(n_strings_Contains,F_strings_Contains)] n_strings_HasPrefix args = F_strings_HasPrefix args:=fun _=>rfl
 have c_strings_Contains : ∀ args,tab [(n_toke_row,F_toke_row),(n_strings_HasPrefix,F_strings_HasPrefix),(n_strings_Contains,F_strings_Contains)] n_strings_Contains args = F_strings_Contains args:=fun _=>rfl
 unfold F_toke_next at hv
 split at hv <;> (try simp only [Option.ite_none_right_eq_some,Option.some.injEq,reduceCtorEq] at hv)
 rename_i l
 obtain ⟨⟨hne,hl⟩,rfl⟩:=hv
 have hrow : rowN l ≤ l.length:=(List.takeWhile_sublist _).length_le
 refine ⟨rfl,rfl,rfl,?_⟩
 rw [e_toke_next]
 simp only [sS,if_true,if_false,reduceCtorEq,c_toke_row,F_toke_row,hl]
 by_cases h : 0 < rowN l
 ·have h' : (0 : Int) < (rowN l : Int):=by omega
  simp [sS,if_true,if_false,reduceCtorEq,h',sliceS_to hrow,aggK,sc,nextT,h,tokV]
 ·have h' : ¬ (0 : Int) < (rowN l : Int):=by omega
  have e1 : sliceS (.str l) none (some (.int .i64 1)) = some (.str (l.take 1)):=by
   have h1 : 1 ≤ l.length:=by cases l with
    | nil=>exact absurd rfl hne
    | cons=>simp
   have:=sliceS_to h1 .i64
   simpa using this
  simp only [sS,if_true,if_false,reduceCtorEq,h',decide_false,c_strings_HasPrefix,F_strings_HasPrefix]
  cases hc : List.isPrefixOf [45,62] l
  ·obtain ⟨c,t,rfl⟩ : ∃ c t,l = c :: t:=by cases l with
    | nil=>exact absurd rfl hne
    | cons c t=>exact ⟨c,t,rfl⟩
   simp [sS,if_true,if_false,reduceCtorEq,e1,aggK,sc,c_strings_Contains,F_strings_Contains,nextT,h,hc,tokV,ixB_has,signsL]
  ·simp [sS,if_true,if_false,reduceCtorEq,aggK,sc,nextT,h,hc,tokV]
end Go.Fbs

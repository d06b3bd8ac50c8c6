import Derived.Test.YtnmcilaebamncaaHT
import Derived.Test.YtnmcilaebamncaaCS
namespace Go.Fbs
open Go.Proofs
def letterB (c : Int) : Bool:=(decide (97 ≤ c) && decide (c ≤ 122)) || (decide (48 ≤ c) && decide (c ≤ 57)) || decide (c = 95)
def F_toke_letter : Spec
 | [.int .u8 c]=>some (.bool (letterB c))
 | _=>none
theorem ok_toke_letter : SpecL Try.prog n_toke_letter F_toke_letter:=by
 refine go_toke_letter (T:=[]) (TabOk.nil) fun args v hv=>?_
 unfold F_toke_letter at hv
 split at hv <;> (try simp only [Option.ite_none_right_eq_some,Option.some.injEq,reduceCtorEq] at hv)
 rename_i c
 subst hv
 refine ⟨rfl,rfl,rfl,?_⟩
 rw [e_toke_letter]
 by_cases h1 : 97 ≤ c <;> by_cases h2 : c ≤ 122 <;> by_cases h3 : 48 ≤ c <;> by_cases h4 : c ≤ 57 <;> by_cases h5 : c = 95 <;> simp [sS,if_true,if_false,reduceCtorEq,letterB,h1,h2,h3,h4,h5]
def rowN (l : List UInt8) : Nat:=(l.takeWhile fun c=>letterB c.toNat).length
theorem takeWhile_len {α : Type} (f : α → Bool) : ∀ (l : List α) (k : Nat),k ≤ (l.takeWhile f).length → (∀ c,l[k]? = some c → f c = true) → k < l.length → k + 1 ≤ (l.takeWhile f).length
 | [],k,_,_,h=>by simp at h
 | a :: l,0,h,hf,_=>by have:=hf a rfl; simp [List.takeWhile_cons,this]
 | a :: l,k + 1,h,hf,hl=>by
  simp only [List.takeWhile_cons] at h ⊢
  split
  ·rename_i ha
   rw [if_pos ha] at h
   simp only [List.length_cons] at h ⊢
   exact Nat.succ_le_succ (takeWhile_len f l k (by omega) (fun c hc=>hf c (by simpa using hc)) (by simpa using hl))
  ·rename_i ha; rw [if_neg ha] at h; simp at h
theorem takeWhile_stop {α : Type} (f : α → Bool) : ∀ (l : List α) (k : Nat) (c : α),k ≤ (l.takeWhile f).length → l[k]? = some c → f c = false → (l.takeWhile f).length = k
 | [],k,c,_,h,_=>by simp at h
 | a :: l,0,c,_,h,hf=>by simp at h; subst h; simp [List.takeWhile_cons,hf]
 | a :: l,k + 1,c,h,hc,hf=>by
  simp only [List.takeWhile_cons] at h ⊢
  split
  ·rename_i ha
   rw [if_pos ha] at h
   simp only [List.length_cons] at h ⊢
   rw [takeWhile_stop f l k c (by omega) (by simpa using hc) hf]
  ·rename_i ha; rw [if_neg ha] at h; simp at h
def F_toke_row : Spec
 | [.str l]=>if l.length ≤ big then some (vI (rowN l)) else none
 | _=>none
theorem ok_toke_row : SpecL Try.prog n_toke_row F_toke_row:=by
 refine go_toke_row (T:=[(n_toke_letter,F_toke_letter)]) (TabOk.cons ok_toke_letter TabOk.nil) fun args v hv=>?_
 have c_toke_letter : ∀ args,tab [(n_toke_letter,F_toke_letter)] n_toke_letter args = F_toke_letter args:=fun _=>rfl
 unfold F_toke_row at hv
 split at hv <;> (try simp only [Option.ite_none_right_eq_some,Option.some.injEq,reduceCtorEq] at hv)
 rename_i l
 obtain ⟨hl,rfl⟩:=hv
 unfold big at hl
 refine ⟨rfl,rfl,rfl,?_⟩
 rw [e_toke_row]
 simp only [sS,if_true,if_false,reduceCtorEq]
 have hN : rowN l ≤ l.length:=(List.takeWhile_sublist _).length_le
 refine loopP_inv (fun vs=>∃ k : Nat,vs = [vI k] ∧ k ≤ rowN l) (fun vs=>l.length - natOf (gv vs 0)) ⟨0,rfl,Nat.zero_le _⟩ ?_
 rintro r _ ⟨k,rfl,hk⟩ hr
 refine ⟨rfl,?_⟩
 simp only [sS,if_true,if_false,reduceCtorEq]
 by_cases hlt : k < l.length
 ·obtain ⟨c,hc⟩ : ∃ c,l[k]? = some c:=⟨l[k],List.getElem?_eq_getElem hlt⟩
  have hlt' : (k : Int) < (l.length : Int):=by omega
  simp only [hlt',decide_true,sS,if_true,if_false,reduceCtorEq,idxS_at hc,c_toke_letter,F_toke_letter]
  cases hb : letterB c.toNat
  ·have hst : rowN l = k:=takeWhile_stop _ l k c hk hc hb
   simp [sS,if_true,if_false,reduceCtorEq,hst]
  ·have hst : k + 1 ≤ rowN l:=takeWhile_len _ l k hk (fun c' hc'=>by rw [hc] at hc'; simp at hc'; subst hc'; exact hb) hlt
   simp only [sS,if_true,if_false,reduceCtorEq,if_true]
   rw [wrap_in (by omega) (by omega)]
   exact hr _ ⟨k + 1,by simp,hst⟩ (by simp [gv,natOf]; omega)
 ·have hlt' : ¬ (k : Int) < (l.length : Int):=by omega
  have hst : rowN l = k:=by omega
  simp [sS,if_true,if_false,reduceCtorEq,hlt',hst]
end Go.Fbs

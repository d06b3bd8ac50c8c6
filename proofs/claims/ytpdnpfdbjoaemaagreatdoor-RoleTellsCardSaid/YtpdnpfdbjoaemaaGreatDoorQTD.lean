import Derived.Test.YtpdnpfdbjoaemaaGreatDoorQTC
set_option linter.unusedSimpArgs false
set_option linter.unusedVariables false
set_option linter.unusedSectionVars false
set_option maxRecDepth 100000
namespace Go.Fbs
open Go.Proofs
attribute [local irreducible] FunWpE FunWp opt
theorem drop_consD {s : List UInt8} {i : Nat} {c : UInt8} (h : s[i]? = some c) : s.drop i = c :: s.drop (i + 1):=by
 obtain ⟨h9,e9⟩:=List.getElem?_eq_some_iff.1 h
 rw [List.drop_eq_getElem_cons h9,e9]
theorem pOrD (p q : Bool) : pickV (.bool p) (.bool true) (.bool q) = some (.bool (p || q)):=by cases p <;> rfl
theorem pAndD (p q : Bool) : pickV (.bool p) (.bool q) (.bool false) = some (.bool (p && q)):=by cases p <;> rfl
theorem take_one {s : List UInt8} {i : Nat} {c : UInt8} (h : s[i]? = some c) : s.take (i + 1) = s.take i ++ [c]:=by
 rw [List.take_add_one,h]; rfl
theorem eq_byte (c : UInt8) (k : Nat) (hk : k < 256) : binK .eql (.int .u8 c.toNat) (.int .u8 (k : Int)) = some (.bool (decide (c = UInt8.ofNat k))):=by
 rw [bEql]
 congr 2
 have:=byte_int c k hk
 by_cases h : c = UInt8.ofNat k
 ·rw [decide_eq_true h,decide_eq_true (this.2 h)]
 ·rw [decide_eq_false h,decide_eq_false (fun e=>h (this.1 e))]
theorem gOk {s : List UInt8} {i : Nat} {c : UInt8} {r : List UInt8} (hs : s.length ≤ 1000000) (hd : s.drop i = c :: r) (K : V → Prop) (hK : K (.bool (okC c r))) :
  (opt (binK .eql (.int .u8 c.toNat) (.int .u8 13)) fun y13=>opt (binK .add (vI (i : Nat)) (.int .i64 1)) fun y14=>opt (some (vI (s.length : Nat))) fun y15=>opt (binK .eql y14 y15) fun y16=>opt (guardV y13 true (some y16)) fun y17=>opt (chkBK y17) fun y18=>opt (binK .add (vI (i : Nat)) (.int .i64 1)) fun y19 =>
   opt (guardV y17 false (indexS (.str s) y19)) fun y20=>opt (guardV y17 false (binK .eql y20 (.int .u8 10))) fun y21=>opt (guardV y13 true (pickV y17 (.bool true) y21)) fun y22=>opt (pickV y13 y22 (.bool false)) fun y23=>opt (binK .eql (.int .u8 c.toNat) (.int .u8 9)) fun y24=>opt (pickV y23 (.bool true) y24) fun y25 =>
   opt (binK .eql (.int .u8 c.toNat) (.int .u8 10)) fun y26=>opt (pickV y25 (.bool true) y26) fun y27=>opt (binK .geq (.int .u8 c.toNat) (.int .u8 32)) fun y28=>opt (guardV y27 false (some y28)) fun y29=>opt (chkBK y29) fun y30=>opt (binK .leq (.int .u8 c.toNat) (.int .u8 126)) fun y31 =>
   opt (guardV y27 false (pickV y29 y31 (.bool false))) fun y32=>opt (pickV y27 (.bool true) y32) fun y33=>K y33):=by
 have hlen : r.length + 1 + i = s.length:=by
  have:=congrArg List.length hd
  simp only [List.length_drop,List.length_cons] at this
  have h2 : i < s.length:=by
   rcases Nat.lt_or_ge i s.length with h | h
   ·exact h
   ·rw [List.drop_eq_nil_of_le h] at hd; simp at hd
  omega
 have first : ∀ K1 : V → Prop,K1 (.bool (decide ((c.toNat : Int) = 13) && (r.isEmpty || r.head? == some 10))) → (opt (guardV (.bool (decide ((c.toNat : Int) = 13))) true (some (V.bool (decide (i + 1 = s.length))))) fun y17=>opt (chkBK y17) fun y18=>opt (some (vI ((i + 1 : Nat) : Int))) fun y19 =>
   opt (guardV y17 false (indexS (.str s) y19)) fun y20=>opt (guardV y17 false (binK .eql y20 (.int .u8 10))) fun y21=>opt (guardV (.bool (decide ((c.toNat : Int) = 13))) true (pickV y17 (.bool true) y21)) fun y22=>opt (pickV (.bool (decide ((c.toNat : Int) = 13))) y22 (.bool false)) fun y23=>K1 y23):=fun K1 h1=>by
  by_cases h13 : (c.toNat : Int) = 13
  ·rw [decide_eq_true h13] at h1 ⊢
   rw [gTT,opt_s,chkB_bool,opt_s,opt_s]
   cases r with
   | nil =>
    have he : i + 1 = s.length:=by simp at hlen; omega
    rw [decide_eq_true he,gTF,opt_s,gTF,opt_s,gTT,pBool,if_pos rfl,opt_s,pBool,if_pos rfl,opt_s]
    exact h1
   | cons d q =>
    have he : ¬ i + 1 = s.length:=by simp at hlen; omega
    have hx : s[i + 1]? = some d:=by
     have : (s.drop i)[1]? = some d:=by rw [hd]; rfl
     rw [List.getElem?_drop] at this; exact this
    rw [decide_eq_false he,gFF,show indexS (.str s) (vI ((i + 1 : Nat) : Int)) = some (.int .u8 d.toNat) from idxS_at hx .i64,opt_s,gFF,show binK .eql (.int .u8 d.toNat) (.int .u8 10) = _ from eq_byte d 10 (by omega),opt_s,gTT,pBool,if_neg (by simp),opt_s,pBool,if_pos rfl,opt_s]
    have : (true && ((d :: q).isEmpty || (d :: q).head? == some 10)) = decide (d = UInt8.ofNat 10):=by
     simp only [List.isEmpty_cons,List.head?_cons,Bool.true_and,Bool.false_or]
     rw [Bool.eq_iff_iff]
     simp
    rw [this] at h1
    exact h1
  ·rw [decide_eq_false h13] at h1 ⊢
   rw [gFT,opt_s,chkB_undef,opt_s,opt_s,gU,opt_s,gU,opt_s,gFT,opt_s,pBool,if_neg (by simp),opt_s]
   exact h1
 rw [bEql,opt_s,add1' (by omega),opt_s,opt_s,bEqN,opt_s]
 refine first _ ?_
 rw [bEql,opt_s,pOrD,opt_s,bEql,opt_s,pOrD,opt_s,bGeq,opt_s]
 unfold okC at hK
 generalize (decide ((c.toNat : Int) = 13) && (r.isEmpty || r.head? == some 10) || decide ((c.toNat : Int) = 9) || decide ((c.toNat : Int) = 10)) = B at hK ⊢
 cases B with
 | true =>
  rw [gTF,opt_s,chkB_undef,opt_s,bLeq,opt_s,gTF,opt_s,pBool,if_pos rfl,opt_s]
  exact hK
 | false =>
  rw [gFF,opt_s,chkB_bool,opt_s,bLeq,opt_s,gFF,pAndD,opt_s,pBool,if_neg (by simp),opt_s]
  exact hK
def F_entailref1_Lines : Spec
 | [.str s]=>if s.length ≤ bigT then some (lineT s) else none
 | _=>none
structure LnAt (s : List UInt8) (from_ i : Nat) (p : List UInt8) : Prop where
 le : from_ ≤ i
 top : i ≤ s.length
 cut : s.drop from_ = p ++ s.drop i
 len : p.length = i - from_
 no : ∀ c ∈ p,c ≠ 10
theorem lnAt_next {s : List UInt8} {f i : Nat} {p : List UInt8} {c : UInt8} (h : LnAt s f i p) (hc : s[i]? = some c) (h10 : c ≠ 10) : LnAt s f (i + 1) (p ++ [c]):=by
 have hlt:=(List.getElem?_eq_some_iff.1 hc).1
 have hd : s.drop i = c :: s.drop (i + 1):=drop_consD hc
 refine ⟨by have:=h.le; omega,hlt,by rw [h.cut,hd,List.append_assoc]; rfl,by rw [List.length_append,h.len,List.length_singleton]; have:=h.le; omega,fun d hdm=>?_⟩
 rcases List.mem_append.1 hdm with h1 | h1
 ·exact h.no d h1
 ·simp only [List.mem_singleton] at h1; subst h1; exact h10
theorem lnAt_start (s : List UInt8) {i : Nat} (hi : i ≤ s.length) : LnAt s i i []:=⟨Nat.le_refl _,hi,rfl,by simp,fun c hc=>by simp at hc⟩
theorem ln_last {s : List UInt8} {f i : Nat} {p : List UInt8} (h : LnAt s f i p) (hlt : f < i) : ∃ c,s[i - 1]? = some c ∧ p.getLast? = some c:=by
 have hl:=h.len
 have hp : p ≠ []:=fun e=>by rw [e] at hl; simp at hl; omega
 obtain ⟨c,hc⟩ : ∃ c,p.getLast? = some c:=⟨_,List.getLast?_eq_some_getLast hp⟩
 refine ⟨c,?_,hc⟩
 have h1 : (s.drop f)[i - 1 - f]? = some c:=by
  rw [h.cut,List.getElem?_append_left (by omega)]
  rw [List.getLast?_eq_getElem?] at hc
  rw [← hc]; congr 1; omega
 rw [List.getElem?_drop,show f + (i - 1 - f) = i - 1 by omega] at h1
 exact h1
theorem ln_bare {s : List UInt8} {f i : Nat} {p : List UInt8} (h : LnAt s f i p) : ∃ e : Nat,f ≤ e ∧ e ≤ i ∧ (s.drop f).take (e - f) = bareM p ∧ ((f < i ∧ s[i - 1]? = some 13) → e = i - 1) ∧ (¬ (f < i ∧ s[i - 1]? = some 13) → e = i):=by
 have hl:=h.len
 have hle:=h.le
 by_cases hc : f < i ∧ s[i - 1]? = some 13
 ·obtain ⟨c,h1,h2⟩:=ln_last h hc.1
  rw [hc.2] at h1
  simp only [Option.some.injEq] at h1
  subst h1
  refine ⟨i - 1,by omega,by omega,?_,fun _=>rfl,fun g=>absurd hc g⟩
  unfold bareM
  rw [if_pos h2,h.cut,List.take_append_of_le_length (by omega),List.dropLast_eq_take]
  congr 1; omega
 ·refine ⟨i,hle,Nat.le_refl _,?_,fun g=>absurd g hc,fun _=>rfl⟩
  have hn : ¬ p.getLast? = some 13:=fun e=>by
   have hlt : f < i:=by
    rcases Nat.lt_or_ge f i with h' | h'
    ·exact h'
    ·have : p = []:=List.length_eq_zero_iff.1 (by omega)
     rw [this] at e; simp at e
   obtain ⟨c,h1,h2⟩:=ln_last h hlt
   rw [e] at h2
   simp only [Option.some.injEq] at h2
   subst h2
   exact hc ⟨hlt,h1⟩
  unfold bareM
  rw [if_neg hn,h.cut,← hl,List.take_left]
end Go.Fbs

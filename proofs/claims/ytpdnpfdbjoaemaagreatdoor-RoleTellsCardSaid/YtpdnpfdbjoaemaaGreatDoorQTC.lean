import Derived.Test.YtpdnpfdbjoaemaaGreatDoorQTB
set_option linter.unusedSimpArgs false
set_option linter.unusedVariables false
set_option linter.unusedSectionVars false
set_option maxRecDepth 100000
namespace Go.Fbs
open Go.Proofs
attribute [local irreducible] FunWpE FunWp opt
def okC (c : UInt8) (r : List UInt8) : Bool:=(decide ((c.toNat : Int) = 13) && (r.isEmpty || r.head? == some 10)) || decide ((c.toNat : Int) = 9) || decide ((c.toNat : Int) = 10) || (decide ((32 : Int) ≤ c.toNat) && decide ((c.toNat : Int) ≤ 126))
def fb : List UInt8 → Nat → Option Nat
 | [],_=>none
 | c :: r,i=>if okC c r = true then fb r (i + 1) else some i
theorem byte_int (c : UInt8) (k : Nat) (hk : k < 256) : ((c.toNat : Int) = (k : Int)) ↔ c = UInt8.ofNat k:=by
 constructor
 ·intro h
  have h : c.toNat = k:=by omega
  rw [← h]; simp
 ·intro h; rw [h]; simp; omega
theorem okC_in (c : UInt8) (r : List UInt8) (h10 : c ≠ 10) (h : c.toNat = 13 → ¬ (r.isEmpty || r.head? == some 10) = true) : okC c r = !badC c:=by
 have e9:=byte_int c 9 (by omega)
 have e10:=byte_int c 10 (by omega)
 have n10 : ¬ (c.toNat : Int) = 10:=fun e=>h10 (e10.1 e)
 unfold okC badC
 by_cases h13 : c.toNat = 13
 ·have:=h h13
  rw [Bool.not_eq_true] at this
  rw [this,h13]
  have n9 : c ≠ 9:=fun e=>by rw [e] at h13; simp at h13
  simp [n9]
 ·have n13 : ¬ (c.toNat : Int) = 13:=by omega
  by_cases h9 : c = 9
  ·subst h9; rfl
  ·have n9 : ¬ (c.toNat : Int) = 9:=fun e=>h9 (e9.1 e)
   rw [decide_eq_false n13,decide_eq_false n9,decide_eq_false n10]
   have : (c != 9) = true:=by simpa using h9
   rw [this]
   simp only [Bool.false_and,Bool.false_or,Bool.true_and]
   by_cases a : c.toNat < 32
   ·rw [decide_eq_true a,decide_eq_false (by omega)]; rfl
   ·by_cases b : 126 < c.toNat
    ·rw [decide_eq_true b,decide_eq_false a,decide_eq_true (show (32 : Int) ≤ c.toNat by omega),decide_eq_false (show ¬ (c.toNat : Int) ≤ 126 by omega)]; rfl
    ·rw [decide_eq_false b,decide_eq_false a,decide_eq_true (show (32 : Int) ≤ c.toNat by omega),decide_eq_true (show (c.toNat : Int) ≤ 126 by omega)]; rfl
theorem fb_line : ∀ (p t : List UInt8) (k : Nat),(∀ c ∈ p,c ≠ 10) → (t = [] ∨ ∃ r,t = 10 :: r) → fb (p ++ t) k = match wrongM (bareM p) with | some j=>some (k + j) | none=>fb t (k + p.length)
 | [],t,k,_,_=>rfl
 | [c],t,k,hp,ht=>by
  have h10 : c ≠ 10:=hp c List.mem_cons_self
  rw [List.singleton_append]
  by_cases h13 : c = 13
  ·subst h13
   have : okC 13 t = true:=by
    rcases ht with rfl | ⟨r,rfl⟩ <;> rfl
   conv=>lhs; unfold fb
   rw [if_pos this]; rfl
  ·have e13:=byte_int c 13 (by omega)
   have hk:=okC_in c t h10 fun e=>absurd (e13.1 (by omega)) h13
   conv=>lhs; unfold fb
   rw [hk]
   have hb : bareM [c] = [c]:=by
    unfold bareM
    rw [if_neg (by simpa using h13)]
   rw [hb]
   unfold wrongM
   rw [List.findIdx?_cons]
   cases badC c <;> simp
 | c :: d :: q,t,k,hp,ht=>by
  have h10 : c ≠ 10:=hp c List.mem_cons_self
  have hd : d ≠ 10:=hp d (List.mem_cons_of_mem _ List.mem_cons_self)
  have ih:=fb_line (d :: q) t (k + 1) (fun x hx=>hp x (List.mem_cons_of_mem _ hx)) ht
  have hk:=okC_in c (d :: q ++ t) h10 fun _=>by simp [hd]
  have hb : bareM (c :: d :: q) = c :: bareM (d :: q):=by
   unfold bareM
   rw [List.getLast?_cons_cons]
   split <;> simp
  rw [List.cons_append]
  conv=>lhs; unfold fb
  rw [hk,hb,ih]
  unfold wrongM
  rw [List.findIdx?_cons]
  cases hbc : badC c with
  | true=>simp
  | false =>
   simp only [Bool.not_false,if_true,Bool.false_eq_true,if_false]
   cases (bareM (d :: q)).findIdx? badC with
   | none=>simp only [Option.map_none]; rw [show k + 1 + (d :: q).length = k + (c :: d :: q).length by simp; omega]
   | some j=>simp only [Option.map_some]; congr 1; omega
theorem pieces_no : ∀ {p : List UInt8},(∀ c ∈ p,c ≠ 10) → pieces p = [p]
 | [],_=>rfl
 | c :: r,h=>by
  unfold pieces
  rw [if_neg (h c List.mem_cons_self),pieces_no fun d hd=>h d (List.mem_cons_of_mem _ hd)]
theorem at_ten : ∀ l : List UInt8,(∀ c ∈ l,c ≠ 10) ∨ ∃ p r,l = p ++ 10 :: r ∧ ∀ c ∈ p,c ≠ 10
 | []=>.inl fun c h=>by simp at h
 | c :: l=>by
  by_cases h : c = 10
  ·exact .inr ⟨[],l,by rw [h]; rfl,fun d hd=>by simp at hd⟩
  ·rcases at_ten l with h1 | ⟨p,r,rfl,h1⟩
   ·exact .inl fun d hd=>by
     rcases List.mem_cons.1 hd with rfl | hd
     ·exact h
     ·exact h1 d hd
   ·refine .inr ⟨c :: p,r,rfl,fun d hd=>?_⟩
    rcases List.mem_cons.1 hd with rfl | hd
    ·exact h
    ·exact h1 d hd
def linesG : List (List UInt8) → Nat → List Lin → List Lin
 | [],_,out=>out
 | p :: ps,k,out=>linesG ps (k + p.length + 1) (out ++ lineM (bareM p) k)
theorem linesF_fb : ∀ (n : Nat) (l : List UInt8) (k : Nat) (out : List Lin),l.length ≤ n → linesF (pieces l) k out = match fb l k with | some i=>([],i,7) | none=>(linesG (pieces l) k out,0,0):=by
 intro n
 induction n with
 | zero =>
  intro l k out h
  obtain rfl : l = []:=List.length_eq_zero_iff.1 (by omega)
  rfl
 | succ n ih =>
  intro l k out h
  rcases at_ten l with h1 | ⟨p,r,rfl,h1⟩
  ·rw [pieces_no h1]
   have hf:=fb_line l [] k h1 (.inl rfl)
   rw [List.append_nil] at hf
   rw [hf]
   unfold linesF
   cases wrongM (bareM l) with
   | some j=>rfl
   | none=>rfl
  ·rw [pieces_line h1,fb_line p (10 :: r) k h1 (.inr ⟨r,rfl⟩)]
   conv=>lhs; unfold linesF
   cases hw : wrongM (bareM p) with
   | some j=>rfl
   | none =>
    simp only
    have e : fb (10 :: r) (k + p.length) = fb r (k + p.length + 1):=by
     conv=>lhs; unfold fb
     rw [if_pos (show okC 10 r = true from rfl)]
    rw [e,ih r _ _ (by simp at h; omega)]
    rfl
theorem linesM_fb (s : List UInt8) (h1 : s.length ≤ 200000) (h2 : s.count 10 ≤ 5000) : linesM s = match fb s 0 with | some i=>([],i,7) | none=>(linesG (pieces s) 0 [],0,0):=by
 unfold linesM
 rw [if_neg (by omega)]
 exact linesF_fb _ s 0 [] (Nat.le_refl _)
theorem litLin (x : Lin) : litK 2 [linW x] = some (.sl .ro [linW x]):=lit_s (n:=2) (by simp) rfl
theorem agLin (k : Nat) (ws : List Wrd) : aggK [vI (k : Nat),wrdsV ws] = some (linW (k,ws)):=agg_s rfl
theorem appLin {l : List Lin} (h : l.length ≤ 300000) (x : Lin) : appK 2 32 (linsV l) (.sl .ro [linW x]) = some (linsV (l ++ [x])):=by
 have:=app_s (n:=2) (b:=32) (g:=.ro) (g':=.ro) (es:=l.map linW) (ys:=[linW x]) (by simp; omega) (all_map_len fun a=>rfl) rfl
 unfold linsV
 rw [List.map_append]
 exact this
end Go.Fbs

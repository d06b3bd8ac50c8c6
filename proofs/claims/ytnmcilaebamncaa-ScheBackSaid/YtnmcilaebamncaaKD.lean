/- Schemas read: factors, terms, sums: plainly. -/
import Derived.Test.YtnmcilaebamncaaKC
set_option maxRecDepth 100000
namespace Go.Fbs
open Go.Proofs
abbrev Rd:=PSt → Bool × PSt
def factorOf (sum : Rd) (s : PSt) : Bool × PSt :=
 if isM [40] s then
  if s.d = 20 then (false,failM 10 s)
  else
   let r:=sum (popM { s with d:=s.d + 1 })
   if r.1 then
    let q:=signM [41] r.2
    (q.1,{ q.2 with d:=q.2.d - 1 })
   else (false,{ r.2 with d:=r.2.d - 1 })
 else
  let r:=nameM s
  if r.1 then
   let m:=mayM [45,62] r.2.1
   if m.1 then
    let q:=nameM m.2
    if q.1 then putM (2,r.2.2.getD [],q.2.2.getD []) (hereM s).2.1 q.2.1 else (false,q.2.1)
   else putM (1,r.2.2.getD [],[]) (hereM s).2.1 m.2
  else (false,r.2.1)
def termLoop (fac : Rd) : Nat → Nat → PSt → Bool × PSt
 | 0,_,s=>(false,s)
 | k + 1,a,s =>
  let m:=mayM [38] s
  if m.1 then
   let r:=fac m.2
   if r.1 then
    let q:=putM (5,[],[]) a r.2
    if q.1 then termLoop fac k (hereM q.2).2.1 q.2 else (false,q.2)
   else (false,r.2)
  else (true,m.2)
def termOf (fac : Rd) (s : PSt) : Bool × PSt :=
 let r:=fac s
 if r.1 then termLoop fac (r.2.l.length + 1) (hereM r.2).2.1 r.2 else (false,r.2)
def sumLoop (ter : Rd) : Nat → PSt → Bool × PSt
 | 0,s=>(false,s)
 | k + 1,s =>
  if isM [43] s || isM [45] s then
   let r:=ter (popM s)
   if r.1 then
    let q:=putM (if isM [43] s then 3 else 4,[],[]) (hereM s).2.1 r.2
    if q.1 then sumLoop ter k q.2 else (false,q.2)
   else (false,r.2)
  else (true,s)
def sumOf (ter : Rd) (s : PSt) : Bool × PSt :=
 let r:=ter s
 if r.1 then sumLoop ter (r.2.l.length + 1) r.2 else (false,r.2)
def factorM : Nat → Rd
 | 0=>fun s=>(false,s)
 | f + 1=>factorOf (sumOf (termOf (factorM f)))
structure Good (f : Rd) : Prop where
 d : ∀ s,(f s).2.d = s.d
 l : ∀ s,(f s).2.l.length ≤ s.l.length
theorem fail_d (e : Int) (s : PSt) : (failM e s).d = s.d ∧ (failM e s).l = s.l:=by unfold failM; split <;> exact ⟨rfl,rfl⟩
theorem pop_d (s : PSt) : (popM s).d = s.d ∧ (popM s).l.length ≤ s.l.length:=⟨rfl,by show s.l.tail.length ≤ _; simp⟩
theorem pop_lt {s : PSt} (h : s.l ≠ []) : (popM s).l.length < s.l.length:=by
 show s.l.tail.length < _
 cases hl : s.l with
 | nil=>exact absurd hl h
 | cons a r=>simp
theorem name_d (s : PSt) : (nameM s).2.1.d = s.d ∧ (nameM s).2.1.l.length ≤ s.l.length:=by
 unfold nameM
 split
 ·exact pop_d s
 ·have:=fail_d 9 s; exact ⟨this.1,by rw [this.2]; exact Nat.le_refl _⟩
theorem sign_d (g : List UInt8) (s : PSt) : (signM g s).2.d = s.d ∧ (signM g s).2.l.length ≤ s.l.length:=by
 unfold signM
 split
 ·exact pop_d s
 ·have:=fail_d 9 s; exact ⟨this.1,by rw [this.2]; exact Nat.le_refl _⟩
theorem may_d (g : List UInt8) (s : PSt) : (mayM g s).2.d = s.d ∧ (mayM g s).2.l.length ≤ s.l.length:=by
 unfold mayM
 split
 ·exact pop_d s
 ·exact ⟨rfl,Nat.le_refl _⟩
theorem may_lt {g : List UInt8} {s : PSt} (h : (mayM g s).1 = true) : (mayM g s).2.l.length < s.l.length:=by
 unfold mayM at h ⊢
 split
 ·rename_i hi; exact pop_lt (is_ne hi)
 ·rename_i hi; rw [if_neg hi] at h; simp at h
theorem put_d (p : Stp) (a : Nat) (s : PSt) : (putM p a s).2.d = s.d ∧ (putM p a s).2.l = s.l:=by unfold putM; split <;> exact ⟨rfl,rfl⟩
theorem good_factor {sum : Rd} (h : Good sum) : Good (factorOf sum):=by
 have key : ∀ s,(factorOf sum s).2.d = s.d ∧ (factorOf sum s).2.l.length ≤ s.l.length:=fun s=>by
  unfold factorOf
  split
  ·split
   ·have:=fail_d 10 s; exact ⟨this.1,by rw [this.2]; exact Nat.le_refl _⟩
   ·have h1:=h.d (popM { s with d:=s.d + 1 })
    have h2:=h.l (popM { s with d:=s.d + 1 })
    have h3:=(pop_d { s with d:=s.d + 1 }).2
    have h4 : (popM { s with d:=s.d + 1 }).d = s.d + 1:=rfl
    simp only
    split
    ·have h5:=sign_d [41] (sum (popM { s with d:=s.d + 1 })).2
     exact ⟨by show _ - 1 = _; rw [h5.1,h1,h4]; rfl,by show (signM _ _).2.l.length ≤ _; simp only at h3; omega⟩
    ·exact ⟨by show _ - 1 = _; rw [h1,h4]; rfl,by show (sum _).2.l.length ≤ _; simp only at h3; omega⟩
  ·have h1:=name_d s
   simp only
   split
   ·have h2:=may_d [45,62] (nameM s).2.1
    split
    ·have h3:=name_d (mayM [45,62] (nameM s).2.1).2
     split
     ·have h4:=put_d (2,(nameM s).2.2.getD [],(nameM (mayM [45,62] (nameM s).2.1).2).2.2.getD []) (hereM s).2.1 (nameM (mayM [45,62] (nameM s).2.1).2).2.1
      exact ⟨by rw [h4.1,h3.1,h2.1,h1.1],by rw [h4.2]; omega⟩
     ·exact ⟨by rw [h3.1,h2.1,h1.1],by simp only; omega⟩
    ·have h4:=put_d (1,(nameM s).2.2.getD [],[]) (hereM s).2.1 (mayM [45,62] (nameM s).2.1).2
     exact ⟨by rw [h4.1,h2.1,h1.1],by rw [h4.2]; omega⟩
   ·exact h1
 exact ⟨fun s=>(key s).1,fun s=>(key s).2⟩
theorem good_termLoop {fac : Rd} (h : Good fac) : ∀ (k a : Nat) (s : PSt),(termLoop fac k a s).2.d = s.d ∧ (termLoop fac k a s).2.l.length ≤ s.l.length
 | 0,a,s=>⟨rfl,Nat.le_refl _⟩
 | k + 1,a,s=>by
  unfold termLoop
  have h1:=may_d [38] s
  simp only
  split
  ·have h2:=h.d (mayM [38] s).2
   have h3:=h.l (mayM [38] s).2
   split
   ·have h4:=put_d (5,[],[]) a (fac (mayM [38] s).2).2
    split
    ·have h5:=good_termLoop h k (hereM (putM (5,[],[]) a (fac (mayM [38] s).2).2).2).2.1 (putM (5,[],[]) a (fac (mayM [38] s).2).2).2
     rw [h4.2] at h5
     exact ⟨by rw [h5.1,h4.1,h2,h1.1],by omega⟩
    ·exact ⟨by rw [h4.1,h2,h1.1],by rw [h4.2]; omega⟩
   ·exact ⟨by rw [h2,h1.1],by simp only; omega⟩
  ·exact h1
theorem good_term {fac : Rd} (h : Good fac) : Good (termOf fac):=by
 have key : ∀ s,(termOf fac s).2.d = s.d ∧ (termOf fac s).2.l.length ≤ s.l.length:=fun s=>by
  unfold termOf
  have h2:=h.d s
  have h3:=h.l s
  simp only
  split
  ·have h5:=good_termLoop h ((fac s).2.l.length + 1) (hereM (fac s).2).2.1 (fac s).2
   exact ⟨by rw [h5.1,h2],by omega⟩
  ·exact ⟨h2,h3⟩
 exact ⟨fun s=>(key s).1,fun s=>(key s).2⟩
theorem good_sumLoop {ter : Rd} (h : Good ter) : ∀ (k : Nat) (s : PSt),(sumLoop ter k s).2.d = s.d ∧ (sumLoop ter k s).2.l.length ≤ s.l.length
 | 0,s=>⟨rfl,Nat.le_refl _⟩
 | k + 1,s=>by
  unfold sumLoop
  split
  ·have h1:=pop_d s
   have h2:=h.d (popM s)
   have h3:=h.l (popM s)
   simp only
   generalize (if isM [43] s = true then (3 : Int) else 4) = kd
   split
   ·have h4:=put_d (kd,[],[]) (hereM s).2.1 (ter (popM s)).2
    split
    ·have h5:=good_sumLoop h k (putM (kd,[],[]) (hereM s).2.1 (ter (popM s)).2).2
     rw [h4.2] at h5
     exact ⟨by rw [h5.1,h4.1,h2,h1.1],by omega⟩
    ·exact ⟨by rw [h4.1,h2,h1.1],by rw [h4.2]; omega⟩
   ·exact ⟨by rw [h2,h1.1],by simp only; omega⟩
  ·exact ⟨rfl,Nat.le_refl _⟩
theorem good_sum {ter : Rd} (h : Good ter) : Good (sumOf ter):=by
 have key : ∀ s,(sumOf ter s).2.d = s.d ∧ (sumOf ter s).2.l.length ≤ s.l.length:=fun s=>by
  unfold sumOf
  have h2:=h.d s
  have h3:=h.l s
  simp only
  split
  ·have h5:=good_sumLoop h ((ter s).2.l.length + 1) (ter s).2
   exact ⟨by rw [h5.1,h2],by omega⟩
  ·exact ⟨h2,h3⟩
 exact ⟨fun s=>(key s).1,fun s=>(key s).2⟩
theorem good_M : ∀ f,Good (factorM f)
 | 0=>⟨fun _=>rfl,fun _=>Nat.le_refl _⟩
 | f + 1=>good_factor (good_sum (good_term (good_M f)))
theorem termLoop_fuel {fac : Rd} (h : Good fac) : ∀ (n k1 k2 a : Nat) (s : PSt),s.l.length ≤ n → s.l.length < k1 → s.l.length < k2 → termLoop fac k1 a s = termLoop fac k2 a s
 | n,0,_,_,_,_,h1,_=>by omega
 | n,_,0,_,_,_,_,h2=>by omega
 | n,k1 + 1,k2 + 1,a,s,hn,h1,h2=>by
  unfold termLoop
  simp only
  split
  ·rename_i hm
   have h3:=may_lt hm
   have h4:=h.l (mayM [38] s).2
   split
   ·have h5:=put_d (5,[],[]) a (fac (mayM [38] s).2).2
    split
    ·cases n with
     | zero=>omega
     | succ n=>exact termLoop_fuel h n k1 k2 _ _ (by rw [h5.2]; omega) (by rw [h5.2]; omega) (by rw [h5.2]; omega)
    ·rfl
   ·rfl
  ·rfl
theorem sumLoop_fuel {ter : Rd} (h : Good ter) : ∀ (n k1 k2 : Nat) (s : PSt),s.l.length ≤ n → s.l.length < k1 → s.l.length < k2 → sumLoop ter k1 s = sumLoop ter k2 s
 | n,0,_,_,_,h1,_=>by omega
 | n,_,0,_,_,_,h2=>by omega
 | n,k1 + 1,k2 + 1,s,hn,h1,h2=>by
  unfold sumLoop
  split
  ·rename_i hm
   have hne : s.l ≠ []:=by
    simp only [Bool.or_eq_true] at hm
    rcases hm with hm | hm <;> exact is_ne hm
   have h3:=pop_lt hne
   have h4:=h.l (popM s)
   simp only
   generalize (if isM [43] s = true then (3 : Int) else 4) = kd
   split
   ·have h5:=put_d (kd,[],[]) (hereM s).2.1 (ter (popM s)).2
    split
    ·cases n with
     | zero=>omega
     | succ n=>exact sumLoop_fuel h n k1 k2 _ (by rw [h5.2]; omega) (by rw [h5.2]; omega) (by rw [h5.2]; omega)
    ·rfl
   ·rfl
  ·rfl
end Go.Fbs

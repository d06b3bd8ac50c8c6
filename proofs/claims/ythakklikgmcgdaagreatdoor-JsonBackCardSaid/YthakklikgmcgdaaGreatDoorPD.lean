import Derived.Test.YthakklikgmcgdaaGreatDoorXK
import Derived.Test.YthakklikgmcgdaaGreatDoorXL
set_option linter.unusedSimpArgs false
set_option linter.unusedVariables false
set_option linter.unusedSectionVars false
set_option maxRecDepth 100000
namespace Go.Fbs
open Go.Proofs Go.RowKit
structure Sta (p : PSt) (pre rest : List UInt8) : Prop where
 s : p.s = pre ++ rest
 a : p.a = pre.length
 e : p.e = 0
def mv (p : PSt) (k : Nat) : PSt:={ p with a:=p.a + k }
theorem mv_mv (p : PSt) (a b : Nat) : mv (mv p a) b = mv p (a + b):=by unfold mv; congr 1; simp [Int.add_assoc]
theorem mv_zero (p : PSt) : mv p 0 = p:=by unfold mv; simp
theorem adv_mv (p : PSt) : advM p = mv p 1:=rfl
theorem Sta.go {p : PSt} {pre x rest : List UInt8} (h : Sta p pre (x ++ rest)) : Sta (mv p x.length) (pre ++ x) rest :=
 ⟨by rw [List.append_assoc]; exact h.s,by show p.a + x.length = _; rw [h.a,List.length_append]; omega,h.e⟩
theorem Sta.drop {p : PSt} {pre rest : List UInt8} (h : Sta p pre rest) : p.s.drop p.a.toNat = rest:=by
 rw [h.s,h.a,Int.toNat_natCast]; simp
theorem Sta.here {p : PSt} {pre rest : List UInt8} (h : Sta p pre rest) : hereM p = rest.getD 0 0:=by
 unfold hereM
 rw [h.s,h.a,Int.toNat_natCast,List.getD_eq_getElem?_getD,List.getD_eq_getElem?_getD,List.getElem?_append_right (Nat.le_refl _),Nat.sub_self]
theorem Sta.end_ {p : PSt} {pre rest : List UInt8} (h : Sta p pre rest) (c : List UInt8) : endT p.s p.a c = p.a + ((rest.length : Int) - ((trimT rest c).length : Int)):=by
 unfold endT
 rw [h.drop,h.s,h.a,List.length_append]; omega
theorem trim_app {c x rest : List UInt8} (hx : ∀ b ∈ x,c.contains b = true) (hr : ∀ b r,rest = b :: r → c.contains b = false) : trimT (x ++ rest) c = rest:=by
 induction x with
 | nil =>
  unfold trimT
  cases rest with
  | nil=>rfl
  | cons b r=>rw [List.nil_append,List.dropWhile_cons,if_neg (by rw [hr b r rfl]; decide)]
 | cons b x ih =>
  unfold trimT at ih ⊢
  rw [List.cons_append,List.dropWhile_cons,if_pos (hx b (List.mem_cons_self ..))]
  exact ih fun b' h'=>hx b' (List.mem_cons_of_mem _ h')
theorem Sta.skip {p : PSt} {pre x rest : List UInt8} (h : Sta p pre (x ++ rest)) (hx : ∀ b ∈ x,blankL.contains b = true) (hr : ∀ b r,rest = b :: r → blankL.contains b = false) : skipM p = mv p x.length:=by
 show ({ p with a:=endT p.s p.a blankL } : PSt) = _
 rw [h.end_,trim_app hx hr]
 unfold mv
 congr 1
 rw [List.length_append]; omega
theorem Sta.skip0 {p : PSt} {pre rest : List UInt8} (h : Sta p pre rest) (hr : ∀ b r,rest = b :: r → blankL.contains b = false) : skipM p = p:=by
 have:=Sta.skip (x:=[]) h (fun b hb=>by cases hb) hr
 rw [this]; exact mv_zero p
theorem Sta.run {p : PSt} {pre x rest : List UInt8} (h : Sta p pre (x ++ rest)) (h0 : x ≠ []) (hx : ∀ b ∈ x,digitL.contains b = true) (hr : ∀ b r,rest = b :: r → digitL.contains b = false) : runM p = mv p x.length:=by
 have he : endT p.s p.a digitL = p.a + x.length:=by
  rw [h.end_,trim_app hx hr,List.length_append]; omega
 have hl : 0 < x.length:=List.length_pos_iff.2 h0
 unfold runM
 rw [he,if_neg (by omega)]; rfl
theorem Sta.hb {p : PSt} {pre r : List UInt8} {c : UInt8} (h : Sta p pre (c :: r)) : hI p = c.toNat:=by
 unfold hI; rw [h.here]; rfl
theorem Sta.hb_nil {p : PSt} {pre : List UInt8} (h : Sta p pre []) : hI p = 0:=by
 unfold hI; rw [h.here]; rfl
theorem Sta.need {p : PSt} {pre r : List UInt8} {c : UInt8} (h : Sta p pre (c :: r)) : needM p c = (true,mv p 1):=by
 unfold needM
 rw [if_neg (by rw [h.here]; simp [h.e])]; rfl
def Digs (d : List UInt8) : Prop:=d ≠ [] ∧ ∀ c ∈ d,digitL.contains c = true
def NumS (s : List UInt8) : Prop:=∃ sg i f x : List UInt8,s = sg ++ (i ++ (f ++ x)) ∧ (sg = [] ∨ sg = [45]) ∧ (i = [48] ∨ (Digs i ∧ ∀ r,i ≠ 48 :: r)) ∧ (f = [] ∨ ∃ d,f = 46 :: d ∧ Digs d) ∧
 (x = [] ∨ ∃ c sg2 d,x = c :: (sg2 ++ d) ∧ (c = 101 ∨ c = 69) ∧ (sg2 = [] ∨ sg2 = [43] ∨ sg2 = [45]) ∧ Digs d)
def Stop (rest : List UInt8) : Prop:=∀ b r,rest = b :: r → digitL.contains b = false ∧ b ≠ 46 ∧ b ≠ 101 ∧ b ≠ 69
theorem digit_range {c : UInt8} (h : digitL.contains c = true) : 48 ≤ (c.toNat : Int) ∧ (c.toNat : Int) ≤ 57:=by
 have : c ∈ digitL:=by simpa using h
 simp only [digitL,List.mem_cons,List.not_mem_nil,or_false] at this
 rcases this with rfl | rfl | rfl | rfl | rfl | rfl | rfl | rfl | rfl | rfl <;> decide
theorem Digs.open {d : List UInt8} (h : Digs d) : ∃ c r,d = c :: r ∧ digitL.contains c = true:=by
 cases d with
 | nil=>exact absurd rfl h.1
 | cons c r=>exact ⟨c,r,rfl,h.2 c (List.mem_cons_self ..)⟩
theorem toNat_inj {c : UInt8} {n : UInt8} (h : (c.toNat : Int) = (n.toNat : Int)) : c = n:=UInt8.toNat_inj.1 (by omega)
theorem read_num {s pre rest : List UInt8} {p : PSt} (hs : NumS s) (h : Sta p pre (s ++ rest)) (hst : Stop rest) : numberM p = mv p s.length ∧ numT p = s ∧ s ≠ []:=by
 obtain ⟨sg,i,f,x,rfl,hsg,hi,hf,hx⟩:=hs
 have h1 : Sta p pre (sg ++ (i ++ (f ++ (x ++ rest)))):=by simpa using h
 have hic : ∃ c r,i = c :: r ∧ digitL.contains c = true:=by
  rcases hi with rfl | ⟨hd,_⟩
  ·exact ⟨48,[],rfl,by decide⟩
  ·exact hd.open
 obtain ⟨ic,ir,eic,hicd⟩:=hic
 have e1 : num1 p = mv p sg.length:=by
  unfold num1
  rcases hsg with rfl | rfl
  ·rw [if_neg,List.length_nil,mv_zero]
   rw [show hI p = ic.toNat from Sta.hb (r:=ir ++ (f ++ (x ++ rest))) (by rw [eic] at h1; exact h1)]
   have:=digit_range hicd; omega
  ·rw [if_pos (by rw [Sta.hb (r:=i ++ (f ++ (x ++ rest))) h1]; rfl)]; rfl
 have h2:=h1.go
 have hfx : ∀ b r,f ++ (x ++ rest) = b :: r → digitL.contains b = false:=by
  intro b r hb
  rcases hf with rfl | ⟨d,rfl,_⟩
  ·rcases hx with rfl | ⟨c,sg2,d,rfl,hc,_⟩
   ·exact (hst b r (by simpa using hb)).1
   ·have : b = c:=by simp at hb; exact hb.1.symm
    subst this; rcases hc with rfl | rfl <;> decide
  ·have : b = 46:=by simp at hb; exact hb.1.symm
   subst this; decide
 have e2 : num2 (num1 p) = mv (num1 p) i.length:=by
  rw [e1]
  unfold num2
  rcases hi with rfl | ⟨hd,h48⟩
  ·rw [if_pos (by rw [Sta.hb (r:=f ++ (x ++ rest)) h2]; rfl)]; rfl
  ·rw [if_neg,h2.run hd.1 hd.2 hfx]
   rw [Sta.hb (r:=ir ++ (f ++ (x ++ rest))) (by rw [eic] at h2; exact h2)]
   intro e
   exact h48 ir (by rw [eic,toNat_inj (n:=48) e])
 have h3 : Sta (num2 (num1 p)) (pre ++ sg ++ i) (f ++ (x ++ rest)):=by rw [e2,e1]; exact h2.go
 have hxr : ∀ b r,x ++ rest = b :: r → digitL.contains b = false ∧ b ≠ 46:=by
  intro b r hb
  rcases hx with rfl | ⟨c,sg2,d,rfl,hc,_⟩
  ·have:=hst b r (by simpa using hb); exact ⟨this.1,this.2.1⟩
  ·have : b = c:=by simp at hb; exact hb.1.symm
   subst this; rcases hc with rfl | rfl <;> decide
 have e3 : num3 (num2 (num1 p)) = mv (num2 (num1 p)) f.length:=by
  unfold num3
  rcases hf with rfl | ⟨d,rfl,hd⟩
  ·rw [if_neg,List.length_nil,mv_zero]
   rintro ⟨_,hc⟩
   cases hxx : x ++ rest with
   | nil=>rw [List.nil_append,hxx] at h3; rw [h3.hb_nil] at hc; exact absurd hc (by decide)
   | cons b r=>rw [List.nil_append,hxx] at h3; rw [h3.hb] at hc; exact (hxr b r hxx).2 (toNat_inj (n:=46) hc)
  ·have h4 : Sta (advM (num2 (num1 p))) (pre ++ sg ++ i ++ [46]) (d ++ (x ++ rest)):=by rw [adv_mv]; exact Sta.go (x:=[46]) h3
   rw [if_pos ⟨h3.e,by rw [Sta.hb (r:=d ++ (x ++ rest)) h3]; rfl⟩,h4.run hd.1 hd.2 fun b r hb=>(hxr b r hb).1,adv_mv,mv_mv,List.length_cons,Nat.add_comm]
 have h5 : Sta (num3 (num2 (num1 p))) (pre ++ sg ++ i ++ f) (x ++ rest):=by rw [e3]; exact h3.go
 have hrd : ∀ b r,rest = b :: r → digitL.contains b = false:=fun b r hb=>(hst b r hb).1
 have e4 : num4 (num3 (num2 (num1 p))) = mv (num3 (num2 (num1 p))) x.length:=by
  generalize num3 (num2 (num1 p)) = q at h5
  unfold num4
  rcases hx with rfl | ⟨c,sg2,d,rfl,hc,hsg2,hd⟩
  ·rw [if_neg,List.length_nil,mv_zero]
   rintro ⟨_,hc⟩
   cases hrr : rest with
   | nil=>rw [List.nil_append,hrr] at h5; rw [h5.hb_nil] at hc; rcases hc with hc | hc <;> exact absurd hc (by decide)
   | cons b r =>
    rw [List.nil_append,hrr] at h5; rw [h5.hb] at hc
    have:=hst b r hrr
    rcases hc with hc | hc
    ·exact this.2.2.1 (toNat_inj (n:=101) hc)
    ·exact this.2.2.2 (toNat_inj (n:=69) hc)
  ·have h6 : Sta (advM q) (pre ++ sg ++ i ++ f ++ [c]) (sg2 ++ (d ++ rest)):=by rw [adv_mv]; exact Sta.go (x:=[c]) (by simpa using h5)
   have hq : hI q = c.toNat:=Sta.hb (r:=sg2 ++ d ++ rest) (by simpa using h5)
   have e5 : num5 (advM q) = mv (advM q) sg2.length:=by
    unfold num5
    obtain ⟨dc,dr,edc,hdc⟩:=hd.open
    rcases hsg2 with rfl | rfl | rfl
    ·rw [if_neg,List.length_nil,mv_zero]
     rw [Sta.hb (r:=dr ++ rest) (by rw [edc] at h6; exact h6)]
     have:=digit_range hdc; omega
    ·rw [if_pos (.inl (by rw [Sta.hb (r:=d ++ rest) h6]; rfl))]; rfl
    ·rw [if_pos (.inr (by rw [Sta.hb (r:=d ++ rest) h6]; rfl))]; rfl
   rw [if_pos ⟨h5.e,by rw [hq]; rcases hc with rfl | rfl; exact .inl rfl; exact .inr rfl⟩,e5,(h6.go).run hd.1 hd.2 hrd,adv_mv,mv_mv,mv_mv]
   congr 1
   rw [List.length_cons,List.length_append]
   omega
 have hfin : numberM p = mv p (sg ++ (i ++ (f ++ x))).length:=by
  show num4 (num3 (num2 (num1 p))) = _
  rw [e4,e3,e2,e1,mv_mv,mv_mv,mv_mv]
  congr 1
  simp only [List.length_append] <;> omega
 refine ⟨hfin,?_,by rw [eic]; simp⟩
 unfold numT
 rw [hfin]
 show (p.s.take (p.a + ((sg ++ (i ++ (f ++ x))).length : Int)).toNat).drop p.a.toNat = _
 rw [h.s,h.a]
 have ea : ((pre.length : Int) + ((sg ++ (i ++ (f ++ x))).length : Int)).toNat = pre.length + (sg ++ (i ++ (f ++ x))).length:=by omega
 rw [ea,Int.toNat_natCast]
 generalize sg ++ (i ++ (f ++ x)) = y
 rw [← List.append_assoc,← List.length_append,List.take_left' rfl,List.drop_left' rfl]
end Go.Fbs

namespace Go.Fbs
open Go.Proofs Go.RowKit
def Asc (t : List UInt8) : Prop:=∀ c ∈ t,c.toNat < 128
theorem hex_back : ∀ q : _root_.Fin 128,hexN [48,48,hexB (q.val / 16),hexB (q.val % 16)] = q.val ∧ [48,48,hexB (q.val / 16),hexB (q.val % 16)].all isHex = true:=by decide
theorem escM_u {x rest : List UInt8} (hx : x.length = 4) : escM ([92,117] ++ x ++ rest) = if x.all isHex = true then (if 127 < hexN x then some (0,0) else some ((hexN x).toUInt8,6)) else some (0,0):=by
 match x,hx with
 | [a,b,c,d],_ =>
  unfold escM
  rw [if_neg (by simp)]
  have h1 : ([92,117] ++ [a,b,c,d] ++ rest).getD 1 0 = 117:=rfl
  have h2 : shortM 117 = none:=rfl
  rw [h1,h2]
  dsimp only
  rw [if_neg (by simp)]
  rfl
theorem esc_quo {c : UInt8} {rest : List UInt8} (hc : c.toNat < 128) (h : quoB c ≠ [c]) : escM (quoB c ++ rest) = some (c,(quoB c).length) ∧ ∃ r,quoB c = 92 :: r:=by
 unfold quoB at h ⊢
 split at h
 ·rename_i h1
  rw [if_pos h1]
  rcases h1 with rfl | rfl <;> exact ⟨rfl,_,rfl⟩
 ·rename_i h1
  rw [if_neg h1]
  split at h
  ·rename_i h2
   rw [if_pos h2]
   refine ⟨?_,_,rfl⟩
   obtain ⟨e1,e2⟩:=hex_back ⟨c.toNat,hc⟩
   have e0:=escM_u (x:=[48,48,hexB (c.toNat / 16),hexB (c.toNat % 16)]) (rest:=rest) rfl
   refine e0.trans ?_
   rw [if_pos e2,e1,if_neg (by show ¬ 127 < c.toNat; omega)]
   simp
  ·exact absurd rfl h
theorem quo_plain {c : UInt8} (h : quoB c = [c]) : ¬ c = 34 ∧ ¬ c = 92 ∧ ¬ c.toNat < 32 ∧ ¬ c.toNat = 127:=by
 unfold quoB at h
 split at h
 ·simp at h
 ·rename_i h1
  simp only [not_or] at h1
  split at h
  ·simp at h
  ·rename_i h2
   simp only [not_or] at h2
   exact ⟨h1.1,h1.2,fun e=>h2.1 e,fun e=>h2.2 (UInt8.toNat_inj.1 e)⟩
theorem textL_step {n : Nat} {out pre rest : List UInt8} {p : PSt} {c : UInt8} (hc : c.toNat < 128) (ho : out.length ≤ 1000000000) (h : Sta p pre (quoB c ++ rest)) : textL (n + 1) out p = textL n (out ++ [c]) (mv p (quoB c).length):=by
 rw [textL,if_pos h.e]
 by_cases hq : quoB c = [c]
 ·obtain ⟨h1,h2,h3,h4⟩:=quo_plain hq
  rw [hq] at h ⊢
  have hI : hI p = c.toNat:=h.hb
  have hh : hereM p = c:=by rw [h.here]; rfl
  have i1 : ¬ (c.toNat : Int) = 34:=fun e=>h1 (toNat_inj (n:=34) e)
  have i2 : ¬ (c.toNat : Int) = 92:=fun e=>h2 (toNat_inj (n:=92) e)
  rw [hI,if_neg i1,if_neg i2,if_neg (by omega),if_pos ho,hh]; rfl
 ·obtain ⟨he,r,hr⟩:=esc_quo (rest:=rest) hc hq
  have hI : hI p = 92:=by
   rw [hr] at h
   rw [Sta.hb (r:=r ++ rest) h]; rfl
  rw [hI,if_neg (by decide),if_pos rfl,h.drop,he]
  dsimp only
  rw [if_pos ho]
  congr 1
  unfold escQ
  rw [if_neg (by rw [hr]; simp)]; rfl
theorem textL_all {rest : List UInt8} : ∀ {t : List UInt8} {n : Nat} {out pre : List UInt8} {p : PSt},Asc t → t.length < n → out.length + t.length ≤ 1000000000 → Sta p pre (t.flatMap quoB ++ (34 :: rest)) → textL n out p = some (out ++ t,mv p ((t.flatMap quoB).length + 1))
 | [],n + 1,out,pre,p,_,_,_,h=>by
  have h' : Sta p pre (34 :: rest):=h
  rw [textL,if_pos h'.e,if_pos (by rw [h'.hb]; rfl),List.append_nil]; rfl
 | c :: t,0,_,_,_,_,hn,_,_=>absurd hn (Nat.not_lt_zero _)
 | c :: t,n + 1,out,pre,p,ha,hn,ho,h=>by
  have h' : Sta p pre (quoB c ++ (t.flatMap quoB ++ (34 :: rest))):=by simpa using h
  rw [List.length_cons] at hn ho
  rw [textL_step (ha c (List.mem_cons_self ..)) (by omega) h',textL_all (rest:=rest) (fun x hx=>ha x (List.mem_cons_of_mem _ hx)) (by omega) (by simp; omega) h'.go,mv_mv]
  simp only [List.append_assoc,List.flatMap_cons,List.length_append,List.cons_append,List.nil_append,Nat.add_assoc]
theorem quoT_len (t : List UInt8) : (quoT t).length = (t.flatMap quoB).length + 2:=by unfold quoT; simp
theorem quo_ge : ∀ t : List UInt8,t.length ≤ (t.flatMap quoB).length
 | []=>Nat.le_refl _
 | c :: t=>by
  have h1:=quo_ge t
  have h2 : 1 ≤ (quoB c).length:=by unfold quoB; split; simp; split <;> simp
  rw [List.flatMap_cons,List.length_append,List.length_cons]; omega
theorem read_text {t pre rest : List UInt8} {p : PSt} (ha : Asc t) (h : Sta p pre (quoT t ++ rest)) (hb : p.s.length ≤ 200000) : textM p = some (t,mv p (quoT t).length):=by
 have h' : Sta p pre (34 :: (t.flatMap quoB ++ (34 :: rest))):=by unfold quoT at h; simpa using h
 have hg:=quo_ge t
 have hl : (t.flatMap quoB).length ≤ p.s.length:=by rw [h'.s]; simp; omega
 unfold textM
 rw [h'.need]
 dsimp only
 have h2 : Sta (mv p 1) (pre ++ [34]) (t.flatMap quoB ++ (34 :: rest)):=Sta.go (x:=[34]) h'
 rw [if_pos rfl,textL_all (rest:=rest) ha (by omega) (by simp; omega) h2,mv_mv,quoT_len]
 congr 3
 omega
end Go.Fbs

namespace Go.Fbs
open Go.Proofs Go.RowKit
def joinT : List (List UInt8) → List UInt8
 | []=>[]
 | [x]=>x
 | x :: y :: r=>x ++ [44] ++ joinT (y :: r)
def Leaf (v : V) (x : List UInt8) : Prop :=
 (v = jn 1 [] [] [] ∧ x = [110,117,108,108]) ∨ (v = jn 2 [] [] [] ∧ x = [102,97,108,115,101]) ∨ (v = jn 3 [] [] [] ∧ x = [116,114,117,101]) ∨ (NumS x ∧ v = jn 4 x [] []) ∨ ∃ t,Asc t ∧ v = jn 5 t [] [] ∧ x = quoT t
def Wf : Nat → V → List UInt8 → Prop
 | 0,v,x=>Leaf v x
 | n + 1,v,x=>Leaf v x ∨ (∃ l : List (V × List UInt8),(∀ q ∈ l,Wf n q.1 q.2) ∧ v = jn 6 [] [] (l.map (·.1)) ∧ x = [91] ++ joinT (l.map (·.2)) ++ [93]) ∨
  (∃ l : List (List UInt8 × V × List UInt8),(∀ q ∈ l,Asc q.1 ∧ Wf n q.2.1 q.2.2) ∧ (l.map (·.1)).Nodup ∧ v = jn 7 [] ((l.map (·.1)).map V.str) (l.map (·.2.1)) ∧ x = [123] ++ joinT (l.map fun q=>quoT q.1 ++ [58] ++ q.2.2) ++ [125])
def FirstOk (x : List UInt8) : Prop:=∃ c r,x = c :: r ∧ blankL.contains c = false ∧ c ≠ 44 ∧ c ≠ 93 ∧ c ≠ 125
theorem num_first {x : List UInt8} (h : NumS x) : ∃ c r,x = c :: r ∧ (c = 45 ∨ digitL.contains c = true):=by
 obtain ⟨sg,i,f,x,rfl,hsg,hi,_,_⟩:=h
 rcases hsg with rfl | rfl
 ·rcases hi with rfl | ⟨hd,_⟩
  ·exact ⟨48,_,rfl,.inr (by decide)⟩
  ·obtain ⟨c,r,rfl,hc⟩:=hd.open
   exact ⟨c,_,rfl,.inr hc⟩
 ·exact ⟨45,_,rfl,.inl rfl⟩
theorem digit_mem {c : UInt8} (h : digitL.contains c = true) : c = 48 ∨ c = 49 ∨ c = 50 ∨ c = 51 ∨ c = 52 ∨ c = 53 ∨ c = 54 ∨ c = 55 ∨ c = 56 ∨ c = 57:=by
 have : c ∈ digitL:=by simpa using h
 simpa only [digitL,List.mem_cons,List.not_mem_nil,or_false] using this
theorem leaf_first {v : V} {x : List UInt8} (h : Leaf v x) : FirstOk x:=by
 rcases h with ⟨_,rfl⟩ | ⟨_,rfl⟩ | ⟨_,rfl⟩ | ⟨h,_⟩ | ⟨t,_,_,rfl⟩
 ·exact ⟨_,_,rfl,by decide,by decide,by decide,by decide⟩
 ·exact ⟨_,_,rfl,by decide,by decide,by decide,by decide⟩
 ·exact ⟨_,_,rfl,by decide,by decide,by decide,by decide⟩
 ·obtain ⟨c,r,rfl,hc⟩:=num_first h
  refine ⟨c,r,rfl,?_⟩
  rcases hc with rfl | hc
  ·exact ⟨by decide,by decide,by decide,by decide⟩
  ·rcases digit_mem hc with rfl | rfl | rfl | rfl | rfl | rfl | rfl | rfl | rfl | rfl <;> exact ⟨by decide,by decide,by decide,by decide⟩
 ·exact ⟨34,_,rfl,by decide,by decide,by decide,by decide⟩
theorem wf_first : ∀ {n : Nat} {v : V} {x : List UInt8},Wf n v x → FirstOk x
 | 0,_,_,h=>leaf_first h
 | n + 1,_,_,h=>by
  rcases h with h | ⟨l,_,_,rfl⟩ | ⟨l,_,_,_,rfl⟩
  ·exact leaf_first h
  ·exact ⟨91,_,rfl,by decide,by decide,by decide,by decide⟩
  ·exact ⟨123,_,rfl,by decide,by decide,by decide,by decide⟩
structure Bd (n : Nat) (p : PSt) : Prop where
 s : p.s.length ≤ 200000
 d0 : 0 ≤ p.d
 d : p.d + n ≤ 20
theorem Bd.mv {n : Nat} {p : PSt} (h : Bd n p) (k : Nat) : Bd n (mv p k):=⟨h.s,h.d0,h.d⟩
theorem stop_sep {b : UInt8} {r : List UInt8} (h : b = 44 ∨ b = 93 ∨ b = 125) : Stop (b :: r):=by
 intro b' r' e
 cases e
 rcases h with rfl | rfl | rfl <;> exact ⟨by decide,by decide,by decide,by decide⟩
theorem sep_blank {b : UInt8} {r : List UInt8} (h : b = 44 ∨ b = 93 ∨ b = 125 ∨ b = 58) : ∀ b' r',b :: r = b' :: r' → blankL.contains b' = false:=by
 intro b' r' e
 cases e
 rcases h with rfl | rfl | rfl | rfl <;> decide
theorem FirstOk.skip {x rest : List UInt8} (h : FirstOk x) : ∀ b r,x ++ rest = b :: r → blankL.contains b = false:=by
 obtain ⟨c,r,rfl,hc,_⟩:=h
 intro b r' e
 cases e; exact hc
inductive Run {A : Type} (S : A → List UInt8 → A → Prop) : List (List UInt8) → A → A → Prop
 | nil (a : A) : Run S [] a a
 | cons {y : List UInt8} {ys : List (List UInt8)} {a b c : A} (h : S a y b) (r : Run S ys b c) : Run S (y :: ys) a c
def OneRd {A : Type} (one : A → PSt → Option (A × PSt)) (c : UInt8) (n : Nat) (S : A → List UInt8 → A → Prop) : Prop :=
 ∀ a y b,S a y b → FirstOk y ∧ ∀ (p : PSt) (pre : List UInt8) (z : UInt8) (rest : List UInt8),Sta p pre (y ++ (z :: rest)) → Bd n p → (z = 44 ∨ z = c) → one a p = some (b,mv p y.length)
theorem more_read {A : Type} {one : A → PSt → Option (A × PSt)} {c : UInt8} {n : Nat} {S : A → List UInt8 → A → Prop} (hc : c = 93 ∨ c = 125) (ho : OneRd one c n S) : ∀ {ys : List (List UInt8)} {a b : A} {f : Nat} {p : PSt} {pre rest : List UInt8},ys ≠ [] → Run S ys a b → ys.length ≤ f → Sta p pre (joinT ys ++ (c :: rest)) → Bd n p →
  moreM one c f a p = some (b,mv p ((joinT ys).length + 1))
 | [],_,_,_,_,_,_,h0,_,_,_,_=>absurd rfl h0
 | [y],a,b,0,_,_,_,_,_,hf,_,_=>absurd hf (by simp)
 | [y],a,b,f + 1,p,pre,rest,_,hr,_,h,hb=>by
  cases hr with
  | cons h1 r1 =>
   cases r1
   obtain ⟨hfy,hy⟩:=ho _ _ _ h1
   have h' : Sta p pre (y ++ (c :: rest)):=h
   have hcb : c = 44 ∨ c = 93 ∨ c = 125 ∨ c = 58:=by rcases hc with h | h; exact .inr (.inl h); exact .inr (.inr (.inl h))
   have h2:=h'.go
   have hs2 : skipM (mv p y.length) = mv p y.length:=h2.skip0 (sep_blank hcb)
   have hh : hereM (mv p y.length) = c:=by rw [h2.here]; rfl
   rw [moreM,if_neg (by simp [h.e]),h'.skip0 hfy.skip,hy p pre c rest h' hb (.inr rfl)]
   dsimp only
   rw [hs2,if_neg (by simp [h2.e]),hh,if_pos (by rcases hc with rfl | rfl <;> decide),h2.need,mv_mv]; rfl
 | y :: y' :: ys,a,b,0,_,_,_,_,_,hf,_,_=>absurd hf (by simp)
 | y :: y' :: ys,a,b,f + 1,p,pre,rest,_,hr,hf,h,hb=>by
  cases hr with
  | cons h1 r1 =>
   obtain ⟨hfy,hy⟩:=ho _ _ _ h1
   have h' : Sta p pre (y ++ (44 :: (joinT (y' :: ys) ++ (c :: rest)))):=by
    have e : joinT (y :: y' :: ys) ++ (c :: rest) = y ++ (44 :: (joinT (y' :: ys) ++ (c :: rest))):=by simp [joinT]
    rw [e] at h; exact h
   have h2:=h'.go
   have hs2 : skipM (mv p y.length) = mv p y.length:=h2.skip0 (sep_blank (.inl rfl))
   have hh : hereM (mv p y.length) = 44:=by rw [h2.here]; rfl
   have h3 : Sta (mv (mv p y.length) 1) (pre ++ y ++ [44]) (joinT (y' :: ys) ++ (c :: rest)):=Sta.go (x:=[44]) h2
   rw [moreM,if_neg (by simp [h.e]),h'.skip0 hfy.skip,hy p pre 44 _ h' hb (.inl rfl)]
   dsimp only
   rw [hs2,if_neg (by simp [h2.e]),hh,if_neg (by decide)]
   have:=more_read hc ho (by simp) r1 (by simpa using hf) h3 ((hb.mv _).mv _)
   refine (show moreM one c f _ (mv (mv p y.length) 1) = _ from this).trans ?_
   rw [mv_mv,mv_mv]
   congr 3
   simp [joinT]; omega
theorem items_read {A : Type} {one : A → PSt → Option (A × PSt)} {o c : UInt8} {n : Nat} {S : A → List UInt8 → A → Prop} (hc : c = 93 ∨ c = 125) (ho : OneRd one c n S) {ys : List (List UInt8)} {a b : A} {f : Nat} {p : PSt} {pre rest : List UInt8} (hr : Run S ys a b) (hf : ys.length ≤ f) (hy : ∀ y ∈ ys,FirstOk y) (h : Sta p pre ([o] ++ joinT ys ++ [c] ++ rest)) (hb : Bd (n + 1) p) :
  itemsM one c f a p = some (b,mv p (([o] ++ joinT ys ++ [c]).length)):=by
 have hd:=hb.d
 have hd0:=hb.d0
 unfold itemsM
 rw [if_neg (by omega)]
 have h1 : Sta { p with d:=p.d + 1,a:=p.a + 1 } (pre ++ [o]) (joinT ys ++ (c :: rest)):=by
  have:=Sta.go (x:=[o]) (pre:=pre) (p:=p) (rest:=joinT ys ++ (c :: rest)) (by simpa using h)
  exact ⟨this.s,this.a,this.e⟩
 have hb1 : Bd n { p with d:=p.d + 1,a:=p.a + 1 }:=⟨hb.s,by show 0 ≤ p.d + 1; omega,by show p.d + 1 + (n : Int) ≤ 20; omega⟩
 have hm : mv { p with d:=p.d + 1,a:=p.a + 1 } 0 = { p with d:=p.d + 1,a:=p.a + 1 }:=mv_zero _
 cases ys with
 | nil =>
  cases hr
  have h1' : Sta { p with d:=p.d + 1,a:=p.a + 1 } (pre ++ [o]) (c :: rest):=h1
  have hs : skipM { p with d:=p.d + 1,a:=p.a + 1 } = { p with d:=p.d + 1,a:=p.a + 1 }:=h1'.skip0 (sep_blank (by rcases hc with h | h; exact .inr (.inl h); exact .inr (.inr (.inl h))))
  rw [hs]
  dsimp only
  rw [if_pos (by rw [h1'.here]; rfl)]
  simp [joinT,mv]; omega
 | cons y ys =>
  have hfy:=hy y (List.mem_cons_self ..)
  have hx : ∀ b r,joinT (y :: ys) ++ (c :: rest) = b :: r → blankL.contains b = false ∧ b ≠ c:=by
   obtain ⟨c0,r0,rfl,q1,q2,q3,q4⟩:=hfy
   intro b r e
   cases ys with
   | nil=>simp only [joinT,List.cons_append,List.cons.injEq] at e; rw [← e.1]; exact ⟨q1,by rcases hc with rfl | rfl; exact q3; exact q4⟩
   | cons y2 ys=>simp only [joinT,List.cons_append,List.cons.injEq] at e; rw [← e.1]; exact ⟨q1,by rcases hc with rfl | rfl; exact q3; exact q4⟩
  have hs : skipM { p with d:=p.d + 1,a:=p.a + 1 } = { p with d:=p.d + 1,a:=p.a + 1 }:=h1.skip0 fun b r e=>(hx b r e).1
  rw [hs]
  dsimp only
  have hne : hereM { p with d:=p.d + 1,a:=p.a + 1 } ≠ c:=by
   rw [h1.here]
   cases hj : joinT (y :: ys) ++ (c :: rest) with
   | nil=>simp at hj
   | cons b r=>exact (hx b r hj).2
  rw [if_neg hne,more_read hc ho (by simp) hr hf h1 hb1]
  simp [mv]; omega
end Go.Fbs

namespace Go.Fbs
open Go.Proofs Go.RowKit
theorem read_word {rest : List UInt8} : ∀ {t pre : List UInt8} {p : PSt},Sta p pre (t ++ rest) → wordM t p = mv p t.length
 | [],_,p,_=>(mv_zero p).symm
 | c :: t,pre,p,h=>by
  have h' : Sta p pre (c :: (t ++ rest)):=h
  have h2 : Sta (mv p 1) (pre ++ [c]) (t ++ rest):=Sta.go (x:=[c]) h'
  rw [wordM,h'.need]
  dsimp only
  rw [if_pos rfl,read_word h2,mv_mv,List.length_cons,Nat.add_comm]
def Reads (M : RM) (n : Nat) (v : V) (x : List UInt8) : Prop:=∀ (p : PSt) (pre rest : List UInt8),Sta p pre (x ++ rest) → Bd n p → Stop rest → M p = some (v,mv p x.length)
theorem leaf_reads (O : RM → RM) (f n : Nat) {v : V} {x : List UInt8} (h : Leaf v x) : Reads (valM O (f + 1)) n v x:=by
 intro p pre rest hs hb hst
 rw [valM]
 rcases h with ⟨rfl,rfl⟩ | ⟨rfl,rfl⟩ | ⟨rfl,rfl⟩ | ⟨hn,rfl⟩ | ⟨t,ha,rfl,rfl⟩
 ·rw [show hI p = ((110 : UInt8).toNat : Int) from Sta.hb (r:=[117,108,108] ++ rest) hs,if_neg (by decide),if_neg (by decide),if_neg (by decide),if_pos (by decide),read_word hs]
 ·rw [show hI p = ((102 : UInt8).toNat : Int) from Sta.hb (r:=[97,108,115,101] ++ rest) hs,if_neg (by decide),if_neg (by decide),if_neg (by decide),if_neg (by decide),if_pos (by decide),read_word hs]
 ·rw [show hI p = ((116 : UInt8).toNat : Int) from Sta.hb (r:=[114,117,101] ++ rest) hs,if_neg (by decide),if_neg (by decide),if_neg (by decide),if_neg (by decide),if_neg (by decide),if_pos (by decide),read_word hs]
 ·obtain ⟨h1,h2,h3⟩:=read_num hn hs hst
  obtain ⟨c,r,hx,hc⟩:=num_first hn
  have hI' : hI p = c.toNat:=by rw [hx] at hs; exact Sta.hb (r:=r ++ rest) hs
  have hr : (c.toNat : Int) ≤ 57:=by
   rcases hc with rfl | hc
   ·decide
   ·exact (digit_range hc).2
  have h34 : ¬ (c.toNat : Int) = 34:=by
   rcases hc with rfl | hc
   ·decide
   ·have:=digit_range hc; omega
  rw [hI',if_neg (by omega),if_neg (by omega),if_neg h34,if_neg (by omega),if_neg (by omega),if_neg (by omega),h1,h2]
 ·rw [show hI p = ((34 : UInt8).toNat : Int) from Sta.hb (r:=t.flatMap quoB ++ [34] ++ rest) (by unfold quoT at hs; simpa using hs),if_neg (by decide),if_neg (by decide),if_pos (by decide),read_text ha hs hb.s]; rfl
theorem join_len : ∀ (ys : List (List UInt8)),(∀ y ∈ ys,FirstOk y) → ys.length ≤ (joinT ys).length
 | [],_=>Nat.zero_le _
 | [y],h=>by
  obtain ⟨c,r,e,_⟩:=h y (by simp)
  show 1 ≤ y.length
  rw [e]; simp
 | x :: y :: r,h=>by
  have:=join_len (y :: r) fun z hz=>h z (List.mem_cons_of_mem _ hz)
  simp only [joinT,List.length_append,List.length_cons,List.length_nil] at this ⊢
  omega
def StpL (n : Nat) (a : List V) (y : List UInt8) (b : List V) : Prop:=∃ v,Wf n v y ∧ b = a ++ [v] ∧ a.length ≤ 100000000
def StpO (n : Nat) (a : OAcc) (y : List UInt8) (b : OAcc) : Prop:=∃ key v x,Asc key ∧ Wf n v x ∧ y = quoT key ++ [58] ++ x ∧ key ∉ a.seen ∧ b = ⟨a.keys ++ [key],a.ls ++ [v],key :: a.seen⟩ ∧ key.length ≤ 1000000000 ∧ a.seen.length ≤ 100000000 ∧ a.keys.length ≤ 100000000 ∧ a.ls.length ≤ 100000000
theorem oneL_reads {M : RM} {n : Nat} (hM : ∀ v x,Wf n v x → Reads M n v x) : OneRd (oneL M) 93 n (StpL n):=by
 rintro a y b ⟨v,hw,rfl,hl⟩
 refine ⟨wf_first hw,fun p pre z rest h hb hz=>?_⟩
 unfold oneL
 rw [if_pos hl,hM v y hw p pre _ h hb (stop_sep (by rcases hz with h | h; exact .inl h; exact .inr (.inl h)))]; rfl
theorem oneO_reads {M : RM} {n : Nat} (hM : ∀ v x,Wf n v x → Reads M n v x) : OneRd (oneO M) 125 n (StpO n):=by
 rintro a y b ⟨key,v,x,hk,hw,rfl,hn,rfl,l1,l2,l3,l4⟩
 refine ⟨⟨34,_,rfl,by decide,by decide,by decide,by decide⟩,fun p pre z rest h hb hz=>?_⟩
 have h1 : Sta p pre (quoT key ++ (58 :: (x ++ (z :: rest)))):=by simpa using h
 have h2:=h1.go
 have h3 : Sta (mv (mv p (quoT key).length) 1) (pre ++ quoT key ++ [58]) (x ++ (z :: rest)):=Sta.go (x:=[58]) h2
 have ht:=read_text hk h1 hb.s
 have htw : twiceM a.seen p (mv p (quoT key).length) key = mv p (quoT key).length:=if_neg fun hc=>hn hc.2
 have hs2 : skipM (mv p (quoT key).length) = mv p (quoT key).length:=h2.skip0 (sep_blank (.inr (.inr (.inr rfl))))
 have hs3 : skipM (mv (mv p (quoT key).length) 1) = mv (mv p (quoT key).length) 1:=h3.skip0 (wf_first hw).skip
 unfold oneO
 rw [ht]
 dsimp only
 rw [if_pos ⟨l1,l2,l3,l4⟩,htw,hs2,h2.need]
 dsimp only
 rw [if_pos rfl,hs3,hM v x hw _ _ _ h3 ((hb.mv _).mv _) (stop_sep (by rcases hz with h | h; exact .inl h; exact .inr (.inr h)))]
 simp only [Option.map_some,mv_mv]
 congr 3
 simp only [List.length_append,List.length_cons,List.length_nil]
theorem runL {n : Nat} : ∀ (l : List (V × List UInt8)) (a : List V),(∀ q ∈ l,Wf n q.1 q.2) → a.length + l.length ≤ 100000000 → Run (StpL n) (l.map (·.2)) a (a ++ l.map (·.1))
 | [],a,_,_=>by simpa using Run.nil a
 | q :: l,a,h,hl=>by
  rw [List.length_cons] at hl
  have:=runL l (a ++ [q.1]) (fun x hx=>h x (List.mem_cons_of_mem _ hx)) (by simp; omega)
  rw [List.append_assoc] at this
  exact Run.cons ⟨q.1,h q (List.mem_cons_self ..),rfl,by omega⟩ this
theorem runO {n : Nat} : ∀ (l : List (List UInt8 × V × List UInt8)) (a : OAcc),(∀ q ∈ l,(Asc q.1 ∧ Wf n q.2.1 q.2.2) ∧ q.1.length ≤ 1000000000) → (∀ q ∈ l,q.1 ∉ a.seen) → (l.map (·.1)).Nodup → a.seen.length + l.length ≤ 100000000 → a.keys.length + l.length ≤ 100000000 → a.ls.length + l.length ≤ 100000000 →
  ∃ s,Run (StpO n) (l.map fun q=>quoT q.1 ++ [58] ++ q.2.2) a ⟨a.keys ++ l.map (·.1),a.ls ++ l.map (·.2.1),s⟩
 | [],a,_,_,_,_,_,_=>⟨a.seen,by simpa using Run.nil a⟩
 | q :: l,a,h,hs,hn,l1,l2,l3=>by
  rw [List.length_cons] at l1 l2 l3
  rw [List.map_cons,List.nodup_cons] at hn
  obtain ⟨s,hr⟩:=runO l ⟨a.keys ++ [q.1],a.ls ++ [q.2.1],q.1 :: a.seen⟩ (fun x hx=>h x (List.mem_cons_of_mem _ hx)) (fun x hx hm=>by
   rcases List.mem_cons.1 hm with e | hm
   ·exact hn.1 (List.mem_map.2 ⟨x,hx,e⟩)
   ·exact hs x (List.mem_cons_of_mem _ hx) hm) hn.2 (by simp; omega) (by simp; omega) (by simp; omega)
  refine ⟨s,?_⟩
  simp only [List.append_assoc] at hr
  have hq:=h q (List.mem_cons_self ..)
  exact Run.cons ⟨q.1,q.2.1,q.2.2,hq.1.1,hq.1.2,rfl,hs q (List.mem_cons_self ..),rfl,hq.2,by omega,by omega,by omega⟩ (by simpa using hr)
theorem mem_join : ∀ {ys : List (List UInt8)} {y : List UInt8},y ∈ ys → y.length ≤ (joinT ys).length
 | [x],y,h=>by (have e : y = x:=by simpa using h); rw [e]; exact Nat.le_refl _
 | x :: z :: r,y,h=>by
  simp only [joinT,List.length_append]
  rcases List.mem_cons.1 h with rfl | h
  ·omega
  ·have:=mem_join h; omega
theorem read_val : ∀ (n : Nat) (v : V) (x : List UInt8),Wf n v x → ∀ f,n < f → Reads (valM objM f) n v x
 | 0,v,x,h,0,hf=>absurd hf (Nat.lt_irrefl 0)
 | 0,v,x,h,f + 1,_=>leaf_reads objM f 0 h
 | n + 1,v,x,h,0,hf=>absurd hf (by omega)
 | n + 1,v,x,h,f + 1,hf=>by
  have hM:=fun v x hw=>read_val n v x hw f (by omega)
  rcases h with h | ⟨l,hl,rfl,rfl⟩ | ⟨l,hl,hnd,rfl,rfl⟩
  ·exact leaf_reads objM f _ h
  ·intro p pre rest hs hb hst
   have hfo : ∀ y ∈ l.map (·.2),FirstOk y:=fun y hy=>by
    obtain ⟨q,hq,rfl⟩:=List.mem_map.1 hy
    exact wf_first (hl q hq)
   have hjl:=join_len _ hfo
   have hsl:=hs.s
   have hlen : (l.map (·.2)).length ≤ p.s.length:=by rw [hsl]; simp only [List.length_append]; omega
   have hll : l.length ≤ p.s.length:=by simpa using hlen
   have hbs:=hb.s
   have hr:=runL l [] hl (by simp; omega)
   have hit:=items_read (o:=91) (.inl rfl) (oneL_reads hM) hr (f:=p.s.length + 2) (by omega) hfo hs hb
   rw [valM,show hI p = ((91 : UInt8).toNat : Int) from Sta.hb (r:=joinT (l.map (·.2)) ++ [93] ++ rest) (by simpa using hs),if_neg (by decide),if_pos (by decide)]
   unfold listM
   rw [if_pos ⟨by rw [show hI p = ((91 : UInt8).toNat : Int) from Sta.hb (r:=joinT (l.map (·.2)) ++ [93] ++ rest) (by simpa using hs)]; decide,hb.d0,by have:=hb.d; omega⟩,hit]; rfl
  ·intro p pre rest hs hb hst
   have hfo : ∀ y ∈ l.map (fun q=>quoT q.1 ++ [58] ++ q.2.2),FirstOk y:=fun y hy=>by
    obtain ⟨q,hq,rfl⟩:=List.mem_map.1 hy
    exact ⟨34,_,rfl,by decide,by decide,by decide,by decide⟩
   have hjl:=join_len _ hfo
   have hsl:=hs.s
   have hlen : (l.map (fun q=>quoT q.1 ++ [58] ++ q.2.2)).length ≤ p.s.length:=by rw [hsl]; simp only [List.length_append]; omega
   have hll : l.length ≤ p.s.length:=by simpa using hlen
   have hbs:=hb.s
   have hkl : ∀ q ∈ l,(Asc q.1 ∧ Wf n q.2.1 q.2.2) ∧ q.1.length ≤ 1000000000:=fun q hq=>by
    refine ⟨hl q hq,?_⟩
    have h1:=mem_join (List.mem_map.2 ⟨q,hq,rfl⟩ : (quoT q.1 ++ [58] ++ q.2.2) ∈ l.map (fun q=>quoT q.1 ++ [58] ++ q.2.2))
    have h2:=quo_ge q.1
    have h3:=quoT_len q.1
    have h4 : (joinT (l.map fun q=>quoT q.1 ++ [58] ++ q.2.2)).length ≤ p.s.length:=by rw [hsl]; simp only [List.length_append]; omega
    simp only [List.length_append] at h1
    omega
   obtain ⟨s,hr⟩:=runO l ⟨[],[],[]⟩ hkl (fun q _ hm=>by cases hm) hnd (by simp; omega) (by simp; omega) (by simp; omega)
   have hit:=items_read (o:=123) (.inr rfl) (oneO_reads hM) hr (f:=p.s.length + 2) (by omega) hfo hs hb
   have hI' : hI p = ((123 : UInt8).toNat : Int):=Sta.hb (r:=joinT (l.map fun q=>quoT q.1 ++ [58] ++ q.2.2) ++ [125] ++ rest) (by simpa using hs)
   rw [valM,hI',if_pos (by decide)]
   have hobj : objM (valM objM f) p = (itemsM (oneO (valM objM f)) 125 (p.s.length + 2) ⟨[],[],[]⟩ p).map fun r=>(jn 7 [] (r.1.keys.map V.str) r.1.ls,r.2):=if_pos ⟨by rw [hI']; decide,hb.d0,by have:=hb.d; omega⟩
   rw [hobj,hit]; rfl
end Go.Fbs

namespace Go.Fbs
open Go.Proofs Go.RowKit
def tailT (ys : List (List UInt8)) : List UInt8:=ys.flatMap (44 :: ·)
theorem join_cons : ∀ (y : List UInt8) (ys : List (List UInt8)),joinT (y :: ys) = y ++ tailT ys
 | y,[]=>by simp [joinT,tailT]
 | y,z :: ys=>by
  have:=join_cons z ys
  simp only [joinT,this,tailT,List.flatMap_cons,List.append_assoc,List.cons_append,List.nil_append]
theorem joinGo_tail {f : Nat → List UInt8 → Option (List UInt8)} {ys : List (List UInt8)} (hf : ∀ i m,(h : i < ys.length) → (m ++ ys[i]).length ≤ 200000 → f i m = some (m ++ ys[i])) : ∀ (r i : Nat) (m : List UInt8),0 < i → i + r = ys.length → (m ++ tailT (ys.drop i)).length ≤ 200000 → joinGo f r i m = some (m ++ tailT (ys.drop i))
 | 0,i,m,_,hi,_=>by rw [List.drop_of_length_le (by omega)]; simp [joinGo,tailT]
 | r + 1,i,m,h0,hi,hl=>by
  have hlt : i < ys.length:=by omega
  have e : tailT (ys.drop i) = 44 :: (ys[i] ++ tailT (ys.drop (i + 1))):=by unfold tailT; rw [List.drop_eq_getElem_cons hlt,List.flatMap_cons]; rfl
  rw [e] at hl ⊢
  simp only [List.length_append,List.length_cons] at hl
  rw [joinGo,if_pos (by omega),if_pos h0,hf i (m ++ [44]) hlt (by simp only [List.length_append,List.length_cons,List.length_nil]; omega)]
  dsimp only
  rw [joinGo_tail hf r (i + 1) _ (by omega) (by omega) (by simp only [List.length_append,List.length_cons,List.length_nil]; omega)]
  simp
theorem joM_all {f : Nat → List UInt8 → Option (List UInt8)} {ys : List (List UInt8)} (hf : ∀ i m,(h : i < ys.length) → (m ++ ys[i]).length ≤ 200000 → f i m = some (m ++ ys[i])) {x y : UInt8} {n : Nat} (hn : n = ys.length) (hn2 : n ≤ 1000000000) {l : List UInt8} (hl : (l ++ ([x] ++ joinT ys ++ [y])).length ≤ 200000) : joM f x y n l = some (l ++ ([x] ++ joinT ys ++ [y])):=by
 subst hn
 have hl2:=hl
 simp only [List.length_append,List.length_cons,List.length_nil] at hl2
 unfold joM
 rw [if_pos ⟨by omega,hn2⟩]
 unfold joinM
 have hgo : joinGo f ys.length 0 (l ++ [x]) = some (l ++ [x] ++ joinT ys):=by
  cases ys with
  | nil=>simp [joinGo,joinT]
  | cons z ys =>
   rw [join_cons] at hl2 ⊢
   simp only [List.length_append] at hl2
   rw [List.length_cons,joinGo,if_pos (by simp only [List.length_append,List.length_cons,List.length_nil]; omega),if_neg (Nat.lt_irrefl 0),hf 0 (l ++ [x]) (by simp) (by simp only [List.length_append,List.length_cons,List.length_nil,List.getElem_cons_zero]; omega)]
   dsimp only
   have:=joinGo_tail hf ys.length 1 (l ++ [x] ++ z) (by omega) (by simp; omega) (by simp only [List.length_append,List.length_cons,List.length_nil,List.drop_succ_cons,List.drop_zero]; omega)
   simp only [List.getElem_cons_zero] at this ⊢
   rw [this]; simp
 rw [hgo]
 dsimp only
 rw [if_pos (by simp only [List.length_append,List.length_cons,List.length_nil]; omega)]
 simp
theorem told_leaf (f : Nat) {v : V} {x l : List UInt8} (h : Leaf v x) (hl : (l ++ x).length ≤ 200000) : toldM (f + 1) l v = some (l ++ x):=by
 rw [List.length_append] at hl
 rcases h with ⟨rfl,rfl⟩ | ⟨rfl,rfl⟩ | ⟨rfl,rfl⟩ | ⟨hn,rfl⟩ | ⟨t,ha,rfl,rfl⟩
 ·rw [toldM_jn,if_neg (by omega)]; rfl
 ·rw [toldM_jn,if_neg (by omega)]; rfl
 ·rw [toldM_jn,if_neg (by omega)]; rfl
 ·rw [toldM_jn,if_neg (by omega),if_pos (by omega),if_neg (by decide),if_neg (by decide),if_neg (by decide),if_pos rfl]
 ·have h1:=quo_ge t
  have h2:=quoT_len t
  rw [toldM_jn,if_neg (by omega),if_pos (by omega),if_neg (by decide),if_neg (by decide),if_neg (by decide),if_neg (by decide),if_pos rfl]
theorem told_val : ∀ (n : Nat) (v : V) (x : List UInt8),Wf n v x → ∀ f,n < f → ∀ l,(l ++ x).length ≤ 200000 → toldM f l v = some (l ++ x)
 | 0,v,x,h,0,hf,_,_=>absurd hf (Nat.lt_irrefl 0)
 | 0,v,x,h,f + 1,_,l,hl=>told_leaf f h hl
 | n + 1,v,x,h,0,hf,_,_=>absurd hf (by omega)
 | n + 1,v,x,h,f + 1,hf,l,hl=>by
  have hM:=fun v x hw=>told_val n v x hw f (by omega)
  rcases h with h | ⟨q,hq,rfl,rfl⟩ | ⟨q,hq,hnd,rfl,rfl⟩
  ·exact told_leaf f h hl
  ·have hfo : ∀ y ∈ q.map (·.2),FirstOk y:=fun y hy=>by
    obtain ⟨z,hz,rfl⟩:=List.mem_map.1 hy
    exact wf_first (hq z hz)
   have hjl:=join_len _ hfo
   have hl2:=hl
   simp only [List.length_append,List.length_cons,List.length_nil,List.length_map] at hl2 hjl
   rw [toldM_jn,if_neg (by omega),if_pos (by simp),if_neg (by decide),if_neg (by decide),if_neg (by decide),if_neg (by decide),if_neg (by decide),if_pos rfl]
   refine joM_all (fun i m hi hm=>?_) (by simp) (by simp; omega) hl
   have hi' : i < q.length:=by simpa using hi
   simp only [List.getElem_map] at hm ⊢
   show ((q.map (·.1))[i]?).bind (toldM f m) = _
   rw [List.getElem?_map,List.getElem?_eq_getElem hi']
   exact hM _ _ (hq _ (List.getElem_mem hi')) m hm
  ·have hfo : ∀ y ∈ q.map (fun q=>quoT q.1 ++ [58] ++ q.2.2),FirstOk y:=fun y hy=>by
    obtain ⟨z,hz,rfl⟩:=List.mem_map.1 hy
    exact ⟨34,_,rfl,by decide,by decide,by decide,by decide⟩
   have hjl:=join_len _ hfo
   have hl2:=hl
   simp only [List.length_append,List.length_cons,List.length_nil,List.length_map] at hl2 hjl
   rw [toldM_jn,if_neg (by omega),if_pos (by simp),if_neg (by decide),if_neg (by decide),if_neg (by decide),if_neg (by decide),if_neg (by decide),if_neg (by decide),if_pos rfl]
   refine joM_all (fun i m hi hm=>?_) (by simp) (by simp; omega) hl
   have hi' : i < q.length:=by simpa using hi
   have hqi:=hq _ (List.getElem_mem hi')
   simp only [List.getElem_map] at hm ⊢
   have h1:=quo_ge q[i].1
   have h2:=quoT_len q[i].1
   have hm2:=hm
   simp only [List.length_append,List.length_cons,List.length_nil] at hm2
   show (match ((q.map (·.1)).map V.str)[i]?,(q.map (·.2.1))[i]? with
    | some (.str key),some e=>if m.length ≤ 500000000 ∧ key.length ≤ 50000000 ∧ (m ++ quoT key).length ≤ 500000000 then toldM f (m ++ quoT key ++ [58]) e else none
    | _,_=>none) = _
   rw [List.getElem?_map,List.getElem?_map,List.getElem?_map,List.getElem?_eq_getElem hi']
   dsimp only [Option.map_some]
   rw [if_pos ⟨by omega,by omega,by rw [List.length_append]; omega⟩,hM _ _ hqi.2 _ (by simp only [List.length_append,List.length_cons,List.length_nil]; omega)]
   simp
theorem deep_leaf2 (k : Int) (t : List UInt8) (n : Nat) : Deep (n + 1) (jn k t [] []):=⟨k,t,[],[],rfl,by decide,by decide,fun e h=>by cases h⟩
theorem wf_deep : ∀ (n : Nat) (v : V) (x : List UInt8),Wf n v x → x.length ≤ 200000 → Deep (n + 1) v
 | 0,v,x,h,_=>by
  rcases h with ⟨rfl,_⟩ | ⟨rfl,_⟩ | ⟨rfl,_⟩ | ⟨_,rfl⟩ | ⟨t,_,rfl,_⟩ <;> exact deep_leaf2 _ _ _
 | n + 1,v,x,h,hl=>by
  rcases h with h | ⟨q,hq,rfl,rfl⟩ | ⟨q,hq,hnd,rfl,rfl⟩
  ·rcases h with ⟨rfl,_⟩ | ⟨rfl,_⟩ | ⟨rfl,_⟩ | ⟨_,rfl⟩ | ⟨t,_,rfl,_⟩ <;> exact deep_leaf2 _ _ _
  ·have hfo : ∀ y ∈ q.map (·.2),FirstOk y:=fun y hy=>by
    obtain ⟨z,hz,rfl⟩:=List.mem_map.1 hy
    exact wf_first (hq z hz)
   have hjl:=join_len _ hfo
   simp only [List.length_append,List.length_cons,List.length_nil,List.length_map] at hl hjl
   refine ⟨6,[],[],_,rfl,by simp,by simp; omega,fun e he=>?_⟩
   obtain ⟨z,hz,rfl⟩:=List.mem_map.1 he
   exact wf_deep n _ _ (hq z hz) (by have:=mem_join (List.mem_map.2 ⟨z,hz,rfl⟩ : z.2 ∈ q.map (·.2)); omega)
  ·have hfo : ∀ y ∈ q.map (fun q=>quoT q.1 ++ [58] ++ q.2.2),FirstOk y:=fun y hy=>by
    obtain ⟨z,hz,rfl⟩:=List.mem_map.1 hy
    exact ⟨34,_,rfl,by decide,by decide,by decide,by decide⟩
   have hjl:=join_len _ hfo
   simp only [List.length_append,List.length_cons,List.length_nil,List.length_map] at hl hjl
   refine ⟨7,[],_,_,rfl,by simp; omega,by simp; omega,fun e he=>?_⟩
   obtain ⟨z,hz,rfl⟩:=List.mem_map.1 he
   exact wf_deep n _ _ (hq z hz).2 (by have:=mem_join (List.mem_map.2 ⟨z,hz,rfl⟩ : (quoT z.1 ++ [58] ++ z.2.2) ∈ q.map (fun q=>quoT q.1 ++ [58] ++ q.2.2)); simp only [List.length_append] at this; omega)
theorem parse_wf {n N : Nat} {v : V} {x b1 b2 : List UInt8} (h : Wf n v x) (hn : n ≤ 20) (hN : n ≤ N) (h1 : ∀ b ∈ b1,blankL.contains b = true) (h2 : ∀ b ∈ b2,blankL.contains b = true) (hl : (b1 ++ x ++ b2).length ≤ 200000) : F_Parse objM N [.str (b1 ++ x ++ b2)] = some (.tup [v,.int .i64 0,.int .i64 0]):=by
 have hp : parseM objM (N + 1) (b1 ++ x ++ b2) = some (v,0,0):=by
  obtain ⟨s,hs⟩ : ∃ s,s = b1 ++ x ++ b2:=⟨_,rfl⟩
  rw [← hs] at hl ⊢
  have s0 : Sta ⟨s,0,0,0,0⟩ [] (b1 ++ (x ++ b2)):=⟨by rw [hs]; simp,rfl,rfl⟩
  have hsk:=s0.skip h1 (wf_first h).skip
  have s1 : Sta (mv ⟨s,0,0,0,0⟩ b1.length) b1 (x ++ b2):=s0.go
  have hb : Bd n (mv ⟨s,0,0,0,0⟩ b1.length):=⟨hl,Int.le_refl 0,by show (0 : Int) + n ≤ 20; omega⟩
  have hst : Stop b2:=fun b r e=>by
   have hm:=h2 b (by rw [e]; exact List.mem_cons_self ..)
   have : b ∈ blankL:=by simpa using hm
   simp only [blankL,List.mem_cons,List.not_mem_nil,or_false] at this
   rcases this with rfl | rfl | rfl | rfl <;> exact ⟨by decide,by decide,by decide,by decide⟩
  have hv:=read_val n v x h (N + 1) (by omega) _ _ _ s1 hb hst
  have s2 : Sta (mv (mv ⟨s,0,0,0,0⟩ b1.length) x.length) (b1 ++ x) (b2 ++ []):=by rw [List.append_nil]; exact s1.go
  have hsk2:=s2.skip h2 (fun b r e=>by cases e)
  unfold parseM
  rw [if_neg (by omega),hsk,hv]
  dsimp only
  have he : endM s (mv (mv ⟨s,0,0,0,0⟩ b1.length) x.length) = mv (mv (mv ⟨s,0,0,0,0⟩ b1.length) x.length) b2.length:=by
   unfold endM
   rw [if_pos s2.e,hsk2,if_neg]
   show ¬ ((0 : Int) + b1.length + x.length + b2.length < s.length)
   rw [hs]; simp only [List.length_append]; omega
  rw [he,if_pos]
  exact s2.e
 show (parseM objM (N + 1) (b1 ++ x ++ b2)).map _ = _
 rw [hp]; rfl
theorem text_wf {n N : Nat} {v : V} {x : List UInt8} (h : Wf n v x) (hn : n ≤ 20) (hN : n < N) (hl : x.length ≤ 200000) : F_json_Text N N [v] = some (.tup [.str x,.bool true]):=by
 have h1:=told_val n v x h 21 (by omega) [] (by simpa using hl)
 have h2:=parse_wf (b1:=[]) (b2:=[]) (N:=N) h hn (by omega) (fun b hb=>by cases hb) (fun b hb=>by cases hb) (by simpa using hl)
 rw [List.nil_append] at h1
 rw [List.nil_append,List.append_nil] at h2
 exact F_Text_at h1 h2 ((wf_deep n v x h hl).mono (by omega))
end Go.Fbs

namespace Go.Fbs
open Go.Proofs Go.RowKit
theorem andM (a : Int) {j : Nat} (hj : j < 63) {c : Int} (hc : c = ((2 ^ j - 1 : Nat) : Int)) {m : Nat} (hm : m = 2 ^ j) : binK .and (.int .i64 a) (.int .i64 c) = some (.int .i64 ((a % (m : Int)).toNat : Nat)):=by
 subst hc hm
 rw [bAndMask hj,Int.toNat_of_nonneg (Int.emod_nonneg a (by have:=Nat.two_pow_pos j; omega))]
theorem shrM {a : Int} {b : Nat} (hb : b ≤ 64) : binK .shr (.int .i64 a) (.int .u64 b) = some (.int .i64 (a.fdiv (2 ^ b))):=by
 have e : min (b : Int).toNat IntKind.i64.bits = b:=by
  show min (b : Int).toNat 64 = b
  rw [Int.toNat_natCast]; omega
 have e2 : min b IntKind.i64.bits = b:=by rw [Int.toNat_natCast] at e; exact e
 simp [binK,shiftBin,e2]
theorem catS {a b : List UInt8} (h : a.length + b.length ≤ 1000000) : binK .add (.str a) (.str b) = some (.str (a ++ b)):=by
 show (if ((a.length + b.length : Nat) : Int) ≤ 9223372036854775807 then some (V.str (a ++ b)) else none) = _
 rw [if_pos (by omega)]
end Go.Fbs

namespace Go.Fbs
open Go.Proofs Go.RowKit
theorem Sta.of {p : PSt} (h : Dom p) (he : p.e = 0) : Sta p (p.s.take p.a.toNat) (p.s.drop p.a.toNat):=by
 obtain ⟨_,h2,h3⟩:=h
 refine ⟨(List.take_append_drop _ _).symm,?_,he⟩
 rw [List.length_take]; omega
theorem fail_e {p : PSt} {x y : Int} (hy : y ≠ 0) : (failM p x y).e ≠ 0:=by
 unfold failM
 split
 ·exact hy
 ·assumption
theorem Sta.here_rest {p : PSt} {pre rest : List UInt8} {c : UInt8} (h : Sta p pre rest) (hc : c ≠ 0) (hI' : hI p = c.toNat) : ∃ r,rest = c :: r:=by
 cases rest with
 | nil=>rw [h.hb_nil] at hI'; exact absurd (UInt8.toNat_inj.1 (by simpa using hI'.symm)) hc
 | cons b r=>rw [h.hb] at hI'; exact ⟨r,by rw [toNat_inj hI']⟩
theorem dropWhile_split (f : UInt8 → Bool) : ∀ l : List UInt8,∃ x : List UInt8,l = x ++ l.dropWhile f ∧ (∀ b ∈ x,f b = true) ∧ ∀ b r,l.dropWhile f = b :: r → f b = false
 | []=>⟨[],rfl,fun b h=>(by cases h),fun b r h=>(by cases h)⟩
 | c :: l=>by
  by_cases hc : f c = true
  ·obtain ⟨x,h1,h2,h3⟩:=dropWhile_split f l
   rw [List.dropWhile_cons,if_pos hc]
   refine ⟨c :: x,by rw [List.cons_append,← h1],fun b hb=>?_,h3⟩
   rcases List.mem_cons.1 hb with rfl | hb
   ·exact hc
   ·exact h2 b hb
  ·rw [List.dropWhile_cons,if_neg hc]
   refine ⟨[],rfl,fun b h=>(by cases h),fun b r e=>?_⟩
   cases e
   exact Bool.eq_false_iff.2 hc
theorem Sta.run_inv {p : PSt} {pre rest : List UInt8} (h : Sta p pre rest) (he : (runM p).e = 0) : ∃ x r,rest = x ++ r ∧ Digs x ∧ runM p = mv p x.length:=by
 obtain ⟨x,h1,h2,h3⟩:=dropWhile_split (fun b=>digitL.contains b) rest
 by_cases hx : x = []
 ·rw [hx,List.nil_append] at h1
  refine absurd he ?_
  have e : endT p.s p.a digitL = p.a:=by
   rw [h.end_]
   unfold trimT
   rw [← h1]; omega
  unfold runM
  rw [if_pos e]
  exact fail_e (by decide)
 ·rw [h1] at h
  exact ⟨x,_,h1,⟨hx,h2⟩,h.run hx h2 h3⟩
theorem num1_inv {p : PSt} {pre rest : List UInt8} (h : Sta p pre rest) : ∃ x r,rest = x ++ r ∧ (x = [] ∨ x = [45]) ∧ num1 p = mv p x.length:=by
 unfold num1
 split
 ·rename_i hc
  obtain ⟨r,rfl⟩:=h.here_rest (c:=45) (by decide) hc
  exact ⟨[45],r,rfl,.inr rfl,rfl⟩
 ·exact ⟨[],rest,rfl,.inl rfl,(mv_zero p).symm⟩
theorem num2_inv {p : PSt} {pre rest : List UInt8} (h : Sta p pre rest) (he : (num2 p).e = 0) : ∃ x r,rest = x ++ r ∧ (x = [48] ∨ (Digs x ∧ ∀ r,x ≠ 48 :: r)) ∧ num2 p = mv p x.length:=by
 unfold num2 at he ⊢
 split
 ·rename_i hc
  obtain ⟨r,rfl⟩:=h.here_rest (c:=48) (by decide) hc
  exact ⟨[48],r,rfl,.inl rfl,rfl⟩
 ·rename_i hc
  rw [if_neg hc] at he
  obtain ⟨x,r,rfl,hd,e⟩:=h.run_inv he
  refine ⟨x,r,rfl,.inr ⟨hd,fun r' hr=>hc ?_⟩,e⟩
  subst hr
  exact Sta.hb (r:=r' ++ r) h
theorem num5_inv {p : PSt} {pre rest : List UInt8} (h : Sta p pre rest) : ∃ x r,rest = x ++ r ∧ (x = [] ∨ x = [43] ∨ x = [45]) ∧ num5 p = mv p x.length:=by
 unfold num5
 split
 ·rename_i hc
  rcases hc with hc | hc
  ·obtain ⟨r,rfl⟩:=h.here_rest (c:=43) (by decide) hc
   exact ⟨[43],r,rfl,.inr (.inl rfl),rfl⟩
  ·obtain ⟨r,rfl⟩:=h.here_rest (c:=45) (by decide) hc
   exact ⟨[45],r,rfl,.inr (.inr rfl),rfl⟩
 ·exact ⟨[],rest,rfl,.inl rfl,(mv_zero p).symm⟩
theorem num3_inv {p : PSt} {pre rest : List UInt8} (h : Sta p pre rest) (he : (num3 p).e = 0) : ∃ x r,rest = x ++ r ∧ (x = [] ∨ ∃ d,x = 46 :: d ∧ Digs d) ∧ num3 p = mv p x.length:=by
 unfold num3 at he ⊢
 split
 ·rename_i hc
  rw [if_pos hc] at he
  obtain ⟨r,rfl⟩:=h.here_rest (c:=46) (by decide) hc.2
  have h2 : Sta (advM p) (pre ++ [46]) r:=by rw [adv_mv]; exact Sta.go (x:=[46]) h
  obtain ⟨d,r2,rfl,hd,e⟩:=h2.run_inv he
  refine ⟨46 :: d,r2,rfl,.inr ⟨d,rfl,hd⟩,?_⟩
  rw [e,adv_mv,mv_mv,List.length_cons,Nat.add_comm]
 ·exact ⟨[],rest,rfl,.inl rfl,(mv_zero p).symm⟩
theorem num4_inv {p : PSt} {pre rest : List UInt8} (h : Sta p pre rest) (he : (num4 p).e = 0) : ∃ x r,rest = x ++ r ∧ (x = [] ∨ ∃ c sg2 d,x = c :: (sg2 ++ d) ∧ (c = 101 ∨ c = 69) ∧ (sg2 = [] ∨ sg2 = [43] ∨ sg2 = [45]) ∧ Digs d) ∧ num4 p = mv p x.length:=by
 unfold num4 at he ⊢
 split
 ·rename_i hc
  rw [if_pos hc] at he
  obtain ⟨c,hcc,r,rfl⟩ : ∃ c : UInt8,(c = 101 ∨ c = 69) ∧ ∃ r,rest = c :: r:=by
   rcases hc.2 with hc | hc
   ·obtain ⟨r,rfl⟩:=h.here_rest (c:=101) (by decide) hc
    exact ⟨101,.inl rfl,r,rfl⟩
   ·obtain ⟨r,rfl⟩:=h.here_rest (c:=69) (by decide) hc
    exact ⟨69,.inr rfl,r,rfl⟩
  have h2 : Sta (advM p) (pre ++ [c]) r:=by rw [adv_mv]; exact Sta.go (x:=[c]) h
  obtain ⟨sg,r2,rfl,hsg,e5⟩:=num5_inv h2
  have h3 : Sta (num5 (advM p)) (pre ++ [c] ++ sg) r2:=by rw [e5]; exact h2.go
  obtain ⟨d,r3,rfl,hd,e⟩:=h3.run_inv he
  refine ⟨c :: (sg ++ d),r3,by simp,.inr ⟨c,sg,d,rfl,hcc,hsg,hd⟩,?_⟩
  rw [e,e5,adv_mv,mv_mv,mv_mv]
  congr 1
  rw [List.length_cons,List.length_append]; omega
 ·exact ⟨[],rest,rfl,.inl rfl,(mv_zero p).symm⟩
theorem num_inv {p : PSt} {pre rest : List UInt8} (h : Sta p pre rest) (he : (numberM p).e = 0) : NumS (numT p) ∧ numberM p = mv p (numT p).length:=by
 have he4 : (num4 (num3 (num2 (num1 p)))).e = 0:=he
 have he3 : (num3 (num2 (num1 p))).e = 0:=by
  unfold num4 at he4
  split at he4
  ·rename_i hc; exact hc.1
  ·exact he4
 have he2 : (num2 (num1 p)).e = 0:=by
  unfold num3 at he3
  split at he3
  ·rename_i hc; exact hc.1
  ·exact he3
 obtain ⟨sg,r1,rfl,hsg,e1⟩:=num1_inv h
 have h1:=h.go
 rw [← e1] at h1
 obtain ⟨i,r2,rfl,hi,e2⟩:=num2_inv h1 he2
 have h2:=h1.go
 rw [← e2] at h2
 obtain ⟨f,r3,rfl,hf,e3⟩:=num3_inv h2 he3
 have h3:=h2.go
 rw [← e3] at h3
 obtain ⟨x,r4,rfl,hx,e4⟩:=num4_inv h3 he4
 have hfin : numberM p = mv p (sg ++ (i ++ (f ++ x))).length:=by
  show num4 (num3 (num2 (num1 p))) = _
  rw [e4,e3,e2,e1,mv_mv,mv_mv,mv_mv]
  congr 1
  simp only [List.length_append] <;> omega
 have hT : numT p = sg ++ (i ++ (f ++ x)):=by
  unfold numT
  rw [hfin]
  show (p.s.take (p.a + ((sg ++ (i ++ (f ++ x))).length : Int)).toNat).drop p.a.toNat = _
  have hs : p.s = pre ++ ((sg ++ (i ++ (f ++ x))) ++ r4):=by rw [h.s]; simp
  rw [hs,h.a]
  have ea : ((pre.length : Int) + ((sg ++ (i ++ (f ++ x))).length : Int)).toNat = pre.length + (sg ++ (i ++ (f ++ x))).length:=by omega
  rw [ea,Int.toNat_natCast]
  generalize sg ++ (i ++ (f ++ x)) = y
  rw [← List.append_assoc,← List.length_append,List.take_left' rfl,List.drop_left' rfl]
 rw [hT]
 exact ⟨⟨sg,i,f,x,rfl,hsg,hi,hf,hx⟩,hfin⟩
theorem need_inv {p : PSt} {c : UInt8} (h : (needM p c).1 = true) : hereM p = c ∧ p.e = 0 ∧ needM p c = (true,mv p 1):=by
 unfold needM at h ⊢
 split at h
 ·cases h
 ·rename_i hc
  rw [if_neg hc]
  simp only [not_or,Decidable.not_not] at hc
  exact ⟨hc.2,hc.1,rfl⟩
theorem need_not {p : PSt} {c : UInt8} (h : ¬ (needM p c).1 = true) : (needM p c).2.e ≠ 0:=by
 unfold needM at h ⊢
 split
 ·exact fail_e (by decide)
 ·rename_i hc
  rw [if_neg hc] at h
  exact absurd rfl h
theorem word_inv : ∀ {t : List UInt8} {p : PSt},(wordM t p).e = 0 → (wordM t p).a = p.a + t.length
 | [],p,_=>(Int.add_zero _).symm
 | c :: t,p,h=>by
  rw [wordM] at h ⊢
  by_cases hc : (needM p c).1 = true
  ·rw [if_pos hc] at h ⊢
   rw [word_inv h,(need_inv hc).2.2]
   show p.a + 1 + (t.length : Int) = p.a + ((t.length + 1 : Nat) : Int)
   omega
  ·rw [if_neg hc] at h
   exact absurd h (need_not hc)
theorem short_asc {c x : UInt8} (h : shortM c = some x) : x.toNat < 128:=by
 unfold shortM at h
 repeat' split at h
 all_goals first | cases h; decide | cases h
theorem esc_asc {l : List UInt8} : ∃ r,escM l = some r ∧ (r.2 ≠ 0 → 2 ≤ r.2 ∧ r.1.toNat < 128):=by
 unfold escM
 split
 ·exact ⟨_,rfl,fun h=>absurd rfl h⟩
 ·split
  ·rename_i x hx
   exact ⟨_,rfl,fun _=>⟨Nat.le_refl 2,short_asc hx⟩⟩
  ·split
   ·exact ⟨_,rfl,fun h=>absurd rfl h⟩
   ·split
    ·split
     ·exact ⟨_,rfl,fun h=>absurd rfl h⟩
     ·rename_i h127
      refine ⟨_,rfl,fun _=>⟨by show 2 ≤ 6; decide,?_⟩⟩
      show (Nat.toUInt8 _).toNat < 128
      rw [Nat.toUInt8,UInt8.toNat_ofNat']
      omega
    ·exact ⟨_,rfl,fun h=>absurd rfl h⟩
theorem quo_le (c : UInt8) : (quoB c).length ≤ 6:=by unfold quoB; split; simp; split <;> simp
theorem textL_tot : ∀ (n : Nat) (out : List UInt8) (p : PSt),Dom p → p.s.length ≤ 100000000 → (out.length : Int) ≤ p.a → 1 ≤ n → (p.e = 0 → (p.s.length : Int) - p.a + 2 ≤ n) →
  ∃ t q,textL n out p = some (t,q) ∧ Ahead p q ∧ (t.length : Int) ≤ q.a ∧ (q.e = 0 → p.a < q.a ∧ ∃ t',t = out ++ t' ∧ Asc t' ∧ ((t'.flatMap quoB).length : Int) + 1 ≤ 6 * (q.a - p.a))
 | 0,_,_,_,_,_,h,_=>absurd h (by decide)
 | n + 1,out,p,hd,hs,ho,_,hn=>by
  rw [textL]
  by_cases he : p.e = 0
  ·rw [if_pos he]
   have hn':=hn he
   by_cases h34 : hI p = 34
   ·rw [if_pos h34]
    refine ⟨_,_,rfl,adv_ahead hd (by rw [h34]; decide),by show (out.length : Int) ≤ p.a + 1; omega,fun _=>⟨by show p.a < p.a + 1; omega,[],(List.append_nil _).symm,fun c h=>(by cases h),?_⟩⟩
    show (0 : Int) + 1 ≤ 6 * (p.a + 1 - p.a)
    omega
   ·rw [if_neg h34]
    have hoo : out.length ≤ 1000000000:=by have:=hd.2.2; omega
    by_cases h92 : hI p = 92
    ·rw [if_pos h92]
     obtain ⟨r,hr,hra⟩:=esc_asc (l:=p.s.drop p.a.toNat)
     have hah:=escQ_ahead hd hr
     have hlt:=hI_lt hd (by rw [h92]; decide)
     rw [hr]
     dsimp only
     rw [if_pos hoo]
     by_cases h0 : r.2 = 0
     ·have hqe : (escQ p r.2).e ≠ 0:=by
       unfold escQ
       rw [if_pos h0]
       exact fail_e (by decide)
      match n,hn' with
      | 0,hn'=>exact absurd hn' (by omega)
      | n + 1,hn' =>
       rw [textL,if_neg hqe]
       exact ⟨_,_,rfl,hah,by have:=hah.dom.2.1; simpa using this,fun h=>absurd h hqe⟩
     ·obtain ⟨hr2,hr1⟩:=hra h0
      have hqa : (escQ p r.2).a = p.a + r.2:=by unfold escQ; rfl
      have hqs : (escQ p r.2).s = p.s:=hah.s
      obtain ⟨t,q,h1,h2,h9,h3⟩:=textL_tot n (out ++ [r.1]) (escQ p r.2) hah.dom (by rw [hqs]; exact hs) (by rw [hqa,List.length_append,List.length_singleton]; omega) (by omega) (fun _=>by rw [hqs,hqa]; omega)
      refine ⟨t,q,h1,hah.trans h2,h9,fun hq=>?_⟩
      obtain ⟨ha,t',rfl,hasc,hl⟩:=h3 hq
      rw [hqa] at ha hl
      refine ⟨by omega,r.1 :: t',by simp,fun c hc=>?_,?_⟩
      ·rcases List.mem_cons.1 hc with rfl | hc
       ·exact hr1
       ·exact hasc c hc
      ·rw [List.flatMap_cons,List.length_append]
       have:=quo_le r.1
       omega
    ·rw [if_neg h92]
     by_cases hb : hI p < 32 ∨ 126 < hI p
     ·rw [if_pos hb]
      have hah:=fail_ahead hd p.a 9
      have hqe : (failM p p.a 9).e ≠ 0:=fail_e (by decide)
      match n,hn' with
      | 0,hn'=>exact absurd hn' (by have:=hd.2.2; omega)
      | n + 1,hn' =>
       rw [textL,if_neg hqe]
       exact ⟨_,_,rfl,hah,by have:=hah.dom.2.1; simpa using this,fun h=>absurd h hqe⟩
     ·rw [if_neg hb,if_pos hoo]
      have hb1 : ¬ hI p < 32:=fun h=>hb (.inl h)
      have hb2 : ¬ 126 < hI p:=fun h=>hb (.inr h)
      have hah:=adv_ahead hd (by omega)
      have hlt:=hI_lt hd (by omega)
      have hqa : (advM p).a = p.a + 1:=rfl
      have hqs : (advM p).s = p.s:=rfl
      obtain ⟨t,q,h1,h2,h9,h3⟩:=textL_tot n (out ++ [hereM p]) (advM p) hah.dom (by rw [hqs]; exact hs) (by rw [hqa,List.length_append,List.length_singleton]; omega) (by omega) (fun _=>by rw [hqs,hqa]; omega)
      refine ⟨t,q,h1,hah.trans h2,h9,fun hq=>?_⟩
      obtain ⟨ha,t',rfl,hasc,hl⟩:=h3 hq
      rw [hqa] at ha hl
      refine ⟨by omega,hereM p :: t',by simp,fun c hc=>?_,?_⟩
      ·rcases List.mem_cons.1 hc with rfl | hc
       ·unfold hI at hb2; omega
       ·exact hasc c hc
      ·rw [List.flatMap_cons,List.length_append]
       have:=quo_le (hereM p)
       omega
  ·rw [if_neg he]
   exact ⟨_,_,rfl,same_ahead hd,by have:=hd.2.1; simpa using this,fun h=>absurd h he⟩
theorem textM_tot {p : PSt} (hd : Dom p) (hs : p.s.length ≤ 100000000) : ∃ t q,textM p = some (t,q) ∧ Ahead p q ∧ (t.length : Int) ≤ q.a ∧ (q.e = 0 → p.a < q.a ∧ Asc t ∧ (t.length : Int) ≤ 6 * p.s.length ∧ ((quoT t).length : Int) ≤ 6 * (q.a - p.a)):=by
 have hah:=need_ahead hd 34 (by decide)
 unfold textM
 by_cases hc : (needM p 34).1 = true
 ·rw [if_pos hc]
  obtain ⟨hh,he,e⟩:=need_inv hc
  have e2 : (needM p 34).2 = mv p 1:=by rw [e]
  rw [e2] at hah ⊢
  have hqa : (mv p 1).a = p.a + 1:=rfl
  have hqs : (mv p 1).s = p.s:=rfl
  obtain ⟨t,q,h1,h2,h9,h3⟩:=textL_tot (p.s.length + 2) [] (mv p 1) hah.dom hs (by rw [hqa]; have:=hd.2.1; simp; omega) (by omega) (fun _=>by rw [hqs,hqa]; have:=hd.2.1; omega)
  refine ⟨t,q,h1,hah.trans h2,h9,fun hq=>?_⟩
  obtain ⟨ha,t',ht,hasc,hl⟩:=h3 hq
  rw [hqa] at ha hl
  rw [List.nil_append] at ht
  subst ht
  have hg:=quo_ge t
  have hqd:=h2.dom.2.2
  have hqs2 : q.s = p.s:=h2.s
  rw [hqs2] at hqd
  have:=hd.2.1
  refine ⟨by omega,hasc,by omega,?_⟩
  rw [quoT_len]; omega
 ·rw [if_neg hc]
  exact ⟨_,_,rfl,hah,by have:=hah.dom.2.1; simpa using this,fun h=>absurd h (need_not hc)⟩
end Go.Fbs

namespace Go.Fbs
open Go.Proofs Go.RowKit
structure Plc (n : Nat) (p : PSt) : Prop where
 dom : Dom p
 s : p.s.length ≤ 100000000
 e : p.e = 0
 d0 : 0 ≤ p.d
 d : p.d + n = 20
theorem Plc.ahead {n : Nat} {p q : PSt} (h : Plc n p) (k : Ahead p q) (he : q.e = 0) : Plc n q:=⟨k.dom,by rw [k.s]; exact h.s,he,by rw [k.d]; exact h.d0,by rw [k.d]; exact h.d⟩
def Rng {A : Type} (Z : A → Int → Prop) : Prop:=∀ a i j,Z a i → i ≤ j → Z a j
def OneTot {A : Type} (one : A → PSt → Option (A × PSt)) (n : Nat) (Z : A → Int → Prop) (S : A → List UInt8 → A → Prop) : Prop :=
 ∀ acc p,Plc n p → Z acc p.a → ∃ acc' q,one acc p = some (acc',q) ∧ Ahead p q ∧ (q.e = 0 → p.a < q.a ∧ Z acc' q.a ∧ ∃ y,S acc y acc' ∧ (y.length : Int) ≤ 6 * (q.a - p.a))
theorem skipA {p : PSt} (h : Dom p) : Ahead p (skipM p):=⟨skip_dom h,rfl,rfl,(endT_range blankL h.2.1 h.2.2).1⟩
theorem join_snoc (y : List UInt8) {ys : List (List UInt8)} (h : ys ≠ []) : joinT (y :: ys) = y ++ [44] ++ joinT ys:=by
 cases ys with
 | nil=>exact absurd rfl h
 | cons z r=>rfl
theorem moreM_tot {A : Type} {one : A → PSt → Option (A × PSt)} {n : Nat} {Z : A → Int → Prop} {S : A → List UInt8 → A → Prop} {c : UInt8} (hc : c ≠ 0) (hZ : Rng Z) (ho : OneTot one n Z S) : ∀ (f : Nat) (acc : A) (p : PSt),Plc n p → Z acc p.a → (p.s.length : Int) - p.a < f →
  ∃ acc' q,moreM one c f acc p = some (acc',q) ∧ Ahead p q ∧ (q.e = 0 → ∃ ys,ys ≠ [] ∧ Run S ys acc acc' ∧ ((joinT ys).length : Int) + 1 ≤ 6 * (q.a - p.a))
 | 0,_,p,h,_,hf=>absurd hf (by have:=h.dom.2.2; omega)
 | f + 1,acc,p,h,hz,hf=>by
  have k1:=skipA h.dom
  have h1:=h.ahead k1 (show (skipM p).e = 0 from h.e)
  obtain ⟨acc',p2,e2,k2,r2⟩:=ho acc (skipM p) h1 (hZ _ _ _ hz k1.a)
  have k3:=skipA k2.dom
  have k13:=(k1.trans k2).trans k3
  rw [moreM,if_neg (by simp [h.e]),e2]
  dsimp only
  by_cases he : (skipM p2).e = 0
  ·rw [if_neg (by simp [he])]
   obtain ⟨q1,q2,y,q3,q4⟩:=r2 he
   have b1:=k1.a
   have b3:=k3.a
   by_cases hh : hereM (skipM p2) = 44
   ·rw [if_neg (by simp [hh])]
    have k4 : Ahead (skipM p2) { skipM p2 with a:=(skipM p2).a + 1 }:=adv_ahead k3.dom (by unfold hI; rw [hh]; decide)
    have h4:=h.ahead (k13.trans k4) he
    have hs4 : ({ skipM p2 with a:=(skipM p2).a + 1 } : PSt).s.length = p.s.length:=by rw [(k13.trans k4).s]
    have ha4 : ({ skipM p2 with a:=(skipM p2).a + 1 } : PSt).a = (skipM p2).a + 1:=rfl
    obtain ⟨acc2,q,m1,m2,m3⟩:=moreM_tot hc hZ ho f acc' { skipM p2 with a:=(skipM p2).a + 1 } h4 (hZ _ _ _ q2 (by rw [ha4]; omega)) (by rw [hs4,ha4]; omega)
    refine ⟨acc2,q,m1,(k13.trans k4).trans m2,fun hq=>?_⟩
    obtain ⟨ys,y1,y2,y3⟩:=m3 hq
    refine ⟨y :: ys,by simp,.cons q3 y2,?_⟩
    rw [join_snoc y y1]
    simp only [List.length_append,List.length_cons,List.length_nil]
    rw [ha4] at y3
    omega
   ·rw [if_pos hh]
    have k4:=need_ahead k3.dom c hc
    refine ⟨acc',_,rfl,k13.trans k4,fun hq=>?_⟩
    by_cases hn : (needM (skipM p2) c).1 = true
    ·refine ⟨[y],by simp,.cons q3 (.nil _),?_⟩
     rw [(need_inv hn).2.2]
     show (y.length : Int) + 1 ≤ 6 * ((skipM p2).a + 1 - p.a)
     omega
    ·exact absurd hq (need_not hn)
  ·rw [if_pos he]
   exact ⟨_,_,rfl,k13,fun h=>absurd h he⟩
theorem itemsM_tot {A : Type} {one : A → PSt → Option (A × PSt)} {n : Nat} {Z : A → Int → Prop} {S : Nat → A → List UInt8 → A → Prop} {c : UInt8} (hc : c ≠ 0) (hZ : Rng Z) (ho : ∀ m,n = m + 1 → OneTot one m Z (S m)) {acc : A} {p : PSt} (h : Plc n p) (hh : hereM p ≠ 0) (hz : Z acc p.a) :
  ∃ acc' q,itemsM one c (p.s.length + 2) acc p = some (acc',q) ∧ Ahead p q ∧ (q.e = 0 → p.a < q.a ∧ ∃ ys m,n = m + 1 ∧ Run (S m) ys acc acc' ∧ ((joinT ys).length : Int) + 2 ≤ 6 * (q.a - p.a)):=by
 unfold itemsM
 by_cases hd : p.d = 20
 ·rw [if_pos hd]
  exact ⟨_,_,rfl,fail_ahead h.dom _ _,fun hq=>absurd hq (fail_e (by decide))⟩
 ·rw [if_neg hd]
  have hnd:=h.d
  obtain ⟨m,hm⟩ : ∃ m,n = m + 1:=⟨n - 1,by omega⟩
  have hlt:=here_lt h.dom hh
  have d0 : Dom ({ p with d:=p.d + 1,a:=p.a + 1 } : PSt):=⟨h.dom.1,by show 0 ≤ p.a + 1; have:=h.dom.2.1; omega,by show p.a + 1 ≤ (p.s.length : Int); omega⟩
  have k1:=skipA d0
  have a0 : Plc m ({ p with d:=p.d + 1,a:=p.a + 1 } : PSt):=⟨d0,h.s,h.e,by show 0 ≤ p.d + 1; have:=h.d0; omega,by show p.d + 1 + (m : Int) = 20; omega⟩
  have a1:=a0.ahead k1 h.e
  have b1 : p.a + 1 ≤ (skipM { p with d:=p.d + 1,a:=p.a + 1 }).a:=k1.a
  have s1 : (skipM { p with d:=p.d + 1,a:=p.a + 1 }).s = p.s:=k1.s
  have e1 : (skipM { p with d:=p.d + 1,a:=p.a + 1 }).d = p.d + 1:=k1.d
  generalize skipM { p with d:=p.d + 1,a:=p.a + 1 } = p1 at *
  dsimp only
  by_cases hcc : hereM p1 = c
  ·rw [if_pos hcc]
   have k2:=adv_ahead a1.dom (by unfold hI; rw [hcc]; intro h0; exact hc (UInt8.toNat_inj.1 (by simpa using h0)))
   refine ⟨acc,_,rfl,⟨k2.dom,s1,by show p1.d - 1 = p.d; omega,by show p.a ≤ p1.a + 1; omega⟩,fun _=>⟨by show p.a < p1.a + 1; omega,[],m,hm,.nil _,?_⟩⟩
   show (0 : Int) + 2 ≤ 6 * (p1.a + 1 - p.a)
   omega
  ·rw [if_neg hcc]
   obtain ⟨acc',q,m1,m2,m3⟩:=moreM_tot hc hZ (ho m hm) (p.s.length + 2) acc p1 a1 (hZ _ _ _ hz (by omega)) (by rw [s1]; have:=a1.dom.2.1; omega)
   rw [m1]
   have b2:=m2.a
   refine ⟨acc',_,rfl,⟨m2.dom,m2.s.trans s1,by show q.d - 1 = p.d; rw [m2.d]; omega,by show p.a ≤ q.a; omega⟩,fun hq=>?_⟩
   obtain ⟨ys,y1,y2,y3⟩:=m3 hq
   exact ⟨by show p.a < q.a; omega,ys,m,hm,y2,by show _ ≤ 6 * (q.a - p.a); omega⟩
theorem runL_inv {n : Nat} : ∀ {ys : List (List UInt8)} {a b : List V},Run (StpL n) ys a b → ∃ l : List (V × List UInt8),(∀ q ∈ l,Wf n q.1 q.2) ∧ b = a ++ l.map (·.1) ∧ ys = l.map (·.2)
 | _,_,_,.nil a=>⟨[],fun q h=>(by cases h),(List.append_nil _).symm,rfl⟩
 | _,_,_,.cons (y:=y) ⟨v,hw,hb,_⟩ r=>by
  obtain ⟨l,h1,h2,h3⟩:=runL_inv r
  refine ⟨(v,y) :: l,fun q hq=>?_,by rw [h2,hb]; simp,by rw [h3]; rfl⟩
  rcases List.mem_cons.1 hq with rfl | hq
  ·exact hw
  ·exact h1 q hq
theorem runO_inv {n : Nat} : ∀ {ys : List (List UInt8)} {a b : OAcc},Run (StpO n) ys a b → ∃ l : List (List UInt8 × V × List UInt8),(∀ q ∈ l,Asc q.1 ∧ Wf n q.2.1 q.2.2) ∧ (l.map (·.1)).Nodup ∧ (∀ q ∈ l,q.1 ∉ a.seen) ∧ b.keys = a.keys ++ l.map (·.1) ∧ b.ls = a.ls ++ l.map (·.2.1) ∧ ys = l.map fun q=>quoT q.1 ++ [58] ++ q.2.2
 | _,_,_,.nil a=>⟨[],fun q h=>(by cases h),List.nodup_nil,fun q h=>(by cases h),(List.append_nil _).symm,(List.append_nil _).symm,rfl⟩
 | _,a,_,.cons (y:=y) ⟨key,v,x,hk,hw,hy,hn,hb,_⟩ r=>by
  obtain ⟨l,h1,h2,h3,h4,h5,h6⟩:=runO_inv r
  rw [hb] at h3 h4 h5
  refine ⟨(key,v,x) :: l,fun q hq=>?_,?_,fun q hq=>?_,by rw [h4]; simp,by rw [h5]; simp,by rw [h6,hy]; rfl⟩
  ·rcases List.mem_cons.1 hq with rfl | hq
   ·exact ⟨hk,hw⟩
   ·exact h1 q hq
  ·rw [List.map_cons,List.nodup_cons]
   refine ⟨fun hm=>?_,h2⟩
   obtain ⟨q,hq,e⟩:=List.mem_map.1 hm
   exact h3 q hq (by rw [e]; exact List.mem_cons_self ..)
  ·rcases List.mem_cons.1 hq with rfl | hq
   ·exact hn
   ·exact fun hm=>h3 q hq (List.mem_cons_of_mem _ hm)
def Tot (M : RM) (n : Nat) : Prop:=∀ p,Plc n p → ∃ v q,M p = some (v,q) ∧ Ahead p q ∧ (q.e = 0 → p.a < q.a ∧ ∃ x,Wf n v x ∧ (x.length : Int) ≤ 6 * (q.a - p.a))
def ZL (a : List V) (i : Int) : Prop:=(a.length : Int) ≤ i
def ZO (a : OAcc) (i : Int) : Prop:=(a.keys.length : Int) ≤ i ∧ (a.ls.length : Int) ≤ i ∧ (a.seen.length : Int) ≤ i
theorem oneL_tot {M : RM} {n : Nat} (hM : Tot M n) : OneTot (oneL M) n ZL (StpL n):=by
 intro acc p h hz
 unfold ZL at hz
 have hl : acc.length ≤ 100000000:=by have:=h.dom.2.2; have:=h.s; omega
 obtain ⟨v,q,h1,h2,h3⟩:=hM p h
 unfold oneL
 rw [if_pos hl,h1]
 refine ⟨_,q,rfl,h2,fun hq=>?_⟩
 obtain ⟨q1,x,q2,q3⟩:=h3 hq
 exact ⟨q1,by unfold ZL; rw [List.length_append,List.length_singleton]; omega,x,⟨v,q2,rfl,hl⟩,q3⟩
theorem twiceA {p q : PSt} (seen : List (List UInt8)) (key : List UInt8) (h : Ahead p q) : Ahead p (twiceM seen p q key):=by
 unfold twiceM
 split
 ·exact h.trans (fail_ahead h.dom _ _)
 ·exact h
theorem twice_inv {seen : List (List UInt8)} {p q : PSt} {key : List UInt8} (h : (twiceM seen p q key).e = 0) : q.e = 0 ∧ key ∉ seen ∧ twiceM seen p q key = q:=by
 unfold twiceM at h ⊢
 split
 ·rename_i hc
  rw [if_pos hc] at h
  exact absurd h (fail_e (by decide))
 ·rename_i hc
  rw [if_neg hc] at h
  exact ⟨h,fun hm=>hc ⟨h,hm⟩,rfl⟩
theorem oneO_tot {M : RM} {n : Nat} (hM : Tot M n) : OneTot (oneO M) n ZO (StpO n):=by
 intro acc p h hz
 obtain ⟨z1,z2,z3⟩:=hz
 have hal:=h.dom.2.2
 have hsl:=h.s
 obtain ⟨key,p1,t1,t2,t0,t3⟩:=textM_tot h.dom h.s
 have k2:=twiceA acc.seen key t2
 have k3:=k2.trans (skipA k2.dom)
 have k4:=k3.trans (need_ahead k3.dom 58 (by decide))
 unfold oneO
 rw [t1]
 dsimp only
 have hkl : key.length ≤ 1000000000:=by have:=t2.dom.2.2; have:=t2.s; rw [t2.s] at *; omega
 rw [if_pos ⟨hkl,by omega,by omega,by omega⟩]
 ·by_cases hn : (needM (skipM (twiceM acc.seen p p1 key)) 58).1 = true
  ·rw [if_pos hn]
   obtain ⟨_,n2,n3⟩:=need_inv hn
   obtain ⟨w1,w2,w3⟩:=twice_inv (show (twiceM acc.seen p p1 key).e = 0 from n2)
   obtain ⟨u1,u2,u3,u4⟩:=t3 w1
   rw [w3] at n3 k3 k4 n2 ⊢
   rw [n3] at k4 ⊢
   dsimp only at k4 ⊢
   have k5:=k4.trans (skipA k4.dom)
   have b5 : (skipM p1).a + 1 ≤ (skipM (mv (skipM p1) 1)).a:=(skipA k4.dom).a
   have b2 : p1.a ≤ (skipM p1).a:=(skipA t2.dom).a
   obtain ⟨v,q,h1,h2,h3⟩:=hM _ (h.ahead k5 (show (skipM p1).e = 0 from n2))
   rw [h1]
   refine ⟨_,q,rfl,k5.trans h2,fun hq=>?_⟩
   obtain ⟨q1,x,q2,q3⟩:=h3 hq
   refine ⟨by omega,⟨?_,?_,?_⟩,_,⟨key,v,x,u2,q2,rfl,w2,rfl,hkl,by omega,by omega,by omega⟩,?_⟩
   ·show ((acc.keys ++ [key]).length : Int) ≤ _
    rw [List.length_append,List.length_singleton]; omega
   ·show ((acc.ls ++ [v]).length : Int) ≤ _
    rw [List.length_append,List.length_singleton]; omega
   ·show ((key :: acc.seen).length : Int) ≤ _
    rw [List.length_cons]; omega
   ·simp only [List.length_append,List.length_cons,List.length_nil]; omega
  ·rw [if_neg hn]
   exact ⟨_,_,rfl,k4,fun hq=>absurd hq (need_not hn)⟩
theorem leaf_wf {n : Nat} {v : V} {x : List UInt8} (h : Leaf v x) : Wf n v x:=by
 cases n with
 | zero=>exact h
 | succ n=>exact .inl h
theorem wordZ {t : List UInt8} {p : PSt} {v : V} {n : Nat} (h : Plc n p) (ht : ∀ c ∈ t,c ≠ 0) (h0 : t ≠ []) (hv : Leaf v t) : ∃ v' q,some (v,wordM t p) = some (v',q) ∧ Ahead p q ∧ (q.e = 0 → p.a < q.a ∧ ∃ x,Wf n v' x ∧ (x.length : Int) ≤ 6 * (q.a - p.a)):=by
 refine ⟨_,_,rfl,word_ahead h.dom ht,fun hq=>?_⟩
 have hl : 0 < t.length:=List.length_pos_iff.2 h0
 rw [word_inv hq]
 exact ⟨by omega,t,leaf_wf hv,by omega⟩
theorem val_tot : ∀ (f n : Nat),n < f → Tot (valM objM f) n
 | 0,_,h=>absurd h (Nat.not_lt_zero _)
 | f + 1,n,hf=>by
  intro p h
  have hd20 : p.d ≤ 20:=by have:=h.d; omega
  have hrec : ∀ m,n = m + 1 → Tot (valM objM f) m:=fun m hm=>val_tot f m (by omega)
  rw [valM]
  by_cases h1 : hI p = 123
  ·rw [if_pos h1]
   obtain ⟨acc,q,e,k,r⟩:=itemsM_tot (c:=125) (Z:=ZO) (S:=StpO) (acc:=⟨[],[],[]⟩) (by decide) (fun a i j hz hij=>⟨Int.le_trans hz.1 hij,Int.le_trans hz.2.1 hij,Int.le_trans hz.2.2 hij⟩) (fun m hm=>oneO_tot (hrec m hm)) h (by intro h0; unfold hI at h1; rw [h0] at h1; exact absurd h1 (by decide)) ⟨h.dom.2.1,h.dom.2.1,h.dom.2.1⟩
   have ho : objM (valM objM f) p = (itemsM (oneO (valM objM f)) 125 (p.s.length + 2) ⟨[],[],[]⟩ p).map fun r=>(jn 7 [] (r.1.keys.map V.str) r.1.ls,r.2):=if_pos ⟨h1,h.d0,hd20⟩
   rw [ho,e]
   refine ⟨_,q,rfl,k,fun hq=>?_⟩
   obtain ⟨r1,ys,m,hm,r2,r3⟩:=r hq
   obtain ⟨l,l1,l2,_,l4,l5,l6⟩:=runO_inv r2
   refine ⟨r1,[123] ++ joinT ys ++ [125],?_,by simp only [List.length_append,List.length_cons,List.length_nil]; omega⟩
   subst hm
   refine .inr (.inr ⟨l,l1,l2,?_,by rw [l6]⟩)
   show jn 7 [] (acc.keys.map V.str) acc.ls = _
   rw [l4,l5]; rfl
  rw [if_neg h1]
  by_cases h2 : hI p = 91
  ·rw [if_pos h2]
   obtain ⟨acc,q,e,k,r⟩:=itemsM_tot (c:=93) (Z:=ZL) (S:=StpL) (acc:=[]) (by decide) (fun a i j hz hij=>Int.le_trans hz hij) (fun m hm=>oneL_tot (hrec m hm)) h (by intro h0; unfold hI at h2; rw [h0] at h2; exact absurd h2 (by decide)) h.dom.2.1
   have ho : listM (valM objM f) p = (itemsM (oneL (valM objM f)) 93 (p.s.length + 2) [] p).map fun r=>(jn 6 [] [] r.1,r.2):=if_pos ⟨h2,h.d0,hd20⟩
   rw [ho,e]
   refine ⟨_,q,rfl,k,fun hq=>?_⟩
   obtain ⟨r1,ys,m,hm,r2,r3⟩:=r hq
   obtain ⟨l,l1,l2,l3⟩:=runL_inv r2
   refine ⟨r1,[91] ++ joinT ys ++ [93],?_,by simp only [List.length_append,List.length_cons,List.length_nil]; omega⟩
   subst hm
   refine .inr (.inl ⟨l,l1,?_,by rw [l3]⟩)
   show jn 6 [] [] acc = _
   rw [l2]; rfl
  rw [if_neg h2]
  by_cases h3 : hI p = 34
  ·rw [if_pos h3]
   obtain ⟨t,q,e,k,_,r⟩:=textM_tot h.dom h.s
   rw [e]
   refine ⟨_,q,rfl,k,fun hq=>?_⟩
   obtain ⟨r1,r2,_,r3⟩:=r hq
   exact ⟨r1,quoT t,leaf_wf (.inr (.inr (.inr (.inr ⟨t,r2,rfl,rfl⟩)))),r3⟩
  rw [if_neg h3]
  by_cases h4 : hI p = 110
  ·rw [if_pos h4]; exact wordZ h (by decide) (by simp) (.inl ⟨rfl,rfl⟩)
  rw [if_neg h4]
  by_cases h5 : hI p = 102
  ·rw [if_pos h5]; exact wordZ h (by decide) (by simp) (.inr (.inl ⟨rfl,rfl⟩))
  rw [if_neg h5]
  by_cases h6 : hI p = 116
  ·rw [if_pos h6]; exact wordZ h (by decide) (by simp) (.inr (.inr (.inl ⟨rfl,rfl⟩)))
  rw [if_neg h6]
  refine ⟨_,_,rfl,number_ahead h.dom,fun hq=>?_⟩
  obtain ⟨w1,w2⟩:=num_inv (Sta.of h.dom h.e) hq
  obtain ⟨c,r,hx,_⟩:=num_first w1
  have hl : 0 < (numT p).length:=by rw [hx]; simp
  rw [w2]
  refine ⟨by show p.a < p.a + _; omega,numT p,leaf_wf (.inr (.inr (.inr (.inl ⟨w1,rfl⟩)))),?_⟩
  show _ ≤ 6 * (p.a + ((numT p).length : Int) - p.a)
  omega
end Go.Fbs

import Derived.Test.YthakklikgmcgdaaGreatDoorXK
set_option linter.unusedSimpArgs false
set_option linter.unusedVariables false
set_option linter.unusedSectionVars false
set_option maxRecDepth 100000
namespace Go.Fbs
open Go.Proofs Go.RowKit
structure Sta (p : PSt) (pre rest : List UInt8) : Prop where
 s : p.s = pre ++ rest
 a : p.a = pre.length
 e : p.e = 0
def mv (p : PSt) (k : Nat) : PSt:={ p with a:=p.a + k }
theorem mv_mv (p : PSt) (a b : Nat) : mv (mv p a) b = mv p (a + b):=by unfold mv; congr 1; simp [Int.add_assoc]
theorem mv_zero (p : PSt) : mv p 0 = p:=by unfold mv; simp
theorem adv_mv (p : PSt) : advM p = mv p 1:=rfl
theorem Sta.go {p : PSt} {pre x rest : List UInt8} (h : Sta p pre (x ++ rest)) : Sta (mv p x.length) (pre ++ x) rest :=
 ⟨by rw [List.append_assoc]; exact h.s,by show p.a + x.length = _; rw [h.a,List.length_append]; omega,h.e⟩
theorem Sta.drop {p : PSt} {pre rest : List UInt8} (h : Sta p pre rest) : p.s.drop p.a.toNat = rest:=by
 rw [h.s,h.a,Int.toNat_natCast]; simp
theorem Sta.here {p : PSt} {pre rest : List UInt8} (h : Sta p pre rest) : hereM p = rest.getD 0 0:=by
 unfold hereM
 rw [h.s,h.a,Int.toNat_natCast,List.getD_eq_getElem?_getD,List.getD_eq_getElem?_getD,List.getElem?_append_right (Nat.le_refl _),Nat.sub_self]
theorem Sta.end_ {p : PSt} {pre rest : List UInt8} (h : Sta p pre rest) (c : List UInt8) : endT p.s p.a c = p.a + ((rest.length : Int) - ((trimT rest c).length : Int)):=by
 unfold endT
 rw [h.drop,h.s,h.a,List.length_append]; omega
theorem trim_app {c x rest : List UInt8} (hx : ∀ b ∈ x,c.contains b = true) (hr : ∀ b r,rest = b :: r → c.contains b = false) : trimT (x ++ rest) c = rest:=by
 induction x with
 | nil =>
  unfold trimT
  cases rest with
  | nil=>rfl
  | cons b r=>rw [List.nil_append,List.dropWhile_cons,if_neg (by rw [hr b r rfl]; decide)]
 | cons b x ih =>
  unfold trimT at ih ⊢
  rw [List.cons_append,List.dropWhile_cons,if_pos (hx b (List.mem_cons_self ..))]
  exact ih fun b' h'=>hx b' (List.mem_cons_of_mem _ h')
theorem Sta.skip {p : PSt} {pre x rest : List UInt8} (h : Sta p pre (x ++ rest)) (hx : ∀ b ∈ x,blankL.contains b = true) (hr : ∀ b r,rest = b :: r → blankL.contains b = false) : skipM p = mv p x.length:=by
 show ({ p with a:=endT p.s p.a blankL } : PSt) = _
 rw [h.end_,trim_app hx hr]
 unfold mv
 congr 1
 rw [List.length_append]; omega
theorem Sta.skip0 {p : PSt} {pre rest : List UInt8} (h : Sta p pre rest) (hr : ∀ b r,rest = b :: r → blankL.contains b = false) : skipM p = p:=by
 have:=Sta.skip (x:=[]) h (fun b hb=>by cases hb) hr
 rw [this]; exact mv_zero p
theorem Sta.run {p : PSt} {pre x rest : List UInt8} (h : Sta p pre (x ++ rest)) (h0 : x ≠ []) (hx : ∀ b ∈ x,digitL.contains b = true) (hr : ∀ b r,rest = b :: r → digitL.contains b = false) : runM p = mv p x.length:=by
 have he : endT p.s p.a digitL = p.a + x.length:=by
  rw [h.end_,trim_app hx hr,List.length_append]; omega
 have hl : 0 < x.length:=List.length_pos_iff.2 h0
 unfold runM
 rw [he,if_neg (by omega)]; rfl
theorem Sta.hb {p : PSt} {pre r : List UInt8} {c : UInt8} (h : Sta p pre (c :: r)) : hI p = c.toNat:=by
 unfold hI; rw [h.here]; rfl
theorem Sta.hb_nil {p : PSt} {pre : List UInt8} (h : Sta p pre []) : hI p = 0:=by
 unfold hI; rw [h.here]; rfl
theorem Sta.need {p : PSt} {pre r : List UInt8} {c : UInt8} (h : Sta p pre (c :: r)) : needM p c = (true,mv p 1):=by
 unfold needM
 rw [if_neg (by rw [h.here]; simp [h.e])]; rfl
def Digs (d : List UInt8) : Prop:=d ≠ [] ∧ ∀ c ∈ d,digitL.contains c = true
def NumS (s : List UInt8) : Prop:=∃ sg i f x : List UInt8,s = sg ++ (i ++ (f ++ x)) ∧ (sg = [] ∨ sg = [45]) ∧ (i = [48] ∨ (Digs i ∧ ∀ r,i ≠ 48 :: r)) ∧ (f = [] ∨ ∃ d,f = 46 :: d ∧ Digs d) ∧
 (x = [] ∨ ∃ c sg2 d,x = c :: (sg2 ++ d) ∧ (c = 101 ∨ c = 69) ∧ (sg2 = [] ∨ sg2 = [43] ∨ sg2 = [45]) ∧ Digs d)
def Stop (rest : List UInt8) : Prop:=∀ b r,rest = b :: r → digitL.contains b = false ∧ b ≠ 46 ∧ b ≠ 101 ∧ b ≠ 69
theorem digit_range {c : UInt8} (h : digitL.contains c = true) : 48 ≤ (c.toNat : Int) ∧ (c.toNat : Int) ≤ 57:=by
 have : c ∈ digitL:=by simpa using h
 simp only [digitL,List.mem_cons,List.not_mem_nil,or_false] at this
 rcases this with rfl | rfl | rfl | rfl | rfl | rfl | rfl | rfl | rfl | rfl <;> decide
theorem Digs.open {d : List UInt8} (h : Digs d) : ∃ c r,d = c :: r ∧ digitL.contains c = true:=by
 cases d with
 | nil=>exact absurd rfl h.1
 | cons c r=>exact ⟨c,r,rfl,h.2 c (List.mem_cons_self ..)⟩
theorem toNat_inj {c : UInt8} {n : UInt8} (h : (c.toNat : Int) = (n.toNat : Int)) : c = n:=UInt8.toNat_inj.1 (by omega)
theorem read_num {s pre rest : List UInt8} {p : PSt} (hs : NumS s) (h : Sta p pre (s ++ rest)) (hst : Stop rest) : numberM p = mv p s.length ∧ numT p = s ∧ s ≠ []:=by
 obtain ⟨sg,i,f,x,rfl,hsg,hi,hf,hx⟩:=hs
 have h1 : Sta p pre (sg ++ (i ++ (f ++ (x ++ rest)))):=by simpa using h
 have hic : ∃ c r,i = c :: r ∧ digitL.contains c = true:=by
  rcases hi with rfl | ⟨hd,_⟩
  ·exact ⟨48,[],rfl,by decide⟩
  ·exact hd.open
 obtain ⟨ic,ir,eic,hicd⟩:=hic
 have e1 : num1 p = mv p sg.length:=by
  unfold num1
  rcases hsg with rfl | rfl
  ·rw [if_neg,List.length_nil,mv_zero]
   rw [show hI p = ic.toNat from Sta.hb (r:=ir ++ (f ++ (x ++ rest))) (by rw [eic] at h1; exact h1)]
   have:=digit_range hicd; omega
  ·rw [if_pos (by rw [Sta.hb (r:=i ++ (f ++ (x ++ rest))) h1]; rfl)]; rfl
 have h2:=h1.go
 have hfx : ∀ b r,f ++ (x ++ rest) = b :: r → digitL.contains b = false:=by
  intro b r hb
  rcases hf with rfl | ⟨d,rfl,_⟩
  ·rcases hx with rfl | ⟨c,sg2,d,rfl,hc,_⟩
   ·exact (hst b r (by simpa using hb)).1
   ·have : b = c:=by simp at hb; exact hb.1.symm
    subst this; rcases hc with rfl | rfl <;> decide
  ·have : b = 46:=by simp at hb; exact hb.1.symm
   subst this; decide
 have e2 : num2 (num1 p) = mv (num1 p) i.length:=by
  rw [e1]
  unfold num2
  rcases hi with rfl | ⟨hd,h48⟩
  ·rw [if_pos (by rw [Sta.hb (r:=f ++ (x ++ rest)) h2]; rfl)]; rfl
  ·rw [if_neg,h2.run hd.1 hd.2 hfx]
   rw [Sta.hb (r:=ir ++ (f ++ (x ++ rest))) (by rw [eic] at h2; exact h2)]
   intro e
   exact h48 ir (by rw [eic,toNat_inj (n:=48) e])
 have h3 : Sta (num2 (num1 p)) (pre ++ sg ++ i) (f ++ (x ++ rest)):=by rw [e2,e1]; exact h2.go
 have hxr : ∀ b r,x ++ rest = b :: r → digitL.contains b = false ∧ b ≠ 46:=by
  intro b r hb
  rcases hx with rfl | ⟨c,sg2,d,rfl,hc,_⟩
  ·have:=hst b r (by simpa using hb); exact ⟨this.1,this.2.1⟩
  ·have : b = c:=by simp at hb; exact hb.1.symm
   subst this; rcases hc with rfl | rfl <;> decide
 have e3 : num3 (num2 (num1 p)) = mv (num2 (num1 p)) f.length:=by
  unfold num3
  rcases hf with rfl | ⟨d,rfl,hd⟩
  ·rw [if_neg,List.length_nil,mv_zero]
   rintro ⟨_,hc⟩
   cases hxx : x ++ rest with
   | nil=>rw [List.nil_append,hxx] at h3; rw [h3.hb_nil] at hc; exact absurd hc (by decide)
   | cons b r=>rw [List.nil_append,hxx] at h3; rw [h3.hb] at hc; exact (hxr b r hxx).2 (toNat_inj (n:=46) hc)
  ·have h4 : Sta (advM (num2 (num1 p))) (pre ++ sg ++ i ++ [46]) (d ++ (x ++ rest)):=by rw [adv_mv]; exact Sta.go (x:=[46]) h3
   rw [if_pos ⟨h3.e,by rw [Sta.hb (r:=d ++ (x ++ rest)) h3]; rfl⟩,h4.run hd.1 hd.2 fun b r hb=>(hxr b r hb).1,adv_mv,mv_mv,List.length_cons,Nat.add_comm]
 have h5 : Sta (num3 (num2 (num1 p))) (pre ++ sg ++ i ++ f) (x ++ rest):=by rw [e3]; exact h3.go
 have hrd : ∀ b r,rest = b :: r → digitL.contains b = false:=fun b r hb=>(hst b r hb).1
 have e4 : num4 (num3 (num2 (num1 p))) = mv (num3 (num2 (num1 p))) x.length:=by
  generalize num3 (num2 (num1 p)) = q at h5
  unfold num4
  rcases hx with rfl | ⟨c,sg2,d,rfl,hc,hsg2,hd⟩
  ·rw [if_neg,List.length_nil,mv_zero]
   rintro ⟨_,hc⟩
   cases hrr : rest with
   | nil=>rw [List.nil_append,hrr] at h5; rw [h5.hb_nil] at hc; rcases hc with hc | hc <;> exact absurd hc (by decide)
   | cons b r =>
    rw [List.nil_append,hrr] at h5; rw [h5.hb] at hc
    have:=hst b r hrr
    rcases hc with hc | hc
    ·exact this.2.2.1 (toNat_inj (n:=101) hc)
    ·exact this.2.2.2 (toNat_inj (n:=69) hc)
  ·have h6 : Sta (advM q) (pre ++ sg ++ i ++ f ++ [c]) (sg2 ++ (d ++ rest)):=by rw [adv_mv]; exact Sta.go (x:=[c]) (by simpa using h5)
   have hq : hI q = c.toNat:=Sta.hb (r:=sg2 ++ d ++ rest) (by simpa using h5)
   have e5 : num5 (advM q) = mv (advM q) sg2.length:=by
    unfold num5
    obtain ⟨dc,dr,edc,hdc⟩:=hd.open
    rcases hsg2 with rfl | rfl | rfl
    ·rw [if_neg,List.length_nil,mv_zero]
     rw [Sta.hb (r:=dr ++ rest) (by rw [edc] at h6; exact h6)]
     have:=digit_range hdc; omega
    ·rw [if_pos (.inl (by rw [Sta.hb (r:=d ++ rest) h6]; rfl))]; rfl
    ·rw [if_pos (.inr (by rw [Sta.hb (r:=d ++ rest) h6]; rfl))]; rfl
   rw [if_pos ⟨h5.e,by rw [hq]; rcases hc with rfl | rfl; exact .inl rfl; exact .inr rfl⟩,e5,(h6.go).run hd.1 hd.2 hrd,adv_mv,mv_mv,mv_mv]
   congr 1
   rw [List.length_cons,List.length_append]
   omega
 have hfin : numberM p = mv p (sg ++ (i ++ (f ++ x))).length:=by
  show num4 (num3 (num2 (num1 p))) = _
  rw [e4,e3,e2,e1,mv_mv,mv_mv,mv_mv]
  congr 1
  simp only [List.length_append] <;> omega
 refine ⟨hfin,?_,by rw [eic]; simp⟩
 unfold numT
 rw [hfin]
 show (p.s.take (p.a + ((sg ++ (i ++ (f ++ x))).length : Int)).toNat).drop p.a.toNat = _
 rw [h.s,h.a]
 have ea : ((pre.length : Int) + ((sg ++ (i ++ (f ++ x))).length : Int)).toNat = pre.length + (sg ++ (i ++ (f ++ x))).length:=by omega
 rw [ea,Int.toNat_natCast]
 generalize sg ++ (i ++ (f ++ x)) = y
 rw [← List.append_assoc,← List.length_append,List.take_left' rfl,List.drop_left' rfl]
end Go.Fbs

namespace Go.Fbs
open Go.Proofs Go.RowKit
def Asc (t : List UInt8) : Prop:=∀ c ∈ t,c.toNat < 128
theorem hex_back : ∀ q : _root_.Fin 128,hexN [48,48,hexB (q.val / 16),hexB (q.val % 16)] = q.val ∧ [48,48,hexB (q.val / 16),hexB (q.val % 16)].all isHex = true:=by decide
theorem escM_u {x rest : List UInt8} (hx : x.length = 4) : escM ([92,117] ++ x ++ rest) = if x.all isHex = true then (if 127 < hexN x then some (0,0) else some ((hexN x).toUInt8,6)) else if x.all (fun b=>decide (b.toNat < 128)) = true then some (0,0) else none:=by
 match x,hx with
 | [a,b,c,d],_ =>
  unfold escM
  rw [if_neg (by simp)]
  have h1 : ([92,117] ++ [a,b,c,d] ++ rest).getD 1 0 = 117:=rfl
  have h2 : shortM 117 = none:=rfl
  rw [h1,h2]
  dsimp only
  rw [if_neg (by simp)]
  rfl
theorem esc_quo {c : UInt8} {rest : List UInt8} (hc : c.toNat < 128) (h : quoB c ≠ [c]) : escM (quoB c ++ rest) = some (c,(quoB c).length) ∧ ∃ r,quoB c = 92 :: r:=by
 unfold quoB at h ⊢
 split at h
 ·rename_i h1
  rw [if_pos h1]
  rcases h1 with rfl | rfl <;> exact ⟨rfl,_,rfl⟩
 ·rename_i h1
  rw [if_neg h1]
  split at h
  ·rename_i h2
   rw [if_pos h2]
   refine ⟨?_,_,rfl⟩
   obtain ⟨e1,e2⟩:=hex_back ⟨c.toNat,hc⟩
   have e0:=escM_u (x:=[48,48,hexB (c.toNat / 16),hexB (c.toNat % 16)]) (rest:=rest) rfl
   refine e0.trans ?_
   rw [if_pos e2,e1,if_neg (by show ¬ 127 < c.toNat; omega)]
   simp
  ·exact absurd rfl h
theorem quo_plain {c : UInt8} (h : quoB c = [c]) : ¬ c = 34 ∧ ¬ c = 92 ∧ ¬ c.toNat < 32 ∧ ¬ c.toNat = 127:=by
 unfold quoB at h
 split at h
 ·simp at h
 ·rename_i h1
  simp only [not_or] at h1
  split at h
  ·simp at h
  ·rename_i h2
   simp only [not_or] at h2
   exact ⟨h1.1,h1.2,fun e=>h2.1 e,fun e=>h2.2 (UInt8.toNat_inj.1 e)⟩
theorem textL_step {n : Nat} {out pre rest : List UInt8} {p : PSt} {c : UInt8} (hc : c.toNat < 128) (ho : out.length ≤ 1000000000) (h : Sta p pre (quoB c ++ rest)) : textL (n + 1) out p = textL n (out ++ [c]) (mv p (quoB c).length):=by
 rw [textL,if_pos h.e]
 by_cases hq : quoB c = [c]
 ·obtain ⟨h1,h2,h3,h4⟩:=quo_plain hq
  rw [hq] at h ⊢
  have hI : hI p = c.toNat:=h.hb
  have hh : hereM p = c:=by rw [h.here]; rfl
  have i1 : ¬ (c.toNat : Int) = 34:=fun e=>h1 (toNat_inj (n:=34) e)
  have i2 : ¬ (c.toNat : Int) = 92:=fun e=>h2 (toNat_inj (n:=92) e)
  rw [hI,if_neg i1,if_neg i2,if_neg (by omega),if_pos ho,hh]; rfl
 ·obtain ⟨he,r,hr⟩:=esc_quo (rest:=rest) hc hq
  have hI : hI p = 92:=by
   rw [hr] at h
   rw [Sta.hb (r:=r ++ rest) h]; rfl
  rw [hI,if_neg (by decide),if_pos rfl,h.drop,he]
  dsimp only
  rw [if_pos ho]
  congr 1
  unfold escQ
  rw [if_neg (by rw [hr]; simp)]; rfl
theorem textL_all {rest : List UInt8} : ∀ {t : List UInt8} {n : Nat} {out pre : List UInt8} {p : PSt},Asc t → t.length < n → out.length + t.length ≤ 1000000000 → Sta p pre (t.flatMap quoB ++ (34 :: rest)) → textL n out p = some (out ++ t,mv p ((t.flatMap quoB).length + 1))
 | [],n + 1,out,pre,p,_,_,_,h=>by
  have h' : Sta p pre (34 :: rest):=h
  rw [textL,if_pos h'.e,if_pos (by rw [h'.hb]; rfl),List.append_nil]; rfl
 | c :: t,0,_,_,_,_,hn,_,_=>absurd hn (Nat.not_lt_zero _)
 | c :: t,n + 1,out,pre,p,ha,hn,ho,h=>by
  have h' : Sta p pre (quoB c ++ (t.flatMap quoB ++ (34 :: rest))):=by simpa using h
  rw [List.length_cons] at hn ho
  rw [textL_step (ha c (List.mem_cons_self ..)) (by omega) h',textL_all (rest:=rest) (fun x hx=>ha x (List.mem_cons_of_mem _ hx)) (by omega) (by simp; omega) h'.go,mv_mv]
  simp only [List.append_assoc,List.flatMap_cons,List.length_append,List.cons_append,List.nil_append,Nat.add_assoc]
theorem quoT_len (t : List UInt8) : (quoT t).length = (t.flatMap quoB).length + 2:=by unfold quoT; simp
theorem quo_ge : ∀ t : List UInt8,t.length ≤ (t.flatMap quoB).length
 | []=>Nat.le_refl _
 | c :: t=>by
  have h1:=quo_ge t
  have h2 : 1 ≤ (quoB c).length:=by unfold quoB; split; simp; split <;> simp
  rw [List.flatMap_cons,List.length_append,List.length_cons]; omega
theorem read_text {t pre rest : List UInt8} {p : PSt} (ha : Asc t) (h : Sta p pre (quoT t ++ rest)) (hb : p.s.length ≤ 200000) : textM p = some (t,mv p (quoT t).length):=by
 have h' : Sta p pre (34 :: (t.flatMap quoB ++ (34 :: rest))):=by unfold quoT at h; simpa using h
 have hg:=quo_ge t
 have hl : (t.flatMap quoB).length ≤ p.s.length:=by rw [h'.s]; simp; omega
 unfold textM
 rw [h'.need]
 dsimp only
 have h2 : Sta (mv p 1) (pre ++ [34]) (t.flatMap quoB ++ (34 :: rest)):=Sta.go (x:=[34]) h'
 rw [if_pos rfl,textL_all (rest:=rest) ha (by omega) (by simp; omega) h2,mv_mv,quoT_len]
 congr 3
 omega
end Go.Fbs

namespace Go.Fbs
open Go.Proofs Go.RowKit
def joinT : List (List UInt8) → List UInt8
 | []=>[]
 | [x]=>x
 | x :: y :: r=>x ++ [44] ++ joinT (y :: r)
def Leaf (v : V) (x : List UInt8) : Prop :=
 (v = jn 1 [] [] [] ∧ x = [110,117,108,108]) ∨ (v = jn 2 [] [] [] ∧ x = [102,97,108,115,101]) ∨ (v = jn 3 [] [] [] ∧ x = [116,114,117,101]) ∨ (NumS x ∧ v = jn 4 x [] []) ∨ ∃ t,Asc t ∧ v = jn 5 t [] [] ∧ x = quoT t
def Wf : Nat → V → List UInt8 → Prop
 | 0,v,x=>Leaf v x
 | n + 1,v,x=>Leaf v x ∨ (∃ l : List (V × List UInt8),(∀ q ∈ l,Wf n q.1 q.2) ∧ v = jn 6 [] [] (l.map (·.1)) ∧ x = [91] ++ joinT (l.map (·.2)) ++ [93]) ∨
  (∃ l : List (List UInt8 × V × List UInt8),(∀ q ∈ l,Asc q.1 ∧ Wf n q.2.1 q.2.2) ∧ (l.map (·.1)).Nodup ∧ v = jn 7 [] ((l.map (·.1)).map V.str) (l.map (·.2.1)) ∧ x = [123] ++ joinT (l.map fun q=>quoT q.1 ++ [58] ++ q.2.2) ++ [125])
def FirstOk (x : List UInt8) : Prop:=∃ c r,x = c :: r ∧ blankL.contains c = false ∧ c ≠ 44 ∧ c ≠ 93 ∧ c ≠ 125
theorem num_first {x : List UInt8} (h : NumS x) : ∃ c r,x = c :: r ∧ (c = 45 ∨ digitL.contains c = true):=by
 obtain ⟨sg,i,f,x,rfl,hsg,hi,_,_⟩:=h
 rcases hsg with rfl | rfl
 ·rcases hi with rfl | ⟨hd,_⟩
  ·exact ⟨48,_,rfl,.inr (by decide)⟩
  ·obtain ⟨c,r,rfl,hc⟩:=hd.open
   exact ⟨c,_,rfl,.inr hc⟩
 ·exact ⟨45,_,rfl,.inl rfl⟩
theorem digit_mem {c : UInt8} (h : digitL.contains c = true) : c = 48 ∨ c = 49 ∨ c = 50 ∨ c = 51 ∨ c = 52 ∨ c = 53 ∨ c = 54 ∨ c = 55 ∨ c = 56 ∨ c = 57:=by
 have : c ∈ digitL:=by simpa using h
 simpa only [digitL,List.mem_cons,List.not_mem_nil,or_false] using this
theorem leaf_first {v : V} {x : List UInt8} (h : Leaf v x) : FirstOk x:=by
 rcases h with ⟨_,rfl⟩ | ⟨_,rfl⟩ | ⟨_,rfl⟩ | ⟨h,_⟩ | ⟨t,_,_,rfl⟩
 ·exact ⟨_,_,rfl,by decide,by decide,by decide,by decide⟩
 ·exact ⟨_,_,rfl,by decide,by decide,by decide,by decide⟩
 ·exact ⟨_,_,rfl,by decide,by decide,by decide,by decide⟩
 ·obtain ⟨c,r,rfl,hc⟩:=num_first h
  refine ⟨c,r,rfl,?_⟩
  rcases hc with rfl | hc
  ·exact ⟨by decide,by decide,by decide,by decide⟩
  ·rcases digit_mem hc with rfl | rfl | rfl | rfl | rfl | rfl | rfl | rfl | rfl | rfl <;> exact ⟨by decide,by decide,by decide,by decide⟩
 ·exact ⟨34,_,rfl,by decide,by decide,by decide,by decide⟩
theorem wf_first : ∀ {n : Nat} {v : V} {x : List UInt8},Wf n v x → FirstOk x
 | 0,_,_,h=>leaf_first h
 | n + 1,_,_,h=>by
  rcases h with h | ⟨l,_,_,rfl⟩ | ⟨l,_,_,_,rfl⟩
  ·exact leaf_first h
  ·exact ⟨91,_,rfl,by decide,by decide,by decide,by decide⟩
  ·exact ⟨123,_,rfl,by decide,by decide,by decide,by decide⟩
structure Bd (n : Nat) (p : PSt) : Prop where
 s : p.s.length ≤ 200000
 d0 : 0 ≤ p.d
 d : p.d + n ≤ 20
theorem Bd.mv {n : Nat} {p : PSt} (h : Bd n p) (k : Nat) : Bd n (mv p k):=⟨h.s,h.d0,h.d⟩
theorem stop_sep {b : UInt8} {r : List UInt8} (h : b = 44 ∨ b = 93 ∨ b = 125) : Stop (b :: r):=by
 intro b' r' e
 cases e
 rcases h with rfl | rfl | rfl <;> exact ⟨by decide,by decide,by decide,by decide⟩
theorem sep_blank {b : UInt8} {r : List UInt8} (h : b = 44 ∨ b = 93 ∨ b = 125 ∨ b = 58) : ∀ b' r',b :: r = b' :: r' → blankL.contains b' = false:=by
 intro b' r' e
 cases e
 rcases h with rfl | rfl | rfl | rfl <;> decide
theorem FirstOk.skip {x rest : List UInt8} (h : FirstOk x) : ∀ b r,x ++ rest = b :: r → blankL.contains b = false:=by
 obtain ⟨c,r,rfl,hc,_⟩:=h
 intro b r' e
 cases e; exact hc
inductive Run {A : Type} (S : A → List UInt8 → A → Prop) : List (List UInt8) → A → A → Prop
 | nil (a : A) : Run S [] a a
 | cons {y : List UInt8} {ys : List (List UInt8)} {a b c : A} (h : S a y b) (r : Run S ys b c) : Run S (y :: ys) a c
def OneRd {A : Type} (one : A → PSt → Option (A × PSt)) (c : UInt8) (n : Nat) (S : A → List UInt8 → A → Prop) : Prop :=
 ∀ a y b,S a y b → FirstOk y ∧ ∀ (p : PSt) (pre : List UInt8) (z : UInt8) (rest : List UInt8),Sta p pre (y ++ (z :: rest)) → Bd n p → (z = 44 ∨ z = c) → one a p = some (b,mv p y.length)
theorem more_read {A : Type} {one : A → PSt → Option (A × PSt)} {c : UInt8} {n : Nat} {S : A → List UInt8 → A → Prop} (hc : c = 93 ∨ c = 125) (ho : OneRd one c n S) : ∀ {ys : List (List UInt8)} {a b : A} {f : Nat} {p : PSt} {pre rest : List UInt8},ys ≠ [] → Run S ys a b → ys.length ≤ f → Sta p pre (joinT ys ++ (c :: rest)) → Bd n p →
  moreM one c f a p = some (b,mv p ((joinT ys).length + 1))
 | [],_,_,_,_,_,_,h0,_,_,_,_=>absurd rfl h0
 | [y],a,b,0,_,_,_,_,_,hf,_,_=>absurd hf (by simp)
 | [y],a,b,f + 1,p,pre,rest,_,hr,_,h,hb=>by
  cases hr with
  | cons h1 r1 =>
   cases r1
   obtain ⟨hfy,hy⟩:=ho _ _ _ h1
   have h' : Sta p pre (y ++ (c :: rest)):=h
   have hcb : c = 44 ∨ c = 93 ∨ c = 125 ∨ c = 58:=by rcases hc with h | h; exact .inr (.inl h); exact .inr (.inr (.inl h))
   have h2:=h'.go
   have hs2 : skipM (mv p y.length) = mv p y.length:=h2.skip0 (sep_blank hcb)
   have hh : hereM (mv p y.length) = c:=by rw [h2.here]; rfl
   rw [moreM,if_neg (by simp [h.e]),h'.skip0 hfy.skip,hy p pre c rest h' hb (.inr rfl)]
   dsimp only
   rw [hs2,if_neg (by simp [h2.e]),hh,if_pos (by rcases hc with rfl | rfl <;> decide),h2.need,mv_mv]; rfl
 | y :: y' :: ys,a,b,0,_,_,_,_,_,hf,_,_=>absurd hf (by simp)
 | y :: y' :: ys,a,b,f + 1,p,pre,rest,_,hr,hf,h,hb=>by
  cases hr with
  | cons h1 r1 =>
   obtain ⟨hfy,hy⟩:=ho _ _ _ h1
   have h' : Sta p pre (y ++ (44 :: (joinT (y' :: ys) ++ (c :: rest)))):=by
    have e : joinT (y :: y' :: ys) ++ (c :: rest) = y ++ (44 :: (joinT (y' :: ys) ++ (c :: rest))):=by simp [joinT]
    rw [e] at h; exact h
   have h2:=h'.go
   have hs2 : skipM (mv p y.length) = mv p y.length:=h2.skip0 (sep_blank (.inl rfl))
   have hh : hereM (mv p y.length) = 44:=by rw [h2.here]; rfl
   have h3 : Sta (mv (mv p y.length) 1) (pre ++ y ++ [44]) (joinT (y' :: ys) ++ (c :: rest)):=Sta.go (x:=[44]) h2
   rw [moreM,if_neg (by simp [h.e]),h'.skip0 hfy.skip,hy p pre 44 _ h' hb (.inl rfl)]
   dsimp only
   rw [hs2,if_neg (by simp [h2.e]),hh,if_neg (by decide)]
   have:=more_read hc ho (by simp) r1 (by simpa using hf) h3 ((hb.mv _).mv _)
   refine (show moreM one c f _ (mv (mv p y.length) 1) = _ from this).trans ?_
   rw [mv_mv,mv_mv]
   congr 3
   simp [joinT]; omega
theorem items_read {A : Type} {one : A → PSt → Option (A × PSt)} {o c : UInt8} {n : Nat} {S : A → List UInt8 → A → Prop} (hc : c = 93 ∨ c = 125) (ho : OneRd one c n S) {ys : List (List UInt8)} {a b : A} {f : Nat} {p : PSt} {pre rest : List UInt8} (hr : Run S ys a b) (hf : ys.length ≤ f) (hy : ∀ y ∈ ys,FirstOk y) (h : Sta p pre ([o] ++ joinT ys ++ [c] ++ rest)) (hb : Bd (n + 1) p) :
  itemsM one c f a p = some (b,mv p (([o] ++ joinT ys ++ [c]).length)):=by
 have hd:=hb.d
 have hd0:=hb.d0
 unfold itemsM
 rw [if_neg (by omega)]
 have h1 : Sta { p with d:=p.d + 1,a:=p.a + 1 } (pre ++ [o]) (joinT ys ++ (c :: rest)):=by
  have:=Sta.go (x:=[o]) (pre:=pre) (p:=p) (rest:=joinT ys ++ (c :: rest)) (by simpa using h)
  exact ⟨this.s,this.a,this.e⟩
 have hb1 : Bd n { p with d:=p.d + 1,a:=p.a + 1 }:=⟨hb.s,by show 0 ≤ p.d + 1; omega,by show p.d + 1 + (n : Int) ≤ 20; omega⟩
 have hm : mv { p with d:=p.d + 1,a:=p.a + 1 } 0 = { p with d:=p.d + 1,a:=p.a + 1 }:=mv_zero _
 cases ys with
 | nil =>
  cases hr
  have h1' : Sta { p with d:=p.d + 1,a:=p.a + 1 } (pre ++ [o]) (c :: rest):=h1
  have hs : skipM { p with d:=p.d + 1,a:=p.a + 1 } = { p with d:=p.d + 1,a:=p.a + 1 }:=h1'.skip0 (sep_blank (by rcases hc with h | h; exact .inr (.inl h); exact .inr (.inr (.inl h))))
  rw [hs]
  dsimp only
  rw [if_pos (by rw [h1'.here]; rfl)]
  simp [joinT,mv]; omega
 | cons y ys =>
  have hfy:=hy y (List.mem_cons_self ..)
  have hx : ∀ b r,joinT (y :: ys) ++ (c :: rest) = b :: r → blankL.contains b = false ∧ b ≠ c:=by
   obtain ⟨c0,r0,rfl,q1,q2,q3,q4⟩:=hfy
   intro b r e
   cases ys with
   | nil=>simp only [joinT,List.cons_append,List.cons.injEq] at e; rw [← e.1]; exact ⟨q1,by rcases hc with rfl | rfl; exact q3; exact q4⟩
   | cons y2 ys=>simp only [joinT,List.cons_append,List.cons.injEq] at e; rw [← e.1]; exact ⟨q1,by rcases hc with rfl | rfl; exact q3; exact q4⟩
  have hs : skipM { p with d:=p.d + 1,a:=p.a + 1 } = { p with d:=p.d + 1,a:=p.a + 1 }:=h1.skip0 fun b r e=>(hx b r e).1
  rw [hs]
  dsimp only
  have hne : hereM { p with d:=p.d + 1,a:=p.a + 1 } ≠ c:=by
   rw [h1.here]
   cases hj : joinT (y :: ys) ++ (c :: rest) with
   | nil=>simp at hj
   | cons b r=>exact (hx b r hj).2
  rw [if_neg hne,more_read hc ho (by simp) hr hf h1 hb1]
  simp [mv]; omega
end Go.Fbs

namespace Go.Fbs
open Go.Proofs Go.RowKit
theorem read_word {rest : List UInt8} : ∀ {t pre : List UInt8} {p : PSt},Sta p pre (t ++ rest) → wordM t p = mv p t.length
 | [],_,p,_=>(mv_zero p).symm
 | c :: t,pre,p,h=>by
  have h' : Sta p pre (c :: (t ++ rest)):=h
  have h2 : Sta (mv p 1) (pre ++ [c]) (t ++ rest):=Sta.go (x:=[c]) h'
  rw [wordM,h'.need]
  dsimp only
  rw [if_pos rfl,read_word h2,mv_mv,List.length_cons,Nat.add_comm]
def Reads (M : RM) (n : Nat) (v : V) (x : List UInt8) : Prop:=∀ (p : PSt) (pre rest : List UInt8),Sta p pre (x ++ rest) → Bd n p → Stop rest → M p = some (v,mv p x.length)
theorem leaf_reads (O : RM → RM) (f n : Nat) {v : V} {x : List UInt8} (h : Leaf v x) : Reads (valM O (f + 1)) n v x:=by
 intro p pre rest hs hb hst
 rw [valM]
 rcases h with ⟨rfl,rfl⟩ | ⟨rfl,rfl⟩ | ⟨rfl,rfl⟩ | ⟨hn,rfl⟩ | ⟨t,ha,rfl,rfl⟩
 ·rw [show hI p = ((110 : UInt8).toNat : Int) from Sta.hb (r:=[117,108,108] ++ rest) hs,if_neg (by decide),if_neg (by decide),if_neg (by decide),if_pos (by decide),read_word hs]
 ·rw [show hI p = ((102 : UInt8).toNat : Int) from Sta.hb (r:=[97,108,115,101] ++ rest) hs,if_neg (by decide),if_neg (by decide),if_neg (by decide),if_neg (by decide),if_pos (by decide),read_word hs]
 ·rw [show hI p = ((116 : UInt8).toNat : Int) from Sta.hb (r:=[114,117,101] ++ rest) hs,if_neg (by decide),if_neg (by decide),if_neg (by decide),if_neg (by decide),if_neg (by decide),if_pos (by decide),read_word hs]
 ·obtain ⟨h1,h2,h3⟩:=read_num hn hs hst
  obtain ⟨c,r,hx,hc⟩:=num_first hn
  have hI' : hI p = c.toNat:=by rw [hx] at hs; exact Sta.hb (r:=r ++ rest) hs
  have hr : (c.toNat : Int) ≤ 57:=by
   rcases hc with rfl | hc
   ·decide
   ·exact (digit_range hc).2
  have h34 : ¬ (c.toNat : Int) = 34:=by
   rcases hc with rfl | hc
   ·decide
   ·have:=digit_range hc; omega
  rw [hI',if_neg (by omega),if_neg (by omega),if_neg h34,if_neg (by omega),if_neg (by omega),if_neg (by omega),h1,h2]
 ·rw [show hI p = ((34 : UInt8).toNat : Int) from Sta.hb (r:=t.flatMap quoB ++ [34] ++ rest) (by unfold quoT at hs; simpa using hs),if_neg (by decide),if_neg (by decide),if_pos (by decide),read_text ha hs hb.s]; rfl
theorem join_len : ∀ (ys : List (List UInt8)),(∀ y ∈ ys,FirstOk y) → ys.length ≤ (joinT ys).length
 | [],_=>Nat.zero_le _
 | [y],h=>by
  obtain ⟨c,r,e,_⟩:=h y (by simp)
  show 1 ≤ y.length
  rw [e]; simp
 | x :: y :: r,h=>by
  have:=join_len (y :: r) fun z hz=>h z (List.mem_cons_of_mem _ hz)
  simp only [joinT,List.length_append,List.length_cons,List.length_nil] at this ⊢
  omega
def StpL (n : Nat) (a : List V) (y : List UInt8) (b : List V) : Prop:=∃ v,Wf n v y ∧ b = a ++ [v] ∧ a.length ≤ 100000000
def StpO (n : Nat) (a : OAcc) (y : List UInt8) (b : OAcc) : Prop:=∃ key v x,Asc key ∧ Wf n v x ∧ y = quoT key ++ [58] ++ x ∧ key ∉ a.seen ∧ b = ⟨a.keys ++ [key],a.ls ++ [v],key :: a.seen⟩ ∧ key.length ≤ 1000000000 ∧ a.seen.length ≤ 100000000 ∧ a.keys.length ≤ 100000000 ∧ a.ls.length ≤ 100000000
theorem oneL_reads {M : RM} {n : Nat} (hM : ∀ v x,Wf n v x → Reads M n v x) : OneRd (oneL M) 93 n (StpL n):=by
 rintro a y b ⟨v,hw,rfl,hl⟩
 refine ⟨wf_first hw,fun p pre z rest h hb hz=>?_⟩
 unfold oneL
 rw [if_pos hl,hM v y hw p pre _ h hb (stop_sep (by rcases hz with h | h; exact .inl h; exact .inr (.inl h)))]; rfl
theorem oneO_reads {M : RM} {n : Nat} (hM : ∀ v x,Wf n v x → Reads M n v x) : OneRd (oneO M) 125 n (StpO n):=by
 rintro a y b ⟨key,v,x,hk,hw,rfl,hn,rfl,l1,l2,l3,l4⟩
 refine ⟨⟨34,_,rfl,by decide,by decide,by decide,by decide⟩,fun p pre z rest h hb hz=>?_⟩
 have h1 : Sta p pre (quoT key ++ (58 :: (x ++ (z :: rest)))):=by simpa using h
 have h2:=h1.go
 have h3 : Sta (mv (mv p (quoT key).length) 1) (pre ++ quoT key ++ [58]) (x ++ (z :: rest)):=Sta.go (x:=[58]) h2
 have ht:=read_text hk h1 hb.s
 have htw : twiceM a.seen p (mv p (quoT key).length) key = mv p (quoT key).length:=if_neg fun hc=>hn hc.2
 have hs2 : skipM (mv p (quoT key).length) = mv p (quoT key).length:=h2.skip0 (sep_blank (.inr (.inr (.inr rfl))))
 have hs3 : skipM (mv (mv p (quoT key).length) 1) = mv (mv p (quoT key).length) 1:=h3.skip0 (wf_first hw).skip
 unfold oneO
 rw [ht]
 dsimp only
 rw [if_pos ⟨l1,l2,l3,l4⟩,htw,hs2,h2.need]
 dsimp only
 rw [if_pos rfl,hs3,hM v x hw _ _ _ h3 ((hb.mv _).mv _) (stop_sep (by rcases hz with h | h; exact .inl h; exact .inr (.inr h)))]
 simp only [Option.map_some,mv_mv]
 congr 3
 simp only [List.length_append,List.length_cons,List.length_nil]
theorem runL {n : Nat} : ∀ (l : List (V × List UInt8)) (a : List V),(∀ q ∈ l,Wf n q.1 q.2) → a.length + l.length ≤ 100000000 → Run (StpL n) (l.map (·.2)) a (a ++ l.map (·.1))
 | [],a,_,_=>by simpa using Run.nil a
 | q :: l,a,h,hl=>by
  rw [List.length_cons] at hl
  have:=runL l (a ++ [q.1]) (fun x hx=>h x (List.mem_cons_of_mem _ hx)) (by simp; omega)
  rw [List.append_assoc] at this
  exact Run.cons ⟨q.1,h q (List.mem_cons_self ..),rfl,by omega⟩ this
theorem runO {n : Nat} : ∀ (l : List (List UInt8 × V × List UInt8)) (a : OAcc),(∀ q ∈ l,(Asc q.1 ∧ Wf n q.2.1 q.2.2) ∧ q.1.length ≤ 1000000000) → (∀ q ∈ l,q.1 ∉ a.seen) → (l.map (·.1)).Nodup → a.seen.length + l.length ≤ 100000000 → a.keys.length + l.length ≤ 100000000 → a.ls.length + l.length ≤ 100000000 →
  ∃ s,Run (StpO n) (l.map fun q=>quoT q.1 ++ [58] ++ q.2.2) a ⟨a.keys ++ l.map (·.1),a.ls ++ l.map (·.2.1),s⟩
 | [],a,_,_,_,_,_,_=>⟨a.seen,by simpa using Run.nil a⟩
 | q :: l,a,h,hs,hn,l1,l2,l3=>by
  rw [List.length_cons] at l1 l2 l3
  rw [List.map_cons,List.nodup_cons] at hn
  obtain ⟨s,hr⟩:=runO l ⟨a.keys ++ [q.1],a.ls ++ [q.2.1],q.1 :: a.seen⟩ (fun x hx=>h x (List.mem_cons_of_mem _ hx)) (fun x hx hm=>by
   rcases List.mem_cons.1 hm with e | hm
   ·exact hn.1 (List.mem_map.2 ⟨x,hx,e⟩)
   ·exact hs x (List.mem_cons_of_mem _ hx) hm) hn.2 (by simp; omega) (by simp; omega) (by simp; omega)
  refine ⟨s,?_⟩
  simp only [List.append_assoc] at hr
  have hq:=h q (List.mem_cons_self ..)
  exact Run.cons ⟨q.1,q.2.1,q.2.2,hq.1.1,hq.1.2,rfl,hs q (List.mem_cons_self ..),rfl,hq.2,by omega,by omega,by omega⟩ (by simpa using hr)
theorem mem_join : ∀ {ys : List (List UInt8)} {y : List UInt8},y ∈ ys → y.length ≤ (joinT ys).length
 | [x],y,h=>by (have e : y = x := by simpa using h); rw [e]; exact Nat.le_refl _
 | x :: z :: r,y,h=>by
  simp only [joinT,List.length_append]
  rcases List.mem_cons.1 h with rfl | h
  ·omega
  ·have:=mem_join h; omega
theorem read_val : ∀ (n : Nat) (v : V) (x : List UInt8),Wf n v x → ∀ f,n < f → Reads (valM objM f) n v x
 | 0,v,x,h,0,hf=>absurd hf (Nat.lt_irrefl 0)
 | 0,v,x,h,f + 1,_=>leaf_reads objM f 0 h
 | n + 1,v,x,h,0,hf=>absurd hf (by omega)
 | n + 1,v,x,h,f + 1,hf=>by
  have hM:=fun v x hw=>read_val n v x hw f (by omega)
  rcases h with h | ⟨l,hl,rfl,rfl⟩ | ⟨l,hl,hnd,rfl,rfl⟩
  ·exact leaf_reads objM f _ h
  ·intro p pre rest hs hb hst
   have hfo : ∀ y ∈ l.map (·.2),FirstOk y:=fun y hy=>by
    obtain ⟨q,hq,rfl⟩:=List.mem_map.1 hy
    exact wf_first (hl q hq)
   have hjl:=join_len _ hfo
   have hsl:=hs.s
   have hlen : (l.map (·.2)).length ≤ p.s.length:=by rw [hsl]; simp only [List.length_append]; omega
   have hll : l.length ≤ p.s.length:=by simpa using hlen
   have hbs:=hb.s
   have hr:=runL l [] hl (by simp; omega)
   have hit:=items_read (o:=91) (.inl rfl) (oneL_reads hM) hr (f:=p.s.length + 2) (by omega) hfo hs hb
   rw [valM,show hI p = ((91 : UInt8).toNat : Int) from Sta.hb (r:=joinT (l.map (·.2)) ++ [93] ++ rest) (by simpa using hs),if_neg (by decide),if_pos (by decide)]
   unfold listM
   rw [if_pos ⟨by rw [show hI p = ((91 : UInt8).toNat : Int) from Sta.hb (r:=joinT (l.map (·.2)) ++ [93] ++ rest) (by simpa using hs)]; decide,hb.d0,by have:=hb.d; omega⟩,hit]; rfl
  ·intro p pre rest hs hb hst
   have hfo : ∀ y ∈ l.map (fun q=>quoT q.1 ++ [58] ++ q.2.2),FirstOk y:=fun y hy=>by
    obtain ⟨q,hq,rfl⟩:=List.mem_map.1 hy
    exact ⟨34,_,rfl,by decide,by decide,by decide,by decide⟩
   have hjl:=join_len _ hfo
   have hsl:=hs.s
   have hlen : (l.map (fun q=>quoT q.1 ++ [58] ++ q.2.2)).length ≤ p.s.length:=by rw [hsl]; simp only [List.length_append]; omega
   have hll : l.length ≤ p.s.length:=by simpa using hlen
   have hbs:=hb.s
   have hkl : ∀ q ∈ l,(Asc q.1 ∧ Wf n q.2.1 q.2.2) ∧ q.1.length ≤ 1000000000:=fun q hq=>by
    refine ⟨hl q hq,?_⟩
    have h1:=mem_join (List.mem_map.2 ⟨q,hq,rfl⟩ : (quoT q.1 ++ [58] ++ q.2.2) ∈ l.map (fun q=>quoT q.1 ++ [58] ++ q.2.2))
    have h2:=quo_ge q.1
    have h3:=quoT_len q.1
    have h4 : (joinT (l.map fun q=>quoT q.1 ++ [58] ++ q.2.2)).length ≤ p.s.length:=by rw [hsl]; simp only [List.length_append]; omega
    simp only [List.length_append] at h1
    omega
   obtain ⟨s,hr⟩:=runO l ⟨[],[],[]⟩ hkl (fun q _ hm=>by cases hm) hnd (by simp; omega) (by simp; omega) (by simp; omega)
   have hit:=items_read (o:=123) (.inr rfl) (oneO_reads hM) hr (f:=p.s.length + 2) (by omega) hfo hs hb
   have hI' : hI p = ((123 : UInt8).toNat : Int):=Sta.hb (r:=joinT (l.map fun q=>quoT q.1 ++ [58] ++ q.2.2) ++ [125] ++ rest) (by simpa using hs)
   rw [valM,hI',if_pos (by decide)]
   have hobj : objM (valM objM f) p = (itemsM (oneO (valM objM f)) 125 (p.s.length + 2) ⟨[],[],[]⟩ p).map fun r=>(jn 7 [] (r.1.keys.map V.str) r.1.ls,r.2):=if_pos ⟨by rw [hI']; decide,hb.d0,by have:=hb.d; omega⟩
   rw [hobj,hit]; rfl
end Go.Fbs

namespace Go.Fbs
open Go.Proofs Go.RowKit
def tailT (ys : List (List UInt8)) : List UInt8:=ys.flatMap (44 :: ·)
theorem join_cons : ∀ (y : List UInt8) (ys : List (List UInt8)),joinT (y :: ys) = y ++ tailT ys
 | y,[]=>by simp [joinT,tailT]
 | y,z :: ys=>by
  have:=join_cons z ys
  simp only [joinT,this,tailT,List.flatMap_cons,List.append_assoc,List.cons_append,List.nil_append]
theorem joinGo_tail {f : Nat → List UInt8 → Option (List UInt8)} {ys : List (List UInt8)} (hf : ∀ i m,(h : i < ys.length) → (m ++ ys[i]).length ≤ 200000 → f i m = some (m ++ ys[i])) : ∀ (r i : Nat) (m : List UInt8),0 < i → i + r = ys.length → (m ++ tailT (ys.drop i)).length ≤ 200000 → joinGo f r i m = some (m ++ tailT (ys.drop i))
 | 0,i,m,_,hi,_=>by rw [List.drop_of_length_le (by omega)]; simp [joinGo,tailT]
 | r + 1,i,m,h0,hi,hl=>by
  have hlt : i < ys.length:=by omega
  have e : tailT (ys.drop i) = 44 :: (ys[i] ++ tailT (ys.drop (i + 1))):=by unfold tailT; rw [List.drop_eq_getElem_cons hlt,List.flatMap_cons]; rfl
  rw [e] at hl ⊢
  simp only [List.length_append,List.length_cons] at hl
  rw [joinGo,if_pos (by omega),if_pos h0,hf i (m ++ [44]) hlt (by simp only [List.length_append,List.length_cons,List.length_nil]; omega)]
  dsimp only
  rw [joinGo_tail hf r (i + 1) _ (by omega) (by omega) (by simp only [List.length_append,List.length_cons,List.length_nil]; omega)]
  simp
theorem joM_all {f : Nat → List UInt8 → Option (List UInt8)} {ys : List (List UInt8)} (hf : ∀ i m,(h : i < ys.length) → (m ++ ys[i]).length ≤ 200000 → f i m = some (m ++ ys[i])) {x y : UInt8} {n : Nat} (hn : n = ys.length) (hn2 : n ≤ 1000000000) {l : List UInt8} (hl : (l ++ ([x] ++ joinT ys ++ [y])).length ≤ 200000) : joM f x y n l = some (l ++ ([x] ++ joinT ys ++ [y])):=by
 subst hn
 have hl2:=hl
 simp only [List.length_append,List.length_cons,List.length_nil] at hl2
 unfold joM
 rw [if_pos ⟨by omega,hn2⟩]
 unfold joinM
 have hgo : joinGo f ys.length 0 (l ++ [x]) = some (l ++ [x] ++ joinT ys):=by
  cases ys with
  | nil=>simp [joinGo,joinT]
  | cons z ys =>
   rw [join_cons] at hl2 ⊢
   simp only [List.length_append] at hl2
   rw [List.length_cons,joinGo,if_pos (by simp only [List.length_append,List.length_cons,List.length_nil]; omega),if_neg (Nat.lt_irrefl 0),hf 0 (l ++ [x]) (by simp) (by simp only [List.length_append,List.length_cons,List.length_nil,List.getElem_cons_zero]; omega)]
   dsimp only
   have:=joinGo_tail hf ys.length 1 (l ++ [x] ++ z) (by omega) (by simp; omega) (by simp only [List.length_append,List.length_cons,List.length_nil,List.drop_succ_cons,List.drop_zero]; omega)
   simp only [List.getElem_cons_zero] at this ⊢
   rw [this]; simp
 rw [hgo]
 dsimp only
 rw [if_pos (by simp only [List.length_append,List.length_cons,List.length_nil]; omega)]
 simp
theorem told_leaf (f : Nat) {v : V} {x l : List UInt8} (h : Leaf v x) (hl : (l ++ x).length ≤ 200000) : toldM (f + 1) l v = some (l ++ x):=by
 rw [List.length_append] at hl
 rcases h with ⟨rfl,rfl⟩ | ⟨rfl,rfl⟩ | ⟨rfl,rfl⟩ | ⟨hn,rfl⟩ | ⟨t,ha,rfl,rfl⟩
 ·rw [toldM_jn,if_neg (by omega)]; rfl
 ·rw [toldM_jn,if_neg (by omega)]; rfl
 ·rw [toldM_jn,if_neg (by omega)]; rfl
 ·rw [toldM_jn,if_neg (by omega),if_pos (by omega),if_neg (by decide),if_neg (by decide),if_neg (by decide),if_pos rfl]
 ·have h1:=quo_ge t
  have h2:=quoT_len t
  rw [toldM_jn,if_neg (by omega),if_pos (by omega),if_neg (by decide),if_neg (by decide),if_neg (by decide),if_neg (by decide),if_pos rfl]
theorem told_val : ∀ (n : Nat) (v : V) (x : List UInt8),Wf n v x → ∀ f,n < f → ∀ l,(l ++ x).length ≤ 200000 → toldM f l v = some (l ++ x)
 | 0,v,x,h,0,hf,_,_=>absurd hf (Nat.lt_irrefl 0)
 | 0,v,x,h,f + 1,_,l,hl=>told_leaf f h hl
 | n + 1,v,x,h,0,hf,_,_=>absurd hf (by omega)
 | n + 1,v,x,h,f + 1,hf,l,hl=>by
  have hM:=fun v x hw=>told_val n v x hw f (by omega)
  rcases h with h | ⟨q,hq,rfl,rfl⟩ | ⟨q,hq,hnd,rfl,rfl⟩
  ·exact told_leaf f h hl
  ·have hfo : ∀ y ∈ q.map (·.2),FirstOk y:=fun y hy=>by
    obtain ⟨z,hz,rfl⟩:=List.mem_map.1 hy
    exact wf_first (hq z hz)
   have hjl:=join_len _ hfo
   have hl2:=hl
   simp only [List.length_append,List.length_cons,List.length_nil,List.length_map] at hl2 hjl
   rw [toldM_jn,if_neg (by omega),if_pos (by simp),if_neg (by decide),if_neg (by decide),if_neg (by decide),if_neg (by decide),if_neg (by decide),if_pos rfl]
   refine joM_all (fun i m hi hm=>?_) (by simp) (by simp; omega) hl
   have hi' : i < q.length:=by simpa using hi
   simp only [List.getElem_map] at hm ⊢
   show ((q.map (·.1))[i]?).bind (toldM f m) = _
   rw [List.getElem?_map,List.getElem?_eq_getElem hi']
   exact hM _ _ (hq _ (List.getElem_mem hi')) m hm
  ·have hfo : ∀ y ∈ q.map (fun q=>quoT q.1 ++ [58] ++ q.2.2),FirstOk y:=fun y hy=>by
    obtain ⟨z,hz,rfl⟩:=List.mem_map.1 hy
    exact ⟨34,_,rfl,by decide,by decide,by decide,by decide⟩
   have hjl:=join_len _ hfo
   have hl2:=hl
   simp only [List.length_append,List.length_cons,List.length_nil,List.length_map] at hl2 hjl
   rw [toldM_jn,if_neg (by omega),if_pos (by simp),if_neg (by decide),if_neg (by decide),if_neg (by decide),if_neg (by decide),if_neg (by decide),if_neg (by decide),if_pos rfl]
   refine joM_all (fun i m hi hm=>?_) (by simp) (by simp; omega) hl
   have hi' : i < q.length:=by simpa using hi
   have hqi:=hq _ (List.getElem_mem hi')
   simp only [List.getElem_map] at hm ⊢
   have h1:=quo_ge q[i].1
   have h2:=quoT_len q[i].1
   have hm2:=hm
   simp only [List.length_append,List.length_cons,List.length_nil] at hm2
   show (match ((q.map (·.1)).map V.str)[i]?,(q.map (·.2.1))[i]? with
    | some (.str key),some e=>if m.length ≤ 500000000 ∧ key.length ≤ 50000000 ∧ (m ++ quoT key).length ≤ 500000000 then toldM f (m ++ quoT key ++ [58]) e else none
    | _,_=>none) = _
   rw [List.getElem?_map,List.getElem?_map,List.getElem?_map,List.getElem?_eq_getElem hi']
   dsimp only [Option.map_some]
   rw [if_pos ⟨by omega,by omega,by rw [List.length_append]; omega⟩,hM _ _ hqi.2 _ (by simp only [List.length_append,List.length_cons,List.length_nil]; omega)]
   simp
theorem deep_leaf2 (k : Int) (t : List UInt8) (n : Nat) : Deep (n + 1) (jn k t [] []):=⟨k,t,[],[],rfl,by decide,by decide,fun e h=>by cases h⟩
theorem wf_deep : ∀ (n : Nat) (v : V) (x : List UInt8),Wf n v x → x.length ≤ 200000 → Deep (n + 1) v
 | 0,v,x,h,_=>by
  rcases h with ⟨rfl,_⟩ | ⟨rfl,_⟩ | ⟨rfl,_⟩ | ⟨_,rfl⟩ | ⟨t,_,rfl,_⟩ <;> exact deep_leaf2 _ _ _
 | n + 1,v,x,h,hl=>by
  rcases h with h | ⟨q,hq,rfl,rfl⟩ | ⟨q,hq,hnd,rfl,rfl⟩
  ·rcases h with ⟨rfl,_⟩ | ⟨rfl,_⟩ | ⟨rfl,_⟩ | ⟨_,rfl⟩ | ⟨t,_,rfl,_⟩ <;> exact deep_leaf2 _ _ _
  ·have hfo : ∀ y ∈ q.map (·.2),FirstOk y:=fun y hy=>by
    obtain ⟨z,hz,rfl⟩:=List.mem_map.1 hy
    exact wf_first (hq z hz)
   have hjl:=join_len _ hfo
   simp only [List.length_append,List.length_cons,List.length_nil,List.length_map] at hl hjl
   refine ⟨6,[],[],_,rfl,by simp,by simp; omega,fun e he=>?_⟩
   obtain ⟨z,hz,rfl⟩:=List.mem_map.1 he
   exact wf_deep n _ _ (hq z hz) (by have:=mem_join (List.mem_map.2 ⟨z,hz,rfl⟩ : z.2 ∈ q.map (·.2)); omega)
  ·have hfo : ∀ y ∈ q.map (fun q=>quoT q.1 ++ [58] ++ q.2.2),FirstOk y:=fun y hy=>by
    obtain ⟨z,hz,rfl⟩:=List.mem_map.1 hy
    exact ⟨34,_,rfl,by decide,by decide,by decide,by decide⟩
   have hjl:=join_len _ hfo
   simp only [List.length_append,List.length_cons,List.length_nil,List.length_map] at hl hjl
   refine ⟨7,[],_,_,rfl,by simp; omega,by simp; omega,fun e he=>?_⟩
   obtain ⟨z,hz,rfl⟩:=List.mem_map.1 he
   exact wf_deep n _ _ (hq z hz).2 (by have:=mem_join (List.mem_map.2 ⟨z,hz,rfl⟩ : (quoT z.1 ++ [58] ++ z.2.2) ∈ q.map (fun q=>quoT q.1 ++ [58] ++ q.2.2)); simp only [List.length_append] at this; omega)
theorem parse_wf {n N : Nat} {v : V} {x b1 b2 : List UInt8} (h : Wf n v x) (hn : n ≤ 20) (hN : n ≤ N) (h1 : ∀ b ∈ b1,blankL.contains b = true) (h2 : ∀ b ∈ b2,blankL.contains b = true) (hl : (b1 ++ x ++ b2).length ≤ 200000) : F_Parse objM N [.str (b1 ++ x ++ b2)] = some (.tup [v,.int .i64 0,.int .i64 0]):=by
 have hp : parseM objM (N + 1) (b1 ++ x ++ b2) = some (v,0,0):=by
  obtain ⟨s,hs⟩ : ∃ s,s = b1 ++ x ++ b2:=⟨_,rfl⟩
  rw [← hs] at hl ⊢
  have s0 : Sta ⟨s,0,0,0,0⟩ [] (b1 ++ (x ++ b2)):=⟨by rw [hs]; simp,rfl,rfl⟩
  have hsk:=s0.skip h1 (wf_first h).skip
  have s1 : Sta (mv ⟨s,0,0,0,0⟩ b1.length) b1 (x ++ b2):=s0.go
  have hb : Bd n (mv ⟨s,0,0,0,0⟩ b1.length):=⟨hl,Int.le_refl 0,by show (0 : Int) + n ≤ 20; omega⟩
  have hst : Stop b2:=fun b r e=>by
   have hm:=h2 b (by rw [e]; exact List.mem_cons_self ..)
   have : b ∈ blankL:=by simpa using hm
   simp only [blankL,List.mem_cons,List.not_mem_nil,or_false] at this
   rcases this with rfl | rfl | rfl | rfl <;> exact ⟨by decide,by decide,by decide,by decide⟩
  have hv:=read_val n v x h (N + 1) (by omega) _ _ _ s1 hb hst
  have s2 : Sta (mv (mv ⟨s,0,0,0,0⟩ b1.length) x.length) (b1 ++ x) (b2 ++ []):=by rw [List.append_nil]; exact s1.go
  have hsk2:=s2.skip h2 (fun b r e=>by cases e)
  unfold parseM
  rw [if_neg (by omega),hsk,hv]
  dsimp only
  have he : endM s (mv (mv ⟨s,0,0,0,0⟩ b1.length) x.length) = mv (mv (mv ⟨s,0,0,0,0⟩ b1.length) x.length) b2.length:=by
   unfold endM
   rw [if_pos s2.e,hsk2,if_neg]
   show ¬ ((0 : Int) + b1.length + x.length + b2.length < s.length)
   rw [hs]; simp only [List.length_append]; omega
  rw [he,if_pos]
  exact s2.e
 show (parseM objM (N + 1) (b1 ++ x ++ b2)).map _ = _
 rw [hp]; rfl
theorem text_wf {n N : Nat} {v : V} {x : List UInt8} (h : Wf n v x) (hn : n ≤ 20) (hN : n < N) (hl : x.length ≤ 200000) : F_json_Text N N [v] = some (.tup [.str x,.bool true]):=by
 have h1:=told_val n v x h 21 (by omega) [] (by simpa using hl)
 have h2:=parse_wf (b1:=[]) (b2:=[]) (N:=N) h hn (by omega) (fun b hb=>by cases hb) (fun b hb=>by cases hb) (by simpa using hl)
 rw [List.nil_append] at h1
 rw [List.nil_append,List.append_nil] at h2
 exact F_Text_at h1 h2 ((wf_deep n v x h hl).mono (by omega))
end Go.Fbs

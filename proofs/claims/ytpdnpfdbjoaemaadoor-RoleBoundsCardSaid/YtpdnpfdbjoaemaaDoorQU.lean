import Derived.Test.YtpdnpfdbjoaemaaDoorQC
set_option maxRecDepth 100000
namespace Go.Fbs
def uaT : List UInt8:=[117,115,101,114,32,97]
def nxT : List UInt8:=[35,32,120]
def noteT (b : Bool) (i : Nat) : List UInt8:=if b = true ∧ i % 2 = 0 then nxT ++ [10] else []
def btF (b : Bool) : Nat → Nat → List UInt8
 | 0,_=>[]
 | m + 1,i=>uaT ++ 10 :: (noteT b i ++ btF b m (i + 1))
def btS (b : Bool) : Nat → List UInt8
 | 0=>[]
 | i + 1=>btS b i ++ (uaT ++ [10]) ++ noteT b i
theorem bt_eq (b : Bool) : ∀ m i : Nat,btS b (i + m) = btS b i ++ btF b m i
 | 0,i=>by simp [btF]
 | m + 1,i=>by
  rw [show i + (m + 1) = (i + 1) + m by omega,bt_eq b m (i + 1)]
  simp [btS,btF]
theorem btS_F (b : Bool) (m : Nat) : btS b m = btF b m 0:=by
 have:=bt_eq b m 0
 simpa [btS] using this
def posB (b : Bool) (i : Nat) : Nat:=7 * i + (if b = true then 4 * ((i + 1) / 2) else 0)
theorem note_len (b : Bool) (i : Nat) : (noteT b i).length = if b = true ∧ i % 2 = 0 then 4 else 0:=by
 unfold noteT; split <;> rfl
theorem pos_next (b : Bool) (i : Nat) : posB b (i + 1) = posB b i + 7 + (noteT b i).length:=by
 rw [note_len]
 unfold posB
 cases b with
 | false=>simp; omega
 | true =>
  simp only [if_true,true_and]
  split <;> omega
theorem btS_len (b : Bool) : ∀ i,(btS b i).length = posB b i
 | 0=>by simp [btS,posB]
 | i + 1=>by
  rw [pos_next,← btS_len b i]
  simp [btS,uaT]; omega
def psF (b : Bool) : Nat → Nat → List (List UInt8)
 | 0,_=>[]
 | m + 1,i=>uaT :: ((if b = true ∧ i % 2 = 0 then [nxT] else []) ++ psF b m (i + 1))
theorem pieces_bt (b : Bool) : ∀ m i,pieces (btF b m i) = psF b m i ++ [[]]
 | 0,i=>rfl
 | m + 1,i=>by
  unfold btF psF
  rw [pieces_line (by decide),List.cons_append]
  congr 1
  unfold noteT
  split
  ·rw [List.append_assoc,List.cons_append,pieces_line (by decide),List.nil_append,pieces_bt b m (i + 1)]
   rfl
  ·rw [List.nil_append,List.nil_append,pieces_bt b m (i + 1)]
def lineB (k : Nat) : Lin:=(k,[([117,115,101,114],k),([97],k + 5)])
def lsF (b : Bool) : Nat → Nat → List Lin
 | 0,_=>[]
 | m + 1,i=>lineB (posB b i) :: lsF b m (i + 1)
theorem ua_line (k : Nat) : wrongM (bareM uaT) = none ∧ lineM (bareM uaT) k = [lineB k]:=⟨by decide,rfl⟩
theorem nx_line (k : Nat) : wrongM (bareM nxT) = none ∧ lineM (bareM nxT) k = []:=⟨by decide,rfl⟩
theorem nil_line (k : Nat) : wrongM (bareM []) = none ∧ lineM (bareM []) k = []:=⟨by decide,rfl⟩
theorem lines_bt (b : Bool) : ∀ m i (out : List Lin),linesF (psF b m i ++ [[]]) (posB b i) out = (out ++ lsF b m i,0,0)
 | 0,i,out=>by
  unfold psF lsF
  rw [List.nil_append,linesF,(nil_line 0).1]
  simp only
  rw [(nil_line _).2,linesF]
 | m + 1,i,out=>by
  unfold psF lsF
  rw [List.cons_append,linesF,(ua_line 0).1]
  simp only
  rw [(ua_line _).2]
  have hn:=pos_next b i
  have hu : uaT.length = 6:=rfl
  rw [hu]
  by_cases h : b = true ∧ i % 2 = 0
  ·have hl : (noteT b i).length = 4:=by rw [note_len,if_pos h]
   rw [if_pos h,List.append_assoc,List.cons_append,List.nil_append,linesF,(nx_line 0).1]
   simp only
   rw [(nx_line _).2,List.append_nil]
   have hx : nxT.length = 3:=rfl
   rw [hx,show posB b i + 6 + 1 + 3 + 1 = posB b (i + 1) by omega,lines_bt b m (i + 1)]
   simp
  ·have hl : (noteT b i).length = 0:=by rw [note_len,if_neg h]
   rw [if_neg h,List.nil_append,show posB b i + 6 + 1 = posB b (i + 1) by omega,lines_bt b m (i + 1)]
   simp
theorem fact_b (k : Nat) : (factM (lineB k)).2.2 = 0:=rfl
theorem facts_bt (b : Bool) : ∀ m i (out : List Fct),i ≤ 2000 → (i + m ≤ 2000 → ∃ gs : List Fct,gs.length = m ∧ factsF (lsF b m i) i out = (out ++ gs,0,0)) ∧ (2000 < i + m → factsF (lsF b m i) i out = ([],posB b 2000,8))
 | 0,i,out,hi=>⟨fun _=>⟨[],rfl,by simp [lsF,factsF]⟩,fun h=>by omega⟩
 | m + 1,i,out,hi=>by
  unfold lsF
  rw [factsF]
  by_cases h : 2000 ≤ i
  ·obtain rfl : i = 2000:=by omega
   rw [if_pos h]
   exact ⟨fun h2=>by omega,fun _=>rfl⟩
  ·rw [if_neg h,if_pos (fact_b _)]
   obtain ⟨h1,h2⟩:=facts_bt b m (i + 1) (out ++ [(factM (lineB (posB b i))).1]) (by omega)
   refine ⟨fun h3=>?_,fun h3=>h2 (by omega)⟩
   obtain ⟨gs,g1,g2⟩:=h1 (by omega)
   exact ⟨(factM (lineB (posB b i))).1 :: gs,by simp [g1],by rw [g2,List.append_assoc]; rfl⟩
theorem count_bt (b : Bool) : ∀ m i,(btF b m i).count 10 ≤ 2 * m
 | 0,i=>by simp [btF]
 | m + 1,i=>by
  have ih:=count_bt b m (i + 1)
  have hu : uaT.count 10 = 0:=by decide
  have hn : (noteT b i).count 10 ≤ 1:=by
   unfold noteT
   split
   ·decide
   ·simp
  unfold btF
  rw [List.count_append,List.count_cons,List.count_append,hu]
  simp
  omega
theorem bounds_law (b : Bool) (m : Nat) (h : m ≤ 2003) : (m ≤ 2000 → ∃ gs : List Fct,gs.length = m ∧ roleM (btS b m) = (gs,0,0)) ∧ (2000 < m → roleM (btS b m) = ([],posB b 2000,8)):=by
 have hlen:=btS_len b m
 have hpos : posB b m ≤ 30000:=by
  unfold posB
  split <;> omega
 have hc:=count_bt b m 0
 have hL : linesM (btS b m) = (lsF b m 0,0,0):=by
  unfold linesM
  rw [if_neg (by rw [btS_F] at hlen ⊢; omega),btS_F,pieces_bt]
  have:=lines_bt b m 0 []
  have h0 : posB b 0 = 0:=by unfold posB; cases b <;> rfl
  rw [h0] at this
  rw [this]; rfl
 obtain ⟨h1,h2⟩:=facts_bt b m 0 [] (by omega)
 unfold roleM
 rw [hL]
 simp only [ne_eq,not_true_eq_false,if_false]
 refine ⟨fun h3=>?_,fun h3=>h2 (by omega)⟩
 obtain ⟨gs,g1,g2⟩:=h1 (by omega)
 exact ⟨gs,g1,by rw [g2]; rfl⟩
end Go.Fbs

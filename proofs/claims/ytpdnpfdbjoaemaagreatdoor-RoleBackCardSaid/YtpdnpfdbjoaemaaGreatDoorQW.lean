import Derived.Test.YtpdnpfdbjoaemaaGreatDoorQS
set_option linter.unusedSimpArgs false
set_option linter.unusedVariables false
set_option linter.unusedSectionVars false
set_option maxRecDepth 100000
namespace Go.Fbs
def wlen (ws : List (List UInt8)) : Nat:=(ws.map fun w=>w.length + 1).sum
theorem wlen_cons (w : List UInt8) (ws : List (List UInt8)) : wlen (w :: ws) = w.length + 1 + wlen ws:=rfl
theorem joinT_len : ∀ (ws : List (List UInt8)),ws ≠ [] → (joinT ws).length + 1 = wlen ws
 | [],h=>absurd rfl h
 | [w],_=>by rw [show joinT [w] = w from Lib.join_one _ _]; rfl
 | w :: v :: ws,_=>by
  have:=joinT_len (v :: ws) (by simp)
  rw [joinT_cons,wlen_cons,← this,List.length_append,List.length_cons]
  omega
theorem drop_tw {p : UInt8 → Bool} : ∀ (l : List UInt8) (d : UInt8) (r : List UInt8),l.drop (l.takeWhile p).length = d :: r → p d = false
 | [],d,r,h=>by simp at h
 | c :: l,d,r,h=>by
  rw [List.takeWhile_cons] at h
  split at h
  ·exact drop_tw l d r (by simpa using h)
  ·rename_i hc
   simp only [List.length_nil,List.drop_zero,List.cons.injEq] at h
   rw [← h.1]; simpa using hc
theorem words_sum : ∀ (f : Nat) (l : List UInt8) (k : Nat),wlen ((wordsF f l k).map (·.1)) ≤ l.length + 1 ∧ (∀ c r,l = c :: r → isBl c = true → wlen ((wordsF f l k).map (·.1)) ≤ l.length) ∧ (l = [] → wlen ((wordsF f l k).map (·.1)) = 0)
 | 0,l,k=>⟨Nat.zero_le _,fun _ _ _ _=>Nat.zero_le _,fun _=>rfl⟩
 | f + 1,[],k=>⟨Nat.zero_le _,fun _ _ _ _=>Nat.zero_le _,fun _=>rfl⟩
 | f + 1,c :: r,k=>by
  unfold wordsF
  by_cases hb : isBl c = true
  ·rw [if_pos hb]
   obtain ⟨h1,_,_⟩:=words_sum f r (k + 1)
   refine ⟨by rw [List.length_cons]; omega,fun _ _ _ _=>by rw [List.length_cons]; exact h1,fun h=>by simp at h⟩
  ·rw [if_neg hb]
   refine ⟨?_,fun c' r' h h'=>by simp only [List.cons.injEq] at h; rw [h.1] at hb; exact absurd h' hb,fun h=>by simp at h⟩
   by_cases h35 : c = 35
   ·rw [if_pos h35]; exact Nat.zero_le _
   ·rw [if_neg h35]
    obtain ⟨h1,h2,h3⟩:=words_sum f ((c :: r).drop (wordL (c :: r)).length) (k + (wordL (c :: r)).length)
    rw [List.map_cons,wlen_cons]
    simp only
    have hle : (wordL (c :: r)).length ≤ (c :: r).length:=(List.takeWhile_prefix _).length_le
    cases hd : (c :: r).drop (wordL (c :: r)).length with
    | nil =>
     have:=h3 hd
     rw [hd] at this
     omega
    | cons d t =>
     have hbl : isBl d = true:=by
      have:=drop_tw (c :: r) d t hd
      simpa using this
     have:=h2 d t hd hbl
     rw [hd] at this
     have e : (d :: t).length = (c :: r).length - (wordL (c :: r)).length:=by rw [← hd,List.length_drop]
     omega
theorem pieces_sumW : ∀ (l : List UInt8),((pieces l).map fun p=>p.length + 1).sum = l.length + 1
 | []=>rfl
 | c :: r=>by
  have:=pieces_sumW r
  unfold pieces
  split
  ·rw [List.map_cons,List.sum_cons,this]; simp; omega
  ·split
   ·rename_i h
    rw [h] at this
    simp at this
   ·rename_i p ps h
    rw [h] at this
    simp only [List.map_cons,List.sum_cons,List.length_cons] at this ⊢
    omega
def linL (L : List Lin) : Nat:=(L.map fun x=>wlen (x.2.map (·.1))).sum
theorem lineM_sum (p : List UInt8) (k : Nat) : linL (lineM p k) ≤ p.length + 1:=by
 have:=(words_sum p.length p k).1
 unfold lineM
 unfold wordsM
 cases h : wordsF p.length p k with
 | nil=>exact Nat.zero_le _
 | cons w ws =>
  rw [h] at this
  simpa [linL] using this
theorem bareM_len (p : List UInt8) : (bareM p).length ≤ p.length:=by
 unfold bareM
 split
 ·simp
 ·exact Nat.le_refl _
theorem linesF_sum : ∀ (ps : List (List UInt8)) (k : Nat) (out : List Lin),linL (linesF ps k out).1 ≤ linL out + (ps.map fun p=>p.length + 1).sum
 | [],k,out=>Nat.le_refl _
 | p :: ps,k,out=>by
  unfold linesF
  rw [List.map_cons,List.sum_cons]
  split
  ·exact Nat.zero_le _
  ·have h1:=linesF_sum ps (k + p.length + 1) (out ++ lineM (bareM p) k)
   have h2:=lineM_sum (bareM p) k
   have h3:=bareM_len p
   have h4 : linL (out ++ lineM (bareM p) k) = linL out + linL (lineM (bareM p) k):=by simp [linL]
   omega
theorem linesM_sum (l : List UInt8) : linL (linesM l).1 ≤ l.length + 1:=by
 unfold linesM
 split
 ·exact Nat.zero_le _
 ·have:=linesF_sum (pieces l) 0 []
  rw [pieces_sumW] at this
  simpa [linL] using this
theorem linT_len : ∀ (wss : List (List (List UInt8))),(∀ ws ∈ wss,ws ≠ []) → (linT wss).length = (wss.map wlen).sum
 | [],_=>rfl
 | ws :: wss,h=>by
  have e : linT (ws :: wss) = joinT ws ++ 10 :: linT wss:=by simp [linT]
  rw [e,List.length_append,List.length_cons,linT_len wss (fun x hx=>h x (List.mem_cons_of_mem _ hx)),List.map_cons,List.sum_cons,← joinT_len ws (h ws List.mem_cons_self)]
  omega
theorem read_words {l : List UInt8} {fs : List Fct} {k : Nat} (h : roleM l = (fs,k,0)) : fs.map wordsW = (linesM l).1.map fun x=>x.2.map (·.1):=by
 unfold roleM at h
 split at h
 ·rename_i h9
  simp only [Prod.mk.injEq] at h
  exact absurd h.2.2 h9
 ·obtain ⟨gs,g1,g2,_,_⟩:=factsF_read _ _ _ _ _ h (by omega)
  rw [List.nil_append] at g1
  rw [g1,g2]
theorem roleT_len {l : List UInt8} {fs : List Fct} {k : Nat} (h : roleM l = (fs,k,0)) : (roleT fs).length ≤ l.length + 1:=by
 have hw:=read_words h
 have h1:=linesM_sum l
 have h2 : ∀ ws ∈ fs.map wordsW,ws ≠ []:=fun ws hws=>by
  obtain ⟨f,_,rfl⟩:=List.mem_map.1 hws
  unfold wordsW
  simp
 have h3:=linT_len _ h2
 unfold roleT
 rw [h3,hw,List.map_map]
 exact h1
theorem numM_lt {w : List UInt8} {n : Int} (h : numM w = some n) : 0 ≤ n ∧ n < 100:=by
 unfold numM at h
 split at h
 ·split at h
  ·rename_i hc
   simp only [digC,Bool.and_eq_true,decide_eq_true_eq] at hc
   simp only [Option.some.injEq] at h
   omega
  ·cases h
 ·split at h
  ·rename_i hc
   simp only [digC,Bool.and_eq_true,decide_eq_true_eq] at hc
   simp only [Option.some.injEq] at h
   omega
  ·cases h
 ·cases h
theorem fillM_n (f : Frm) : ∀ (ws : List Wrd) (i : Nat) (o : Fct),0 ≤ o.n ∧ o.n < 100 → 0 ≤ (fillM f i ws o).1.n ∧ (fillM f i ws o).1.n < 100
 | [],i,o,h=>h
 | w :: ws,i,o,h=>by
  unfold fillM
  split
  ·split
   ·rename_i n hn
    exact fillM_n f ws (i + 1) _ (numM_lt hn)
   ·exact h
  ·split
   ·exact h
   ·split
    ·exact fillM_n f ws (i + 1) _ h
    ·split
     ·exact fillM_n f ws (i + 1) _ h
     ·split
      ·exact fillM_n f ws (i + 1) _ h
      ·exact fillM_n f ws (i + 1) _ h
theorem factM_n (x : Lin) : 0 ≤ (factM x).1.n ∧ (factM x).1.n < 100:=by
 have h0 : 0 ≤ fct0.n ∧ fct0.n < 100:=by decide
 unfold factM
 split
 ·exact h0
 ·split
  ·exact h0
  ·rename_i f hf
   split
   ·exact h0
   ·rename_i w ws _ _ _
    have:=fillM_n f ws 0 { fct0 with kind:=f.kind,at_:=x.1 } h0
    split
    ·rename_i o _ he
     rw [he] at this
     exact this
    ·exact h0
theorem factsF_n : ∀ (L : List Lin) (i : Nat) (out : List Fct),(∀ o ∈ out,0 ≤ o.n ∧ o.n < 100) → ∀ o ∈ (factsF L i out).1,0 ≤ o.n ∧ o.n < 100
 | [],i,out,h=>h
 | x :: L,i,out,h=>by
  unfold factsF
  split
  ·intro o ho; simp at ho
  ·split
   ·refine factsF_n L _ _ fun o ho=>?_
    rcases List.mem_append.1 ho with ho | ho
    ·exact h o ho
    ·simp only [List.mem_singleton] at ho
     subst ho
     exact factM_n x
   ·intro o ho; simp at ho
theorem roleM_n (s : List UInt8) : ∀ o ∈ (roleM s).1,0 ≤ o.n ∧ o.n < 100:=by
 unfold roleM
 split
 ·intro o ho; simp at ho
 ·exact factsF_n _ _ _ fun o ho=>by simp at ho
theorem textF_roleT : ∀ (fs : List Fct) (t : List UInt8),(∀ f ∈ fs,lnG (wordsW f)) → (t ++ roleT fs).length ≤ 200000 → textF fs t = some (t ++ roleT fs)
 | [],t,_,_=>by simp [textF,roleT,linT]
 | f :: fs,t,hG,hl=>by
  have hk : kwM f.kind.toNat ≠ []:=((hG f List.mem_cons_self).2 (kwM f.kind.toNat) (by unfold wordsW; exact List.mem_cons_self)).1
  have e : roleT (f :: fs) = (joinT (wordsW f) ++ [10]) ++ roleT fs:=by simp [roleT,linT]
  have e2 : toldT f = joinT (wordsW f):=by unfold toldT; rw [if_neg hk]
  rw [e,← List.append_assoc] at hl ⊢
  unfold textF
  rw [e2,if_neg (by simp only [List.length_append] at hl ⊢; omega)]
  exact textF_roleT fs _ (fun g hg=>hG g (List.mem_cons_of_mem _ hg)) hl
theorem roleT_to : ∀ {gs fs : List Fct},gs.map (fun o=>o.to 0) = fs.map (fun o=>o.to 0) → roleT gs = roleT fs:=by
 intro gs fs h
 have : ∀ l : List Fct,l.map wordsW = (l.map fun o=>o.to 0).map wordsW:=fun l=>by rw [List.map_map]; rfl
 unfold roleT
 rw [this gs,h,← this fs]
theorem mem_le_sum : ∀ {l : List Nat} {x : Nat},x ∈ l → x ≤ l.sum
 | [],_,h=>by simp at h
 | y :: l,x,h=>by
  rw [List.sum_cons]
  rcases List.mem_cons.1 h with rfl | h
  ·omega
  ·have:=mem_le_sum h
   omega
theorem text_read {l : List UInt8} {fs : List Fct} {k : Nat} (h : roleM l = (fs,k,0)) (hl : l.length ≤ 199999) :
  textM fs = (roleT fs,true) ∧ (roleT fs).length ≤ l.length + 1 ∧ (fs ≠ [] → okTx fs) ∧ ∃ gs,roleM (roleT fs) = (gs,0,0) ∧ gs.map (fun o=>o.to 0) = fs.map (fun o=>o.to 0):=by
 have hlen:=roleT_len h
 obtain ⟨hG,h2,gs,g1,g2⟩:=role_back h (by omega)
 have ht:=textF_roleT fs [] hG (by rw [List.nil_append]; omega)
 refine ⟨?_,hlen,fun hne=>⟨hne,by omega,fun o ho=>⟨?_,?_,fun _=>?_⟩⟩,gs,g1,g2⟩
 ·unfold textM
  rw [ht,List.nil_append]
  simp only
  rw [g1]
  simp only [ne_eq,not_true_eq_false,if_false]
  rw [if_pos (sameL_iff.2 g2)]
 ·have:=parse_okF l o (by rw [h]; exact ho)
  exact this
 ·have h3 : (joinT (wordsW o)).length ≤ (roleT fs).length:=by
   unfold roleT linT
   rw [List.length_flatMap]
   refine Nat.le_trans ?_ (mem_le_sum (List.mem_map.2 ⟨wordsW o,List.mem_map.2 ⟨o,ho,rfl⟩,rfl⟩))
   simp
  omega
 ·have:=roleM_n l o (by rw [h]; exact ho)
  omega
def badF : List Fct:=[fct0,{ fct0 with kind:=9,a:=[97] },{ fct0 with kind:=1 },{ fct0 with kind:=1,a:=[65] },{ fct0 with kind:=1,a:=[97],b:=[98] },{ fct0 with kind:=2,a:=[97],n:=1 },{ fct0 with kind:=3,a:=[97] },
 {fct0 with kind:=5,a:=[97],b:=[98] },{ fct0 with kind:=6,a:=[97],n:=2,l:=[[114]] },{ fct0 with kind:=6,a:=[97],l:=[[114],[115]] },{ fct0 with kind:=7,a:=[97],n:=100,l:=[[114],[115]] },{ fct0 with kind:=8,a:=[97] },
 {fct0 with kind:=8,a:=[97],b:=[98],l:=[[114,32,115]] },{ fct0 with kind:=4,a:=[97],b:=[98],l:=[[99]] }]
theorem bad_text : (badF.all fun o=>(textM [o]).2 == false && (textM [o]).1 == []) = true:=by kernel_rfl
theorem bad_ok : (badF.all fun o=>decide (o.l.length ≤ 300000) && decide ((joinT (wordsW o)).length ≤ 1000000000) && decide (0 ≤ o.n) && decide (o.n < 1000)) = true:=by kernel_rfl
theorem bad_at {i : Nat} {o : Fct} (h : badF[i]? = some o) : textM [o] = ([],false) ∧ okTx [o]:=by
 have hm:=List.mem_of_getElem? h
 have h1:=List.all_eq_true.1 bad_text o hm
 have h2:=List.all_eq_true.1 bad_ok o hm
 simp only [Bool.and_eq_true,decide_eq_true_eq,beq_iff_eq] at h1 h2
 refine ⟨Prod.ext h1.2 h1.1,by simp,by simp,fun x hx=>?_⟩
 simp only [List.mem_singleton] at hx
 subst hx
 exact ⟨h2.1.1.1,h2.1.1.2,fun _=>⟨h2.1.2,h2.2⟩⟩
end Go.Fbs

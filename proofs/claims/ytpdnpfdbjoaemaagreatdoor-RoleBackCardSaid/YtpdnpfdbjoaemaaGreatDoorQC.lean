import Derived.Test.YtpdnpfdbjoaemaaGreatDoorQB
set_option maxRecDepth 100000
namespace Go.Fbs
def factsF : List Lin → Nat → List Fct → List Fct × Nat × Int
 | [],_,out=>(out,0,0)
 | x :: xs,i,out =>
  if 2000 ≤ i then ([],x.1,8)
  else if (factM x).2.2 = 0 then factsF xs (i + 1) (out ++ [(factM x).1]) else ([],(factM x).2.1,(factM x).2.2)
def roleM (l : List UInt8) : List Fct × Nat × Int:=if (linesM l).2.2 ≠ 0 then ([],(linesM l).2.1,(linesM l).2.2) else factsF (linesM l).1 0 []
def Fct.to (o : Fct) (k : Nat) : Fct:={ o with at_:=k }
theorem fill_texts (f : Frm) : ∀ (ws ws' : List Wrd) (i : Nat) (o o' : Fct) (k a : Nat),ws'.map (·.1) = ws.map (·.1) → fillM f i ws o = (o',k,0) → fillM f i ws' (o.to a) = (o'.to a,0,0)
 | [],ws',i,o,o',k,a,hw,h=>by
  obtain rfl : ws' = []:=by simpa using hw
  unfold fillM at h ⊢
  simp only [Prod.mk.injEq] at h
  rw [h.1]
 | w :: ws,[],i,o,o',k,a,hw,h=>by simp at hw
 | w :: ws,v :: vs,i,o,o',k,a,hw,h=>by
  simp only [List.map_cons,List.cons.injEq] at hw
  obtain ⟨e,hw⟩:=hw
  unfold fillM at h ⊢
  rw [e]
  split at h
  ·rename_i hn
   rw [if_pos hn]
   split at h
   ·rename_i n hn2
    exact fill_texts f ws vs (i + 1) _ o' k a hw h
   ·simp at h
  ·rename_i hn
   rw [if_neg hn]
   split at h
   ·simp at h
   ·rename_i hg
    rw [if_neg hg]
    split at h
    ·rename_i hk
     rw [if_pos hk]
     exact fill_texts f ws vs (i + 1) _ o' k a hw h
    ·rename_i hk
     rw [if_neg hk]
     split at h
     ·rename_i h0
      rw [if_pos h0]
      exact fill_texts f ws vs (i + 1) _ o' k a hw h
     ·rename_i h0
      rw [if_neg h0]
      split at h
      ·rename_i h1
       rw [if_pos h1]
       exact fill_texts f ws vs (i + 1) _ o' k a hw h
      ·rename_i h1
       rw [if_neg h1]
       exact fill_texts f ws vs (i + 1) _ o' k a hw h
theorem fact_texts {x y : Lin} {o : Fct} {k : Nat} (h : factM x = (o,k,0)) (e : y.2.map (·.1) = x.2.map (·.1)) : factM y = (o.to y.1,0,0):=by
 unfold factM at h ⊢
 split at h
 ·simp at h
 ·rename_i w ws hl
  rw [hl] at e
  cases hy : y.2 with
  | nil=>rw [hy] at e; simp at e
  | cons v vs =>
   rw [hy] at e
   simp only [List.map_cons,List.cons.injEq] at e
   simp only
   rw [e.1]
   have elen : vs.length = ws.length:=by have:=congrArg List.length e.2; simpa using this
   rw [elen]
   split at h
   ·simp at h
   ·split at h
    ·simp at h
    ·rename_i hlen
     rw [if_neg hlen]
     split at h
     ·rename_i o' k' hfill
      simp only [Prod.mk.injEq] at h
      obtain ⟨rfl,_,_⟩:=h
      have:=fill_texts _ ws vs 0 _ o' k' y.1 e.2 hfill
      unfold Fct.to at this
      simp only at this
      rw [this]
      rfl
     ·simp at h
      rename_i e9 _ _
      exact absurd h.2.2 (by assumption)
theorem factsF_read : ∀ (xs : List Lin) (i : Nat) (out fs : List Fct) (k : Nat),factsF xs i out = (fs,k,0) → i ≤ 2000 →
  ∃ gs,fs = out ++ gs ∧ gs.map wordsW = xs.map (fun x=>x.2.map (·.1)) ∧ i + gs.length ≤ 2000 ∧ ∀ ys : List Lin,ys.map (fun x=>x.2.map (·.1)) = xs.map (fun x=>x.2.map (·.1)) → ∀ out' : List Fct,∃ gs',factsF ys i out' = (out' ++ gs',0,0) ∧ gs'.map (fun o=>o.to 0) = gs.map (fun o=>o.to 0)
 | [],i,out,fs,k,h,hi=>by
  unfold factsF at h
  simp only [Prod.mk.injEq] at h
  obtain ⟨rfl,_,_⟩:=h
  refine ⟨[],by simp,rfl,by simpa using hi,fun ys hy out'=>?_⟩
  obtain rfl : ys = []:=by simpa using hy
  exact ⟨[],by simp [factsF],rfl⟩
 | x :: xs,i,out,fs,k,h,hi=>by
  unfold factsF at h
  split at h
  ·simp at h
  ·rename_i hlt
   split at h
   ·rename_i he
    obtain ⟨gs,g1,g2,g3,g4⟩:=factsF_read xs (i + 1) _ fs k h (by omega)
    have hx : factM x = ((factM x).1,(factM x).2.1,0):=by rw [← he]
    have hw:=fact_words hx
    refine ⟨(factM x).1 :: gs,by rw [g1]; simp,by rw [List.map_cons,List.map_cons,g2,hw.1],by rw [List.length_cons]; omega,fun ys hy out'=>?_⟩
    cases ys with
    | nil=>simp at hy
    | cons y ys =>
     simp only [List.map_cons,List.cons.injEq] at hy
     have hf:=fact_texts hx hy.1
     obtain ⟨gs',q1,q2⟩:=g4 ys hy.2 (out' ++ [(factM x).1.to y.1])
     refine ⟨(factM x).1.to y.1 :: gs',?_,by rw [List.map_cons,List.map_cons,q2]; rfl⟩
     unfold factsF
     rw [if_neg hlt,hf]
     simp only [if_true]
     rw [q1,List.append_assoc]; rfl
   ·rename_i he
    simp only [Prod.mk.injEq] at h
    exact absurd h.2.2 he
theorem twP {p : UInt8 → Bool} {d : UInt8} : ∀ {l : List UInt8},d ∈ l.takeWhile p → p d = true
 | [],h=>by simp at h
 | c :: l,h=>by
  rw [List.takeWhile_cons] at h
  split at h
  ·rename_i hc
   rcases List.mem_cons.1 h with rfl | h
   ·exact hc
   ·exact twP h
  ·simp at h
theorem wordsF_good : ∀ (f : Nat) (l : List UInt8) (k : Nat),(∀ c ∈ l,badC c = false) → ∀ w ∈ wordsF f l k,wdG w.1
 | 0,l,k,_,w,hw=>by simp [wordsF] at hw
 | f + 1,[],k,_,w,hw=>by simp [wordsF] at hw
 | f + 1,c :: r,k,hb,w,hw=>by
  unfold wordsF at hw
  split at hw
  ·exact wordsF_good f r _ (fun d hd=>hb d (List.mem_cons_of_mem _ hd)) w hw
  ·rename_i hbl
   split at hw
   ·simp at hw
   ·rename_i h35
    rcases List.mem_cons.1 hw with rfl | hw
    ·have hw1 : wordL (c :: r) = c :: r.takeWhile fun c=>!isBl c:=by unfold wordL; rw [List.takeWhile_cons,if_pos (by simpa using hbl)]
     refine ⟨by rw [hw1]; simp,by rw [hw1]; simpa using h35,fun d hd=>?_⟩
     have hd : d ∈ (c :: r).takeWhile fun c=>!isBl c:=hd
     have hd1 : isBl d = false:=by
      have:=twP hd
      simpa using this
     have hd2:=hb d ((List.takeWhile_prefix _).subset hd)
     refine ⟨hd1,hd2,?_,?_⟩ <;> (rintro rfl; revert hd2; decide)
    ·exact wordsF_good f _ _ (fun d hd=>hb d (List.mem_of_mem_drop hd)) w hw
theorem lineM_good {p : List UInt8} {k : Nat} (h : wrongM p = none) : ∀ x ∈ lineM p k,lnG (x.2.map (·.1)):=by
 unfold wrongM at h
 rw [List.findIdx?_eq_none_iff] at h
 intro x hx
 unfold lineM at hx
 split at hx
 ·simp at hx
 ·rename_i w ws hw
  simp only [List.mem_singleton] at hx
  subst hx
  refine ⟨by simp,fun v hv=>?_⟩
  obtain ⟨u,hu,rfl⟩:=List.mem_map.1 hv
  exact wordsF_good _ _ _ h u (by unfold wordsM at hw; rw [hw]; exact hu)
theorem linesF_good : ∀ (ps : List (List UInt8)) (k : Nat) (out : List Lin),(∀ x ∈ out,lnG (x.2.map (·.1))) → ∀ x ∈ (linesF ps k out).1,lnG (x.2.map (·.1))
 | [],k,out,h,x,hx=>h x hx
 | p :: ps,k,out,h,x,hx=>by
  unfold linesF at hx
  split at hx
  ·simp at hx
  ·rename_i hw
   refine linesF_good ps _ _ (fun y hy=>?_) x hx
   rcases List.mem_append.1 hy with hy | hy
   ·exact h y hy
   ·exact lineM_good hw y hy
theorem linesM_good (l : List UInt8) : ∀ x ∈ (linesM l).1,lnG (x.2.map (·.1)):=by
 unfold linesM
 split
 ·intro x hx; simp at hx
 ·exact linesF_good _ _ _ fun x hx=>by simp at hx
def roleT (fs : List Fct) : List UInt8:=linT (fs.map wordsW)
theorem role_back {l : List UInt8} {fs : List Fct} {k : Nat} (h : roleM l = (fs,k,0)) (hlen : (roleT fs).length ≤ 200000) :
  (∀ f ∈ fs,lnG (wordsW f)) ∧ fs.length ≤ 2000 ∧ ∃ gs,roleM (roleT fs) = (gs,0,0) ∧ gs.map (fun o=>o.to 0) = fs.map (fun o=>o.to 0):=by
 unfold roleM at h
 split at h
 ·rename_i h9
  simp only [Prod.mk.injEq] at h
  exact absurd h.2.2 h9
 ·obtain ⟨gs,g1,g2,g3,g4⟩:=factsF_read _ _ _ _ _ h (by omega)
  rw [List.nil_append] at g1
  subst g1
  have hG : ∀ ws ∈ fs.map wordsW,lnG ws:=by
   rw [g2]
   intro ws hws
   obtain ⟨x,hx,rfl⟩:=List.mem_map.1 hws
   exact linesM_good l x hx
  refine ⟨fun f hf=>hG _ (List.mem_map.2 ⟨f,hf,rfl⟩),by omega,?_⟩
  obtain ⟨L,q1,q2⟩:=lines_text hG hlen (by rw [List.length_map]; omega)
  obtain ⟨gs',r1,r2⟩:=g4 L (by rw [q2,g2]) []
  refine ⟨gs',?_,r2⟩
  unfold roleM
  have e : roleT fs = linT (fs.map wordsW):=rfl
  rw [e,q1]
  simp only [ne_eq,not_true_eq_false,if_false]
  rw [r1,List.nil_append]
end Go.Fbs

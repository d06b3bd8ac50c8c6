import Derived.Lib.Join
set_option maxRecDepth 100000
namespace Go.Fbs
abbrev Wrd:=List UInt8 × Nat
abbrev Lin:=Nat × List Wrd
def isBl (c : UInt8) : Bool:=c == 32 || c == 9
def wordL (l : List UInt8) : List UInt8:=l.takeWhile fun c=>!isBl c
def wordsF : Nat → List UInt8 → Nat → List Wrd
 | 0,_,_=>[]
 | _ + 1,[],_=>[]
 | f + 1,c :: r,k=>if isBl c = true then wordsF f r (k + 1) else if c = 35 then [] else (wordL (c :: r),k) :: wordsF f ((c :: r).drop (wordL (c :: r)).length) (k + (wordL (c :: r)).length)
def wordsM (l : List UInt8) (k : Nat) : List Wrd:=wordsF l.length l k
def badC (c : UInt8) : Bool:=c != 9 && (decide (c.toNat < 32) || decide (126 < c.toNat))
def wrongM (l : List UInt8) : Option Nat:=l.findIdx? badC
def bareM (l : List UInt8) : List UInt8:=if l.getLast? = some 13 then l.dropLast else l
def pieces : List UInt8 → List (List UInt8)
 | []=>[[]]
 | c :: r=>if c = 10 then [] :: pieces r else match pieces r with | []=>[[c]] | p :: ps=>(c :: p) :: ps
def lineM (p : List UInt8) (k : Nat) : List Lin:=match wordsM p k with | []=>[] | w :: ws=>[(w.2,w :: ws)]
def linesF : List (List UInt8) → Nat → List Lin → List Lin × Nat × Int
 | [],_,out=>(out,0,0)
 | p :: ps,k,out =>
  match wrongM (bareM p) with
  | some j=>([],k + j,7)
  | none=>linesF ps (k + p.length + 1) (out ++ lineM (bareM p) k)
def linesM (l : List UInt8) : List Lin × Nat × Int:=if 200000 < l.length ∨ 5000 < l.count 10 then ([],0,8) else linesF (pieces l) 0 []
def wdG (w : List UInt8) : Prop:=w ≠ [] ∧ w.head? ≠ some 35 ∧ ∀ c ∈ w,isBl c = false ∧ badC c = false ∧ c ≠ 13 ∧ c ≠ 10
theorem takeW_all {f : UInt8 → Bool} : ∀ {a b : List UInt8},(∀ c ∈ a,f c = true) → (∀ c,b.head? = some c → f c = false) → (a ++ b).takeWhile f = a
 | [],[],_,_=>rfl
 | [],c :: b,_,h=>by
  have:=h c rfl
  simp [List.takeWhile_cons,this]
 | c :: a,b,h,g=>by
  rw [List.cons_append,List.takeWhile_cons,if_pos (h c List.mem_cons_self),takeW_all (fun d hd=>h d (List.mem_cons_of_mem _ hd)) g]
theorem wordL_app {w r : List UInt8} (h : wdG w) (hr : ∀ c,r.head? = some c → isBl c = true) : wordL (w ++ r) = w :=
 takeW_all (fun c hc=>by rw [(h.2.2 c hc).1]; rfl) (fun c hc=>by rw [hr c hc]; rfl)
def joinT (ws : List (List UInt8)) : List UInt8:=Lib.join ws [32]
theorem joinT_cons (w v : List UInt8) (ws : List (List UInt8)) : joinT (w :: v :: ws) = w ++ (32 :: joinT (v :: ws)):=by
 unfold joinT
 rw [Lib.join_cons,Lib.join_cons]
 simp [Lib.joinTail]
theorem wordsF_word {f k : Nat} {w r : List UInt8} (h : wdG w) (hr : ∀ c,r.head? = some c → isBl c = true) : wordsF (f + 1) (w ++ r) k = (w,k) :: wordsF f r (k + w.length):=by
 have hl:=wordL_app h hr
 obtain ⟨c,w',rfl⟩:=List.exists_cons_of_ne_nil h.1
 have hb:=(h.2.2 c List.mem_cons_self).1
 have h35 : c ≠ 35:=fun e=>h.2.1 (by rw [e]; rfl)
 rw [List.cons_append] at hl ⊢
 conv=>lhs; unfold wordsF
 rw [if_neg (by rw [hb]; simp),if_neg h35,hl,← List.cons_append,List.drop_left]
theorem wordsF_fuel : ∀ (f g : Nat) (l : List UInt8) (k : Nat),l.length ≤ f → l.length ≤ g → wordsF f l k = wordsF g l k
 | 0,0,_,_,_,_=>rfl
 | 0,g + 1,l,k,h,_=>by
  obtain rfl : l = []:=List.length_eq_zero_iff.1 (by omega)
  rfl
 | f + 1,0,l,k,_,h=>by
  obtain rfl : l = []:=List.length_eq_zero_iff.1 (by omega)
  rfl
 | f + 1,g + 1,[],k,_,_=>rfl
 | f + 1,g + 1,c :: r,k,h1,h2=>by
  simp only [List.length_cons] at h1 h2
  unfold wordsF
  split
  ·exact wordsF_fuel f g r _ (by omega) (by omega)
  ·rename_i hb
   split
   ·rfl
   ·have hw : 1 ≤ (wordL (c :: r)).length:=by
     unfold wordL
     rw [List.takeWhile_cons,if_pos (by simpa using hb)]
     simp
    rw [wordsF_fuel f g _ _ (by rw [List.length_drop,List.length_cons]; omega) (by rw [List.length_drop,List.length_cons]; omega)]
theorem words_join : ∀ (ws : List (List UInt8)) (f k : Nat),(∀ w ∈ ws,wdG w) → ws ≠ [] → (joinT ws).length ≤ f → (wordsF f (joinT ws) k).map (·.1) = ws ∧ (wordsF f (joinT ws) k).head?.map (·.2) = some k
 | [],_,_,_,h,_=>absurd rfl h
 | [w],f,k,hG,_,hf=>by
  have hw:=hG w List.mem_cons_self
  have e : joinT [w] = w:=Lib.join_one _ _
  rw [e] at hf ⊢
  have h1 : 0 < w.length:=List.length_pos_iff.2 hw.1
  obtain ⟨f,rfl⟩ : ∃ m,f = m + 1:=⟨f - 1,by omega⟩
  have:=wordsF_word (f:=f) (k:=k) (r:=[]) hw (fun c hc=>by simp at hc)
  rw [List.append_nil] at this
  rw [this]
  have e2 : wordsF f [] (k + w.length) = []:=by cases f <;> rfl
  rw [e2]
  exact ⟨rfl,rfl⟩
 | w :: v :: ws,f,k,hG,_,hf=>by
  have hw:=hG w List.mem_cons_self
  have h1 : 0 < w.length:=List.length_pos_iff.2 hw.1
  rw [joinT_cons] at hf ⊢
  simp only [List.length_append,List.length_cons] at hf
  obtain ⟨f,rfl⟩ : ∃ m,f = m + 1 + 1:=⟨f - 2,by omega⟩
  rw [wordsF_word hw (fun c hc=>by simp only [List.head?_cons,Option.some.injEq] at hc; subst hc; rfl)]
  have e : wordsF (f + 1) (32 :: joinT (v :: ws)) (k + w.length) = wordsF f (joinT (v :: ws)) (k + w.length + 1):=by
   conv=>lhs; unfold wordsF
   rw [if_pos (show isBl 32 = true from rfl)]
  rw [e]
  have ih:=words_join (v :: ws) f (k + w.length + 1) (fun x hx=>hG x (List.mem_cons_of_mem _ hx)) (by simp) (by omega)
  refine ⟨?_,rfl⟩
  rw [List.map_cons,ih.1]
theorem joinT_all {P : UInt8 → Prop} (h32 : P 32) : ∀ (ws : List (List UInt8)),(∀ w ∈ ws,∀ c ∈ w,P c) → ∀ c ∈ joinT ws,P c
 | [],_,c,hc=>by simp [joinT,Lib.join_nil] at hc
 | [w],hG,c,hc=>by
  rw [show joinT [w] = w from Lib.join_one _ _] at hc
  exact hG w List.mem_cons_self c hc
 | w :: v :: ws,hG,c,hc=>by
  rw [joinT_cons] at hc
  simp only [List.mem_append,List.mem_cons] at hc
  rcases hc with hc | rfl | hc
  ·exact hG w List.mem_cons_self c hc
  ·exact h32
  ·exact joinT_all h32 (v :: ws) (fun x hx=>hG x (List.mem_cons_of_mem _ hx)) c hc
theorem pieces_line {p r : List UInt8} (h : ∀ c ∈ p,c ≠ 10) : pieces (p ++ 10 :: r) = p :: pieces r:=by
 induction p with
 | nil=>rfl
 | cons c p ih =>
  rw [List.cons_append]
  conv=>lhs; unfold pieces
  rw [if_neg (h c List.mem_cons_self),ih fun d hd=>h d (List.mem_cons_of_mem _ hd)]
def linT (wss : List (List (List UInt8))) : List UInt8:=wss.flatMap fun ws=>joinT ws ++ [10]
def lnG (ws : List (List UInt8)) : Prop:=ws ≠ [] ∧ ∀ w ∈ ws,wdG w
theorem lnG_ok {ws : List (List UInt8)} (h : lnG ws) : wrongM (bareM (joinT ws)) = none ∧ bareM (joinT ws) = joinT ws ∧ ∀ c ∈ joinT ws,c ≠ 10:=by
 have h10 : ∀ c ∈ joinT ws,c ≠ 10:=joinT_all (P:=fun c=>c ≠ 10) (by decide) ws fun w hw c hc=>((h.2 w hw).2.2 c hc).2.2.2
 have h13 : ∀ c ∈ joinT ws,c ≠ 13:=joinT_all (P:=fun c=>c ≠ 13) (by decide) ws fun w hw c hc=>((h.2 w hw).2.2 c hc).2.2.1
 have hb : ∀ c ∈ joinT ws,badC c = false:=joinT_all (P:=fun c=>badC c = false) (by decide) ws fun w hw c hc=>((h.2 w hw).2.2 c hc).2.1
 have e : bareM (joinT ws) = joinT ws:=by
  unfold bareM
  rw [if_neg]
  intro e
  exact h13 13 (List.mem_of_getLast? e) rfl
 refine ⟨?_,e,h10⟩
 rw [e]
 unfold wrongM
 rw [List.findIdx?_eq_none_iff]
 exact hb
theorem linesF_text : ∀ (wss : List (List (List UInt8))) (k : Nat) (out : List Lin),(∀ ws ∈ wss,lnG ws) →
  ∃ L : List Lin,linesF (pieces (linT wss)) k out = (out ++ L,0,0) ∧ L.map (fun l=>l.2.map (·.1)) = wss
 | [],k,out,_=>by
  refine ⟨[],?_,rfl⟩
  show linesF [[]] k out = _
  simp [linesF,wrongM,bareM,lineM,wordsM,wordsF]
 | ws :: wss,k,out,hG=>by
  have hw:=hG ws List.mem_cons_self
  obtain ⟨g1,g2,g3⟩:=lnG_ok hw
  have e : linT (ws :: wss) = joinT ws ++ 10 :: linT wss:=by simp [linT]
  rw [e,pieces_line g3]
  unfold linesF
  rw [g1,g2]
  simp only
  have hj:=words_join ws (joinT ws).length k hw.2 hw.1 (Nat.le_refl _)
  obtain ⟨L,h1,h2⟩:=linesF_text wss (k + (joinT ws).length + 1) (out ++ lineM (joinT ws) k) fun x hx=>hG x (List.mem_cons_of_mem _ hx)
  rw [h1]
  refine ⟨lineM (joinT ws) k ++ L,by rw [List.append_assoc],?_⟩
  rw [List.map_append,h2]
  unfold lineM wordsM
  cases hv : wordsF (joinT ws).length (joinT ws) k with
  | nil =>
   rw [hv] at hj
   exact absurd hj.1.symm hw.1
  | cons a r =>
   rw [hv] at hj
   simp only [List.map_cons,List.map_nil,List.singleton_append]
   rw [← hj.1]; rfl
theorem count_linT : ∀ (wss : List (List (List UInt8))),(∀ ws ∈ wss,lnG ws) → (linT wss).count 10 = wss.length
 | [],_=>rfl
 | ws :: wss,hG=>by
  have e : linT (ws :: wss) = joinT ws ++ 10 :: linT wss:=by simp [linT]
  have h0 : (joinT ws).count 10 = 0:=List.count_eq_zero.2 fun h=>(lnG_ok (hG ws List.mem_cons_self)).2.2 10 h rfl
  rw [e,List.count_append,List.count_cons_self,h0,count_linT wss fun x hx=>hG x (List.mem_cons_of_mem _ hx),List.length_cons]
  omega
theorem lines_text {wss : List (List (List UInt8))} (hG : ∀ ws ∈ wss,lnG ws) (h1 : (linT wss).length ≤ 200000) (h2 : wss.length ≤ 5000) : ∃ L : List Lin,linesM (linT wss) = (L,0,0) ∧ L.map (fun l=>l.2.map (·.1)) = wss:=by
 obtain ⟨L,g1,g2⟩:=linesF_text wss 0 [] hG
 refine ⟨L,?_,g2⟩
 unfold linesM
 rw [if_neg (by rw [count_linT wss hG]; omega),g1,List.nil_append]
end Go.Fbs

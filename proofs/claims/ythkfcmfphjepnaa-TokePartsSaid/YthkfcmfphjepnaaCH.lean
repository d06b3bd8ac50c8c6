import Derived.Test.YthkfcmfphjepnaaCG
set_option linter.unusedVariables false
set_option linter.unusedSimpArgs false
set_option linter.unusedSectionVars false
namespace Go.Fbs
open Go.Proofs

/-! ### Chapter 6: texts of few tokens hold no error; tokens are pieces -/
def okB (c : UInt8) : Bool := letterB c.toNat || blankB c || decide (c ∈ signsL)
def goodT : List UInt8 → Bool
  | [] => true
  | 47 :: 47 :: 120 :: 10 :: r => goodT r
  | 45 :: 62 :: r => goodT r
  | c :: r => okB c && goodT r
theorem good_head {c : UInt8} {r : List UInt8} (h : goodT (c :: r) = true) : c ≠ 62 ∧ (c = 47 → ∃ u, r = 47 :: 120 :: 10 :: u ∧ goodT u = true) ∧ (c = 45 ∧ r.head? = some 62 → ∃ u, r = 62 :: u ∧ goodT u = true) ∧ (c ≠ 47 → ¬ (c = 45 ∧ r.head? = some 62) → okB c = true ∧ goodT r = true) := by
  unfold goodT at h
  split at h
  · rename_i heq; simp at heq
  · rename_i u heq
    simp only [List.cons.injEq] at heq
    obtain ⟨rfl, rfl⟩ := heq
    exact ⟨by decide, fun _ => ⟨u, rfl, h⟩, fun h => absurd h.1 (by decide), fun h => absurd rfl h⟩
  · rename_i u heq
    simp only [List.cons.injEq] at heq
    obtain ⟨rfl, rfl⟩ := heq
    exact ⟨by decide, fun h => absurd h (by decide), fun _ => ⟨u, rfl, h⟩, fun _ h => absurd ⟨rfl, rfl⟩ h⟩
  · rename_i c' r' h1 h2 heq
    simp only [List.cons.injEq] at heq
    obtain ⟨rfl, rfl⟩ := heq
    simp only [Bool.and_eq_true] at h
    refine ⟨?_, ?_, ?_, fun _ _ => h⟩
    · rintro rfl; exact absurd h.1 (by decide)
    · rintro rfl; exact absurd h.1 (by decide)
    · rintro ⟨rfl, hh⟩
      cases r with
      | nil => simp at hh
      | cons d u => simp at hh; subst hh; exact absurd rfl (h2 u rfl)

theorem good_word {w : List UInt8} (hw : w ∈ wordsT) {r : List UInt8} (hr : goodT r = true) : goodT (w ++ r) = true := by
  have h62 : r.head? ≠ some 62 := by
    intro h
    cases r with
    | nil => simp at h
    | cons d u => simp at h; subst h; exact (good_head hr).1 rfl
  have h1 : ∀ c : UInt8, c ≠ 47 → c ≠ 45 → ∀ u, goodT (c :: u) = (okB c && goodT u) := by
    intro c hc1 hc2 u
    conv => lhs; unfold goodT
    split
    · rename_i heq; simp at heq
    · rename_i heq; simp at heq; exact absurd heq.1 hc1
    · rename_i heq; simp at heq; exact absurd heq.1 hc2
    · rename_i heq; simp at heq; rw [heq.1, heq.2]
  have h2 : ∀ u : List UInt8, u.head? ≠ some 62 → goodT (45 :: u) = (okB 45 && goodT u) := by
    intro u hu
    conv => lhs; unfold goodT
    split
    · rename_i heq; simp at heq
    · rename_i heq; simp at heq
    · rename_i heq; simp at heq; rw [heq] at hu; simp at hu
    · rename_i heq; simp at heq; rw [← heq.1, heq.2]
  have h3 : ∀ u : List UInt8, goodT (45 :: 62 :: u) = goodT u := fun u => by simp [goodT]
  have h4 : ∀ u : List UInt8, goodT (47 :: 47 :: 120 :: 10 :: u) = goodT u := fun u => by simp [goodT]
  simp only [wordsT, List.mem_cons, List.not_mem_nil, or_false] at hw
  have k : ∀ c : UInt8, c ∈ ([116, 121, 112, 101, 32, 97, 98, 114, 115, 123, 125, 58, 59, 124, 35, 61, 43, 45, 38, 40, 41, 10] : List UInt8) → okB c = true := by decide
  rcases hw with rfl | rfl | rfl | rfl | rfl | rfl | rfl | rfl | rfl | rfl | rfl | rfl | rfl | rfl | rfl | rfl | rfl | rfl | rfl | rfl | rfl | rfl | rfl | rfl
  case inr.inr.inr.inr.inr.inr.inr.inr.inr.inr.inr.inr.inr.inr.inl => simp only [List.cons_append, List.nil_append]; rw [h2 _ h62, hr]; rfl
  case inr.inr.inr.inr.inr.inr.inr.inr.inr.inr.inr.inr.inr.inr.inr.inr.inr.inr.inl => simp only [List.cons_append, List.nil_append]; rw [h3, hr]
  case inr.inr.inr.inr.inr.inr.inr.inr.inr.inr.inr.inr.inr.inr.inr.inr.inr.inr.inr.inl => simp only [List.cons_append, List.nil_append]; rw [h4, hr]
  all_goals (simp only [List.cons_append, List.nil_append]; repeat rw [h1 _ (by decide) (by decide)]); simp [hr, k]
theorem good_tame (l : List UInt8) : goodT (tameT l) = true := by
  unfold tameT
  generalize l.take 100 = l
  induction l with
  | nil => rfl
  | cons c l ih =>
    simp only [List.map_cons, List.flatten_cons]
    exact good_word (List.mem_of_getElem? (wordT_at c)) ih

theorem good_skip : ∀ (n : Nat) (l : List UInt8), l.length ≤ n → goodT l = true → goodT (l.drop (skipN false l)) = true := by
  intro n
  induction n with
  | zero => intro l hl h; cases l with
    | nil => rfl
    | cons => simp at hl
  | succ n ih =>
    intro l hl h
    cases l with
    | nil => rfl
    | cons c r =>
      obtain ⟨_, h47, h45, hk⟩ := good_head h
      simp only [List.length_cons] at hl
      by_cases hc : c = 47
      · subst hc
        obtain ⟨u, rfl, hu⟩ := h47 rfl
        have : skipN false (47 :: 47 :: 120 :: 10 :: u) = 4 + skipN false u := by
          simp [skipN]; omega
        rw [this, show (47 :: 47 :: 120 :: 10 :: u : List UInt8).drop (4 + skipN false u) = u.drop (skipN false u) by rw [← List.drop_drop]; rfl]
        exact ih u (by simp at hl; omega) hu
      · cases hb : blankB c
        · rw [skipN_tok (fun h => hc h.1) hb]; exact h
        · rw [skipN_blank hb, Nat.add_comm, List.drop_succ_cons]
          have : ¬ (c = 45 ∧ r.head? = some 62) := by rintro ⟨rfl, _⟩; simp [blankB] at hb
          exact ih r (by omega) (hk hc this).2
/-- What comes behind what says nothing is no blank, and begins no note. -/
theorem skip_done : ∀ (n : Nat) (b : Bool) (l : List UInt8), l.length ≤ n → ∀ {c : UInt8} {t : List UInt8}, l.drop (skipN b l) = c :: t → blankB c = false ∧ ¬ (c = 47 ∧ t.head? = some 47) := by
  intro n
  induction n with
  | zero => intro b l hl c t h; cases l with
    | nil => simp at h
    | cons => simp at hl
  | succ n ih =>
    intro b l hl c t h
    cases l with
    | nil => simp at h
    | cons d r =>
      simp only [List.length_cons] at hl
      cases b
      · simp only [skipN] at h
        split at h
        · rw [Nat.add_comm, List.drop_succ_cons] at h; exact ih true r (by omega) h
        · split at h
          · rw [Nat.add_comm, List.drop_succ_cons] at h; exact ih false r (by omega) h
          · rename_i h1 h2
            simp only [List.drop_zero, List.cons.injEq] at h
            obtain ⟨rfl, rfl⟩ := h
            exact ⟨by simpa using h2, h1⟩
      · simp only [skipN] at h
        split at h
        · rw [Nat.add_comm, List.drop_succ_cons] at h; exact ih false r (by omega) h
        · rw [Nat.add_comm, List.drop_succ_cons] at h; exact ih true r (by omega) h

/-- What a token may be. -/
def tokOk (k : Int) (x : List UInt8) : Prop := (k = 1 ∧ x ≠ [] ∧ ∀ c ∈ x, letterB c.toNat = true) ∨ (k = 2 ∧ x = [45, 62]) ∨ (k = 2 ∧ ∃ c, x = [c] ∧ c ∈ signsL)
theorem nextT_ok {l : List UInt8} (hl : l ≠ []) (h : (nextT l).2.2 = true) : tokOk (nextT l).1 (nextT l).2.1 ∧ (nextT l).2.1 = l.take (nextT l).2.1.length := by
  unfold nextT at h ⊢
  split
  · rename_i hr
    have hrow : rowN l ≤ l.length := (List.takeWhile_sublist _).length_le
    refine ⟨.inl ⟨rfl, ?_, ?_⟩, ?_⟩
    · intro e; have := congrArg List.length e; simp only [List.length_take, List.length_nil] at this; omega
    · intro c hc
      have e : l.take (rowN l) = l.takeWhile (fun c => letterB c.toNat) := by
        have := List.takeWhile_prefix (p := fun c : UInt8 => letterB c.toNat) (l := l)
        exact (List.prefix_iff_eq_take.1 this).symm
      rw [e] at hc
      exact List.all_eq_true.1 (List.all_takeWhile (p := fun c : UInt8 => letterB c.toNat) (l := l)) c hc
    · simp [Nat.min_eq_left hrow]
  · rename_i hr
    rw [if_neg hr] at h
    split
    · rename_i hp
      refine ⟨.inr (.inl ⟨rfl, rfl⟩), ?_⟩
      rw [List.isPrefixOf_iff_prefix] at hp
      exact List.prefix_iff_eq_take.1 hp
    · rename_i hp
      rw [if_neg hp] at h
      cases l with
      | nil => exact absurd rfl hl
      | cons c t => exact ⟨.inr (.inr ⟨rfl, c, by simp, by simpa using h⟩), by simp⟩
theorem good_tok {l : List UInt8} (hl : l ≠ []) (hg : goodT l = true) (h : ∀ c t, l = c :: t → blankB c = false ∧ ¬ (c = 47 ∧ t.head? = some 47)) : (nextT l).2.2 = true ∧ goodT (l.drop (nextT l).2.1.length) = true := by
  have letters : ∀ (n : Nat) (l : List UInt8), n ≤ rowN l → goodT l = true → goodT (l.drop n) = true := by
    intro n
    induction n with
    | zero => intro l _ h; exact h
    | succ n ih =>
      intro l hn h
      cases l with
      | nil => exact h
      | cons c t =>
        cases hc : letterB c.toNat
        · rw [letter_row0 hc] at hn; omega
        · rw [letter_row hc] at hn
          rw [List.drop_succ_cons]
          have h1 : c ≠ 47 := by rintro rfl; exact absurd hc (by decide)
          have h2 : c ≠ 45 := by rintro rfl; exact absurd hc (by decide)
          exact ih t (by omega) ((good_head h).2.2.2 h1 (fun h => h2 h.1)).2
  unfold nextT
  split
  · refine ⟨rfl, ?_⟩
    have hrow : rowN l ≤ l.length := (List.takeWhile_sublist _).length_le
    simp only [List.length_take, Nat.min_eq_left hrow]
    exact letters _ _ (Nat.le_refl _) hg
  · rename_i hr
    cases l with
    | nil => exact absurd rfl hl
    | cons c t =>
      obtain ⟨hb, hn⟩ := h c t rfl
      obtain ⟨_, h47, h45, hk⟩ := good_head hg
      split
      · rename_i hp
        rw [List.isPrefixOf_iff_prefix] at hp
        obtain ⟨u, hu⟩ := hp
        simp only [List.cons_append, List.nil_append, List.cons.injEq] at hu
        obtain ⟨rfl, rfl⟩ := hu
        obtain ⟨u', e, hu'⟩ := h45 ⟨rfl, rfl⟩
        simp only [List.cons.injEq, true_and] at e
        subst e
        exact ⟨rfl, hu'⟩
      · rename_i hp
        have hc47 : c ≠ 47 := by
          rintro rfl
          obtain ⟨u, rfl, _⟩ := h47 rfl
          exact hn ⟨rfl, rfl⟩
        have hc45 : ¬ (c = 45 ∧ t.head? = some 62) := by
          rintro ⟨rfl, hh⟩
          cases t with
          | nil => simp at hh
          | cons d u => simp at hh; subst hh; exact hp (by simp [List.isPrefixOf])
        obtain ⟨ho, hg'⟩ := hk hc47 hc45
        have hlet : letterB c.toNat = false := by
          cases hc : letterB c.toNat
          · rfl
          · rw [letter_row hc] at hr; omega
        have hs : c ∈ signsL := by simpa [okB, hb, hlet] using ho
        exact ⟨by simpa using hs, by simpa using hg'⟩

/-- Tokens behind each other. -/
def chain (l : List UInt8) : Nat → List Tok → Prop
  | _, [] => True
  | e, x :: r => e ≤ x.2.1 ∧ x.2.1 + x.2.2.length ≤ l.length ∧ (l.take (x.2.1 + x.2.2.length)).drop x.2.1 = x.2.2 ∧ tokOk x.1 x.2.2 ∧ chain l (x.2.1 + x.2.2.length) r
theorem chain_le {l : List UInt8} : ∀ {r : List Tok} {e e' : Nat}, e ≤ e' → chain l e' r → chain l e r
  | [], _, _, _, _ => trivial
  | _ :: _, _, _, h, h' => ⟨Nat.le_trans h h'.1, h'.2⟩
theorem good_rest {l : List UInt8} : ∀ (n i : Nat), l.length - i ≤ n → goodT (l.drop i) = true → (restT l i).2 = none ∧ chain l i (restT l i).1 := by
  intro n
  induction n with
  | zero => intro i hi _; rw [restT_end (by omega)]; exact ⟨rfl, trivial⟩
  | succ n ih =>
    intro i hi hg
    by_cases hil : l.length ≤ i
    · rw [restT_end hil]; exact ⟨rfl, trivial⟩
    · generalize hk : i + skipN false (l.drop i) = k
      have hsk := skipN_le false (l.drop i)
      simp only [List.length_drop] at hsk
      have hg' : goodT (l.drop k) = true := by
        have := good_skip _ (l.drop i) (Nat.le_refl _) hg
        rwa [List.drop_drop, hk] at this
      have hd0 : ∀ c t, l.drop k = c :: t → blankB c = false ∧ ¬ (c = 47 ∧ t.head? = some 47) := fun c t h => skip_done _ false (l.drop i) (Nat.le_refl _) (by rw [List.drop_drop, hk]; exact h)
      have hs0 : skipN false (l.drop k) = 0 := by
        cases hd : l.drop k with
        | nil => rfl
        | cons c t => exact skipN_tok (hd0 c t hd).2 (hd0 c t hd).1
      rw [restT_skip (i := i) (k := k) (by omega) (by omega)]
      by_cases hkl : l.length ≤ k
      · rw [restT_end hkl]; exact ⟨rfl, trivial⟩
      · have hne : l.drop k ≠ [] := by intro e; have := congrArg List.length e; simp at this; omega
        obtain ⟨c, t, hd⟩ : ∃ c t, l.drop k = c :: t := by
          cases hd : l.drop k with
          | nil => exact absurd hd hne
          | cons c t => exact ⟨c, t, rfl⟩
        obtain ⟨ho, hg2⟩ := good_tok hne hg' hd0
        obtain ⟨hto, htk⟩ := nextT_ok hne ho
        obtain ⟨hn1, hn2⟩ := nextT_len hne
        rw [restT_tok hd (by rw [← hd]; exact hs0), ← hd, if_neg (by rw [ho]; simp)]
        rw [List.drop_drop] at hg2
        simp only [List.length_drop] at hn2
        obtain ⟨h1, h2⟩ := ih (k + (nextT (l.drop k)).2.1.length) (by omega) hg2
        refine ⟨h1, ?_, ?_, ?_, hto, h2⟩
        · show i ≤ k; omega
        · show k + (nextT (l.drop k)).2.1.length ≤ l.length; omega
        · show (l.take (k + _)).drop k = _
          rw [List.drop_take, Nat.add_sub_cancel_left]
          exact htk.symm
theorem good_tokens {l : List UInt8} (hb : ¬ 100000 < l.length) (hg : goodT l = true) : ∃ ts, tokensT l = (ts, 0, 0) ∧ chain l 0 ts := by
  obtain ⟨h1, h2⟩ := good_rest (l := l) l.length 0 (by omega) (by simpa using hg)
  exact ⟨(restT l 0).1, by rw [tokensT_rest hb, h1], h2⟩

/-! ### Pieces with signs between that say nothing -/
def sepsT : List (List UInt8) := [[32], [10], [32, 9], [47, 47, 32, 97, 32, 110, 111, 116, 101, 13, 10]]
def sepT (n : Nat) : List UInt8 := sepsT.getD (n % 4) []
theorem sepT_at (n : Nat) : sepsT[n % 4]? = some (sepT n) := by
  unfold sepT
  have : n % 4 < sepsT.length := Nat.mod_lt _ (by decide)
  rw [List.getD_eq_getElem?_getD, List.getElem?_eq_getElem this]; rfl
theorem sepT_mem (n : Nat) : sepT n ∈ sepsT := List.mem_of_getElem? (sepT_at n)
theorem sepT_len (n : Nat) : (sepT n).length ≤ 11 := by
  have h : ∀ x ∈ sepsT, x.length ≤ 11 := by decide
  exact h _ (sepT_mem n)
def joinT (n : Nat) : List Tok → List UInt8
  | [] => []
  | x :: r => x.2.2 ++ sepT n ++ joinT (n + 1) r
theorem sep_skip {s : List UInt8} (h : s ∈ sepsT) (r : List UInt8) : skipN false (s ++ r) = s.length + skipN false r := by
  simp only [sepsT, List.mem_cons, List.not_mem_nil, or_false] at h
  rcases h with rfl | rfl | rfl | rfl <;> simp [skipN, blankB] <;> omega
theorem sep_head {s : List UInt8} (h : s ∈ sepsT) : ∃ c u, s = c :: u ∧ letterB c.toNat = false ∧ c ≠ 62 := by
  simp only [sepsT, List.mem_cons, List.not_mem_nil, or_false] at h
  rcases h with rfl | rfl | rfl | rfl <;> exact ⟨_, _, rfl, by decide, by decide⟩
theorem tok_head {k : Int} {x : List UInt8} (h : tokOk k x) : ∃ c u, x = c :: u ∧ blankB c = false ∧ c ≠ 47 := by
  rcases h with ⟨_, hn, hx⟩ | ⟨_, rfl⟩ | ⟨_, c, rfl, hc⟩
  · cases x with
    | nil => exact absurd rfl hn
    | cons c u =>
      have hl := hx c (by simp)
      refine ⟨c, u, rfl, ?_, ?_⟩
      · cases hb : blankB c
        · rfl
        · simp only [blankB, Bool.or_eq_true, beq_iff_eq] at hb
          rcases hb with ((rfl | rfl) | rfl) | rfl <;> exact absurd hl (by decide)
      · rintro rfl; exact absurd hl (by decide)
  · exact ⟨_, _, rfl, by decide, by decide⟩
  · have h : ∀ c ∈ signsL, blankB c = false ∧ c ≠ 47 := by decide
    exact ⟨c, [], rfl, h c hc⟩
theorem tok_skip {k : Int} {x : List UInt8} (h : tokOk k x) (r : List UInt8) : skipN false (x ++ r) = 0 := by
  obtain ⟨c, u, rfl, hb, hc⟩ := tok_head h
  exact skipN_tok (fun h => hc h.1) hb
theorem tok_next {k : Int} {x : List UInt8} (h : tokOk k x) {s : List UInt8} (hs : s ∈ sepsT) (r : List UInt8) : nextT (x ++ (s ++ r)) = (k, x, true) := by
  obtain ⟨d, v, rfl, hd, hd62⟩ := sep_head hs
  rcases h with ⟨rfl, hn, hx⟩ | ⟨rfl, rfl⟩ | ⟨rfl, c, rfl, hc⟩
  · have hrow : rowN (x ++ (d :: v ++ r)) = x.length := by
      unfold rowN
      rw [List.takeWhile_append_of_pos (fun a ha => hx a ha)]
      simp [List.takeWhile_cons, hd]
    have : 0 < x.length := List.length_pos_iff.2 hn
    unfold nextT
    rw [hrow, if_pos this]
    simp
  · have hrow : rowN ([45, 62] ++ (d :: v ++ r)) = 0 := letter_row0 (by decide)
    unfold nextT
    rw [hrow, if_neg (by omega), if_pos (by simp [List.isPrefixOf])]
  · have hl : ∀ c ∈ signsL, letterB c.toNat = false := by decide
    have hrow : rowN ([c] ++ (d :: v ++ r)) = 0 := letter_row0 (hl c hc)
    unfold nextT
    have hp : [45, 62].isPrefixOf ([c] ++ (d :: v ++ r)) = false := by
      simp [List.isPrefixOf, Ne.symm hd62]
    rw [hrow, if_neg (by omega), hp, if_neg (by simp)]
    simp [hc]
theorem join_skip {l : List UInt8} {e n : Nat} : ∀ {ts : List Tok}, chain l e ts → skipN false (joinT n ts) = 0
  | [], _ => rfl
  | x :: r, h => by simp only [joinT, List.append_assoc]; exact tok_skip h.2.2.2.1 _
/-- The pieces are read again. -/
theorem join_toks {l : List UInt8} : ∀ (ts : List Tok) (e n k f : Nat), chain l e ts → (joinT n ts).length ≤ f → (toks f k (joinT n ts)).2 = none ∧ (toks f k (joinT n ts)).1.map (fun x => (x.1, x.2.2)) = ts.map (fun x => (x.1, x.2.2))
  | [], e, n, k, f, _, _ => by cases f <;> exact ⟨rfl, rfl⟩
  | x :: r, e, n, k, f, h, hf => by
    have ht := h.2.2.2.1
    obtain ⟨c, u, hx, _, _⟩ := tok_head ht
    have e1 : joinT n (x :: r) = x.2.2 ++ (sepT n ++ joinT (n + 1) r) := by simp [joinT]
    have hlen := congrArg List.length e1
    simp only [List.length_append] at hlen
    have hx1 : 1 ≤ x.2.2.length := by rw [hx]; simp
    obtain ⟨g, rfl⟩ : ∃ g, f = g + 1 := ⟨f - 1, by omega⟩
    have hn := tok_next ht (sepT_mem n) (joinT (n + 1) r)
    have hsk : skipN false (sepT n ++ joinT (n + 1) r) = (sepT n).length := by rw [sep_skip (sepT_mem n), join_skip h.2.2.2.2]; rfl
    obtain ⟨q, hq⟩ : ∃ q, joinT n (x :: r) = c :: q := ⟨_, by rw [e1, hx]; rfl⟩
    rw [← e1, hq] at hn
    have hdr : (c :: q).drop x.2.2.length = sepT n ++ joinT (n + 1) r := by rw [← hq, e1]; simp
    have st : toks (g + 1) k (c :: q) = ((x.1, k, x.2.2) :: (toks g (k + x.2.2.length + (sepT n).length) (joinT (n + 1) r)).1, (toks g (k + x.2.2.length + (sepT n).length) (joinT (n + 1) r)).2) := by
      simp only [toks, hn, Bool.true_eq_false, if_false, hdr, hsk]
      rw [List.drop_append_of_le_length (Nat.le_refl _), List.drop_length, List.nil_append]
    obtain ⟨h1, h2⟩ := join_toks r (x.2.1 + x.2.2.length) (n + 1) (k + x.2.2.length + (sepT n).length) g h.2.2.2.2 (by omega)
    rw [hq, st]
    exact ⟨h1, by simp [h2]⟩
theorem join_len {l : List UInt8} : ∀ (ts : List Tok) (e n : Nat), chain l e ts → e ≤ l.length → (joinT n ts).length + e ≤ l.length + 11 * ts.length
  | [], e, n, _, he => by simpa [joinT] using he
  | x :: r, e, n, h, he => by
    have h1 := join_len r (x.2.1 + x.2.2.length) (n + 1) h.2.2.2.2 h.2.1
    have h2 := sepT_len n
    have h3 := h.1
    simp only [joinT, List.length_append, List.length_cons]; omega
theorem join_tokens {l : List UInt8} {ts : List Tok} (n : Nat) (h : chain l 0 ts) (hb : ¬ 100000 < (joinT n ts).length) : ∃ us, tokensT (joinT n ts) = (us, 0, 0) ∧ us.map (fun x => (x.1, x.2.2)) = ts.map (fun x => (x.1, x.2.2)) := by
  obtain ⟨h1, h2⟩ := join_toks ts 0 n 0 (joinT n ts).length h (Nat.le_refl _)
  refine ⟨(toks (joinT n ts).length 0 (joinT n ts)).1, ?_, h2⟩
  unfold tokensT
  rw [if_neg hb, join_skip h]
  simp only [List.drop_zero, h1]
end Go.Fbs

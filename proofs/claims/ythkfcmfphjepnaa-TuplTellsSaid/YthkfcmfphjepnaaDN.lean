import Derived.Test.YthkfcmfphjepnaaDM
set_option linter.unusedVariables false
set_option linter.unusedSimpArgs false
set_option linter.unusedSectionVars false
namespace Go.Fbs
open Go.Proofs

/-! ### Chapter 2: what is plain -/
theorem ix_mid {x y : List UInt8} {c : UInt8} (h : c ∉ x) : ixB (x ++ c :: y) c = x.length := by
  rcases ixB_cases (x ++ c :: y) c with ⟨_, h2⟩ | ⟨k, h1, h2, h3⟩
  · simp at h2
  · rw [h1]
    congr 1
    rcases Nat.lt_trichotomy k x.length with hk | hk | hk
    · rw [List.getElem?_append_left hk] at h2
      exact absurd (List.mem_of_getElem? h2) h
    · exact hk
    · refine absurd ?_ h3
      obtain ⟨j, hj⟩ : ∃ j, k - x.length = j + 1 := ⟨k - x.length - 1, by omega⟩
      rw [List.take_append, hj]; simp
theorem cut_mid {x y : List UInt8} {c : UInt8} (h : c ∉ x) : cutT (x ++ c :: y) c = (x, y, true) := by
  have hm : c ∈ x ++ c :: y := by simp
  simp only [cutT, hm, if_true, ix_mid h, Int.toNat_natCast]
  rw [List.take_left' rfl, show x ++ c :: y = (x ++ [c]) ++ y by simp, List.drop_left' (by simp)]
theorem cut_none {x : List UInt8} {c : UInt8} (h : c ∉ x) : cutT x c = (x, [], false) := by simp [cutT, h]

theorem name_all {l : List UInt8} (h : nameT l = true) : l.all (fun c => idB c.toNat) = true := by
  simp only [nameT, Bool.and_eq_true, List.all_eq_true] at h ⊢
  exact fun c hc => by simp only [idB, h.2 c hc, Bool.true_or]
theorem id_all {l : List UInt8} (h : idT l = true) : l.all (fun c => idB c.toNat) = true := by
  simp only [idT, Bool.and_eq_true] at h; exact h.2
theorem sep_not {l : List UInt8} (h : l.all (fun c => idB c.toNat) = true) {c : UInt8} (hc : idB c.toNat = false) : c ∉ l := fun hm => by
  have := List.all_eq_true.1 h c hm
  rw [hc] at this; simp at this
theorem s58 : idB (58 : UInt8).toNat = false := by decide
theorem s35 : idB (35 : UInt8).toNat = false := by decide
theorem s64 : idB (64 : UInt8).toNat = false := by decide

def Six.ok (x : Six) : Bool := okT x.a x.b x.c x.d x.e x.f
def Six.text (x : Six) : List UInt8 := textT x.a x.b x.c x.d x.e x.f
structure Six.All (x : Six) : Prop where
  a : x.a.all (fun c => idB c.toNat) = true
  b : x.b.all (fun c => idB c.toNat) = true
  c : x.c.all (fun c => idB c.toNat) = true
  d : x.d.all (fun c => idB c.toNat) = true
  e : x.e.all (fun c => idB c.toNat) = true
  f : x.f.all (fun c => idB c.toNat) = true
theorem Six.all {x : Six} (h : x.ok = true) : x.All := by
  simp only [Six.ok, okT, Bool.and_eq_true, Bool.or_eq_true, beq_iff_eq] at h
  obtain ⟨⟨⟨⟨⟨h1, h2⟩, h3⟩, h4⟩, h5⟩, h6⟩ := h
  refine ⟨name_all h1, id_all h2, name_all h3, name_all h4, id_all h5, ?_⟩
  rcases h6 with h6 | h6
  · rw [h6]; rfl
  · exact name_all h6
def Six.tail (x : Six) : List UInt8 := if x.f = [] then [] else 35 :: x.f
theorem Six.text_eq {x : Six} (h : x.ok = true) : x.text = (((x.a ++ 58 :: x.b) ++ 35 :: x.c) ++ 64 :: ((x.d ++ 58 :: x.e) ++ x.tail)) := by
  unfold Six.ok at h
  simp only [Six.text, textT, h, if_true, Six.tail]
  split <;> simp [List.append_assoc]
theorem not_app {x y : List UInt8} {c d : UInt8} (hx : c ∉ x) (hy : c ∉ y) (h : c ≠ d) : c ∉ x ++ d :: y := by simp [hx, hy, h]
theorem parts_text {x : Six} (h : x.ok = true) : partsT x.text = x := by
  have ha := x.all h
  have hl : (64 : UInt8) ∉ (x.a ++ 58 :: x.b) ++ 35 :: x.c := not_app (not_app (sep_not ha.a s64) (sep_not ha.b s64) (by decide)) (sep_not ha.c s64) (by decide)
  have h1 : cutT x.text 64 = ((x.a ++ 58 :: x.b) ++ 35 :: x.c, (x.d ++ 58 :: x.e) ++ x.tail, true) := by rw [x.text_eq h]; exact cut_mid hl
  have h2 : cutT ((x.a ++ 58 :: x.b) ++ 35 :: x.c) 35 = (x.a ++ 58 :: x.b, x.c, true) := cut_mid (not_app (sep_not ha.a s35) (sep_not ha.b s35) (by decide))
  have h3 : cutT ((x.d ++ 58 :: x.e) ++ x.tail) 35 = (x.d ++ 58 :: x.e, x.f, !(x.f == [])) := by
    have hn : (35 : UInt8) ∉ x.d ++ 58 :: x.e := not_app (sep_not ha.d s35) (sep_not ha.e s35) (by decide)
    unfold Six.tail
    by_cases hf : x.f = []
    · rw [if_pos hf, List.append_nil, cut_none hn, hf]; rfl
    · rw [if_neg hf, cut_mid hn]
      have : (x.f == []) = false := by simpa using hf
      rw [this]; rfl
  have h4 : cutT (x.a ++ 58 :: x.b) 58 = (x.a, x.b, true) := cut_mid (sep_not ha.a s58)
  have h5 : cutT (x.d ++ 58 :: x.e) 58 = (x.d, x.e, true) := cut_mid (sep_not ha.d s58)
  simp only [partsT, h1, h2, h3, h4, h5]
/-- A tuple is read as it was told. -/
theorem read_text {x : Six} (h : x.ok = true) : readT x.text = (x, true) := by
  have hp := parts_text h
  have ho := h
  unfold Six.ok at ho
  simp only [readT, hp, ho, true_and]
  exact if_pos rfl
theorem text_inj {x y : Six} (hx : x.ok = true) (hy : y.ok = true) (h : x.text = y.text) : x = y := by
  have h1 := parts_text hx
  rw [h, parts_text hy] at h1; exact h1.symm
theorem read_true {l : List UInt8} (h : (readT l).2 = true) : (readT l).1.ok = true ∧ (readT l).1.text = l := by
  unfold readT at h ⊢
  simp only at h ⊢
  split at h
  · rename_i hc; rw [if_pos hc]; exact hc
  · simp at h
theorem read_false {l : List UInt8} (h : (readT l).2 = false) : (readT l).1 = zeroS := by
  unfold readT at h ⊢
  simp only at h ⊢
  split at h
  · simp at h
  · rename_i hc; rw [if_neg hc]
theorem count_none {l : List UInt8} {c : UInt8} (h : c ∉ l) : l.count c = 0 := List.count_eq_zero.2 h
theorem text_count {x : Six} (h : x.ok = true) : x.text.count 64 = 1 := by
  have ha := x.all h
  rw [x.text_eq h]
  have ht : (64 : UInt8) ∉ x.tail := by
    unfold Six.tail; split
    · simp
    · simp only [List.mem_cons, not_or]; exact ⟨by decide, sep_not ha.f s64⟩
  simp [List.count_append, List.count_cons, count_none (sep_not ha.a s64), count_none (sep_not ha.b s64), count_none (sep_not ha.c s64), count_none (sep_not ha.d s64), count_none (sep_not ha.e s64), count_none ht]
theorem text_len {x : Six} (h : x.ok = true) : 9 ≤ x.text.length ∧ x.text.length ≤ 900 := by
  rw [x.text_eq h]
  have ho := h
  simp only [Six.ok, okT, Bool.and_eq_true] at ho
  obtain ⟨⟨⟨⟨⟨h1, h2⟩, h3⟩, h4⟩, h5⟩, h6⟩ := ho
  have l1 := name_len h1
  have l2 := id_len h2
  have l3 := name_len h3
  have l4 := name_len h4
  have l5 := id_len h5
  have l6 := (ok_lens (show okT x.a x.b x.c x.d x.e x.f = true from h)).2.2.2.2.2
  have ht : x.tail.length ≤ 31 := by unfold Six.tail; split <;> simp; omega
  simp only [List.length_append, List.length_cons]; omega
/-- Two texts, joined, are none. -/
theorem read_two {x y : Six} (hx : x.ok = true) (hy : y.ok = true) : (readT (x.text ++ y.text)).2 = false := by
  cases h : (readT (x.text ++ y.text)).2
  · rfl
  · obtain ⟨h1, h2⟩ := read_true h
    have h3 := text_count h1
    rw [h2, List.count_append, text_count hx, text_count hy] at h3
    omega

/-! ### Orders -/
theorem cb_self : ∀ a : List UInt8, Lib.compareBytes a a = 0
  | [] => by simp [Lib.compareBytes]
  | a :: l => by simp only [Lib.compareBytes, UInt8.lt_irrefl, if_false]; exact cb_self l
theorem cb_eq : ∀ {a b : List UInt8}, Lib.compareBytes a b = 0 → a = b
  | [], [], _ => rfl
  | [], _ :: _, h => by simp [Lib.compareBytes] at h
  | _ :: _, [], h => by simp [Lib.compareBytes] at h
  | a :: l, b :: m, h => by
    simp only [Lib.compareBytes] at h
    split at h
    · simp at h
    · split at h
      · simp at h
      · rename_i h1 h2
        have : a = b := UInt8.le_antisymm (UInt8.not_lt.1 h2) (UInt8.not_lt.1 h1)
        rw [this, cb_eq h]
theorem cb_anti : ∀ a b : List UInt8, Lib.compareBytes b a = - Lib.compareBytes a b
  | [], [] => by simp [Lib.compareBytes]
  | [], _ :: _ => by simp [Lib.compareBytes]
  | _ :: _, [] => by simp [Lib.compareBytes]
  | a :: l, b :: m => by
    simp only [Lib.compareBytes]
    by_cases h1 : a < b
    · have h2 : ¬ b < a := fun h => UInt8.lt_irrefl _ (UInt8.lt_trans h1 h)
      simp [h1, h2]
    · by_cases h2 : b < a
      · simp [h1, h2]
      · simp only [h1, h2, if_false]; exact cb_anti l m
theorem cb_trans : ∀ {a b c : List UInt8}, Lib.compareBytes a b < 0 → Lib.compareBytes b c < 0 → Lib.compareBytes a c < 0
  | [], b, [], h1, h2 => by cases b <;> simp [Lib.compareBytes] at h1 h2
  | [], _, _ :: _, _, _ => by simp [Lib.compareBytes]
  | _ :: _, [], _, h1, _ => by simp [Lib.compareBytes] at h1
  | _ :: _, _ :: _, [], _, h2 => by simp [Lib.compareBytes] at h2
  | a :: l, b :: m, c :: n, h1, h2 => by
    simp only [Lib.compareBytes] at h1 h2 ⊢
    by_cases ab : a < b
    · by_cases bc : b < c
      · simp [UInt8.lt_trans ab bc]
      · rw [if_neg bc] at h2
        by_cases cb : c < b
        · simp [cb] at h2
        · obtain rfl : b = c := UInt8.le_antisymm (UInt8.not_lt.1 cb) (UInt8.not_lt.1 bc)
          simp [ab]
    · rw [if_neg ab] at h1
      by_cases ba : b < a
      · simp [ba] at h1
      · obtain rfl : a = b := UInt8.le_antisymm (UInt8.not_lt.1 ba) (UInt8.not_lt.1 ab)
        rw [if_neg ba] at h1
        by_cases ac : a < c
        · simp [ac]
        · rw [if_neg ac] at h2 ⊢
          by_cases ca : c < a
          · simp [ca] at h2
          · rw [if_neg ca] at h2 ⊢
            exact cb_trans h1 h2
/-- Rows of texts, one behind the other. -/
def lexT : List (List UInt8) → List (List UInt8) → Int
  | a :: l, b :: m => if Lib.compareBytes a b = 0 then lexT l m else Lib.compareBytes a b
  | _, _ => 0
theorem lex_self : ∀ l, lexT l l = 0
  | [] => rfl
  | a :: l => by simp only [lexT, cb_self, if_true]; exact lex_self l
theorem lex_eq : ∀ {l m : List (List UInt8)}, l.length = m.length → lexT l m = 0 → l = m
  | [], [], _, _ => rfl
  | a :: l, b :: m, hl, h => by
    simp only [lexT] at h
    split at h
    · rename_i h1
      rw [cb_eq h1, lex_eq (by simpa using hl) h]
    · rename_i h1; exact absurd h h1
  | [], _ :: _, hl, _ => by simp at hl
  | _ :: _, [], hl, _ => by simp at hl
theorem lex_anti : ∀ l m : List (List UInt8), lexT m l = - lexT l m
  | [], [] => rfl
  | [], _ :: _ => rfl
  | _ :: _, [] => rfl
  | a :: l, b :: m => by
    simp only [lexT, cb_anti a b]
    by_cases h : Lib.compareBytes a b = 0
    · simp only [h, Int.neg_zero, if_true]; exact lex_anti l m
    · have : ¬ (-Lib.compareBytes a b) = 0 := by omega
      simp only [h, this, if_false]
theorem lex_trans : ∀ {l m n : List (List UInt8)}, l.length = m.length → m.length = n.length → lexT l m < 0 → lexT m n < 0 → lexT l n < 0
  | [], [], _, _, _, h, _ => by simp [lexT] at h
  | a :: l, b :: m, c :: n, h1, h2, h3, h4 => by
    simp only [lexT] at h3 h4 ⊢
    by_cases ab : Lib.compareBytes a b = 0
    · obtain rfl := cb_eq ab
      rw [if_pos ab] at h3
      by_cases ac : Lib.compareBytes a c = 0
      · rw [if_pos ac] at h4 ⊢; exact lex_trans (by simpa using h1) (by simpa using h2) h3 h4
      · rw [if_neg ac] at h4 ⊢; exact h4
    · rw [if_neg ab] at h3
      by_cases bc : Lib.compareBytes b c = 0
      · obtain rfl := cb_eq bc
        rw [if_neg ab]; exact h3
      · rw [if_neg bc] at h4
        have := cb_trans h3 h4
        rw [if_neg (by omega)]; exact this
  | [], _ :: _, _, h1, _, _, _ => by simp at h1
  | _ :: _, [], _, h1, _, _, _ => by simp at h1
  | _ :: _, _ :: _, [], _, h2, _, _ => by simp at h2
def Six.row (x : Six) : List (List UInt8) := [x.a, x.b, x.c, x.d, x.e, x.f]
def Six.cmp (x y : Six) : Int := cmpT x.a x.b x.c x.d x.e x.f y.a y.b y.c y.d y.e y.f
theorem orT_cons (c : Int) (l : List Int) : orT (c :: l) = if c = 0 then orT l else c := by
  unfold orT
  by_cases h : c = 0
  · simp [h]
  · simp [h]
theorem Six.cmp_lex (x y : Six) : x.cmp y = lexT x.row y.row := by
  simp only [Six.cmp, cmpT, orT_cons, Six.row, lexT]; rfl
theorem row_inj {x y : Six} (h : x.row = y.row) : x = y := by
  cases x; cases y; simp [Six.row] at h; simp [h]
theorem cmp_self (x : Six) : x.cmp x = 0 := by rw [Six.cmp_lex, lex_self]
theorem cmp_eq {x y : Six} (h : x.cmp y = 0) : x = y := row_inj (lex_eq rfl (by rw [← Six.cmp_lex]; exact h))
theorem cmp_anti (x y : Six) : y.cmp x = - x.cmp y := by rw [Six.cmp_lex, Six.cmp_lex, lex_anti]
theorem cmp_trans {x y z : Six} (h1 : x.cmp y < 0) (h2 : y.cmp z < 0) : x.cmp z < 0 := by
  rw [Six.cmp_lex] at h1 h2 ⊢; exact lex_trans (m := y.row) rfl rfl h1 h2
end Go.Fbs

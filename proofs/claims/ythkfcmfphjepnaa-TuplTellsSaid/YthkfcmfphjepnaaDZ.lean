import Derived.Test.YthkfcmfphjepnaaDY
set_option linter.unusedVariables false
set_option linter.unusedSimpArgs false
set_option linter.unusedSectionVars false
namespace Go.Fbs
open Go.Proofs

/-! ### Chapter 2: the document's reader -/
theorem find_ge (l : List UInt8) (c : UInt8) (k : Nat) : findN l c.toNat k = -1 ∨ ∃ j : Nat, findN l c.toNat k = j ∧ k ≤ j ∧ l[j]? = some c := by
  unfold findN
  cases h : (l.drop k).findIdx? (fun b => decide ((b.toNat : Int) = c.toNat)) with
  | none => exact .inl rfl
  | some j =>
    refine .inr ⟨k + j, by simp, by omega, ?_⟩
    rw [List.findIdx?_eq_some_iff_getElem] at h
    obtain ⟨h1, h2, _⟩ := h
    have h3 : (l.drop k)[j]? = some (l.drop k)[j] := List.getElem?_eq_getElem h1
    rw [List.getElem?_drop] at h3
    rw [h3]
    have h4 := of_decide_eq_true h2
    exact congrArg some (UInt8.toNat_inj.1 (by omega))
theorem find_is {l p q : List UInt8} {c : UInt8} {k : Nat} (hk : k ≤ l.length) (hl : l.drop k = p ++ c :: q) (hp : c ∉ p) : findN l c.toNat k = ((k + p.length : Nat) : Int) := by
  have h := find_ix (l.drop k) c
  have e : findN l c.toNat k = if findN (l.drop k) c.toNat 0 = -1 then -1 else k + findN (l.drop k) c.toNat 0 := by
    unfold findN
    rw [List.drop_zero]
    cases (l.drop k).findIdx? (fun b => decide ((b.toNat : Int) = c.toNat)) with
    | none => simp
    | some j =>
      have : ¬ ((((0 : Nat) : Int) + (j : Int)) = -1) := by omega
      simp only [this, if_false]; omega
  rw [e, h, hl, ix_mid hp, if_neg (by omega)]; omega
theorem find_no {l : List UInt8} {c : UInt8} {k : Nat} (h : c ∉ l.drop k) : findN l c.toNat k = -1 := by
  rcases find_ge l c k with h1 | ⟨j, h1, h2, h3⟩
  · exact h1
  · refine absurd ?_ h
    have : (l.drop k)[j - k]? = some c := by rw [List.getElem?_drop, show k + (j - k) = j by omega]; exact h3
    exact List.mem_of_getElem? this
theorem fFind {l : List UInt8} (h : l.length ≤ big) (c : UInt8) {k : Nat} (hk : k ≤ big) : F_entailref1_Find [.str l, .int .u8 c.toNat, .int .i64 k] = some (vI (findN l c.toNat k)) := by
  simp only [F_entailref1_Find]
  rw [if_pos ⟨h, by omega, by omega⟩]; rfl
theorem mid_slice {l p q s : List UInt8} {c : UInt8} {j k : Nat} (hl : l = p ++ c :: (q ++ s)) (hj : j = p.length + 1) (hk : k = p.length + 1 + q.length) : (l.take k).drop j = q := by
  subst hl; subst hj; subst hk
  have e : p ++ c :: (q ++ s) = (p ++ c :: q) ++ s := by simp
  rw [e, List.take_left' (by simp; omega), show p ++ c :: q = (p ++ [c]) ++ q by simp, List.drop_left' (by simp)]
theorem drop_at {l p q : List UInt8} {j : Nat} (hl : l = p ++ q) (hj : j = p.length) : l.drop j = q := by
  subst hl; subst hj; exact List.drop_left' rfl
theorem take_at {l p q : List UInt8} {j : Nat} (hl : l = p ++ q) (hj : j = p.length) : l.take j = p := by
  subst hl; subst hj; exact List.take_left' rfl
theorem text_nil {x : Six} (h : x.text ≠ []) : x.ok = true := by
  cases ho : x.ok with
  | true => rfl
  | false =>
    refine absurd ?_ h
    unfold Six.ok at ho
    simp only [Six.text, textT, ho, Bool.false_eq_true, if_false]
theorem fRText' (x : Six) (h : shortT x.a x.b x.c x.d x.e x.f) : F_entailref1_Text [x.v] = some (.str x.text) := by
  simp only [F_entailref1_Text, Six.v]; rw [if_pos h]; rfl
def F_entailref1_Parse : Spec
  | [.str l] => if l.length ≤ big then some (.tup [(readT l).1.v, .bool (readT l).2]) else none
  | _ => none
theorem zero_v : zeroS.v = .agg [.str [], .str [], .str [], .str [], .str [], .str []] := rfl
theorem ok_entailref1_Parse : SpecL Try.prog n_entailref1_Parse F_entailref1_Parse := by
  refine go_entailref1_Parse (T := [(n_entailref1_Find, F_entailref1_Find), (n_entailref1_Text, F_entailref1_Text)]) (TabOk.cons ok_entailref1_Find (TabOk.cons ok_entailref1_Text TabOk.nil)) fun args v hv => ?_
  have c_entailref1_Find : ∀ args, tab [(n_entailref1_Find, F_entailref1_Find), (n_entailref1_Text, F_entailref1_Text)] n_entailref1_Find args = F_entailref1_Find args := fun _ => rfl
  have c_entailref1_Text : ∀ args, tab [(n_entailref1_Find, F_entailref1_Find), (n_entailref1_Text, F_entailref1_Text)] n_entailref1_Text args = F_entailref1_Text args := fun _ => rfl
  unfold F_entailref1_Parse at hv
  split at hv <;> (try simp only [Option.ite_none_right_eq_some, Option.some.injEq, reduceCtorEq] at hv)
  rename_i l
  obtain ⟨hl, rfl⟩ := hv
  have hl0 := hl
  unfold big at hl0
  refine ⟨rfl, rfl, rfl, ?_⟩
  rw [e_entailref1_Parse]
  have f1 := fFind hl 58 (k := 0) (by unfold big; omega)
  have f2 := fFind hl 35 (k := 0) (by unfold big; omega)
  have f3 := fFind hl 64 (k := 0) (by unfold big; omega)
  rw [show (((58 : UInt8).toNat : Nat) : Int) = 58 from rfl] at f1
  rw [show (((35 : UInt8).toNat : Nat) : Int) = 35 from rfl] at f2
  rw [show (((64 : UInt8).toNat : Nat) : Int) = 64 from rfl] at f3
  rw [show (((0 : Nat) : Int)) = 0 from rfl] at f1 f2 f3
  simp only [c_entailref1_Find, f1, f2, f3, if_true, if_false, Bool.false_eq_true, Bool.true_eq_false, reduceCtorEq, opt_s, gBool, gTT, gFF, gTF, gFT, gU, pBool, orN, andN, orI, andI, V.bool.injEq, Bool.true_and, Bool.and_true, Bool.false_and, Bool.and_false, Bool.true_or, Bool.or_true, Bool.false_or, Bool.or_false, Bool.not_true, Bool.not_false, iteB_bool, iteB_true, iteB_false, not_bool, chkB_bool, chkB_undef, bGeq, bLeq, bLss, bGtr, bEql, bNeq, bAdd, bSub, bMul, bSeq, bSne, bSlt, eqB_eq, mmMin, mmMax, ext_tup, cellD_agg, convI_int, lenS_s, lenL_s, gv_0, gv_s, agg6]
  have back : (readT l).2 = false → readT l = (zeroS, false) := fun h => Prod.ext (read_false h) h
  -- where all stands as it should, it is read
  cases hr : (readT l).2
  · -- it is none
    rw [back hr, zero_v]
    rcases find_ge l 58 0 with g1 | ⟨a, g1, _, ga⟩
    · rw [show (((58 : UInt8).toNat : Nat) : Int) = 58 from rfl] at g1
      have : decide ((-1 : Int) < 0) = true := by decide
      simp only [g1, this, if_true, if_false, Bool.false_eq_true, Bool.true_eq_false, reduceCtorEq, opt_s, gBool, gTT, gFF, gTF, gFT, gU, pBool, orN, andN, orI, andI, V.bool.injEq, Bool.true_and, Bool.and_true, Bool.false_and, Bool.and_false, Bool.true_or, Bool.or_true, Bool.false_or, Bool.or_false, Bool.not_true, Bool.not_false, iteB_bool, iteB_true, iteB_false, not_bool, chkB_bool, chkB_undef, bGeq, bLeq, bLss, bGtr, bEql, bNeq, bAdd, bSub, bMul, bSeq, bSne, bSlt, eqB_eq, mmMin, mmMax, ext_tup, cellD_agg, convI_int, lenS_s, lenL_s, gv_0, gv_s]
    rw [show (((58 : UInt8).toNat : Nat) : Int) = 58 from rfl] at g1
    have d1 : decide ((a : Int) < 0) = false := decide_eq_false (by omega)
    simp only [g1, d1, if_true, if_false, Bool.false_eq_true, Bool.true_eq_false, reduceCtorEq, opt_s, gBool, gTT, gFF, gTF, gFT, gU, pBool, orN, andN, orI, andI, V.bool.injEq, Bool.true_and, Bool.and_true, Bool.false_and, Bool.and_false, Bool.true_or, Bool.or_true, Bool.false_or, Bool.or_false, Bool.not_true, Bool.not_false, iteB_bool, iteB_true, iteB_false, not_bool, chkB_bool, chkB_undef, bGeq, bLeq, bLss, bGtr, bEql, bNeq, bAdd, bSub, bMul, bSeq, bSne, bSlt, eqB_eq, mmMin, mmMax, ext_tup, cellD_agg, convI_int, lenS_s, lenL_s, gv_0, gv_s]
    by_cases hb : findN l 35 0 < (a : Int)
    · simp only [hb, decide_true, if_true, if_false, Bool.false_eq_true, Bool.true_eq_false, reduceCtorEq, opt_s, gBool, gTT, gFF, gTF, gFT, gU, pBool, orN, andN, orI, andI, V.bool.injEq, Bool.true_and, Bool.and_true, Bool.false_and, Bool.and_false, Bool.true_or, Bool.or_true, Bool.false_or, Bool.or_false, Bool.not_true, Bool.not_false, iteB_bool, iteB_true, iteB_false, not_bool, chkB_bool, chkB_undef, bGeq, bLeq, bLss, bGtr, bEql, bNeq, bAdd, bSub, bMul, bSeq, bSne, bSlt, eqB_eq, mmMin, mmMax, ext_tup, cellD_agg, convI_int, lenS_s, lenL_s, gv_0, gv_s]
    rcases find_ge l 35 0 with g2 | ⟨b, g2, _, gb⟩
    · rw [show (((35 : UInt8).toNat : Nat) : Int) = 35 from rfl] at g2; omega
    rw [show (((35 : UInt8).toNat : Nat) : Int) = 35 from rfl] at g2
    rw [g2] at hb
    simp only [g2, hb, decide_false, if_true, if_false, Bool.false_eq_true, Bool.true_eq_false, reduceCtorEq, opt_s, gBool, gTT, gFF, gTF, gFT, gU, pBool, orN, andN, orI, andI, V.bool.injEq, Bool.true_and, Bool.and_true, Bool.false_and, Bool.and_false, Bool.true_or, Bool.or_true, Bool.false_or, Bool.or_false, Bool.not_true, Bool.not_false, iteB_bool, iteB_true, iteB_false, not_bool, chkB_bool, chkB_undef, bGeq, bLeq, bLss, bGtr, bEql, bNeq, bAdd, bSub, bMul, bSeq, bSne, bSlt, eqB_eq, mmMin, mmMax, ext_tup, cellD_agg, convI_int, lenS_s, lenL_s, gv_0, gv_s]
    by_cases hc : findN l 64 0 < (b : Int)
    · simp only [hc, decide_true, if_true, if_false, Bool.false_eq_true, Bool.true_eq_false, reduceCtorEq, opt_s, gBool, gTT, gFF, gTF, gFT, gU, pBool, orN, andN, orI, andI, V.bool.injEq, Bool.true_and, Bool.and_true, Bool.false_and, Bool.and_false, Bool.true_or, Bool.or_true, Bool.false_or, Bool.or_false, Bool.not_true, Bool.not_false, iteB_bool, iteB_true, iteB_false, not_bool, chkB_bool, chkB_undef, bGeq, bLeq, bLss, bGtr, bEql, bNeq, bAdd, bSub, bMul, bSeq, bSne, bSlt, eqB_eq, mmMin, mmMax, ext_tup, cellD_agg, convI_int, lenS_s, lenL_s, gv_0, gv_s]
    rcases find_ge l 64 0 with g3 | ⟨c, g3, _, gc⟩
    · rw [show (((64 : UInt8).toNat : Nat) : Int) = 64 from rfl] at g3; omega
    rw [show (((64 : UInt8).toNat : Nat) : Int) = 64 from rfl] at g3
    rw [g3] at hc
    have la : a < l.length := (List.getElem?_eq_some_iff.1 ga).1
    have lb : b < l.length := (List.getElem?_eq_some_iff.1 gb).1
    have lc : c < l.length := (List.getElem?_eq_some_iff.1 gc).1
    have f4 := fFind hl 58 (k := c) (by unfold big; omega)
    rw [show (((58 : UInt8).toNat : Nat) : Int) = 58 from rfl] at f4
    simp only [g3, hc, decide_false, if_true, if_false, Bool.false_eq_true, Bool.true_eq_false, reduceCtorEq, opt_s, gBool, gTT, gFF, gTF, gFT, gU, pBool, orN, andN, orI, andI, V.bool.injEq, Bool.true_and, Bool.and_true, Bool.false_and, Bool.and_false, Bool.true_or, Bool.or_true, Bool.false_or, Bool.or_false, Bool.not_true, Bool.not_false, iteB_bool, iteB_true, iteB_false, not_bool, chkB_bool, chkB_undef, bGeq, bLeq, bLss, bGtr, bEql, bNeq, bAdd, bSub, bMul, bSeq, bSne, bSlt, eqB_eq, mmMin, mmMax, ext_tup, cellD_agg, convI_int, lenS_s, lenL_s, gv_0, gv_s, f4]
    rcases find_ge l 58 c with g4 | ⟨d, g4, hcd, gd⟩
    · rw [show (((58 : UInt8).toNat : Nat) : Int) = 58 from rfl] at g4
      have : decide ((-1 : Int) < 0) = true := by decide
      simp only [g4, this, if_true, if_false, Bool.false_eq_true, Bool.true_eq_false, reduceCtorEq, opt_s, gBool, gTT, gFF, gTF, gFT, gU, pBool, orN, andN, orI, andI, V.bool.injEq, Bool.true_and, Bool.and_true, Bool.false_and, Bool.and_false, Bool.true_or, Bool.or_true, Bool.false_or, Bool.or_false, Bool.not_true, Bool.not_false, iteB_bool, iteB_true, iteB_false, not_bool, chkB_bool, chkB_undef, bGeq, bLeq, bLss, bGtr, bEql, bNeq, bAdd, bSub, bMul, bSeq, bSne, bSlt, eqB_eq, mmMin, mmMax, ext_tup, cellD_agg, convI_int, lenS_s, lenL_s, gv_0, gv_s]
    rw [show (((58 : UInt8).toNat : Nat) : Int) = 58 from rfl] at g4
    have ld : d < l.length := (List.getElem?_eq_some_iff.1 gd).1
    have d4 : decide ((d : Int) < 0) = false := decide_eq_false (by omega)
    have f5 := fFind hl 35 (k := d) (by unfold big; omega)
    rw [show (((35 : UInt8).toNat : Nat) : Int) = 35 from rfl] at f5
    have ab : a < b := by
      have : a ≠ b := fun e => by subst e; rw [ga] at gb; simp at gb
      omega
    have bc : b < c := by
      have : b ≠ c := fun e => by subst e; rw [gb] at gc; simp at gc
      omega
    have cd : c < d := by
      have : c ≠ d := fun e => by subst e; rw [gc] at gd; simp at gd
      omega
    have w1 : IntKind.i64.wrap ((a : Int) + 1) = ((a + 1 : Nat) : Int) := by rw [wrap_in (by omega) (by omega)]; omega
    have w2 : IntKind.i64.wrap ((b : Int) + 1) = ((b + 1 : Nat) : Int) := by rw [wrap_in (by omega) (by omega)]; omega
    have w3 : IntKind.i64.wrap ((c : Int) + 1) = ((c + 1 : Nat) : Int) := by rw [wrap_in (by omega) (by omega)]; omega
    have w4 : IntKind.i64.wrap ((d : Int) + 1) = ((d + 1 : Nat) : Int) := by rw [wrap_in (by omega) (by omega)]; omega
    have s1 := sliceS_to (Nat.le_of_lt la) .i64
    have s2 := sliceS_both (l := l) (j := a + 1) (k := b) (by omega) (by omega) .i64 .i64
    have s3 := sliceS_both (l := l) (j := b + 1) (k := c) (by omega) (by omega) .i64 .i64
    have s4 := sliceS_both (l := l) (j := c + 1) (k := d) (by omega) (by omega) .i64 .i64
    have s5 := sliceS_from (l := l) (k := d + 1) (by omega) .i64
    simp only [g4, d4, if_true, if_false, Bool.false_eq_true, Bool.true_eq_false, reduceCtorEq, opt_s, gBool, gTT, gFF, gTF, gFT, gU, pBool, orN, andN, orI, andI, V.bool.injEq, Bool.true_and, Bool.and_true, Bool.false_and, Bool.and_false, Bool.true_or, Bool.or_true, Bool.false_or, Bool.or_false, Bool.not_true, Bool.not_false, iteB_bool, iteB_true, iteB_false, not_bool, chkB_bool, chkB_undef, bGeq, bLeq, bLss, bGtr, bEql, bNeq, bAdd, bSub, bMul, bSeq, bSne, bSlt, eqB_eq, mmMin, mmMax, ext_tup, cellD_agg, convI_int, lenS_s, lenL_s, gv_0, gv_s, f5, w1, w2, w3, w4, s1, s2, s3, s4, s5, agg2, agg3, agg6, List.getD_cons_zero, List.getD_cons_succ]
    -- whatever the last part is
    have fin : ∀ e f : List UInt8, e.length ≤ big → f.length ≤ big → ∃ y : List UInt8, F_entailref1_Text [.agg [.str (l.take a), .str ((l.take b).drop (a + 1)), .str ((l.take c).drop (b + 1)), .str ((l.take d).drop (c + 1)), .str e, .str f]] = some (.str y) ∧ ((y == l) = false ∨ (y == l) = true ∧ (l == ([] : List UInt8)) = true) := by
      intro e f he hf
      generalize hx : (⟨l.take a, (l.take b).drop (a + 1), (l.take c).drop (b + 1), (l.take d).drop (c + 1), e, f⟩ : Six) = x
      have hsh : shortT x.a x.b x.c x.d x.e x.f := by
        subst hx
        unfold shortT big at *
        simp only [List.length_take, List.length_drop]
        omega
      have hxv : V.agg [.str (l.take a), .str ((l.take b).drop (a + 1)), .str ((l.take c).drop (b + 1)), .str ((l.take d).drop (c + 1)), .str e, .str f] = x.v := by subst hx; rfl
      refine ⟨x.text, by rw [hxv]; exact fRText' x hsh, ?_⟩
      by_cases h1 : x.text = l
      · by_cases h2 : l = []
        · exact .inr ⟨by simpa using h1, by simpa using h2⟩
        · exfalso
          have ho := text_nil (x := x) (by rw [h1]; exact h2)
          have := read_text ho
          rw [h1] at this
          rw [this] at hr; simp at hr
      · exact .inl (by simpa using h1)
    rw [joinP_eq]
    rcases find_ge l 35 d with g5 | ⟨e, g5, hde, ge⟩
    · rw [show (((35 : UInt8).toNat : Nat) : Int) = 35 from rfl] at g5
      have d5 : decide ((0 : Int) ≤ -1) = false := by decide
      obtain ⟨y, y1, y2⟩ := fin (l.drop (d + 1)) [] (by unfold big at *; simp only [List.length_drop]; omega) (by unfold big; simp)
      rcases y2 with y2 | ⟨y2, y3⟩
      · simp only [g5, d5, if_true, if_false, Bool.false_eq_true, Bool.true_eq_false, reduceCtorEq, opt_s, gBool, gTT, gFF, gTF, gFT, gU, pBool, orN, andN, orI, andI, V.bool.injEq, Bool.true_and, Bool.and_true, Bool.false_and, Bool.and_false, Bool.true_or, Bool.or_true, Bool.false_or, Bool.or_false, Bool.not_true, Bool.not_false, iteB_bool, iteB_true, iteB_false, not_bool, chkB_bool, chkB_undef, bGeq, bLeq, bLss, bGtr, bEql, bNeq, bAdd, bSub, bMul, bSeq, bSne, bSlt, eqB_eq, mmMin, mmMax, ext_tup, cellD_agg, convI_int, lenS_s, lenL_s, gv_0, gv_s, agg6, c_entailref1_Text, y1, y2]
        exact ⟨rfl, trivial⟩
      · simp only [g5, d5, if_true, if_false, Bool.false_eq_true, Bool.true_eq_false, reduceCtorEq, opt_s, gBool, gTT, gFF, gTF, gFT, gU, pBool, orN, andN, orI, andI, V.bool.injEq, Bool.true_and, Bool.and_true, Bool.false_and, Bool.and_false, Bool.true_or, Bool.or_true, Bool.false_or, Bool.or_false, Bool.not_true, Bool.not_false, iteB_bool, iteB_true, iteB_false, not_bool, chkB_bool, chkB_undef, bGeq, bLeq, bLss, bGtr, bEql, bNeq, bAdd, bSub, bMul, bSeq, bSne, bSlt, eqB_eq, mmMin, mmMax, ext_tup, cellD_agg, convI_int, lenS_s, lenL_s, gv_0, gv_s, agg6, c_entailref1_Text, y1, y2, y3]
        exact ⟨rfl, trivial⟩
    · rw [show (((35 : UInt8).toNat : Nat) : Int) = 35 from rfl] at g5
      have le : e < l.length := (List.getElem?_eq_some_iff.1 ge).1
      have de : d < e := by
        have : d ≠ e := fun e' => by subst e'; rw [gd] at ge; simp at ge
        omega
      have d5 : decide ((0 : Int) ≤ (e : Int)) = true := decide_eq_true (by omega)
      have w5 : IntKind.i64.wrap ((e : Int) + 1) = ((e + 1 : Nat) : Int) := by rw [wrap_in (by omega) (by omega)]; omega
      have s6 := sliceS_both (l := l) (j := d + 1) (k := e) (by omega) (by omega) .i64 .i64
      have s7 := sliceS_from (l := l) (k := e + 1) (by omega) .i64
      obtain ⟨y, y1, y2⟩ := fin ((l.take e).drop (d + 1)) (l.drop (e + 1)) (by unfold big at *; simp only [List.length_drop, List.length_take]; omega) (by unfold big at *; simp only [List.length_drop]; omega)
      rcases y2 with y2 | ⟨y2, y3⟩
      · simp only [g5, d5, if_true, if_false, Bool.false_eq_true, Bool.true_eq_false, reduceCtorEq, opt_s, gBool, gTT, gFF, gTF, gFT, gU, pBool, orN, andN, orI, andI, V.bool.injEq, Bool.true_and, Bool.and_true, Bool.false_and, Bool.and_false, Bool.true_or, Bool.or_true, Bool.false_or, Bool.or_false, Bool.not_true, Bool.not_false, iteB_bool, iteB_true, iteB_false, not_bool, chkB_bool, chkB_undef, bGeq, bLeq, bLss, bGtr, bEql, bNeq, bAdd, bSub, bMul, bSeq, bSne, bSlt, eqB_eq, mmMin, mmMax, ext_tup, cellD_agg, convI_int, lenS_s, lenL_s, gv_0, gv_s, w4, w5, s6, s7, agg6, c_entailref1_Text, y1, y2]
        exact ⟨rfl, trivial⟩
      · simp only [g5, d5, if_true, if_false, Bool.false_eq_true, Bool.true_eq_false, reduceCtorEq, opt_s, gBool, gTT, gFF, gTF, gFT, gU, pBool, orN, andN, orI, andI, V.bool.injEq, Bool.true_and, Bool.and_true, Bool.false_and, Bool.and_false, Bool.true_or, Bool.or_true, Bool.false_or, Bool.or_false, Bool.not_true, Bool.not_false, iteB_bool, iteB_true, iteB_false, not_bool, chkB_bool, chkB_undef, bGeq, bLeq, bLss, bGtr, bEql, bNeq, bAdd, bSub, bMul, bSeq, bSne, bSlt, eqB_eq, mmMin, mmMax, ext_tup, cellD_agg, convI_int, lenS_s, lenL_s, gv_0, gv_s, w4, w5, s6, s7, agg6, c_entailref1_Text, y1, y2, y3]
        exact ⟨rfl, trivial⟩
  · -- it is one
    obtain ⟨hx, ht⟩ := read_true hr
    have hrd : readT l = ((readT l).1, true) := Prod.ext rfl hr
    generalize (readT l).1 = x at hx ht hrd ⊢
    have ha := x.all hx
    have hte := x.text_eq hx
    rw [ht] at hte
    have n64 : ∀ {s : List UInt8}, s.all (fun c => idB c.toNat) = true → (64 : UInt8) ∉ s := fun h => sep_not h s64
    have n35 : ∀ {s : List UInt8}, s.all (fun c => idB c.toNat) = true → (35 : UInt8) ∉ s := fun h => sep_not h s35
    have n58 : ∀ {s : List UInt8}, s.all (fun c => idB c.toNat) = true → (58 : UInt8) ∉ s := fun h => sep_not h s58
    -- the text, cut at each sign
    have e1 : l = x.a ++ 58 :: (x.b ++ (35 :: x.c ++ 64 :: ((x.d ++ 58 :: x.e) ++ x.tail))) := by rw [hte]; simp [List.append_assoc]
    have e2 : l = (x.a ++ 58 :: x.b) ++ 35 :: (x.c ++ (64 :: ((x.d ++ 58 :: x.e) ++ x.tail))) := by rw [hte]; simp [List.append_assoc]
    have e3 : l = ((x.a ++ 58 :: x.b) ++ 35 :: x.c) ++ 64 :: (x.d ++ (58 :: (x.e ++ x.tail))) := by rw [hte]; simp [List.append_assoc]
    have e4 : l = (((x.a ++ 58 :: x.b) ++ 35 :: x.c) ++ 64 :: x.d) ++ 58 :: (x.e ++ x.tail) := by rw [hte]; simp [List.append_assoc]
    have l1 : (x.a ++ 58 :: x.b).length = x.a.length + 1 + x.b.length := by simp; omega
    have l2 : ((x.a ++ 58 :: x.b) ++ 35 :: x.c).length = x.a.length + 1 + x.b.length + 1 + x.c.length := by simp; omega
    have l3 : (((x.a ++ 58 :: x.b) ++ 35 :: x.c) ++ 64 :: x.d).length = x.a.length + 1 + x.b.length + 1 + x.c.length + 1 + x.d.length := by simp; omega
    have ll : l.length = x.a.length + 1 + x.b.length + 1 + x.c.length + 1 + x.d.length + 1 + x.e.length + x.tail.length := by rw [hte]; simp; omega
    generalize hA : x.a.length = A at *
    generalize hB : A + 1 + x.b.length = B at *
    generalize hC : B + 1 + x.c.length = C at *
    generalize hD : C + 1 + x.d.length = D at *
    have g1 : findN l 58 0 = (A : Int) := by
      have := find_is (l := l) (c := 58) (k := 0) (by omega) (by rw [List.drop_zero]; exact e1) (n58 ha.a)
      rw [hA, Nat.zero_add] at this; exact this
    have g2 : findN l 35 0 = (B : Int) := by
      have := find_is (l := l) (c := 35) (k := 0) (by omega) (by rw [List.drop_zero]; exact e2) (not_app (n35 ha.a) (n35 ha.b) (by decide))
      rw [l1, Nat.zero_add] at this; exact this
    have g3 : findN l 64 0 = (C : Int) := by
      have := find_is (l := l) (c := 64) (k := 0) (by omega) (by rw [List.drop_zero]; exact e3) (not_app (not_app (n64 ha.a) (n64 ha.b) (by decide)) (n64 ha.c) (by decide))
      rw [l2, Nat.zero_add] at this; exact this
    have g4 : findN l 58 C = (D : Int) := by
      have h1 : l.drop C = (64 :: x.d) ++ 58 :: (x.e ++ x.tail) := by rw [drop_at e3 l2.symm]; simp
      have := find_is (l := l) (c := 58) (k := C) (by omega) h1 (by simp only [List.mem_cons, not_or]; exact ⟨by decide, n58 ha.d⟩)
      rw [List.length_cons, show C + (x.d.length + 1) = D by omega] at this; exact this
    have hdD : l.drop D = 58 :: (x.e ++ x.tail) := drop_at e4 l3.symm
    have d1 : decide ((A : Int) < 0) = false := decide_eq_false (by omega)
    have d2 : decide ((B : Int) < (A : Int)) = false := decide_eq_false (by omega)
    have d3 : decide ((C : Int) < (B : Int)) = false := decide_eq_false (by omega)
    have d4 : decide ((D : Int) < 0) = false := decide_eq_false (by omega)
    have f4 := fFind hl 58 (k := C) (by unfold big; omega)
    have f5 := fFind hl 35 (k := D) (by unfold big; omega)
    rw [show (((58 : UInt8).toNat : Nat) : Int) = 58 from rfl, g4] at f4
    rw [show (((35 : UInt8).toNat : Nat) : Int) = 35 from rfl] at f5
    have w1 : IntKind.i64.wrap ((A : Int) + 1) = ((A + 1 : Nat) : Int) := by rw [wrap_in (by omega) (by omega)]; omega
    have w2 : IntKind.i64.wrap ((B : Int) + 1) = ((B + 1 : Nat) : Int) := by rw [wrap_in (by omega) (by omega)]; omega
    have w3 : IntKind.i64.wrap ((C : Int) + 1) = ((C + 1 : Nat) : Int) := by rw [wrap_in (by omega) (by omega)]; omega
    have w4 : IntKind.i64.wrap ((D : Int) + 1) = ((D + 1 : Nat) : Int) := by rw [wrap_in (by omega) (by omega)]; omega
    have s1 := sliceS_to (l := l) (k := A) (by omega) .i64
    have s2 := sliceS_both (l := l) (j := A + 1) (k := B) (by omega) (by omega) .i64 .i64
    have s3 := sliceS_both (l := l) (j := B + 1) (k := C) (by omega) (by omega) .i64 .i64
    have s4 := sliceS_both (l := l) (j := C + 1) (k := D) (by omega) (by omega) .i64 .i64
    have s5 := sliceS_from (l := l) (k := D + 1) (by omega) .i64
    rw [take_at e1 hA.symm] at s1
    rw [mid_slice e1 (by rw [hA]) (by rw [hA]; omega)] at s2
    rw [mid_slice e2 (by rw [l1]) (by rw [l1]; omega)] at s3
    rw [mid_slice e3 (by rw [l2]) (by rw [l2]; omega)] at s4
    have e5 : l = ((((x.a ++ 58 :: x.b) ++ 35 :: x.c) ++ 64 :: x.d) ++ [58]) ++ (x.e ++ x.tail) := by rw [e4]; simp
    rw [drop_at (j := D + 1) e5 (by rw [List.length_append, l3]; rfl)] at s5
    have hne : l ≠ [] := by rw [e1]; simp
    have hne' : (l == ([] : List UInt8)) = false := by simpa using hne
    have hT : F_entailref1_Text [.agg [.str x.a, .str x.b, .str x.c, .str x.d, .str x.e, .str x.f]] = some (.str l) := by rw [← ht]; exact fRText hx
    simp only [g1, g2, g3, d1, d2, d3, if_true, if_false, Bool.false_eq_true, Bool.true_eq_false, reduceCtorEq, opt_s, gBool, gTT, gFF, gTF, gFT, gU, pBool, orN, andN, orI, andI, V.bool.injEq, Bool.true_and, Bool.and_true, Bool.false_and, Bool.and_false, Bool.true_or, Bool.or_true, Bool.false_or, Bool.or_false, Bool.not_true, Bool.not_false, iteB_bool, iteB_true, iteB_false, not_bool, chkB_bool, chkB_undef, bGeq, bLeq, bLss, bGtr, bEql, bNeq, bAdd, bSub, bMul, bSeq, bSne, bSlt, eqB_eq, mmMin, mmMax, ext_tup, cellD_agg, convI_int, lenS_s, lenL_s, gv_0, gv_s, f4, f5, g4, d4, w1, w2, w3, w4, s1, s2, s3, s4, s5, agg2, agg3, agg6, List.getD_cons_zero, List.getD_cons_succ, joinP_eq]
    by_cases hf : x.f = []
    · have htl : x.tail = [] := by unfold Six.tail; rw [if_pos hf]
      have g5 : findN l 35 D = -1 := find_no (c := 35) (by
        rw [hdD, htl, List.append_nil]
        simp only [List.mem_cons, not_or]; exact ⟨by decide, n35 ha.e⟩)
      have d5 : decide ((0 : Int) ≤ -1) = false := by decide
      rw [hf] at hT
      simp only [g5, d5, if_true, if_false, Bool.false_eq_true, Bool.true_eq_false, reduceCtorEq, opt_s, gBool, gTT, gFF, gTF, gFT, gU, pBool, orN, andN, orI, andI, V.bool.injEq, Bool.true_and, Bool.and_true, Bool.false_and, Bool.and_false, Bool.true_or, Bool.or_true, Bool.false_or, Bool.or_false, Bool.not_true, Bool.not_false, iteB_bool, iteB_true, iteB_false, not_bool, chkB_bool, chkB_undef, bGeq, bLeq, bLss, bGtr, bEql, bNeq, bAdd, bSub, bMul, bSeq, bSne, bSlt, eqB_eq, mmMin, mmMax, ext_tup, cellD_agg, convI_int, lenS_s, lenL_s, gv_0, gv_s, htl, List.append_nil, agg6, c_entailref1_Text, hT, beq_self_eq_true, hne']
      refine ⟨rfl, ?_⟩
      unfold Six.v; rw [hf]
    · have htl : x.tail = 35 :: x.f := by unfold Six.tail; rw [if_neg hf]
      have h1 : l.drop D = (58 :: x.e) ++ 35 :: x.f := by rw [hdD, htl]; simp
      have g5 : findN l 35 D = ((D + 1 + x.e.length : Nat) : Int) := by
        have := find_is (l := l) (c := 35) (k := D) (by omega) h1 (by simp only [List.mem_cons, not_or]; exact ⟨by decide, n35 ha.e⟩)
        rw [List.length_cons, show D + (x.e.length + 1) = D + 1 + x.e.length by omega] at this; exact this
      have d5 : decide ((0 : Int) ≤ ((D + 1 + x.e.length : Nat) : Int)) = true := decide_eq_true (by omega)
      have htl2 : x.tail.length = x.f.length + 1 := by rw [htl]; rfl
      have w5 : IntKind.i64.wrap (((D + 1 + x.e.length : Nat) : Int) + 1) = ((D + 1 + x.e.length + 1 : Nat) : Int) := by rw [wrap_in (by omega) (by omega)]; omega
      have s6 := sliceS_both (l := l) (j := D + 1) (k := D + 1 + x.e.length) (by omega) (by omega) .i64 .i64
      have s7 := sliceS_from (l := l) (k := D + 1 + x.e.length + 1) (by omega) .i64
      rw [mid_slice (q := x.e) (s := 35 :: x.f) (by rw [e4, htl]) (by rw [l3]) (by rw [l3])] at s6
      have e6 : l = (((((x.a ++ 58 :: x.b) ++ 35 :: x.c) ++ 64 :: x.d) ++ 58 :: x.e) ++ [35]) ++ x.f := by rw [e4, htl]; simp
      rw [drop_at (j := D + 1 + x.e.length + 1) e6 (by rw [List.length_append, List.length_append, l3]; simp; omega)] at s7
      simp only [g5, d5, if_true, if_false, Bool.false_eq_true, Bool.true_eq_false, reduceCtorEq, opt_s, gBool, gTT, gFF, gTF, gFT, gU, pBool, orN, andN, orI, andI, V.bool.injEq, Bool.true_and, Bool.and_true, Bool.false_and, Bool.and_false, Bool.true_or, Bool.or_true, Bool.false_or, Bool.or_false, Bool.not_true, Bool.not_false, iteB_bool, iteB_true, iteB_false, not_bool, chkB_bool, chkB_undef, bGeq, bLeq, bLss, bGtr, bEql, bNeq, bAdd, bSub, bMul, bSeq, bSne, bSlt, eqB_eq, mmMin, mmMax, ext_tup, cellD_agg, convI_int, lenS_s, lenL_s, gv_0, gv_s, w4, w5, s6, s7, agg6, c_entailref1_Text, hT, beq_self_eq_true, hne']
      exact ⟨rfl, rfl⟩
end Go.Fbs

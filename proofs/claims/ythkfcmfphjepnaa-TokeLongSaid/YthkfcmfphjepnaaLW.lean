import Derived.Test.YthkfcmfphjepnaaLV
set_option linter.unusedVariables false
set_option linter.unusedSimpArgs false
namespace Go.Fbs
open Go.Proofs

theorem extractV_tup (vs : List V) (i : Nat) : extractV (.tup vs) i = vs[i]? := Option.some.inj (congrArg some rfl)
theorem fieldAddrK_ptr (off l o : Nat) : fieldAddrK off (.ptr l o) = some (.ptr l (o + off)) := Option.some.inj (congrArg some rfl)
theorem storeK_last (H : List LO) (T : List (Nat × Nat)) (cs ys : List V) (n : Nat) (hy : ys.length = n) (hc : cs.length = n) :
    storeK n (.ptr H.length 0) (.agg cs) ⟨H ++ [.cells ys], T⟩ = some (.undef, ⟨H ++ [.cells cs], T⟩) := by
  simp [storeK, V.ok1, V.cells, splice, hy, hc, List.drop_eq_nil_of_le]
theorem storeK1_last (H : List LO) (T : List (Nat × Nat)) (v : V) (ys : List V) (i : Nat) (hi : i < ys.length) (ho : v.ok1 = true) (hv : v.cells = [v]) :
    storeK 1 (.ptr H.length i) v ⟨H ++ [.cells ys], T⟩ = some (.undef, ⟨H ++ [.cells (ys.set i v)], T⟩) := by
  have : i + 1 ≤ ys.length := hi
  simp [storeK, ho, hv, splice, this, List.set_eq_take_append_cons_drop, hi]
theorem loadK_last (H : List LO) (ys : List V) (n : Nat) (hy : ys.length = n) : loadK true n (H ++ [.cells ys]) (.ptr H.length 0) = some (.agg ys) := by
  simp [loadK, loadT', hy, List.take_of_length_le]
theorem loadK1_last (H : List LO) (ys : List V) (i : Nat) : loadK false 1 (H ++ [.cells ys]) (.ptr H.length i) = ys[i]? := by
  simp [loadK, loadT']

/-- The tokens from a place on; where there is none. -/
def toks : Nat → Nat → List UInt8 → List (Int × Nat × List UInt8) × Option Nat
  | 0, _, _ => ([], none)
  | _ + 1, _, [] => ([], none)
  | f + 1, k, c :: l =>
    if (nextT (c :: l)).2.2 = false then ([], some k)
    else
      let r := (c :: l).drop (nextT (c :: l)).2.1.length
      let q := toks f (k + (nextT (c :: l)).2.1.length + skipN false r) (r.drop (skipN false r))
      (((nextT (c :: l)).1, k, (nextT (c :: l)).2.1) :: q.1, q.2)

/-- The tokens of a text, the place, the error. -/
def tokensT (l : List UInt8) : List (Int × Nat × List UInt8) × Nat × Int :=
  if 100000 < l.length then ([], 0, 8)
  else
    let q := toks l.length (skipN false l) (l.drop (skipN false l))
    match q.2 with
    | some k => ([], k, 7)
    | none => (q.1, 0, 0)

def tokW (x : Int × Nat × List UInt8) : V := tokV x.1 x.2.1 x.2.2
def tokensV (ts : List (Int × Nat × List UInt8)) : V := .sl (rtag (ts.map tokW)) (ts.map tokW)

def F_toke_Tokens : Spec
  | [.str l] => if l.length ≤ big then some (.tup [tokensV (tokensT l).1, vI (tokensT l).2.1, vI (tokensT l).2.2]) else none
  | _ => none

theorem nextT_len {l : List UInt8} (hl : l ≠ []) : 1 ≤ (nextT l).2.1.length ∧ (nextT l).2.1.length ≤ l.length := by
  have h1 : 1 ≤ l.length := by cases l with
    | nil => exact absurd rfl hl
    | cons => simp
  unfold nextT
  split
  · have := (List.takeWhile_sublist (fun c : UInt8 => letterB c.toNat) (l := l)).length_le
    unfold rowN at *
    simp only [List.length_take]; omega
  · split
    · rename_i h
      rw [List.isPrefixOf_iff_prefix] at h
      have := h.length_le
      exact ⟨by simp, this⟩
    · simp only [List.length_take]; omega

theorem plains_tokens (ts : List (Int × Nat × List UInt8)) : (tokensV ts).plain = true := by
  have : plains (ts.map tokW) = true := plains_map fun a => rfl
  unfold tokensV rtag
  split <;> simpa [V.plain] using this
theorem tokW_cells (ts : List (Int × Nat × List UInt8)) : ∀ e ∈ ts.map tokW, e.cells.length = 3 := by
  intro e he
  obtain ⟨a, _, rfl⟩ := List.mem_map.1 he
  rfl

theorem ok_toke_Tokens : SpecOk Try.prog n_toke_Tokens F_toke_Tokens := by
  refine ⟨en_toke_Tokens, fun args v hv m => ?_⟩
  unfold F_toke_Tokens at hv
  split at hv <;> simp only [Option.ite_none_right_eq_some, Option.some.injEq, reduceCtorEq] at hv
  rename_i l
  obtain ⟨hl, rfl⟩ := hv
  have hl0 := hl
  unfold big at hl
  have hC : Sound Try.prog (CT Eff (tab [(n_toke_skip, F_toke_skip), (n_toke_next, F_toke_next)]) noE) := sound_cons ok_toke_skip (sound_cons ok_toke_next sound_nil)
  have hp_toke_skip : ∀ args, tab [(n_toke_skip, F_toke_skip), (n_toke_next, F_toke_next)] n_toke_skip args = F_toke_skip args := fun _ => rfl
  have hp_toke_next : ∀ args, tab [(n_toke_skip, F_toke_skip), (n_toke_next, F_toke_next)] n_toke_next args = F_toke_next args := fun _ => rfl
  refine go_toke_Tokens (Nat.le_of_ble_eq_true rfl) ?_ rfl (by simp [V.plain, plains, plains_tokens]) m
  refine aw_seq (w_toke_Tokens_0 hC fun K hK => ?_)
  simp only [opt_some, optC_some, opt2_some, guardV_true, guardV_false, guardV_tf, guardV_ft, guardV_undef, guardC_true, guardC_false, guardC_tf, guardC_ft, guardC_undef, pickV_true, pickV_false, unV_not, Bool.not_true, Bool.not_false, pt_apply, Nat.reduceEqDiff, if_false, if_true, List.getD_cons_zero, List.getD_cons_succ, lenS_str, lenL_sl]
  refine hK.out _ _ ?_
  refine aw_seq (aw_seq ?_)
  refine w_toke_Tokens_1 hC fun K hK => ?_
  simp only [opt_some, optC_some, opt2_some, guardV_true, guardV_false, guardV_tf, guardV_ft, guardV_undef, guardC_true, guardC_false, guardC_tf, guardC_ft, guardC_undef, pickV_true, pickV_false, unV_not, Bool.not_true, Bool.not_false, pt_apply, Nat.reduceEqDiff, if_false, if_true, List.getD_cons_zero, List.getD_cons_succ, lenS_str, lenL_sl, binV_gtr]
  by_cases hbig : 100000 < l.length
  · have hb' : decide ((100000 : Int) < (l.length : Int)) = true := decide_eq_true (by omega)
    simp only [hb']
    refine hK.out _ _ (aw_condV (b := true) (by simp) (by simp [pt_apply]) ?_)
    simp only [if_true]
    refine aw_seq (w_toke_Tokens_2 hC fun K hK => ?_)
    simp only [opt_some, optC_some, opt2_some, guardV_true, guardV_false, guardV_tf, guardV_ft, guardV_undef, guardC_true, guardC_false, guardC_tf, guardC_ft, guardC_undef, pickV_true, pickV_false, unV_not, Bool.not_true, Bool.not_false, pt_apply, Nat.reduceEqDiff, if_false, if_true, List.getD_cons_zero, List.getD_cons_succ, lenS_str, lenL_sl]
    refine hK.out _ _ ?_
    refine aw_ret ⟨.inr rfl, ?_⟩
    simp [resV, resVs, Env.get, pt_apply, V.er, V.er1, tokensT, hbig, tokensV, rtag]
  · have hb' : decide ((100000 : Int) < (l.length : Int)) = false := decide_eq_false (by omega)
    simp only [hb']
    refine hK.out _ _ (aw_condV (b := false) (by simp) (by simp [pt_apply]) ?_)
    simp only [Bool.false_eq_true, if_false]
    refine aw_skip ?_
    refine aw_seq (w_toke_Tokens_3 hC fun K hK => ?_)
    simp only [opt_some, optC_some, opt2_some, guardV_true, guardV_false, guardV_tf, guardV_ft, guardV_undef, guardC_true, guardC_false, guardC_tf, guardC_ft, guardC_undef, pickV_true, pickV_false, unV_not, Bool.not_true, Bool.not_false, pt_apply, Nat.reduceEqDiff, if_false, if_true, List.getD_cons_zero, List.getD_cons_succ, lenS_str, lenL_sl]
    refine hK.out _ _ ?_
    refine aw_seq (aw_seq ?_)
    refine w_toke_Tokens_4 hC fun K hK => ?_
    simp only [opt_some, optC_some, opt2_some, guardV_true, guardV_false, guardV_tf, guardV_ft, guardV_undef, guardC_true, guardC_false, guardC_tf, guardC_ft, guardC_undef, pickV_true, pickV_false, unV_not, Bool.not_true, Bool.not_false, pt_apply, Nat.reduceEqDiff, if_false, if_true, List.getD_cons_zero, List.getD_cons_succ, lenS_str, lenL_sl, hp_toke_skip, F_toke_skip, hl0]
    have hs0 := skipN_le false l
    refine hK.out _ _ (aw_block (aw_loop (fun s => ∃ (t : Nat → V) (k : Nat) (x : V) (H : List LO) (T : List (Nat × Nat)) (dn : List (Int × Nat × List UInt8)) (f : Nat),
      s = ⟨⟨46, t⟩, ⟨H, T⟩⟩ ∧ t 0 = .str l ∧ t 6 = vI k ∧ t 5 = x ∧ GrownSl 3 (dn.map tokW) x T ∧ k ≤ l.length ∧ dn.length ≤ k ∧ l.length - k ≤ f ∧
      toks l.length (skipN false l) (l.drop (skipN false l)) = (dn ++ (toks f k (l.drop k)).1, (toks f k (l.drop k)).2)) (fun s => l.length - natOf (s.env.f 6))
      ⟨_, skipN false l, _, [], [], [], l.length, rfl, rfl, rfl, rfl, grownSl_nil, hs0, Nat.zero_le _, Nat.sub_le _ _, by simp⟩ ?_))
    rintro s ⟨t, k, x, H, T, dn, f, rfl, h0, h6, h5, hg, hk, hdn, hf, htk⟩
    refine aw_seq (aw_seq ?_)
    refine w_toke_Tokens_5 hC fun K hK => ?_
    simp only [opt_some, optC_some, opt2_some, guardV_true, guardV_false, guardV_tf, guardV_ft, guardV_undef, guardC_true, guardC_false, guardC_tf, guardC_ft, guardC_undef, pickV_true, pickV_false, unV_not, Bool.not_true, Bool.not_false, pt_apply, Nat.reduceEqDiff, if_false, if_true, List.getD_cons_zero, List.getD_cons_succ, lenS_str, lenL_sl, h0, h6, binV_lss]
    by_cases hlt : k < l.length
    · have hlt' : decide ((k : Int) < (l.length : Int)) = true := decide_eq_true (by omega)
      simp only [hlt']
      refine hK.out _ _ (aw_condV (b := true) (by simp) (by simp [pt_apply]) ?_)
      simp only [if_true]
      refine aw_skip (aw_seq (aw_block ?_))
      have hdne : l.drop k ≠ [] := by
        intro e; have := congrArg List.length e; simp only [List.length_drop, List.length_nil] at this; omega
      have hdl : (l.drop k).length ≤ big := by simp only [List.length_drop]; unfold big; omega
      obtain ⟨n1, n2⟩ := nextT_len hdne
      simp only [List.length_drop] at n2
      refine aw_seq (w_toke_Tokens_7 hC fun K hK => ?_)
      simp only [opt_some, optC_some, opt2_some, guardV_true, guardV_false, guardV_tf, guardV_ft, guardV_undef, guardC_true, guardC_false, guardC_tf, guardC_ft, guardC_undef, pickV_true, pickV_false, unV_not, Bool.not_true, Bool.not_false, pt_apply, Nat.reduceEqDiff, if_false, if_true, List.getD_cons_zero, List.getD_cons_succ, lenS_str, lenL_sl, h0, h6, sliceS_from hk, hp_toke_next, F_toke_next, if_pos (And.intro hdne hdl), extractV_tup, List.getElem?_cons_zero, List.getElem?_cons_succ, tokV, storeK_last H T [vI (nextT (l.drop k)).1, vI 0, .str (nextT (l.drop k)).2.1] [.int .i64 0, .int .i64 0, .str []] 3 rfl rfl]
      refine hK.out _ _ ?_
      obtain ⟨f, rfl⟩ : ∃ f', f = f' + 1 := ⟨f - 1, by omega⟩
      refine aw_seq (aw_seq ?_)
      refine w_toke_Tokens_8 hC fun K hK => ?_
      simp only [opt_some, optC_some, opt2_some, guardV_true, guardV_false, guardV_tf, guardV_ft, guardV_undef, guardC_true, guardC_false, guardC_tf, guardC_ft, guardC_undef, pickV_true, pickV_false, unV_not, Bool.not_true, Bool.not_false, pt_apply, Nat.reduceEqDiff, if_false, if_true, List.getD_cons_zero, List.getD_cons_succ, lenS_str, lenL_sl]
      cases hok : (nextT (l.drop k)).2.2
      · have hst : toks (f + 1) k (l.drop k) = ([], some k) := by
          cases hd : l.drop k with
          | nil => exact absurd hd hdne
          | cons c r => rw [hd] at hok; simp [toks, hok]
        rw [hst] at htk
        refine hK.out _ _ (aw_condV (b := true) (by simp) (by simp [pt_apply, unV]) ?_)
        simp only [if_true]
        refine aw_seq (w_toke_Tokens_9 hC fun K hK => ?_)
        simp only [opt_some, optC_some, opt2_some, guardV_true, guardV_false, guardV_tf, guardV_ft, guardV_undef, guardC_true, guardC_false, guardC_tf, guardC_ft, guardC_undef, pickV_true, pickV_false, unV_not, Bool.not_true, Bool.not_false, pt_apply, Nat.reduceEqDiff, if_false, if_true, List.getD_cons_zero, List.getD_cons_succ, lenS_str, lenL_sl, h6]
        refine hK.out _ _ ?_
        refine aw_ret ⟨.inr rfl, ?_⟩
        simp [resV, resVs, Env.get, pt_apply, V.er, V.er1, tokensT, hbig, htk, tokensV, rtag]
      · have hst : toks (f + 1) k (l.drop k) = (((nextT (l.drop k)).1, k, (nextT (l.drop k)).2.1) :: (toks f (k + (nextT (l.drop k)).2.1.length + skipN false (l.drop (k + (nextT (l.drop k)).2.1.length))) (l.drop (k + (nextT (l.drop k)).2.1.length + skipN false (l.drop (k + (nextT (l.drop k)).2.1.length))))).1,
            (toks f (k + (nextT (l.drop k)).2.1.length + skipN false (l.drop (k + (nextT (l.drop k)).2.1.length))) (l.drop (k + (nextT (l.drop k)).2.1.length + skipN false (l.drop (k + (nextT (l.drop k)).2.1.length))))).2) := by
          cases hd : l.drop k with
          | nil => exact absurd hd hdne
          | cons c r =>
            rw [hd] at hok
            have e : ∀ j, l.drop (k + j) = (c :: r).drop j := fun j => by rw [← hd, List.drop_drop]
            simp [toks, hok, Nat.add_assoc, e]
        rw [hst] at htk
        generalize hn : (nextT (l.drop k)).2.1.length = n at *
        refine hK.out _ _ (aw_condV (b := false) (by simp) (by simp [pt_apply, unV]) ?_)
        simp only [Bool.false_eq_true, if_false]
        refine aw_skip ?_
        refine aw_seq (w_toke_Tokens_10 hC fun K hK => ?_)
        simp only [opt_some, optC_some, opt2_some, guardV_true, guardV_false, guardV_tf, guardV_ft, guardV_undef, guardC_true, guardC_false, guardC_tf, guardC_ft, guardC_undef, pickV_true, pickV_false, unV_not, Bool.not_true, Bool.not_false, pt_apply, Nat.reduceEqDiff, if_false, if_true, List.getD_cons_zero, List.getD_cons_succ, lenS_str, lenL_sl, h6, fieldAddrK_ptr, Nat.zero_add, storeK1_last H T (vI k) [vI (nextT (l.drop k)).1, vI 0, .str (nextT (l.drop k)).2.1] 1 (Nat.le_of_ble_eq_true rfl) rfl rfl, List.set_cons_succ, List.set_cons_zero]
        refine hK.out _ _ ?_
        obtain ⟨x', T', ha, hg'⟩ := grownSl_append (sz := 3) (by_ := 32) (ys := [tokW ((nextT (l.drop k)).1, k, (nextT (l.drop k)).2.1)]) (g := .full) (m := ⟨H ++ [.cells [vI (nextT (l.drop k)).1, vI k, .str (nextT (l.drop k)).2.1]], T⟩) hg (by simp) (by simp; omega) (tokW_cells dn) (by intro e he; simp at he; subst he; rfl)
        have hbs : buildSliceK 3 1 [(0, .agg [vI (nextT (l.drop k)).1, vI k, .str (nextT (l.drop k)).2.1])] = some (.sl .full [tokW ((nextT (l.drop k)).1, k, (nextT (l.drop k)).2.1)]) := by
          simp [buildSliceK, partsOk, V.ok1, elemsV, V.cells, V.er, V.er1, tokW, tokV]
        refine aw_seq (w_toke_Tokens_11 hC fun K hK => ?_)
        simp only [opt_some, optC_some, opt2_some, guardV_true, guardV_false, guardV_tf, guardV_ft, guardV_undef, guardC_true, guardC_false, guardC_tf, guardC_ft, guardC_undef, pickV_true, pickV_false, unV_not, Bool.not_true, Bool.not_false, pt_apply, Nat.reduceEqDiff, if_false, if_true, List.getD_cons_zero, List.getD_cons_succ, lenS_str, lenL_sl, h5, loadK_last H [vI (nextT (l.drop k)).1, vI k, .str (nextT (l.drop k)).2.1] 3 rfl, hbs, ha]
        refine hK.out _ _ ?_
        refine w_toke_Tokens_12 hC fun K hK => ?_
        simp only [opt_some, optC_some, opt2_some, guardV_true, guardV_false, guardV_tf, guardV_ft, guardV_undef, guardC_true, guardC_false, guardC_tf, guardC_ft, guardC_undef, pickV_true, pickV_false, unV_not, Bool.not_true, Bool.not_false, pt_apply, Nat.reduceEqDiff, if_false, if_true, List.getD_cons_zero, List.getD_cons_succ, lenS_str, lenL_sl, h6, fieldAddrK_ptr, Nat.zero_add, loadK1_last, List.getElem?_cons_zero, List.getElem?_cons_succ, hn, binV_add]
        rw [wrap_in (by omega) (by omega)]
        refine hK.out _ _ ?_
        simp only [blockQ, thenQ]
        have hkn : k + n ≤ l.length := by omega
        have hkl : (l.drop (k + n)).length ≤ big := by simp only [List.length_drop]; unfold big; omega
        have hsl := skipN_le false (l.drop (k + n))
        simp only [List.length_drop] at hsl
        refine w_toke_Tokens_6 hC fun K hK => ?_
        have hcast : ((k : Int) + (n : Int)) = ((k + n : Nat) : Int) := by omega
        simp only [opt_some, optC_some, opt2_some, guardV_true, guardV_false, guardV_tf, guardV_ft, guardV_undef, guardC_true, guardC_false, guardC_tf, guardC_ft, guardC_undef, pickV_true, pickV_false, unV_not, Bool.not_true, Bool.not_false, pt_apply, Nat.reduceEqDiff, if_false, if_true, List.getD_cons_zero, List.getD_cons_succ, lenS_str, lenL_sl, h0, hcast, sliceS_from hkn, hp_toke_skip, F_toke_skip, hkl, binV_add]
        rw [wrap_in (by omega) (by omega)]
        refine hK.out _ _ ⟨⟨_, k + n + skipN false (l.drop (k + n)), x', _, T', dn ++ [((nextT (l.drop k)).1, k, (nextT (l.drop k)).2.1)], f, rfl, by simp [pt_apply, h0], by simp [pt_apply], by simp [pt_apply], by simpa using hg', by omega, by simp; omega, by omega, ?_⟩, ?_⟩
        · rw [htk]; simp
        · simp [pt_apply, natOf, h6]; omega
    · have hlt' : decide ((k : Int) < (l.length : Int)) = false := decide_eq_false (by omega)
      simp only [hlt']
      refine hK.out _ _ (aw_condV (b := false) (by simp) (by simp [pt_apply]) ?_)
      simp only [Bool.false_eq_true, if_false]
      refine aw_exit ?_
      simp only [blockQ, if_true, thenQ]
      have hnil : l.drop k = [] := List.drop_eq_nil_of_le (by omega)
      have hst : toks f k [] = ([], none) := by cases f <;> rfl
      rw [hnil, hst] at htk
      refine aw_seq (w_toke_Tokens_13 hC fun K hK => ?_)
      simp only [opt_some, optC_some, opt2_some, guardV_true, guardV_false, guardV_tf, guardV_ft, guardV_undef, guardC_true, guardC_false, guardC_tf, guardC_ft, guardC_undef, pickV_true, pickV_false, unV_not, Bool.not_true, Bool.not_false, pt_apply, Nat.reduceEqDiff, if_false, if_true, List.getD_cons_zero, List.getD_cons_succ, lenS_str, lenL_sl, h5]
      refine hK.out _ _ ?_
      refine aw_ret ⟨.inr rfl, ?_⟩
      have her := grownSl_er hg
      simp [resV, resVs, Env.get, pt_apply, V.er, her, tokensT, hbig, htk, tokensV]
      simp [V.er1]
end Go.Fbs

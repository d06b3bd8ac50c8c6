import Derived.Test.YthkfcmfphjepnaaCH
set_option linter.unusedVariables false
set_option linter.unusedSimpArgs false
set_option linter.unusedSectionVars false
namespace Go.Fbs
open Go.Proofs

def F_entaillaw6_TokeParts : Spec
  | [.str _, .sl .ro es] => if es.length ≤ big ∧ canos es = true then some (.bool true) else none
  | _ => none
theorem tok_kind {k : Int} {x : List UInt8} (h : tokOk k x) : (k = 1 ∨ k = 2) ∧ x ≠ [] := by
  rcases h with ⟨rfl, h, _⟩ | ⟨rfl, rfl⟩ | ⟨rfl, c, rfl, _⟩
  · exact ⟨.inl rfl, h⟩
  · exact ⟨.inr rfl, by simp⟩
  · exact ⟨.inr rfl, by simp⟩
theorem part_2 (a b : V) (x : List UInt8) : partK false 1 2 (.agg [a, b, .str x]) = some (.str x) := rfl
theorem F_toke_of {l : List UInt8} {ts : List Tok} {a : Nat} {e : Int} (hl : l.length ≤ big) (h : tokensT l = (ts, a, e)) : F_toke_Tokens [.str l] = some (.tup [tokensV ts, vI a, vI e]) := by
  show (if l.length ≤ big then some (V.tup [tokensV (tokensT l).1, vI (tokensT l).2.1, vI (tokensT l).2.2]) else none) = _
  rw [if_pos hl, h]
theorem ok_entaillaw6_TokeParts : SpecL Try.prog n_entaillaw6_TokeParts F_entaillaw6_TokeParts := by
  refine go_entaillaw6_TokeParts (T := [(n_toke_Tokens, F_toke_Tokens), (n_entaillaw6_Tame, F_entaillaw6_Tame), (n_entaillaw6_awake, F_entaillaw6_awake)]) (TabOk.cons ok_toke_Tokens (TabOk.cons ok_entaillaw6_Tame (TabOk.cons ok_entaillaw6_awake TabOk.nil))) fun args v hv => ?_
  have c_toke_Tokens : ∀ args, tab [(n_toke_Tokens, F_toke_Tokens), (n_entaillaw6_Tame, F_entaillaw6_Tame), (n_entaillaw6_awake, F_entaillaw6_awake)] n_toke_Tokens args = F_toke_Tokens args := fun _ => rfl
  have c_entaillaw6_Tame : ∀ args, tab [(n_toke_Tokens, F_toke_Tokens), (n_entaillaw6_Tame, F_entaillaw6_Tame), (n_entaillaw6_awake, F_entaillaw6_awake)] n_entaillaw6_Tame args = F_entaillaw6_Tame args := fun _ => rfl
  have c_entaillaw6_awake : ∀ args, tab [(n_toke_Tokens, F_toke_Tokens), (n_entaillaw6_Tame, F_entaillaw6_Tame), (n_entaillaw6_awake, F_entaillaw6_awake)] n_entaillaw6_awake args = F_entaillaw6_awake args := fun _ => rfl
  unfold F_entaillaw6_TokeParts at hv
  split at hv <;> (try simp only [Option.ite_none_right_eq_some, Option.some.injEq, reduceCtorEq] at hv)
  rename_i l es
  obtain ⟨⟨hes, hca⟩, rfl⟩ := hv
  unfold big at hes
  refine ⟨rfl, by simp [canos, V.cano, hca], rfl, ?_⟩
  rw [e_entaillaw6_TokeParts]
  simp only [if_true, if_false, Bool.false_eq_true, Bool.true_eq_false, reduceCtorEq, opt_s, gBool, gTT, gFF, gTF, gFT, gU, pBool, orN, andN, orI, andI, V.bool.injEq, Bool.true_and, Bool.and_true, Bool.false_and, Bool.and_false, Bool.true_or, Bool.or_true, Bool.false_or, Bool.or_false, Bool.not_true, Bool.not_false, iteB_bool, iteB_true, iteB_false, not_bool, chkB_bool, chkB_undef, bGeq, bLeq, bLss, bGtr, bEql, bNeq, bAdd, bSub, bMul, bSeq, bSne, bSlt, eqB_eq, mmMin, mmMax, ext_tup, cellD_agg, convI_int, lenS_s, lenL_s, gv_0, gv_s, c_entaillaw6_awake, F_entaillaw6_awake]
  by_cases hbig : 200 < l.length
  · have hb' : (200 : Int) < (l.length : Int) := by omega
    simp [hb']
  · have hb' : ¬ (200 : Int) < (l.length : Int) := by omega
    have hlb : l.length ≤ big := by unfold big; omega
    have htm := tameT_len l
    have htb : (tameT l).length ≤ big := by unfold big; omega
    obtain ⟨ts, hts, hch⟩ := good_tokens (l := tameT l) (by omega) (good_tame l)
    have htl := tokensT_len (tameT l)
    rw [hts] at htl
    simp only at htl
    generalize hs : tameT l = s at *
    simp only [hb', decide_false, if_true, if_false, Bool.false_eq_true, Bool.true_eq_false, reduceCtorEq, opt_s, gBool, gTT, gFF, gTF, gFT, gU, pBool, orN, andN, orI, andI, V.bool.injEq, Bool.true_and, Bool.and_true, Bool.false_and, Bool.and_false, Bool.true_or, Bool.or_true, Bool.false_or, Bool.or_false, Bool.not_true, Bool.not_false, iteB_bool, iteB_true, iteB_false, not_bool, chkB_bool, chkB_undef, bGeq, bLeq, bLss, bGtr, bEql, bNeq, bAdd, bSub, bMul, bSeq, bSne, bSlt, eqB_eq, mmMin, mmMax, ext_tup, cellD_agg, convI_int, lenS_s, lenL_s, gv_0, gv_s]
    simp only [c_entaillaw6_Tame, F_entaillaw6_Tame, hlb, if_true, opt_s, hs]
    rw [c_toke_Tokens, F_toke_of htb hts]
    rw [opt_s, ext_tup, List.getElem?_cons_zero, opt_s, ext_tup, List.getElem?_cons_succ, List.getElem?_cons_zero, opt_s, ext_tup, List.getElem?_cons_succ, List.getElem?_cons_succ, List.getElem?_cons_zero, opt_s, bNeq, opt_s, show (!decide ((0:Int) = 0)) = false from rfl, iteB_false]
    have hlit : litK 1 [(.str [32]), (.str [10]), (.str [32, 9]), (.str [47, 47, 32, 97, 32, 110, 111, 116, 101, 13, 10])] = some (cStr.lst sepsT) := by kernel_rfl
    have hjl := join_len ts 0 es.length hch (by omega)
    simp only [hlit]
    refine loopP_inv (fun vs => ∃ (e : Nat) (u : List UInt8) (i : Nat), vs = [vI e, .str u, vI i] ∧ i ≤ ts.length ∧ chain s e (ts.drop i) ∧ joinT es.length ts = u ++ joinT (es.length + i) (ts.drop i)) (fun vs => ts.length - natOf (gv vs 2)) ⟨0, [], 0, rfl, by omega, by simpa using hch, by simp⟩ ?_
    rintro r _ ⟨e, u, i, rfl, hi, hce, hju⟩ hr
    refine ⟨rfl, ?_⟩
    have htv : tokensV ts = tokC.lst ts := rfl
    simp only [if_true, if_false, Bool.false_eq_true, Bool.true_eq_false, reduceCtorEq, opt_s, gBool, gTT, gFF, gTF, gFT, gU, pBool, orN, andN, orI, andI, V.bool.injEq, Bool.true_and, Bool.and_true, Bool.false_and, Bool.and_false, Bool.true_or, Bool.or_true, Bool.false_or, Bool.or_false, Bool.not_true, Bool.not_false, iteB_bool, iteB_true, iteB_false, not_bool, chkB_bool, chkB_undef, bGeq, bLeq, bLss, bGtr, bEql, bNeq, bAdd, bSub, bMul, bSeq, bSne, bSlt, eqB_eq, mmMin, mmMax, ext_tup, cellD_agg, convI_int, lenS_s, lenL_s, gv_0, gv_s, htv, tokC.len]
    by_cases hlt : i < ts.length
    · have hlt' : (i : Int) < (ts.length : Int) := by omega
      have h1 : ts[i]? = some ts[i] := List.getElem?_eq_getElem hlt
      generalize hx : ts[i] = x at *
      have hd : ts.drop i = x :: ts.drop (i + 1) := by rw [List.drop_eq_getElem_cons hlt, hx]
      rw [hd] at hce hju
      obtain ⟨hc1, hc2, hc3, hc4, hc5⟩ := hce
      obtain ⟨hk, hne⟩ := tok_kind hc4
      have hjl2 := congrArg List.length hju
      simp only [joinT, List.length_append] at hjl2
      have f1 : ¬ ((x.2.1 : Int) < (e : Int)) := by omega
      have f2 : ¬ ((s.length : Int) < ((x.2.1 + x.2.2.length : Nat) : Int)) := by omega
      have f3 : ¬ ((x.2.2.length : Int) = 0) := by have := List.length_pos_iff.2 hne; omega
      have ew : IntKind.i64.wrap ((x.2.1 : Int) + (x.2.2.length : Int)) = ((x.2.1 + x.2.2.length : Nat) : Int) := by rw [wrap_in (by omega) (by omega)]; omega
      have en : IntKind.i64.wrap ((i : Int) + (es.length : Int)) = ((es.length + i : Nat) : Int) := by rw [wrap_in (by omega) (by omega)]; omega
      have ea : binK .and (.int .i64 ((es.length + i : Nat) : Int)) (.int .i64 3) = some (.int .i64 (((es.length + i) % 4 : Nat) : Int)) := by
        have := bAndMask (a := ((es.length + i : Nat) : Int)) (j := 2) (by omega)
        simpa using this
      simp only [hlt', decide_true, if_true, if_false, Bool.false_eq_true, Bool.true_eq_false, reduceCtorEq, opt_s, gBool, gTT, gFF, gTF, gFT, gU, pBool, orN, andN, orI, andI, V.bool.injEq, Bool.true_and, Bool.and_true, Bool.false_and, Bool.and_false, Bool.true_or, Bool.or_true, Bool.false_or, Bool.or_false, Bool.not_true, Bool.not_false, iteB_bool, iteB_true, iteB_false, not_bool, chkB_bool, chkB_undef, bGeq, bLeq, bLss, bGtr, bEql, bNeq, bAdd, bSub, bMul, bSeq, bSne, bSlt, eqB_eq, mmMin, mmMax, ext_tup, cellD_agg, convI_int, lenS_s, lenL_s, gv_0, gv_s, tokC.idx_agg h1 (chk_tok _)]
      rw [show tokC.enc x = tokW x from rfl]
      simp only [tokW, tokV, if_true, if_false, Bool.false_eq_true, Bool.true_eq_false, reduceCtorEq, opt_s, gBool, gTT, gFF, gTF, gFT, gU, pBool, orN, andN, orI, andI, V.bool.injEq, Bool.true_and, Bool.and_true, Bool.false_and, Bool.and_false, Bool.true_or, Bool.or_true, Bool.false_or, Bool.or_false, Bool.not_true, Bool.not_false, iteB_bool, iteB_true, iteB_false, not_bool, chkB_bool, chkB_undef, bGeq, bLeq, bLss, bGtr, bEql, bNeq, bAdd, bSub, bMul, bSeq, bSne, bSlt, eqB_eq, mmMin, mmMax, ext_tup, cellD_agg, convI_int, lenS_s, lenL_s, gv_0, gv_s, List.getD_cons_zero, List.getD_cons_succ, ew, f1, f2, f3, decide_false, sliceS_both hc2 (Nat.le_add_right _ _), hc3, beq_self_eq_true]
      rcases hk with hk | hk
      · simp only [hk, if_true, if_false, Bool.false_eq_true, Bool.true_eq_false, reduceCtorEq, opt_s, gBool, gTT, gFF, gTF, gFT, gU, pBool, orN, andN, orI, andI, V.bool.injEq, Bool.true_and, Bool.and_true, Bool.false_and, Bool.and_false, Bool.true_or, Bool.or_true, Bool.false_or, Bool.or_false, Bool.not_true, Bool.not_false, iteB_bool, iteB_true, iteB_false, not_bool, chkB_bool, chkB_undef, bGeq, bLeq, bLss, bGtr, bEql, bNeq, bAdd, bSub, bMul, bSeq, bSne, bSlt, eqB_eq, mmMin, mmMax, ext_tup, cellD_agg, convI_int, lenS_s, lenL_s, gv_0, gv_s, decide_true, Int.reduceEq, decide_false]
        rw [bSadd _ _ (by omega)]
        simp only [if_true, if_false, Bool.false_eq_true, Bool.true_eq_false, reduceCtorEq, opt_s, gBool, gTT, gFF, gTF, gFT, gU, pBool, orN, andN, orI, andI, V.bool.injEq, Bool.true_and, Bool.and_true, Bool.false_and, Bool.and_false, Bool.true_or, Bool.or_true, Bool.false_or, Bool.or_false, Bool.not_true, Bool.not_false, iteB_bool, iteB_true, iteB_false, not_bool, chkB_bool, chkB_undef, bGeq, bLeq, bLss, bGtr, bEql, bNeq, bAdd, bSub, bMul, bSeq, bSne, bSlt, eqB_eq, mmMin, mmMax, ext_tup, cellD_agg, convI_int, lenS_s, lenL_s, gv_0, gv_s, en, ea, cStr.idx_one (sepT_at _) rfl]
        rw [show cStr.enc (sepT (es.length + i)) = .str (sepT (es.length + i)) from rfl, bSadd _ _ (by have := sepT_len (es.length + i); simp only [List.length_append]; omega)]
        simp only [if_true, if_false, Bool.false_eq_true, Bool.true_eq_false, reduceCtorEq, opt_s, gBool, gTT, gFF, gTF, gFT, gU, pBool, orN, andN, orI, andI, V.bool.injEq, Bool.true_and, Bool.and_true, Bool.false_and, Bool.and_false, Bool.true_or, Bool.or_true, Bool.false_or, Bool.or_false, Bool.not_true, Bool.not_false, iteB_bool, iteB_true, iteB_false, not_bool, chkB_bool, chkB_undef, bGeq, bLeq, bLss, bGtr, bEql, bNeq, bAdd, bSub, bMul, bSeq, bSne, bSlt, eqB_eq, mmMin, mmMax, ext_tup, cellD_agg, convI_int, lenS_s, lenL_s, gv_0, gv_s]
        rw [wrap_in (by omega) (by omega)]
        refine hr _ ⟨x.2.1 + x.2.2.length, u ++ x.2.2 ++ sepT (es.length + i), i + 1, by simp only [Int.natCast_add, Int.cast_ofNat_Int], hlt, hc5, by rw [hju]; simp [joinT, Nat.add_assoc]⟩ ?_
        simp [gv, natOf]; omega
      · simp only [hk, if_true, if_false, Bool.false_eq_true, Bool.true_eq_false, reduceCtorEq, opt_s, gBool, gTT, gFF, gTF, gFT, gU, pBool, orN, andN, orI, andI, V.bool.injEq, Bool.true_and, Bool.and_true, Bool.false_and, Bool.and_false, Bool.true_or, Bool.or_true, Bool.false_or, Bool.or_false, Bool.not_true, Bool.not_false, iteB_bool, iteB_true, iteB_false, not_bool, chkB_bool, chkB_undef, bGeq, bLeq, bLss, bGtr, bEql, bNeq, bAdd, bSub, bMul, bSeq, bSne, bSlt, eqB_eq, mmMin, mmMax, ext_tup, cellD_agg, convI_int, lenS_s, lenL_s, gv_0, gv_s, decide_true, Int.reduceEq, decide_false]
        rw [bSadd _ _ (by omega)]
        simp only [if_true, if_false, Bool.false_eq_true, Bool.true_eq_false, reduceCtorEq, opt_s, gBool, gTT, gFF, gTF, gFT, gU, pBool, orN, andN, orI, andI, V.bool.injEq, Bool.true_and, Bool.and_true, Bool.false_and, Bool.and_false, Bool.true_or, Bool.or_true, Bool.false_or, Bool.or_false, Bool.not_true, Bool.not_false, iteB_bool, iteB_true, iteB_false, not_bool, chkB_bool, chkB_undef, bGeq, bLeq, bLss, bGtr, bEql, bNeq, bAdd, bSub, bMul, bSeq, bSne, bSlt, eqB_eq, mmMin, mmMax, ext_tup, cellD_agg, convI_int, lenS_s, lenL_s, gv_0, gv_s, en, ea, cStr.idx_one (sepT_at _) rfl]
        rw [show cStr.enc (sepT (es.length + i)) = .str (sepT (es.length + i)) from rfl, bSadd _ _ (by have := sepT_len (es.length + i); simp only [List.length_append]; omega)]
        simp only [if_true, if_false, Bool.false_eq_true, Bool.true_eq_false, reduceCtorEq, opt_s, gBool, gTT, gFF, gTF, gFT, gU, pBool, orN, andN, orI, andI, V.bool.injEq, Bool.true_and, Bool.and_true, Bool.false_and, Bool.and_false, Bool.true_or, Bool.or_true, Bool.false_or, Bool.or_false, Bool.not_true, Bool.not_false, iteB_bool, iteB_true, iteB_false, not_bool, chkB_bool, chkB_undef, bGeq, bLeq, bLss, bGtr, bEql, bNeq, bAdd, bSub, bMul, bSeq, bSne, bSlt, eqB_eq, mmMin, mmMax, ext_tup, cellD_agg, convI_int, lenS_s, lenL_s, gv_0, gv_s]
        rw [wrap_in (by omega) (by omega)]
        refine hr _ ⟨x.2.1 + x.2.2.length, u ++ x.2.2 ++ sepT (es.length + i), i + 1, by simp only [Int.natCast_add, Int.cast_ofNat_Int], hlt, hc5, by rw [hju]; simp [joinT, Nat.add_assoc]⟩ ?_
        simp [gv, natOf]; omega
    · have hlt' : ¬ (i : Int) < (ts.length : Int) := by omega
      have hu : u = joinT es.length ts := by rw [hju, List.drop_eq_nil_of_le (by omega)]; simp [joinT]
      have hub : u.length ≤ big := by rw [hu]; unfold big; omega
      obtain ⟨us, hus, hmap⟩ := join_tokens es.length hch (by omega)
      have hlen : us.length = ts.length := by have := congrArg List.length hmap; simpa using this
      simp only [hlt', decide_false, if_true, if_false, Bool.false_eq_true, Bool.true_eq_false, reduceCtorEq, opt_s, gBool, gTT, gFF, gTF, gFT, gU, pBool, orN, andN, orI, andI, V.bool.injEq, Bool.true_and, Bool.and_true, Bool.false_and, Bool.and_false, Bool.true_or, Bool.or_true, Bool.false_or, Bool.or_false, Bool.not_true, Bool.not_false, iteB_bool, iteB_true, iteB_false, not_bool, chkB_bool, chkB_undef, bGeq, bLeq, bLss, bGtr, bEql, bNeq, bAdd, bSub, bMul, bSeq, bSne, bSlt, eqB_eq, mmMin, mmMax, ext_tup, cellD_agg, convI_int, lenS_s, lenL_s, gv_0, gv_s]
      rw [c_toke_Tokens, F_toke_of hub (hu ▸ hus)]
      simp only [if_true, if_false, Bool.false_eq_true, Bool.true_eq_false, reduceCtorEq, opt_s, gBool, gTT, gFF, gTF, gFT, gU, pBool, orN, andN, orI, andI, V.bool.injEq, Bool.true_and, Bool.and_true, Bool.false_and, Bool.and_false, Bool.true_or, Bool.or_true, Bool.false_or, Bool.or_false, Bool.not_true, Bool.not_false, iteB_bool, iteB_true, iteB_false, not_bool, chkB_bool, chkB_undef, bGeq, bLeq, bLss, bGtr, bEql, bNeq, bAdd, bSub, bMul, bSeq, bSne, bSlt, eqB_eq, mmMin, mmMax, ext_tup, cellD_agg, convI_int, lenS_s, lenL_s, gv_0, gv_s, List.getElem?_cons_zero, List.getElem?_cons_succ, decide_true]
      have huv : tokensV us = tokC.lst us := rfl
      simp only [huv, tokC.len, if_true, if_false, Bool.false_eq_true, Bool.true_eq_false, reduceCtorEq, opt_s, gBool, gTT, gFF, gTF, gFT, gU, pBool, orN, andN, orI, andI, V.bool.injEq, Bool.true_and, Bool.and_true, Bool.false_and, Bool.and_false, Bool.true_or, Bool.or_true, Bool.false_or, Bool.or_false, Bool.not_true, Bool.not_false, iteB_bool, iteB_true, iteB_false, not_bool, chkB_bool, chkB_undef, bGeq, bLeq, bLss, bGtr, bEql, bNeq, bAdd, bSub, bMul, bSeq, bSne, bSlt, eqB_eq, mmMin, mmMax, ext_tup, cellD_agg, convI_int, lenS_s, lenL_s, gv_0, gv_s, hlen, decide_true]
      refine loopP_inv (fun vs => ∃ k : Nat, vs = [vI k] ∧ k ≤ ts.length) (fun vs => ts.length - natOf (gv vs 0)) ⟨0, rfl, by omega⟩ ?_
      rintro r _ ⟨k, rfl, hk⟩ hr
      refine ⟨rfl, ?_⟩
      simp only [if_true, if_false, Bool.false_eq_true, Bool.true_eq_false, reduceCtorEq, opt_s, gBool, gTT, gFF, gTF, gFT, gU, pBool, orN, andN, orI, andI, V.bool.injEq, Bool.true_and, Bool.and_true, Bool.false_and, Bool.and_false, Bool.true_or, Bool.or_true, Bool.false_or, Bool.or_false, Bool.not_true, Bool.not_false, iteB_bool, iteB_true, iteB_false, not_bool, chkB_bool, chkB_undef, bGeq, bLeq, bLss, bGtr, bEql, bNeq, bAdd, bSub, bMul, bSeq, bSne, bSlt, eqB_eq, mmMin, mmMax, ext_tup, cellD_agg, convI_int, lenS_s, lenL_s, gv_0, gv_s]
      by_cases hlt : k < ts.length
      · have hlt' : (k : Int) < (ts.length : Int) := by omega
        have h1 : ts[k]? = some ts[k] := List.getElem?_eq_getElem hlt
        have h2 : us[k]? = some (us[k]'(by omega)) := List.getElem?_eq_getElem _
        have h3 : ((us[k]'(by omega)).1, (us[k]'(by omega)).2.2) = (ts[k].1, ts[k].2.2) := by
          have := congrArg (·[k]?) hmap
          simpa [h1, h2] using this
        simp only [Prod.mk.injEq] at h3
        simp only [hlt', decide_true, if_true, if_false, Bool.false_eq_true, Bool.true_eq_false, reduceCtorEq, opt_s, gBool, gTT, gFF, gTF, gFT, gU, pBool, orN, andN, orI, andI, V.bool.injEq, Bool.true_and, Bool.and_true, Bool.false_and, Bool.and_false, Bool.true_or, Bool.or_true, Bool.false_or, Bool.or_false, Bool.not_true, Bool.not_false, iteB_bool, iteB_true, iteB_false, not_bool, chkB_bool, chkB_undef, bGeq, bLeq, bLss, bGtr, bEql, bNeq, bAdd, bSub, bMul, bSeq, bSne, bSlt, eqB_eq, mmMin, mmMax, ext_tup, cellD_agg, convI_int, lenS_s, lenL_s, gv_0, gv_s, tokC.idx_agg h1 (chk_tok _), tokC.idx_agg h2 (chk_tok _)]
        rw [show ∀ x, tokC.enc x = tokW x from fun _ => rfl, show ∀ x, tokC.enc x = tokW x from fun _ => rfl]
        simp only [tokW, tokV, part_2, if_true, if_false, Bool.false_eq_true, Bool.true_eq_false, reduceCtorEq, opt_s, gBool, gTT, gFF, gTF, gFT, gU, pBool, orN, andN, orI, andI, V.bool.injEq, Bool.true_and, Bool.and_true, Bool.false_and, Bool.and_false, Bool.true_or, Bool.or_true, Bool.false_or, Bool.or_false, Bool.not_true, Bool.not_false, iteB_bool, iteB_true, iteB_false, not_bool, chkB_bool, chkB_undef, bGeq, bLeq, bLss, bGtr, bEql, bNeq, bAdd, bSub, bMul, bSeq, bSne, bSlt, eqB_eq, mmMin, mmMax, ext_tup, cellD_agg, convI_int, lenS_s, lenL_s, gv_0, gv_s, List.getD_cons_zero, h3.1, h3.2, decide_true, beq_self_eq_true]
        rw [wrap_in (by omega) (by omega)]
        refine hr _ ⟨k + 1, by simp, hlt⟩ ?_
        simp [gv, natOf]; omega
      · have hlt' : ¬ (k : Int) < (ts.length : Int) := by omega
        simp [hlt', if_true, if_false, Bool.false_eq_true, Bool.true_eq_false, reduceCtorEq, opt_s, gBool, gTT, gFF, gTF, gFT, gU, pBool, orN, andN, orI, andI, V.bool.injEq, Bool.true_and, Bool.and_true, Bool.false_and, Bool.and_false, Bool.true_or, Bool.or_true, Bool.false_or, Bool.or_false, Bool.not_true, Bool.not_false, iteB_bool, iteB_true, iteB_false, not_bool, chkB_bool, chkB_undef, bGeq, bLeq, bLss, bGtr, bEql, bNeq, bAdd, bSub, bMul, bSeq, bSne, bSlt, eqB_eq, mmMin, mmMax, ext_tup, cellD_agg, convI_int, lenS_s, lenL_s, gv_0, gv_s]
end Go.Fbs

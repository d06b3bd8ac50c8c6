import Derived.Test.YthkfcmfphjepnaaDR
set_option linter.unusedVariables false
set_option linter.unusedSimpArgs false
set_option linter.unusedSectionVars false
namespace Go.Fbs
open Go.Proofs

theorem nmT_mem (n : Int) : nmT n ∈ namesT := List.mem_of_getElem? (nmT_at n)
theorem nmT_len (n : Int) : (nmT n).length ≤ 3 := by
  have h : ∀ x ∈ namesT, x.length ≤ 3 := by decide
  exact h _ (nmT_mem n)
theorem nmT_z (n : Int) : nameT (nmT n ++ [122]) = true := by
  have h : ∀ x ∈ namesT, nameT (x ++ [122]) = true := by decide
  exact h _ (nmT_mem n)
theorem nmT_sl (n : Int) : idT (nmT n ++ [47]) = true := by
  have h : ∀ x ∈ namesT, idT (x ++ [47]) = true := by decide
  exact h _ (nmT_mem n)
theorem nmT_st (n : Int) : idT (nmT n ++ [42]) = true := by
  have h : ∀ x ∈ namesT, idT (x ++ [42]) = true := by decide
  exact h _ (nmT_mem n)
theorem nmT_ne (n : Int) : nmT n ≠ [] := by
  have h : ∀ x ∈ namesT, x ≠ [] := by decide
  exact h _ (nmT_mem n)
theorem text_full {x : Six} (h : x.ok = true) (hf : x.f ≠ []) : x.text = x.a ++ [58] ++ x.b ++ [35] ++ x.c ++ [64] ++ x.d ++ [58] ++ x.e ++ [35] ++ x.f := by
  rw [x.text_eq h, Six.tail, if_neg hf]; simp [List.append_assoc]
def partsS (a b c d : Int) : Six := ⟨nmT a, nmT b, nmT c, nmT d, nmT (IntKind.i64.wrap (a + b)), nmT (IntKind.i64.wrap (c + d))⟩
theorem ok_mk {a b c d e f : List UInt8} (h1 : nameT a = true) (h2 : idT b = true) (h3 : nameT c = true) (h4 : nameT d = true) (h5 : idT e = true) (h6 : f = [] ∨ nameT f = true) : (⟨a, b, c, d, e, f⟩ : Six).ok = true := by
  have h7 : (f == [] || nameT f) = true := by
    rcases h6 with rfl | h6
    · rfl
    · rw [h6, Bool.or_true]
  simp only [Six.ok, okT, h1, h2, h3, h4, h5, h7, Bool.and_true]
theorem app_ne {x y : List UInt8} (h : y ≠ []) : x ++ y ≠ x := fun e => h (by simpa using e)
def F_entaillaw2_TuplParts : Spec
  | [.int .i64 _, .int .i64 _, .int .i64 _, .int .i64 _, .int .i64 _] => some (.bool true)
  | _ => none
theorem ok_entaillaw2_TuplParts : SpecL Try.prog n_entaillaw2_TuplParts F_entaillaw2_TuplParts := by
  refine go_entaillaw2_TuplParts (T := [(n_entaillaw1_Nm, F_entaillaw1_Nm), (n_tupl_Text, F_tupl_Text), (n_tupl_Parse, F_tupl_Parse), (n_tupl_Less, F_tupl_Less), (n_entaillaw2_awake, F_entaillaw2_awake)]) (TabOk.cons ok_entaillaw1_Nm (TabOk.cons ok_tupl_Text (TabOk.cons ok_tupl_Parse (TabOk.cons ok_tupl_Less (TabOk.cons ok_entaillaw2_awake TabOk.nil))))) fun args v hv => ?_
  have c_entaillaw1_Nm : ∀ args, tab [(n_entaillaw1_Nm, F_entaillaw1_Nm), (n_tupl_Text, F_tupl_Text), (n_tupl_Parse, F_tupl_Parse), (n_tupl_Less, F_tupl_Less), (n_entaillaw2_awake, F_entaillaw2_awake)] n_entaillaw1_Nm args = F_entaillaw1_Nm args := fun _ => rfl
  have c_tupl_Text : ∀ args, tab [(n_entaillaw1_Nm, F_entaillaw1_Nm), (n_tupl_Text, F_tupl_Text), (n_tupl_Parse, F_tupl_Parse), (n_tupl_Less, F_tupl_Less), (n_entaillaw2_awake, F_entaillaw2_awake)] n_tupl_Text args = F_tupl_Text args := fun _ => rfl
  have c_tupl_Parse : ∀ args, tab [(n_entaillaw1_Nm, F_entaillaw1_Nm), (n_tupl_Text, F_tupl_Text), (n_tupl_Parse, F_tupl_Parse), (n_tupl_Less, F_tupl_Less), (n_entaillaw2_awake, F_entaillaw2_awake)] n_tupl_Parse args = F_tupl_Parse args := fun _ => rfl
  have c_tupl_Less : ∀ args, tab [(n_entaillaw1_Nm, F_entaillaw1_Nm), (n_tupl_Text, F_tupl_Text), (n_tupl_Parse, F_tupl_Parse), (n_tupl_Less, F_tupl_Less), (n_entaillaw2_awake, F_entaillaw2_awake)] n_tupl_Less args = F_tupl_Less args := fun _ => rfl
  have c_entaillaw2_awake : ∀ args, tab [(n_entaillaw1_Nm, F_entaillaw1_Nm), (n_tupl_Text, F_tupl_Text), (n_tupl_Parse, F_tupl_Parse), (n_tupl_Less, F_tupl_Less), (n_entaillaw2_awake, F_entaillaw2_awake)] n_entaillaw2_awake args = F_entaillaw2_awake args := fun _ => rfl
  unfold F_entaillaw2_TuplParts at hv
  split at hv <;> (try simp only [Option.ite_none_right_eq_some, Option.some.injEq, reduceCtorEq] at hv)
  rename_i a b c d w
  subst hv
  refine ⟨rfl, rfl, rfl, ?_⟩
  rw [e_entaillaw2_TuplParts]
  have cv : ∀ n, callvK (tab [(n_entaillaw1_Nm, F_entaillaw1_Nm), (n_tupl_Text, F_tupl_Text), (n_tupl_Parse, F_tupl_Parse), (n_tupl_Less, F_tupl_Less), (n_entaillaw2_awake, F_entaillaw2_awake)]) (.func 25 []) [.int .i64 n] = some (.str (nmT n)) := fun _ => nr rfl
  have ht : (partsS a b c d).ok = true := ok_mk (nmT_ok _) (nameT_idT (nmT_ok _)) (nmT_ok _) (nmT_ok _) (nameT_idT (nmT_ok _)) (.inr (nmT_ok _))
  simp only [bAdd, cv, opt_s, chk1_str, agg2, agg3, cellD_agg, List.getD_cons_zero, List.getD_cons_succ, agg6]
  rw [show V.agg [.str (nmT a), .str (nmT b), .str (nmT c), .str (nmT d), .str (nmT (IntKind.i64.wrap (a + b))), .str (nmT (IntKind.i64.wrap (c + d)))] = (partsS a b c d).v from rfl]
  rw [bAnd255, show ((6 : Int)) = ((6 : Nat) : Int) from rfl]
  simp only [opt_s, bRemN _ 6 (by omega)]
  generalize ((w % 256).toNat % 6) = q
  have la := nmT_len a
  have lb := nmT_len b
  have lc := nmT_len c
  have ld := nmT_len d
  have le := nmT_len (IntKind.i64.wrap (a + b))
  have lf := nmT_len (IntKind.i64.wrap (c + d))
  rw [bEql, opt_s]
  refine joinP_inv (fun w => ∃ u : Six, u.ok = true ∧ u ≠ partsS a b c d ∧ w = [.func 25 [], .func 25 [], .func 25 [], .func 25 [], .func 25 [], .func 25 [], .func 25 [], .str u.f, .str u.e, .str u.d, .str u.c, .str u.b, .str u.a]) ?_ ?_
  · rintro _ ⟨u, hu, hne, rfl⟩
    refine ⟨rfl, ?_⟩
    simp only [gv_0, gv_s, agg_six, opt_s, cells_six, cv]
    have k0 := bSadd (nmT a) ([58]) (by simp only [List.length_append, List.length_cons, List.length_nil]; omega)
    have k1 := bSadd (nmT a ++ [58]) (nmT b) (by simp only [List.length_append, List.length_cons, List.length_nil]; omega)
    have k2 := bSadd (nmT a ++ [58] ++ nmT b) ([35]) (by simp only [List.length_append, List.length_cons, List.length_nil]; omega)
    have k3 := bSadd (nmT a ++ [58] ++ nmT b ++ [35]) (nmT c) (by simp only [List.length_append, List.length_cons, List.length_nil]; omega)
    have k4 := bSadd (nmT a ++ [58] ++ nmT b ++ [35] ++ nmT c) ([64]) (by simp only [List.length_append, List.length_cons, List.length_nil]; omega)
    have k5 := bSadd (nmT a ++ [58] ++ nmT b ++ [35] ++ nmT c ++ [64]) (nmT d) (by simp only [List.length_append, List.length_cons, List.length_nil]; omega)
    have k6 := bSadd (nmT a ++ [58] ++ nmT b ++ [35] ++ nmT c ++ [64] ++ nmT d) ([58]) (by simp only [List.length_append, List.length_cons, List.length_nil]; omega)
    have k7 := bSadd (nmT a ++ [58] ++ nmT b ++ [35] ++ nmT c ++ [64] ++ nmT d ++ [58]) (nmT (IntKind.i64.wrap (a + b))) (by simp only [List.length_append, List.length_cons, List.length_nil]; omega)
    have k8 := bSadd (nmT a ++ [58] ++ nmT b ++ [35] ++ nmT c ++ [64] ++ nmT d ++ [58] ++ nmT (IntKind.i64.wrap (a + b))) [35] (by simp only [List.length_append, List.length_cons, List.length_nil]; omega)
    have k9 := bSadd (nmT a ++ [58] ++ nmT b ++ [35] ++ nmT c ++ [64] ++ nmT d ++ [58] ++ nmT (IntKind.i64.wrap (a + b)) ++ [35]) (nmT (IntKind.i64.wrap (c + d))) (by simp only [List.length_append, List.length_cons, List.length_nil]; omega)
    have he : (nmT a ++ [58] ++ nmT b ++ [35] ++ nmT c ++ [64] ++ nmT d ++ [58] ++ nmT (IntKind.i64.wrap (a + b)) ++ [35] ++ nmT (IntKind.i64.wrap (c + d))) = (partsS a b c d).text := by
      exact (text_full ht (nmT_ne _)).symm
    generalize partsS a b c d = t at *
    have lu := text_len hu
    have bu : u.text.length ≤ big := by unfold big; omega
    have n1 : (u.text == t.text) = false := by simpa using fun h => hne (text_inj hu ht h)
    have n2 : decide (t.cmp u < 0) = !decide (u.cmp t < 0) := by
      have h5 : t.cmp u ≠ 0 := fun h => hne (cmp_eq h).symm
      by_cases h : t.cmp u < 0
      · rw [decide_eq_true h, decide_eq_false (by rw [cmp_anti t u]; omega)]; rfl
      · rw [decide_eq_false h, decide_eq_true (by rw [cmp_anti t u]; omega)]; rfl
    simp only [c_tupl_Text, fText hu, fText ht, c_tupl_Parse, fParse bu, read_text hu, c_tupl_Less, fLess, if_true, if_false, Bool.false_eq_true, Bool.true_eq_false, reduceCtorEq, opt_s, gBool, gTT, gFF, gTF, gFT, gU, pBool, orN, andN, orI, andI, V.bool.injEq, Bool.true_and, Bool.and_true, Bool.false_and, Bool.and_false, Bool.true_or, Bool.or_true, Bool.false_or, Bool.or_false, Bool.not_true, Bool.not_false, iteB_bool, iteB_true, iteB_false, not_bool, chkB_bool, chkB_undef, bGeq, bLeq, bLss, bGtr, bEql, bNeq, bAdd, bSub, bMul, bSeq, bSne, bSlt, eqB_eq, mmMin, mmMax, ext_tup, cellD_agg, convI_int, lenS_s, lenL_s, gv_0, gv_s, List.getElem?_cons_zero, List.getElem?_cons_succ, chk_six, k0, k1, k2, k3, k4, k5, k6, k7, k8, k9, he, cells_six, eq_six, beq_self_eq_true, n1, n2, c_entaillaw2_awake, F_entaillaw2_awake, bne, bqF, decide_true]
    cases decide (u.cmp t < 0) <;> simp only [if_true, if_false, Bool.false_eq_true, Bool.true_eq_false, reduceCtorEq, opt_s, gBool, gTT, gFF, gTF, gFT, gU, pBool, orN, andN, orI, andI, V.bool.injEq, Bool.true_and, Bool.and_true, Bool.false_and, Bool.and_false, Bool.true_or, Bool.or_true, Bool.false_or, Bool.or_false, Bool.not_true, Bool.not_false, iteB_bool, iteB_true, iteB_false, not_bool, chkB_bool, chkB_undef, bGeq, bLeq, bLss, bGtr, bEql, bNeq, bAdd, bSub, bMul, bSeq, bSne, bSlt, eqB_eq, mmMin, mmMax, ext_tup, cellD_agg, convI_int, lenS_s, lenL_s, gv_0, gv_s, bne, bqT, bqF, bTq, bFq]
  · intro r hr
    have z1 := bSadd (nmT a) ([122]) (by simp only [List.length_append, List.length_cons, List.length_nil]; omega)
    have z2 := bSadd (nmT b) ([47]) (by simp only [List.length_append, List.length_cons, List.length_nil]; omega)
    have z3 := bSadd (nmT c) ([122]) (by simp only [List.length_append, List.length_cons, List.length_nil]; omega)
    have z4 := bSadd (nmT d) ([122]) (by simp only [List.length_append, List.length_cons, List.length_nil]; omega)
    have z5 := bSadd (nmT (IntKind.i64.wrap (a + b))) ([42]) (by simp only [List.length_append, List.length_cons, List.length_nil]; omega)
    have r0 := fun h => hr _ ⟨⟨nmT a ++ [122], nmT b, nmT c, nmT d, nmT (IntKind.i64.wrap (a + b)), nmT (IntKind.i64.wrap (c + d))⟩, ok_mk (nmT_z _) (nameT_idT (nmT_ok _)) (nmT_ok _) (nmT_ok _) (nameT_idT (nmT_ok _)) (.inr (nmT_ok _)), h, rfl⟩
    have r1 := fun h => hr _ ⟨⟨nmT a, nmT b ++ [47], nmT c, nmT d, nmT (IntKind.i64.wrap (a + b)), nmT (IntKind.i64.wrap (c + d))⟩, ok_mk (nmT_ok _) (nmT_sl _) (nmT_ok _) (nmT_ok _) (nameT_idT (nmT_ok _)) (.inr (nmT_ok _)), h, rfl⟩
    have r2 := fun h => hr _ ⟨⟨nmT a, nmT b, nmT c ++ [122], nmT d, nmT (IntKind.i64.wrap (a + b)), nmT (IntKind.i64.wrap (c + d))⟩, ok_mk (nmT_ok _) (nameT_idT (nmT_ok _)) (nmT_z _) (nmT_ok _) (nameT_idT (nmT_ok _)) (.inr (nmT_ok _)), h, rfl⟩
    have r3 := fun h => hr _ ⟨⟨nmT a, nmT b, nmT c, nmT d ++ [122], nmT (IntKind.i64.wrap (a + b)), nmT (IntKind.i64.wrap (c + d))⟩, ok_mk (nmT_ok _) (nameT_idT (nmT_ok _)) (nmT_ok _) (nmT_z _) (nameT_idT (nmT_ok _)) (.inr (nmT_ok _)), h, rfl⟩
    have r4 := fun h => hr _ ⟨⟨nmT a, nmT b, nmT c, nmT d, nmT (IntKind.i64.wrap (a + b)) ++ [42], nmT (IntKind.i64.wrap (c + d))⟩, ok_mk (nmT_ok _) (nameT_idT (nmT_ok _)) (nmT_ok _) (nmT_ok _) (nmT_st _) (.inr (nmT_ok _)), h, rfl⟩
    have r5 := fun h => hr _ ⟨⟨nmT a, nmT b, nmT c, nmT d, nmT (IntKind.i64.wrap (a + b)), []⟩, ok_mk (nmT_ok _) (nameT_idT (nmT_ok _)) (nmT_ok _) (nmT_ok _) (nameT_idT (nmT_ok _)) (.inl rfl), h, rfl⟩
    replace r0 := r0 (fun h => app_ne (by simp) (congrArg Six.a h))
    replace r1 := r1 (fun h => app_ne (by simp) (congrArg Six.b h))
    replace r2 := r2 (fun h => app_ne (by simp) (congrArg Six.c h))
    replace r3 := r3 (fun h => app_ne (by simp) (congrArg Six.d h))
    replace r4 := r4 (fun h => app_ne (by simp) (congrArg Six.e h))
    replace r5 := r5 (fun h => (nmT_ne _) (congrArg Six.f h).symm)
    simp only [d_six, partsS, if_true, if_false, Bool.false_eq_true, Bool.true_eq_false, reduceCtorEq, opt_s, gBool, gTT, gFF, gTF, gFT, gU, pBool, orN, andN, orI, andI, V.bool.injEq, Bool.true_and, Bool.and_true, Bool.false_and, Bool.and_false, Bool.true_or, Bool.or_true, Bool.false_or, Bool.or_false, Bool.not_true, Bool.not_false, iteB_bool, iteB_true, iteB_false, not_bool, chkB_bool, chkB_undef, bGeq, bLeq, bLss, bGtr, bEql, bNeq, bAdd, bSub, bMul, bSeq, bSne, bSlt, eqB_eq, mmMin, mmMax, ext_tup, cellD_agg, convI_int, lenS_s, lenL_s, gv_0, gv_s, z1, z2, z3, z4, z5, r0, r1, r2, r3, r4, r5, ite_self]
end Go.Fbs

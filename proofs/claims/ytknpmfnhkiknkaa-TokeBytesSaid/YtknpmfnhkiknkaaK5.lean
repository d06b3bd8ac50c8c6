/- Common texts: values, words, what they answer; no statement of the seat. -/
import Derived.Test.YtknpmfnhkiknkaaK4
import Derived.Carry
import Derived.ChangeMaps5
import Derived.OpenShut
import Derived.Deep.Slices
import Derived.SizedLaws
set_option linter.unusedVariables false
set_option linter.unusedSimpArgs false
set_option linter.unusedSectionVars false
/- A list that is made and then filled: what the code does. -/
namespace Go.Fbs

/-! ### Slots -/
def At (a : Act) (t : Nat) (x : Value) : Prop := a.tmps[t]? = some x
theorem At.ev {a : Act} {t : Nat} {x : Value} (h : At a t x) : a.eval (.tmp t) = x := by
  obtain ⟨ht, h3⟩ := Array.getElem?_eq_some_iff.1 h
  simp [Act.eval, Array.getD, ht, h3]
theorem At.same {a : Act} {d : Nat} {x : Value} (h : d < a.tmps.size) : At (a.put (some d) x) d x := by
  unfold At
  simp only [Act.put]
  rw [Array.getElem?_setIfInBounds, if_pos rfl, if_pos h]
theorem At.keep {a : Act} {d t : Nat} {x y : Value} (h : At a t y) (hn : d ≠ t) : At (a.put (some d) x) t y := by
  unfold At at h ⊢
  simp only [Act.put]
  rw [Array.getElem?_setIfInBounds_ne hn]
  exact h
/-- Slots alone, of these alone. -/
structure Same (D : List Nat) (a a' : Act) : Prop where
  size : a'.tmps.size = a.tmps.size
  defers : a'.defers = a.defers
  slots : ∀ t, t ∉ D → a'.tmps[t]? = a.tmps[t]?
theorem Same.refl (D : List Nat) (a : Act) : Same D a a := ⟨rfl, rfl, fun _ _ => rfl⟩
theorem Same.put {D : List Nat} {a a' : Act} (h : Same D a a') {d : Nat} (hd : d ∈ D) (x : Value) : Same D a (a'.put (some d) x) := by
  refine ⟨by simp [Act.put, h.size], h.defers, fun t ht => ?_⟩
  simp only [Act.put]
  rw [Array.getElem?_setIfInBounds_ne (fun e => ht (by rw [← e]; exact hd))]
  exact h.slots t ht

/-! ### Steps -/
section
variable {P : Program} {ops : Array Oper} {Q : Exit → Act → World → Prop} {a : Act} {w w' : World} {rest : List Oper} {o : Oper}

theorem wl_run {y : Value} (hg : o.guard = none) (hr : (execOp a.eval o).run P w = .ok (.value y) w') (h : wpList P ops Q rest (a.put o.dst y) w') : wpList P ops Q (o :: rest) a w := by
  unfold wpList
  rw [if_pos (by simp [Region.wanted, hg])]
  left
  unfold Oper.wp
  rw [hr]
  exact h
theorem wl_skip (hg : o.guard = none) (hr : (execOp a.eval o).run P w = .ok .skip w') (h : wpList P ops Q rest (a.put o.dst undef) w') : wpList P ops Q (o :: rest) a w := by
  unfold wpList
  rw [if_pos (by simp [Region.wanted, hg])]
  left
  unfold Oper.wp
  rw [hr]
  exact h
theorem wl_mv {v : Nat × Operand} (h : isMv o = some v) {x : Value} (hx : a.eval v.2 = x) (k : wpList P ops Q rest (a.put (some v.1) x) w) : wpList P ops Q (o :: rest) a w := by
  unfold isMv at h
  split at h
  · rename_i d x' hg hd ho
    simp only [Option.some.injEq] at h
    subst h
    exact wl_run hg (by unfold execOp; rw [ho]; simp only [Sem.run_pure]; rw [hx]) (by rw [hd]; exact k)
  · rename_i d x' hg hd ho
    simp only [Option.some.injEq] at h
    subst h
    exact wl_run hg (by unfold execOp; rw [ho]; simp only [Sem.run_pure]; rw [hx]) (by rw [hd]; exact k)
  · simp at h
theorem wl_bn {v : Nat × BinOp × Operand × Operand} (h : isBn o = some v) {kk : IntKind} {p q : Int} (hx : a.eval v.2.2.1 = .int kk p) (hy : a.eval v.2.2.2 = .int kk q) (h1 : v.2.1 ≠ .shl) (h2 : v.2.1 ≠ .shr) {r : V} (e : intBin v.2.1 kk p q = some r)
    (k : ∀ z, Rep ⟨fun _ => 0, fun _ => none, []⟩ w.heap r z → wpList P ops Q rest (a.put (some v.1) z) w) : wpList P ops Q (o :: rest) a w := by
  unfold isBn at h
  split at h
  · rename_i d op ty x y ty' hg hd ho
    simp only [Option.some.injEq] at h
    subst h
    obtain ⟨z, hz, rz⟩ := intBin_run (κ := ⟨fun _ => 0, fun _ => none, []⟩) (P := P) (w := w) (t := ty) h1 h2 e
    refine wl_run hg (y := z) (w' := w) ?_ (by rw [hd]; exact k z rz)
    unfold execOp
    rw [ho]
    simp only
    simp only at hx hy
    rw [hx, hy]
    have hgd : (eqGuard op ty x y (.int kk p) (.int kk q)).run P w = .ok () w := by cases op <;> simp [eqGuard]
    simp only [Sem.run_bind, hgd, Result.andThen_ok, hz, Sem.run_pure]
  · simp at h
theorem wl_ln {v : Nat × Operand × TypeId} (h : isLn o = some v) {e : TypeId} (hu : P.underlying v.2.2 = some (.slice e)) {p : Option Addr} {n cap : Nat} (hx : a.eval v.2.1 = .slice p n cap) (k : wpList P ops Q rest (a.put (some v.1) (.int .i64 n)) w) : wpList P ops Q (o :: rest) a w := by
  unfold isLn at h
  split at h
  · rename_i d args ts hg hd ho
    split at h
    · rename_i x t hxs hts
      simp only [Option.some.injEq] at h
      subst h
      simp only at hx hu
      obtain ⟨args⟩ := args
      obtain ⟨ts⟩ := ts
      simp only at hxs hts
      subst hxs; subst hts
      refine wl_run hg (y := .int .i64 n) (w' := w) ?_ (by rw [hd]; exact k)
      unfold execOp
      rw [ho]
      simp [resolve, invoke, builtin, Builtin.len_, run_underlying hu, goInt, hx]
    · simp at h
  · simp at h
theorem wl_ix {v : Nat × TypeId × Operand × Operand} (h : isIx o = some v) {e : TypeId} (hu : P.underlying v.2.1 = some (.slice e)) (hsz : szT P e = some 1) {b n cap i : Nat} {q : IntKind} (hx : a.eval v.2.2.1 = .slice (some ⟨b, 0, none⟩) n cap) (hi : a.eval v.2.2.2 = .int q i) (hlt : i < n)
    (k : wpList P ops Q rest (a.put (some v.1) (.pointer (some ⟨b, i, none⟩))) w) : wpList P ops Q (o :: rest) a w := by
  unfold isIx at h
  split at h
  · rename_i d t x y hg hd ho
    simp only [Option.some.injEq] at h
    subst h
    simp only at hx hi hu
    refine wl_run hg (y := .pointer (some ⟨b, i, none⟩)) (w' := w) ?_ (by rw [hd]; exact k)
    unfold execOp
    rw [ho]
    simp only
    rw [hx, hi]
    have : (0 : Int) ≤ (i : Int) ∧ (i : Int) < (n : Int) := ⟨by omega, by omega⟩
    simp [Instr.indexAt, run_underlying hu, asIntOf, this, szT_run w hsz, Addr.add_mid]
    intro hge
    omega
  · simp at h
theorem wl_so {v : TypeId × Operand × Operand} (h : isSo o = some v) (hsz : szT P v.1 = some 1) {b i : Nat} {x : Value} (hp : a.eval v.2.1 = .pointer (some ⟨b, i, none⟩)) (hv : a.eval v.2.2 = x) (hone : x.cells = #[x]) (ho1 : x.oneCell' = true) {c : Array Value} {E : TypeId} (hc : w.heap[b]? = some (.cells c E (0, 0))) (hi : i < c.size)
    (k : wpList P ops Q rest a (w.setCells b i [x])) : wpList P ops Q (o :: rest) a w := by
  unfold isSo at h
  split at h
  · rename_i t p y hg hd ho
    simp only [Option.some.injEq] at h
    subst h
    simp only at hp hv hsz
    refine wl_skip hg (w' := w.setCells b i [x]) ?_ (by rw [hd]; exact k)
    unfold execOp
    rw [ho]
    simp only
    rw [hp, hv]
    have hst := storeCells_run (P := P) (off := i) (vs := [x]) hc (by simp; omega) (by simpa using ho1)
    simp only [Instr.storeAt, Instr.sureAddr, storeVar, Sem.run_bind, Sem.run_pure, Result.andThen_ok, szT_run w hsz]
    rw [if_neg (by simp [hone])]
    simp [hst, hone]
  · simp at h
theorem wl_mk {v : Nat × TypeId × Operand × Operand} (h : isMk o = some v) {e : TypeId} (hu : P.underlying v.2.1 = some (.slice e)) (hsz : szT P e = some 1) {z : V} {by_ : Nat} (hz : zeroT P e = some z) (hzl : z.cells.length = 1) (hby : bytesT P e = some by_) {q : IntKind} {n : Int}
    (hl : a.eval v.2.2.1 = .int q n) (hc : a.eval v.2.2.2 = .int q n) (h0 : 0 ≤ n) (h63 : n ≤ 9223372036854775807) (hb : by_ * n ≤ 140737488355328)
    (k : ∀ c : Array Value, c.size = n.toNat → wpList P ops Q rest (a.put (some v.1) (.slice (some ⟨w.heap.size, 0, none⟩) n.toNat n.toNat)) (w.alloc (.cells c e))) : wpList P ops Q (o :: rest) a w := by
  unfold isMk at h
  split at h
  · rename_i d t l c hg hd ho
    simp only [Option.some.injEq] at h
    subst h
    simp only at hl hc hu
    obtain ⟨i, zv, hi, hiz, hzv⟩ := zeroT_info hz
    obtain ⟨i', hi', hisz⟩ := szT_info hsz
    obtain rfl : i = i' := by rw [hi] at hi'; simpa using hi'
    have hiby : i.bytes = by_ := by unfold bytesT at hby; rw [hi] at hby; simpa using hby
    subst hiby
    have hrun := run_make w t e i zv hu hi hiz q q n n h0 (Int.le_refl _) (by omega) h63
    refine wl_run hg (y := .slice (some ⟨w.heap.size, 0, none⟩) n.toNat n.toNat) (w' := w.alloc (.cells (madeCells zv.cells (n.toNat * i.size)) e)) ?_ (by
      rw [hd]
      exact k _ (by rw [size_madeCells, hisz, Nat.mul_one]))
    unfold execOp
    rw [ho]
    simp only
    rw [hl, hc]
    simp [hrun]
  · simp at h
end
end Go.Fbs

/- A list that is made and then filled: one word. -/
namespace Go.Fbs

theorem isT_eq {x : Operand} {t : Nat} (h : isT x t = true) : x = .tmp t := by
  unfold isT at h
  split at h
  · rw [Nat.eq_of_beq_eq_true h]
  · simp at h
theorem isZ_ev {x : Operand} {n : Nat} (h : isZ x n = true) (a : Act) : a.eval x = .int .i64 n := by
  unfold isZ at h
  split at h
  · rw [Nat.eq_of_beq_eq_true h]; rfl
  · simp at h
theorem isLss_eq {x : BinOp} (h : isLss x = true) : x = .lss := by cases x <;> simp_all [isLss]
theorem isAdd_eq {x : BinOp} (h : isAdd x = true) : x = .add := by cases x <;> simp_all [isAdd]
theorem byteC_ev {x : Operand} {c : Nat} (h : byteC x = some c) (a : Act) : a.eval x = .int .u8 c := by
  unfold byteC at h
  split at h
  · simp at h; subst h; rfl
  · simp at h
theorem hasNat_mem {l : List Nat} {t : Nat} (h : t ∈ l) : hasNat l t = true := by
  unfold hasNat
  rw [List.any_eq_true]
  exact ⟨t, h, Nat.beq_refl t⟩
theorem onesN_ne : ∀ {l : List Nat}, onesN l = true → ∀ {i j x y : Nat}, i < j → l[i]? = some x → l[j]? = some y → x ≠ y
  | [], _, i, j, x, y, _, h1, _ => by simp at h1
  | n :: r, h, i, j, x, y, hij, h1, h2 => by
    simp only [onesN, Bool.and_eq_true, Bool.not_eq_true'] at h
    cases j with
    | zero => omega
    | succ j =>
      rw [List.getElem?_cons_succ] at h2
      cases i with
      | zero =>
        simp only [List.getElem?_cons_zero, Option.some.injEq] at h1
        subst h1
        intro e
        subst e
        rw [hasNat_mem (List.mem_of_getElem? h2)] at h
        simp at h
      | succ i =>
        rw [List.getElem?_cons_succ] at h1
        exact onesN_ne h.2 (by omega) h1 h2

/-- The place's block as it is while it is filled. -/
structure Fill (w0 w : World) (e : TypeId) (K i : Nat) (x : Value) : Prop where
  size : w.heap.size = w0.heap.size + 1
  old : ∀ j, j < w0.heap.size → w.heap[j]? = w0.heap[j]?
  blk : ∃ c : Array Value, w.heap[w0.heap.size]? = some (.cells c e (0, 0)) ∧ c.size = K ∧ ∀ j, j < i → c[j]? = some x
  os : w.os = w0.os
  out : Kept w0 w

theorem Fill.set {w0 w : World} {e : TypeId} {K i : Nat} {x : Value} (h : Fill w0 w e K i x) (hi : i < K) : Fill w0 (w.setCells w0.heap.size i [x]) e K (i + 1) x := by
  obtain ⟨c, h1, h2, h3⟩ := h.blk
  obtain ⟨h4, h5⟩ := setCells_heap w0.heap.size e [x] i w c h1 (by simp; omega)
  have h6 := setCells_out w0.heap.size i [x] w
  refine ⟨by rw [h5.1, h.size], fun j hj => by rw [h5.2 j (by omega)]; exact h.old j hj, ⟨_, h4, ?_, fun j hj => ?_⟩, h6.1.trans h.os, h.out.trans h6.2⟩
  · have : c.toList.length = K := by simpa using h2
    simp
    omega
  · have hl : c.toList.length = K := by simpa using h2
    simp only [List.getElem?_toArray]
    show (c.toList.take i ++ [x] ++ c.toList.drop (i + [x].length))[j]? = _
    rw [List.append_assoc]
    by_cases hji : j < i
    · rw [List.getElem?_append_left (by rw [List.length_take]; omega), List.getElem?_take_of_lt hji]
      have := h3 j hji
      simpa using this
    · have hje : j = i := by omega
      subst hje
      rw [List.getElem?_append_right (by rw [List.length_take]; omega), List.length_take, show j - min j c.toList.length = 0 by omega]
      rfl

theorem Fill.done {w0 w : World} {e : TypeId} {K : Nat} {x : Value} (h : Fill w0 w e K K x) : w.heap = w0.heap.push (.cells ⟨List.replicate K x⟩ e (0, 0)) := by
  obtain ⟨c, h1, h2, h3⟩ := h.blk
  have hc : c = ⟨List.replicate K x⟩ := by
    apply Array.ext_getElem?
    intro i
    by_cases hi : i < K
    · rw [h3 i hi]
      simp [hi]
    · rw [Array.getElem?_eq_none (by omega)]
      simp [hi]
  subst hc
  apply Array.ext_getElem?
  intro i
  by_cases hi : i < w0.heap.size
  · rw [h.old i hi, Array.getElem?_push_lt hi, ← Array.getElem?_eq_getElem]
  · by_cases hie : i = w0.heap.size
    · subst hie
      rw [h1]; simp
    · rw [Array.getElem?_eq_none (by rw [h.size]; omega), Array.getElem?_eq_none (by simp; omega)]

theorem fillX_lt {A B rest : Code} {N : Nat} {f : FI} (h : fillX N A B = some (f, rest)) : f.b ∈ f.D ∧ ∀ d ∈ f.D, d < N := by
  unfold fillX at h
  split at h
  · split at h
    · simp only [Option.map_eq_some_iff, Prod.mk.injEq] at h
      obtain ⟨f', h, rfl, rfl⟩ := h
      simp only [fillO, Option.bind_eq_bind, Option.bind_eq_some_iff] at h
      obtain ⟨v1, e1, v2, e2, v3, e3, v4, e4, v5, e5, v6, e6, v7, e7, v8, e8, v9, e9, vA, eA, vB, eB, vC, eC, vD, eD, vE, eE, vF, eF, c, ec, h⟩ := h
      rw [cond_eq_ite] at h
      split at h
      · rename_i hc
        simp only [Option.some.injEq] at h
        subst h
        rw [Bool.and_eq_true, Bool.and_eq_true] at hc
        refine ⟨by simp, fun d hd => ?_⟩
        exact blt_lt (List.all_eq_true.1 hc.1.2 d hd)
      · simp at h
    · simp at h
  · simp at h

theorem fill_ok {P : Program} {A B rest : Code} {N : Nat} {f : FI} (h : fillX N A B = some (f, rest)) {e : TypeId} (hu : P.underlying f.ty = some (.slice e)) (hsz : szT P e = some 1) (hesz : szT P f.ety = some 1) {z : V} {by_ : Nat} (hz : zeroT P e = some z) (hzl : z.cells.length = 1) (hby : bytesT P e = some by_)
    {a : Act} {w : World} (hN : a.tmps.size = N) {q : IntKind} {k : Int} (hk : a.eval f.ks = .int q k) (h0 : 0 ≤ k) (h63 : k ≤ 9223372036854775807) (hb : by_ * k ≤ 140737488355328) {R : Exit → Act → World → Prop}
    (hR : ∀ a' w', Same f.D a a' → f.b ∈ f.D → At a' f.b (.slice (some ⟨w.heap.size, 0, none⟩) k.toNat k.toNat) → w'.heap = w.heap.push (.cells ⟨List.replicate k.toNat (.int .u8 f.c)⟩ e (0, 0)) → w'.os = w.os → Kept w w' → rest.wp P R a' w') : (Code.seq A B).wp P R a w := by
  unfold fillX at h
  split at h
  · rename_i idA mk idP pre out idT tst m out' nx idG asg idS st idE stp rest'
    split at h
    · rename_i o1 o2 o3 o4 o5 o6 o7 o8 o9 oA oB oC oD oE oF hmk hpre htst hasg hst hstp
      simp only [Option.map_eq_some_iff, Prod.mk.injEq] at h
      obtain ⟨f', h, rfl, rfl⟩ := h
      obtain rfl : mk = [o1, o2, o3].toArray := Array.ext' (by simpa using hmk)
      obtain rfl : pre = [o4, o5, o6].toArray := Array.ext' (by simpa using hpre)
      obtain rfl : tst = [o7].toArray := Array.ext' (by simpa using htst)
      obtain rfl : asg = [o8, o9].toArray := Array.ext' (by simpa using hasg)
      obtain rfl : st = [oA, oB, oC, oD].toArray := Array.ext' (by simpa using hst)
      obtain rfl : stp = [oE, oF].toArray := Array.ext' (by simpa using hstp)
      simp only [fillO, Option.bind_eq_bind, Option.bind_eq_some_iff] at h
      obtain ⟨v1, e1, v2, e2, v3, e3, v4, e4, v5, e5, v6, e6, v7, e7, v8, e8, v9, e9, vA, eA, vB, eB, vC, eC, vD, eD, vE, eE, vF, eF, c, ec, h⟩ := h
      generalize hD : [v1.1, v2.1, v3.1, v4.1, v5.1, v6.1, v7.1, v8.1, v9.1, vA.1, vB.1, vC.1, vE.1] = D at h
      rw [cond_eq_ite] at h
      split at h
      · rename_i hc
        simp only [Option.some.injEq] at h
        subst h
        simp only [Bool.and_eq_true] at hc
        obtain ⟨⟨⟨⟨⟨⟨⟨⟨⟨⟨⟨⟨⟨⟨⟨⟨⟨⟨⟨⟨⟨⟨⟨⟨⟨⟨t1, t2⟩, t3⟩, t4⟩, t5⟩, t6⟩, t7⟩, t8⟩, t9⟩, t10⟩, t11⟩, t12⟩, t13⟩, t14⟩, t15⟩, t16⟩, t17⟩, t18⟩, t19⟩, t20⟩, t21⟩, t22⟩, t23⟩, t24⟩, t25⟩, t26⟩, t27⟩ := hc
        simp only at hu hesz hk
        have t6 := Nat.eq_of_beq_eq_true t6
        have t8 := Nat.eq_of_beq_eq_true t8
        have t18 := Nat.eq_of_beq_eq_true t18
        have t24 := Nat.eq_of_beq_eq_true t24
        have t25 := Nat.eq_of_beq_eq_true t25
        have t9 := isLss_eq t9
        have t20 := isAdd_eq t20
        have lt : ∀ {i d : Nat}, D[i]? = some d → d < N := fun {i d} hi => by
          have := List.all_eq_true.1 t26 d (List.mem_of_getElem? hi)
          exact blt_lt this
        have inD : ∀ {i d : Nat}, D[i]? = some d → d ∈ D := fun hi => List.mem_of_getElem? hi
        have ne : ∀ {i j x y : Nat}, i < j → D[i]? = some x → D[j]? = some y → x ≠ y := fun hij h1 h2 => onesN_ne t27 hij h1 h2
        have d1 : D[0]? = some v1.1 := by rw [← hD]; rfl
        have d2 : D[1]? = some v2.1 := by rw [← hD]; rfl
        have d3 : D[2]? = some v3.1 := by rw [← hD]; rfl
        have d4 : D[3]? = some v4.1 := by rw [← hD]; rfl
        have d5 : D[4]? = some v5.1 := by rw [← hD]; rfl
        have d6 : D[5]? = some v6.1 := by rw [← hD]; rfl
        have d7 : D[6]? = some v7.1 := by rw [← hD]; rfl
        have d8 : D[7]? = some v8.1 := by rw [← hD]; rfl
        have d9 : D[8]? = some v9.1 := by rw [← hD]; rfl
        have dA : D[9]? = some vA.1 := by rw [← hD]; rfl
        have dB : D[10]? = some vB.1 := by rw [← hD]; rfl
        have dC : D[11]? = some vC.1 := by rw [← hD]; rfl
        have dE : D[12]? = some vE.1 := by rw [← hD]; rfl
        clear hD t26 t27
        generalize hK : k.toNat = K at *
        generalize hx : (Value.int .u8 c : Value) = x at *
        have hkK : k = (K : Int) := by omega
        -- the make
        refine wp_seq (wp_region_lit (wl_mv e1 hk ?_))
        have s1 : Same D a (a.put (some v1.1) (.int q k)) := (Same.refl D a).put (inD d1) _
        have g1 : At (a.put (some v1.1) (.int q k)) v1.1 (.int q k) := At.same (by rw [hN]; exact lt d1)
        generalize a.put (some v1.1) (.int q k) = a1 at *
        refine wl_mk e2 hu hsz hz hzl hby (by rw [isT_eq t1]; exact g1.ev) (by rw [isT_eq t2]; exact g1.ev) h0 h63 hb fun cs hcs => ?_
        rw [hK] at hcs ⊢
        have s2 := s1.put (inD d2) (.slice (some ⟨w.heap.size, 0, none⟩) K K)
        have g2 : At (a1.put (some v2.1) (.slice (some ⟨w.heap.size, 0, none⟩) K K)) v2.1 _ := At.same (by rw [s1.size, hN]; exact lt d2)
        generalize a1.put (some v2.1) (.slice (some ⟨w.heap.size, 0, none⟩) K K) = a2 at *
        refine wl_mv (x := (.slice (some ⟨w.heap.size, 0, none⟩) K K)) e3 (by rw [isT_eq t3]; exact g2.ev) ?_
        have s3 := s2.put (inD d3) (.slice (some ⟨w.heap.size, 0, none⟩) K K)
        have g3 : At (a2.put (some v3.1) (.slice (some ⟨w.heap.size, 0, none⟩) K K)) v3.1 _ := At.same (by rw [s2.size, hN]; exact lt d3)
        generalize a2.put (some v3.1) (.slice (some ⟨w.heap.size, 0, none⟩) K K) = a3 at *
        have f0 : Fill w (w.alloc (.cells cs e)) e K 0 x := ⟨by show (w.heap.push _).size = _; simp, fun j hj => by
          show (w.heap.push _)[j]? = _
          rw [Array.getElem?_push_lt hj, ← Array.getElem?_eq_getElem], ⟨cs, by show (w.heap.push _)[w.heap.size]? = _; simp, hcs, fun j hj => by omega⟩, rfl, kept_alloc w _ _⟩
        generalize w.alloc (.cells cs e) = w1 at *
        -- what stands ahead of the loop
        refine wp_seq (wp_seq (wp_region_lit (wl_mv (x := (.slice (some ⟨w.heap.size, 0, none⟩) K K)) e4 (by rw [isT_eq t4]; exact g3.ev) ?_)))
        have s4 := s3.put (inD d4) (.slice (some ⟨w.heap.size, 0, none⟩) K K)
        have g4 : At (a3.put (some v4.1) (.slice (some ⟨w.heap.size, 0, none⟩) K K)) v4.1 _ := At.same (by rw [s3.size, hN]; exact lt d4)
        have g43 := g3.keep (d := v4.1) (x := (.slice (some ⟨w.heap.size, 0, none⟩) K K)) (ne (by omega) d3 d4).symm
        generalize a3.put (some v4.1) (.slice (some ⟨w.heap.size, 0, none⟩) K K) = a4 at *
        refine wl_ln e5 (by rw [t6]; exact hu) (by rw [isT_eq t5]; exact g4.ev) ?_
        have s5 := s4.put (inD d5) (.int .i64 K)
        have g5 : At (a4.put (some v5.1) (.int .i64 K)) v5.1 _ := At.same (by rw [s4.size, hN]; exact lt d5)
        have g53 := g43.keep (d := v5.1) (x := (.int .i64 K)) (ne (by omega) d3 d5).symm
        generalize a4.put (some v5.1) (.int .i64 K) = a5 at *
        refine wl_mv (x := (.int .i64 (0 : Nat))) e6 (isZ_ev t7 a5) ?_
        have s6 := s5.put (inD d6) (.int .i64 (0 : Nat))
        have g6 : At (a5.put (some v6.1) (.int .i64 (0 : Nat))) v6.1 _ := At.same (by rw [s5.size, hN]; exact lt d6)
        have g63 := g53.keep (d := v6.1) (x := (.int .i64 (0 : Nat))) (ne (by omega) d3 d6).symm
        have g65 := g5.keep (d := v6.1) (x := (.int .i64 (0 : Nat))) (ne (by omega) d5 d6).symm
        generalize a5.put (some v6.1) (.int .i64 (0 : Nat)) = a6 at *
        -- the loop
        have key : ∀ (r i : Nat) (b : Act) (u : World), i + r = K → Same D a b → At b v3.1 (.slice (some ⟨w.heap.size, 0, none⟩) K K) → At b v5.1 (.int .i64 K) → At b v6.1 (.int .i64 i) → Fill w u e K i x →
            Code.rounds P (.seq (.region idT [o7].toArray false) (.seq (.cond (.tmp m) .skip (.exit out')) (.seq (.block nx (.seq (.region idG [o8, o9].toArray false) (.region idS [oA, oB, oC, oD].toArray false))) (.region idE [oE, oF].toArray false)))) (Exit.inBlock out (Exit.then (rest'.wp P R) R)) (r + 1) b u := by
          intro r
          induction r with
          | zero =>
            intro i b u hi sb b3 b5 b6 fu
            obtain rfl : i = K := by omega
            refine wp_seq (wp_region_lit (wl_bn e7 (by rw [isT_eq t10]; exact b6.ev) (by rw [isT_eq t11]; exact b5.ev) (by rw [t9]; simp) (by rw [t9]; simp) (r := .bool false) (by rw [t9]; simp [intBin]) fun zz rz => ?_))
            obtain rfl := rep_bool rz
            have s7 := sb.put (inD d7) (.bool false)
            have g7 : At (b.put (some v7.1) (.bool false)) v7.1 _ := At.same (by rw [sb.size, hN]; exact lt d7)
            have g73 := b3.keep (d := v7.1) (x := .bool false) (ne (by omega) d3 d7).symm
            generalize b.put (some v7.1) (.bool false) = b' at *
            refine wp_seq (wp_cond (t := false) (by rw [← t8]; exact g7.ev) ?_)
            refine wp_exit ?_
            simp only [Exit.then, Exit.inBlock]
            rw [if_pos t25.symm]
            exact hR b' u s7 (inD d3) g73 fu.done fu.os fu.out
          | succ r ih =>
            intro i b u hi sb b3 b5 b6 fu
            refine wp_seq (wp_region_lit (wl_bn e7 (by rw [isT_eq t10]; exact b6.ev) (by rw [isT_eq t11]; exact b5.ev) (by rw [t9]; simp) (by rw [t9]; simp) (r := .bool true) (by
              rw [t9]; simp [intBin]; omega) fun zz rz => ?_))
            obtain rfl := rep_bool rz
            have s7 := sb.put (inD d7) (.bool true)
            have g7 : At (b.put (some v7.1) (.bool true)) v7.1 _ := At.same (by rw [sb.size, hN]; exact lt d7)
            have g73 := b3.keep (d := v7.1) (x := .bool true) (ne (by omega) d3 d7).symm
            have g75 := b5.keep (d := v7.1) (x := .bool true) (ne (by omega) d5 d7).symm
            have g76 := b6.keep (d := v7.1) (x := .bool true) (ne (by omega) d6 d7).symm
            generalize b.put (some v7.1) (.bool true) = b' at *
            refine wp_seq (wp_cond (t := true) (by rw [← t8]; exact g7.ev) ?_)
            refine wp_skip ?_
            refine wp_seq (wp_block (wp_seq (wp_region_lit (wl_mv (x := (.int .i64 i)) e8 (by rw [isT_eq t12]; exact g76.ev) ?_))))
            have s8 := s7.put (inD d8) (.int .i64 i)
            have g8 : At (b'.put (some v8.1) (.int .i64 i)) v8.1 _ := At.same (by rw [s7.size, hN]; exact lt d8)
            have g83 := g73.keep (d := v8.1) (x := .int .i64 i) (ne (by omega) d3 d8).symm
            have g85 := g75.keep (d := v8.1) (x := .int .i64 i) (ne (by omega) d5 d8).symm
            have g86 := g76.keep (d := v8.1) (x := .int .i64 i) (ne (by omega) d6 d8).symm
            generalize b'.put (some v8.1) (.int .i64 i) = b8 at *
            refine wl_mv (x := (.int .i64 i)) e9 (by rw [isT_eq t13]; exact g8.ev) ?_
            have s9 := s8.put (inD d9) (.int .i64 i)
            have g9 : At (b8.put (some v9.1) (.int .i64 i)) v9.1 _ := At.same (by rw [s8.size, hN]; exact lt d9)
            have g93 := g83.keep (d := v9.1) (x := .int .i64 i) (ne (by omega) d3 d9).symm
            have g95 := g85.keep (d := v9.1) (x := .int .i64 i) (ne (by omega) d5 d9).symm
            have g96 := g86.keep (d := v9.1) (x := .int .i64 i) (ne (by omega) d6 d9).symm
            generalize b8.put (some v9.1) (.int .i64 i) = b9 at *
            refine wp_region_lit (wl_mv (x := (.slice (some ⟨w.heap.size, 0, none⟩) K K)) eA (by rw [isT_eq t14]; exact g93.ev) ?_)
            have sA := s9.put (inD dA) (.slice (some ⟨w.heap.size, 0, none⟩) K K)
            have gA : At (b9.put (some vA.1) (.slice (some ⟨w.heap.size, 0, none⟩) K K)) vA.1 _ := At.same (by rw [s9.size, hN]; exact lt dA)
            have gA3 := g93.keep (d := vA.1) (x := (.slice (some ⟨w.heap.size, 0, none⟩) K K)) (ne (by omega) d3 dA).symm
            have gA5 := g95.keep (d := vA.1) (x := (.slice (some ⟨w.heap.size, 0, none⟩) K K)) (ne (by omega) d5 dA).symm
            have gA6 := g96.keep (d := vA.1) (x := (.slice (some ⟨w.heap.size, 0, none⟩) K K)) (ne (by omega) d6 dA).symm
            have gA9 := g9.keep (d := vA.1) (x := (.slice (some ⟨w.heap.size, 0, none⟩) K K)) (ne (by omega) d9 dA).symm
            generalize b9.put (some vA.1) (.slice (some ⟨w.heap.size, 0, none⟩) K K) = bA at *
            refine wl_mv (x := (.int .i64 i)) eB (by rw [isT_eq t15]; exact gA9.ev) ?_
            have sB := sA.put (inD dB) (.int .i64 i)
            have gB : At (bA.put (some vB.1) (.int .i64 i)) vB.1 _ := At.same (by rw [sA.size, hN]; exact lt dB)
            have gB3 := gA3.keep (d := vB.1) (x := .int .i64 i) (ne (by omega) d3 dB).symm
            have gB5 := gA5.keep (d := vB.1) (x := .int .i64 i) (ne (by omega) d5 dB).symm
            have gB6 := gA6.keep (d := vB.1) (x := .int .i64 i) (ne (by omega) d6 dB).symm
            have gBA := gA.keep (d := vB.1) (x := .int .i64 i) (ne (by omega) dA dB).symm
            generalize bA.put (some vB.1) (.int .i64 i) = bB at *
            refine wl_ix eC (by rw [t18]; exact hu) hsz (by rw [isT_eq t16]; exact gBA.ev) (by rw [isT_eq t17]; exact gB.ev) (by omega : i < K) ?_
            have sC := sB.put (inD dC) (.pointer (some ⟨w.heap.size, i, none⟩))
            have gC : At (bB.put (some vC.1) (.pointer (some ⟨w.heap.size, i, none⟩))) vC.1 _ := At.same (by rw [sB.size, hN]; exact lt dC)
            have gC3 := gB3.keep (d := vC.1) (x := .pointer (some ⟨w.heap.size, i, none⟩)) (ne (by omega) d3 dC).symm
            have gC5 := gB5.keep (d := vC.1) (x := .pointer (some ⟨w.heap.size, i, none⟩)) (ne (by omega) d5 dC).symm
            have gC6 := gB6.keep (d := vC.1) (x := .pointer (some ⟨w.heap.size, i, none⟩)) (ne (by omega) d6 dC).symm
            generalize bB.put (some vC.1) (.pointer (some ⟨w.heap.size, i, none⟩)) = bC at *
            obtain ⟨cu, hu1, hu2, hu3⟩ := fu.blk
            refine wl_so eD hesz (by rw [isT_eq t19]; exact gC.ev) (x := x) (by rw [← hx]; exact byteC_ev ec bC) (by rw [← hx]; rfl) (by rw [← hx]; rfl) hu1 (by omega) ?_
            have fv := fu.set (by omega : i < K)
            generalize u.setCells w.heap.size i [x] = v at *
            refine wp_region_lit (wl_bn eE (by rw [isT_eq t21]; exact gC6.ev) (isZ_ev t22 bC) (by rw [t20]; simp) (by rw [t20]; simp) (r := .int .i64 (IntKind.i64.wrap ((i : Int) + (1 : Nat)))) (by rw [t20]; simp [intBin]) fun zz rz => ?_)
            obtain rfl := rep_int rz
            have hwr : IntKind.i64.wrap ((i : Int) + (1 : Nat)) = ((i + 1 : Nat) : Int) := by rw [wrap_in (by omega) (by omega)]; omega
            rw [hwr]
            have sE := sC.put (inD dE) (.int .i64 (i + 1 : Nat))
            have gE : At (bC.put (some vE.1) (.int .i64 (i + 1 : Nat))) vE.1 _ := At.same (by rw [sC.size, hN]; exact lt dE)
            have gE3 := gC3.keep (d := vE.1) (x := .int .i64 (i + 1 : Nat)) (ne (by omega) d3 dE).symm
            have gE5 := gC5.keep (d := vE.1) (x := .int .i64 (i + 1 : Nat)) (ne (by omega) d5 dE).symm
            generalize bC.put (some vE.1) (.int .i64 (i + 1 : Nat)) = bE at *
            refine wl_mv (x := (.int .i64 (i + 1 : Nat))) eF (by rw [isT_eq t23]; exact gE.ev) ?_
            rw [t24]
            have sF := sE.put (inD d6) (.int .i64 (i + 1 : Nat))
            have gF : At (bE.put (some v6.1) (.int .i64 (i + 1 : Nat))) v6.1 _ := At.same (by rw [sE.size, hN]; exact lt d6)
            have gF3 := gE3.keep (d := v6.1) (x := .int .i64 (i + 1 : Nat)) (ne (by omega) d3 d6).symm
            have gF5 := gE5.keep (d := v6.1) (x := .int .i64 (i + 1 : Nat)) (ne (by omega) d5 d6).symm
            exact ih (i + 1) _ v (by omega) sF gF3 gF5 gF fv
        exact wp_block (wp_loop_rounds (K + 1) (key K 0 a6 w1 (by omega) s6 g63 g65 g6 f0))
      · simp at h
    · simp at h
  · simp at h
end Go.Fbs

/- Code, and a function. -/
namespace Go.Fbs

section
variable {P : Program} {C : Callees} {s : St} {Q : Exit → St → Prop}

theorem aw_drawn3K (hC : Sound P C) {id : Nat} {ops : List Oper} {sl : TypeId → Bool} {ex : Rt → Rt → Bool} (hm : P.follows .mixedOrders = true) (hd : drawOk3 C sl ex ops = true) (hsl : ∀ t, sl t = true → ∃ e, P.underlying t = some (.slice e)) (hex : ∀ r r', ex r r' = true → Apart s.env s.m.H.length r r')
    (h : ∀ K : Env → Hp → Prop, Veil (∀ env m, Q .normal ⟨env, m⟩ → K env m) → opsK P C ops ops s.env s.m K) : AW P (.region id ops.toArray true) s Q := by
  obtain ⟨env', m', h1, h2⟩ := opsK_spec (h (fun env m => Q .normal ⟨env, m⟩) ⟨fun _ _ h => h⟩)
  exact fun κ w a k re R hR => drawn3_sound hC hd hsl hex hm h1 k re (fun κ' w' a' hx hr => hR _ ⟨env', m'⟩ κ' w' a' h2 hx hr)

/-- A loop: what holds at each round's head, with a number that falls. -/
theorem aw_loopN {c : Code} (I : Nat → St → Prop) {n0 : Nat} (h0 : I n0 s) (round : ∀ n s, I n s → AW P c s (thenQ (fun s' => ∃ n', n' < n ∧ I n' s') Q)) : AW P (.loop c) s Q := by
  intro κ w a k re R hR
  have key : ∀ (n i : Nat) (s1 : St) (κ1 : Ctx) (w1 : World) (a1 : Act), i < n → I i s1 → Ext κ w s.m κ1 w1 s1.m → EnvOk κ1 w1.heap s1.env a1 → Code.rounds P c R n a1 w1 := by
    intro n
    induction n with
    | zero => intro i s1 κ1 w1 a1 h; omega
    | succ n ih =>
      intro i s1 κ1 w1 a1 hn hI hx hr
      refine round i s1 hI κ1 w1 a1 hx.mem hr _ fun e s' κ' w' a' hq hx' hr' => ?_
      cases e with
      | normal =>
        obtain ⟨i', h1, h2⟩ := hq
        exact ih i' s' κ' w' a' (by omega) h2 (hx.trans hx') hr'
      | _ => exact hR _ s' κ' w' a' hq (hx.trans hx') hr'
  exact wp_loop_rounds (n0 + 1) (key _ n0 s κ w a (Nat.lt_succ_self _) h0 (Ext.refl k) re)
end

section
variable {P : Program} {tt : TT} (hT : ∀ t ti, tiOf tt t = some ti → TOk P ti ∧ ti.t = t) (hm : P.follows .mixedOrders = true)
variable {p : PT} (hS : Sound P (CE tt p)) (hp : Canon tt p) {Q : V → Prop} {N : Nat}

/-- How code may be left. -/
def Way (p : PT) (Q : V → Prop) (N : Nat) (ρ : Nat → V) (S : SS) (ks : List (List V → Prop)) (xs : List (Nat × KX)) (k r : KX) : Exit → St → Prop
  | .normal, s => Left p Q N ρ S ks k s.env s.m
  | .ret, s => Left p Q N ρ S ks r s.env s.m
  | .exit id, s => ∃ kx, exOf xs id = some kx ∧ Left p Q N ρ S ks kx s.env s.m
  | _, _ => False

theorem Left.via {ρ ρ' : Nat → V} {S S' : SS} {ks pre : List (List V → Prop)} {k : KX} {env : Env} {m : Hp} (h : Left p Q N ρ' S' (pre ++ ks) k env m) (ha : AgreeN ρ ρ' S.nv) (hn : S.nv ≤ S'.nv) (hd : S'.dep = S.dep + pre.length) : Left p Q N ρ S ks k env m := by
  obtain ⟨S2, ρ2, L', gk', gb', pre2, h1, h2, h3, h4, h5, h6⟩ := h.out
  refine ⟨S2, ρ2, L', gk', gb', pre2 ++ pre, h1, by rw [List.append_assoc]; exact h2, h3, ha.trans h4 hn, Nat.le_trans hn h5, by rw [h6, hd, List.length_append]; omega⟩

theorem Way.via {ρ ρ' : Nat → V} {S S' : SS} {ks pre : List (List V → Prop)} {xs : List (Nat × KX)} {k r : KX} {e : Exit} {s : St} (h : Way p Q N ρ' S' (pre ++ ks) xs k r e s) (ha : AgreeN ρ ρ' S.nv) (hn : S.nv ≤ S'.nv) (hd : S'.dep = S.dep + pre.length) : Way p Q N ρ S ks xs k r e s := by
  cases e with
  | normal => exact Left.via h ha hn hd
  | ret => exact Left.via h ha hn hd
  | exit id => obtain ⟨kx, h1, h2⟩ := h; exact ⟨kx, h1, h2.via ha hn hd⟩
  | _ => exact h

/-- Where several ways meet. -/
theorem jmp_ok {S : SS} {ρ : Nat → V} (hk0 : ∀ i n, assoc S.known i = some n → i < S.nv ∧ KnownV n (ρ i)) (hb0 : ∀ i ∈ S.bools, i < S.nv ∧ isBU (ρ i) = true) {ds : List Nat} {vars : Vars} {ks : List (List V → Prop)} {r : List V → Prop} {S1 : SS} (hnv : S1.nv = S.nv) (hdep : S1.dep = S.dep + 1) {env : Env} {m : Hp}
    (h : Left p Q N ρ S1 (r :: ks) (jmpK (headOf S ds vars) S.dep vars) env m) : ∃ vs gk2 gb2, vs.length = vars.length ∧ r vs ∧ Conc N gk2 gb2 (headOf S ds vars) (exts ρ S.nv vs) env m := by
  obtain ⟨S', ρ', L', gk', gb', pre, h1, h2, h3, h4, h5, h6⟩ := h.out
  simp only [jmpK, Option.map_eq_some_iff] at h1
  obtain ⟨as, h7, rfl⟩ := h1
  rw [hnv] at h4
  obtain ⟨h8, gk2, gb2, h9⟩ := match_ok hk0 hb0 h3 h4 h7
  refine ⟨as.map (A.den ρ'), gk2, gb2, by rw [List.length_map, h8], ?_, h9⟩
  simp only [L.wp] at h2
  have : (pre ++ r :: ks)[S'.dep - 1 - S.dep]? = some r := by
    rw [h6, hdep, show S.dep + 1 + pre.length - 1 - S.dep = pre.length by omega, List.getElem?_append_right (Nat.le_refl _)]
    simp
  rw [this] at h2
  exact h2

include hT in
omit hm hS hp in
theorem slX_ok (t : TypeId) (h : slX tt t = true) : ∃ e, P.underlying t = some (.slice e) := by
  unfold slX at h
  split at h
  · rename_i ti hti
    obtain ⟨tok, htt⟩ := hT t ti hti
    split at h
    · rename_i e hd
      have := tok.d
      rw [hd, htt] at this
      exact ⟨e, this⟩
    · simp at h
  · simp at h
omit hT hm hS hp in
theorem boxOf_ok {ρ : Nat → V} {gk : Nat → Option Nat} {gb : List Nat} {T : List (Nat × Nat)} {s : SV} {l off : Nat} (r : RelSV ρ gk gb T s (.ptr l off)) {o : Option Nat} (h : s.boxOf = some o) : ∃ b, o = some b ∧ gb[b]? = some l := by
  cases s <;> simp [SV.boxOf] at h
  · subst h
    by_cases hon : onG ρ ‹Gd›
    · obtain ⟨cs, h1, _⟩ := r.1 hon; simp at h1
    · have := r.2 hon; simp at this
  · subst h
    by_cases hon : onG ρ ‹Gd›
    · obtain ⟨l', h1, h2⟩ := r.1 hon
      simp only [V.ptr.injEq] at h2
      exact ⟨_, rfl, by rw [h2.1]; exact h1⟩
    · have := r.2 hon; simp at this
  · subst h
    by_cases hon : onG ρ ‹Gd›
    · obtain ⟨l', q, z, h1, h2, h3, h4⟩ := r.1 hon
      simp only [V.ptr.injEq] at h4
      exact ⟨_, rfl, by rw [h4.1]; exact h1⟩
    · have := r.2 hon; simp at this
omit hT hm hS hp in
theorem Conc.apart {gk : Nat → Option Nat} {gb : List Nat} {S : SS} {ρ : Nat → V} {env : Env} {m : Hp} (c : Conc N gk gb S ρ env m) (r r' : Rt) (h : S.apart r r' = true) : Apart env m.H.length r r' := by
  have at_ : ∀ {t : Nat} {l off : Nat} {o : Option Nat}, env.get t = some (.ptr l off) → (S.look t).bind SV.boxOf = some o → ∃ b, o = some b ∧ gb[b]? = some l := by
    intro t l off o e1 e2
    obtain ⟨s, e3, e4⟩ := Option.bind_eq_some_iff.1 e2
    obtain ⟨_, e5, _⟩ := c.slots t s e3
    unfold Env.get at e1
    split at e1
    · simp only [Option.some.injEq] at e1
      rw [e1] at e5
      exact boxOf_ok e5 e4
    · simp at e1
  have low : ∀ {t : Nat}, ((S.look t).bind SV.boxOf).isSome = true → ∀ l off, env.get t = some (.ptr l off) → l < m.H.length := by
    intro t h l off e1
    obtain ⟨o, ho⟩ := Option.isSome_iff_exists.1 h
    obtain ⟨b, _, q⟩ := at_ e1 ho
    exact c.blt l (List.mem_of_getElem? q)
  cases r with
  | ro => trivial
  | nw i =>
    cases r' with
    | ro => trivial
    | tm t => exact low h
    | nw j =>
      intro e
      subst e
      simp [SS.apart] at h
  | tm t =>
    cases r' with
    | ro => trivial
    | nw i => exact low h
    | tm t' =>
      intro l off off' h1 h2
      simp only [SS.apart] at h
      split at h
      · rename_i b b' e1 e2
        obtain ⟨_, q1, q2⟩ := at_ h1 e1
        obtain ⟨_, q3, q4⟩ := at_ h2 e2
        simp only [Option.some.injEq] at q1 q3
        subst q1; subst q3
        rw [c.binj b b' l q2 q4] at h
        simp at h
      · rename_i e1 e2
        obtain ⟨_, q1, _⟩ := at_ h1 e1
        simp at q1
      · simp at h

include hT hm hS hp in
theorem codeX_ok {orc : List (OK × Vars)} : ∀ (c : Code) {S : SS} {ρ : Nat → V} {env : Env} {m : Hp} {gk : Nat → Option Nat} {gb : List Nat} {xs : List (Nat × KX)} {k r : KX} {L : L} {ks : List (List V → Prop)} (_ : Conc N gk gb S ρ env m)
    (_ : codeX tt N orc c S xs k r = some L) (_ : L.wp p Q S.nv ρ ks), AW P c ⟨env, m⟩ (Way p Q N ρ S ks xs k r) := by
  have left0 : ∀ {S : SS} {ρ : Nat → V} {env : Env} {m : Hp} {gk : Nat → Option Nat} {gb : List Nat} {k : KX} {L : L} {ks : List (List V → Prop)}, Conc N gk gb S ρ env m → k S = some L → L.wp p Q S.nv ρ ks → Left p Q N ρ S ks k env m :=
    fun c h hw => ⟨_, _, _, _, _, [], h, hw, c, AgreeN.refl _ _, Nat.le_refl _, rfl⟩
  intro c
  induction c with
  | skip => intro S ρ env m gk gb xs k r L ks cc h hw; exact aw_skip (left0 cc h hw)
  | label l => intro S ρ env m gk gb xs k r L ks cc h hw; exact aw_label (left0 cc h hw)
  | ret => intro S ρ env m gk gb xs k r L ks cc h hw; exact aw_ret (left0 cc h hw)
  | exit id =>
    intro S ρ env m gk gb xs k r L ks cc h hw
    simp only [codeX] at h
    split at h
    · rename_i kx hx
      exact aw_exit ⟨kx, hx, left0 cc h hw⟩
    · simp at h
  | region id ops d =>
    intro S ρ env m gk gb xs k r L ks cc h hw
    simp only [codeX] at h
    have hops : ∀ {L : Go.Fbs.L}, L.wp p Q S.nv ρ ks → opsX tt N ops.toList ops.toList S k = some L → ∀ K : Env → Hp → Prop, Veil (∀ env m, Way p Q N ρ S ks xs k r .normal ⟨env, m⟩ → K env m) → opsK P (CE tt p) ops.toList ops.toList env m K :=
      fun hw h K hK => opsX_ok hT hp cc h hw fun env' m' hl => hK.out env' m' hl
    cases d with
    | false =>
      simp only [cond_false] at h
      have := aw_regionK hS (s := ⟨env, m⟩) (Q := Way p Q N ρ S ks xs k r) (id := id) (ops := ops.toList) (hops hw h)
      simpa using this
    | true =>
      simp only [cond_true] at h
      generalize drawN tt ops.toList ops.toList.length = n at h
      cases h1 : (drawOk ops.toList n && (ops.toList.take n).all (fun o => isQ (CK0 tt) o.op || (isA o.op && o.guard.isNone))) with
      | false =>
        rw [h1] at h
        simp only [cond_false] at h
        cases h2 : drawOk3 (CK0 tt) (slX tt) S.apart ops.toList with
        | false => rw [h2] at h; simp at h
        | true =>
          rw [h2] at h
          simp only [cond_true] at h
          have h3 : drawOk3 (CE tt p) (slX tt) S.apart ops.toList = true := h2
          have := aw_drawn3K hS (s := ⟨env, m⟩) (Q := Way p Q N ρ S ks xs k r) (id := id) (ops := ops.toList) hm h3 (slX_ok hT) cc.apart (hops hw h)
          simpa using this
      | true =>
        rw [h1] at h
        simp only [cond_true] at h
        simp only [Bool.and_eq_true] at h1
        have := aw_drawnK hS (s := ⟨env, m⟩) (Q := Way p Q N ρ S ks xs k r) (id := id) (ops := ops.toList) _ hm h1.1 h1.2 (hops hw h)
        simpa using this
  | seq a b iha ihb =>
    intro S ρ env m gk gb xs k r L ks cc h hw
    simp only [codeX] at h
    refine aw_seq (AW.mono (iha cc h hw) fun e s' hq => ?_)
    cases e with
    | normal =>
      obtain ⟨S', ρ', L', gk', gb', pre, h1, h2, h3, h4, h5, h6⟩ := hq.out
      exact AW.mono (ihb h3 h1 h2) fun e s'' hq => hq.via h4 h5 h6
    | _ => exact hq
  | cond q a b iha ihb =>
    intro S ρ env m gk gb xs k r L ks cc h hw
    simp only [codeX] at h
    split at h
    · rename_i qa hqa
      obtain ⟨v, hv, hden, hbel⟩ := cc.opA hqa
      -- the state in which the way is known
      have branch : ∀ {x y : Go.Fbs.L} {S1 : SS} {ks1 : List (List V → Prop)} {k1 : KX}, S1.nv = S.nv → (∀ bl, (∀ i ∈ bl, i < S.nv ∧ isBU (ρ i) = true) → bl = S.addB qa → Conc N gk gb S1 ρ env m) →
          codeX tt N orc a S1 xs k1 r = some x → codeX tt N orc b S1 xs k1 r = some y → iteB (qa.den ρ) (x.wp p Q S.nv ρ ks1) (y.wp p Q S.nv ρ ks1) → AW P (.cond q a b) ⟨env, m⟩ (Way p Q N ρ S1 ks1 xs k1 r) := by
        intro x y S1 ks1 k1 hnv hc1 hx hy hi
        unfold iteB at hi
        split at hi
        · rename_i t ht
          have hvb : v = .bool t := erA_bool (by rw [hden]; exact ht)
          subst hvb
          have c1 := hc1 _ (cc.addB hbel (by rw [ht]; rfl)) rfl
          refine aw_cond hv ?_
          cases t with
          | true =>
            simp only [if_true] at hi ⊢
            exact iha c1 hx (by rw [hnv]; exact hi)
          | false =>
            simp only [Bool.false_eq_true, if_false] at hi ⊢
            exact ihb c1 hy (by rw [hnv]; exact hi)
        · exact hi.elim
      have addb : ∀ {dep : Nat} (bl : List Nat), (∀ i ∈ bl, i < S.nv ∧ isBU (ρ i) = true) → bl = S.addB qa → Conc N gk gb { S with dep := dep, bools := S.addB qa } ρ env m := fun bl hbl he => by
        subst he
        exact ⟨cc.n, cc.slots, cc.boxes, cc.blen, cc.binj, cc.blt, cc.kinj, cc.klt, cc.known, hbl, cc.own⟩
      split at h
      · split at h
        · rename_i x y hx hy
          simp only [Option.some.injEq] at h
          subst h
          refine AW.mono (branch (S1 := { S with bools := S.addB qa }) (ks1 := ks) rfl (fun bl h1 h2 => addb (dep := S.dep) bl h1 h2) hx hy hw) fun e s' hq => ?_
          exact Way.via (pre := []) hq (AgreeN.refl _ _) (Nat.le_refl _) rfl
        · simp at h
      · rename_i vars _
        split at h
        · rename_i z x y hz hx hy
          simp only [Option.some.injEq] at h
          subst h
          simp only [L.wp, joinP] at hw
          refine AW.mono (branch (S1 := { S with dep := S.dep + 1, bools := S.addB qa }) rfl (fun bl h1 h2 => addb bl h1 h2) hx hy hw) fun e s' hq => ?_
          cases e with
          | normal =>
            obtain ⟨vs, gk2, gb2, h1, ⟨_, h2⟩, h3⟩ := jmp_ok (S1 := { S with dep := S.dep + 1, bools := S.addB qa }) cc.known cc.bools rfl rfl hq
            exact ⟨_, _, _, gk2, gb2, [], hz, h2, h3, exts_low _ _ _, Nat.le_add_right _ _, rfl⟩
          | ret => exact Left.via (pre := [_]) hq (AgreeN.refl _ _) (Nat.le_refl _) rfl
          | exit id => obtain ⟨kx, h1, h2⟩ := hq; exact ⟨kx, h1, h2.via (pre := [_]) (AgreeN.refl _ _) (Nat.le_refl _) rfl⟩
          | _ => exact hq
        · simp at h
    · simp at h
  | block id c ih =>
    intro S ρ env m gk gb xs k r L ks cc h hw
    simp only [codeX] at h
    split at h
    · refine aw_block (AW.mono (ih cc h hw) fun e s' hq => ?_)
      cases e with
      | exit j =>
        obtain ⟨kx, h1, h2⟩ := hq
        simp only [blockQ]
        simp only [exOf] at h1
        by_cases hj : j = id
        · subst hj
          rw [show Nat.beq j j = true from Nat.beq_refl j] at h1
          simp only [cond_true, Option.some.injEq] at h1
          subst h1
          rw [if_pos rfl]; exact h2
        · have hb : Nat.beq id j = false := by
            cases hq : Nat.beq id j with
            | false => rfl
            | true => exact absurd (Nat.eq_of_beq_eq_true hq).symm hj
          rw [hb] at h1
          rw [if_neg hj]; exact ⟨kx, h1, h2⟩
      | _ => exact hq
    · rename_i vars _
      split at h
      · rename_i z x hz hx
        simp only [Option.some.injEq] at h
        subst h
        simp only [L.wp, joinP] at hw
        have c1 : Conc N gk gb { S with dep := S.dep + 1 } ρ env m := ⟨cc.n, cc.slots, cc.boxes, cc.blen, cc.binj, cc.blt, cc.kinj, cc.klt, cc.known, cc.bools, cc.own⟩
        have meet : ∀ {env' : Env} {m' : Hp}, Left p Q N ρ { S with dep := S.dep + 1 } ((fun vs => vs.length = vars.length ∧ z.wp p Q (S.nv + vars.length) (exts ρ S.nv vs) ks) :: ks) (jmpK (headOf S (dsts c) vars) S.dep vars) env' m' → Left p Q N ρ S ks k env' m' := fun hq => by
          obtain ⟨vs, gk2, gb2, h1, ⟨_, h2⟩, h3⟩ := jmp_ok (S1 := { S with dep := S.dep + 1 }) cc.known cc.bools rfl rfl hq
          exact ⟨_, _, _, gk2, gb2, [], hz, h2, h3, exts_low _ _ _, Nat.le_add_right _ _, rfl⟩
        refine aw_block (AW.mono (ih c1 hx hw) fun e s' hq => ?_)
        cases e with
        | normal => exact meet hq
        | ret => exact Left.via (pre := [_]) hq (AgreeN.refl _ _) (Nat.le_refl _) rfl
        | exit j =>
          obtain ⟨kx, h1, h2⟩ := hq
          simp only [blockQ]
          simp only [exOf] at h1
          by_cases hj : j = id
          · subst hj
            rw [show Nat.beq j j = true from Nat.beq_refl j] at h1
            simp only [cond_true, Option.some.injEq] at h1
            subst h1
            rw [if_pos rfl]; exact meet h2
          · have hb : Nat.beq id j = false := by
              cases hq : Nat.beq id j with
              | false => rfl
              | true => exact absurd (Nat.eq_of_beq_eq_true hq).symm hj
            rw [hb] at h1
            rw [if_neg hj]
            exact ⟨kx, h1, h2.via (pre := [_]) (AgreeN.refl _ _) (Nat.le_refl _) rfl⟩
        | _ => exact hq
      · simp at h
  | loop c ih =>
    intro S ρ env m gk gb xs k r L ks cc h hw
    simp only [codeX] at h
    split at h
    · rename_i vars _
      split at h
      · rename_i init x hi hx
        simp only [Option.some.injEq] at h
        subst h
        simp only [L.wp] at hw
        obtain ⟨n0, hw⟩ := hw
        obtain ⟨hl0, gk0, gb0, c0⟩ := match_ok cc.known cc.bools cc (AgreeN.refl _ _) hi
        generalize hF : (fun (r : List V → Prop) (vs : List V) => vs.length = init.length ∧ x.wp p Q (S.nv + init.length) (exts ρ S.nv vs) (r :: ks)) = F at hw
        refine aw_loopN (fun n s' => ∃ vs gk gb, iterP F n vs ∧ Conc N gk gb (headOf S (dsts c) vars) (exts ρ S.nv vs) s'.env s'.m) (n0 := n0) ⟨_, gk0, gb0, hw, c0⟩ ?_
        rintro n s' ⟨vs, gk1, gb1, h1, h2⟩
        cases n with
        | zero => exact h1.elim
        | succ n =>
          simp only [iterP] at h1
          rw [← hF] at h1
          obtain ⟨h3, h4⟩ := h1
          have c1 : Conc N gk1 gb1 { headOf S (dsts c) vars with dep := S.dep + 1 } (exts ρ S.nv vs) s'.env s'.m := ⟨h2.n, h2.slots, h2.boxes, h2.blen, h2.binj, h2.blt, h2.kinj, h2.klt, h2.known, h2.bools, h2.own⟩
          refine AW.mono (ih c1 hx (by show x.wp p Q (S.nv + vars.length) _ _; rw [← hl0]; exact h4)) fun e s'' hq => ?_
          have low := exts_low ρ S.nv vs
          cases e with
          | normal =>
            obtain ⟨S', ρ', L', gk', gb', pre, e1, e2, e3, e4, e5, e6⟩ := hq.out
            -- back at the head
            have hq' : Left p Q N ρ { S with dep := S.dep + 1 } (iterP F n :: ks) (jmpK (headOf S (dsts c) vars) S.dep vars) s''.env s''.m :=
              ⟨S', ρ', L', gk', gb', pre, e1, by rw [hF] at e2; exact e2, e3, low.trans e4 (Nat.le_add_right _ _), Nat.le_trans (Nat.le_add_right _ _) e5, e6⟩
            obtain ⟨vs', gk2, gb2, q1, q2, q3⟩ := jmp_ok (S1 := { S with dep := S.dep + 1 }) cc.known cc.bools rfl rfl hq'
            exact ⟨n, Nat.lt_succ_self _, vs', gk2, gb2, q2, q3⟩
          | ret => exact Left.via (pre := [_]) hq low (Nat.le_add_right _ _) rfl
          | exit j => obtain ⟨kx, e1, e2⟩ := hq; exact ⟨kx, e1, e2.via (pre := [_]) low (Nat.le_add_right _ _) rfl⟩
          | _ => exact hq
      · simp at h
    · simp at h
  | _ => intros; rename_i h _; simp [codeX] at h

/-! ### A list that is made and then filled -/
theorem fillX_form {N : Nat} {A B rest : Code} {f : FI} (h : fillX N A B = some (f, rest)) : ∃ X, B = .seq X rest := by
  unfold fillX at h
  split at h
  · split at h
    · simp only [Option.map_eq_some_iff, Prod.mk.injEq] at h
      obtain ⟨_, _, _, rfl⟩ := h
      exact ⟨_, rfl⟩
    · simp at h
  · simp at h
def fillEnv (env : Env) (f : FI) (es : List V) : Env := ⟨env.n, fun t => if t = f.b then .sl .ro es else if t ∈ f.D then .any else env.f t⟩
omit hT hm hS hp in
theorem aw_fill {A B rest : Code} {N : Nat} {f : FI} (h : fillX N A B = some (f, rest)) {e : TypeId} (hu : P.underlying f.ty = some (.slice e)) (hsz : szT P e = some 1) (hesz : szT P f.ety = some 1) {z : V} {by_ : Nat} (hz : zeroT P e = some z) (hzl : z.cells.length = 1) (hby : bytesT P e = some by_)
    {env : Env} {m : Hp} (hN : env.n = N) {q : IntKind} {k : Int} (hk : ev env f.ks = some (.int q k)) (h0 : 0 ≤ k) (h63 : k ≤ 9223372036854775807) (hb : by_ * k ≤ 140737488355328) {Q : Exit → St → Prop}
    (hn : AW P rest ⟨fillEnv env f (List.replicate k.toNat (.int .u8 f.c)), m⟩ Q) : AW P (.seq A B) ⟨env, m⟩ Q := by
  intro κ w a km re R hR
  refine fill_ok h hu hsz hesz hz hzl hby (by rw [re.2.1]; exact hN) (rep_int (re.ev hk)) h0 h63 hb fun a' w' sm hbD hat hheap hos hout => ?_
  have hone : ∀ x ∈ (⟨List.replicate k.toNat (.int .u8 f.c)⟩ : Array Value).toList.take k.toNat, x.oneCell' = true := by
    intro x hx
    have := List.eq_of_mem_replicate (List.mem_of_mem_take hx)
    rw [this]; rfl
  obtain ⟨κ', l, k', hbk⟩ := mem_sealed km ⟨List.replicate k.toNat (.int .u8 f.c)⟩ e (0, 0) k.toNat hone
  rw [← hheap] at l k' hbk
  have lw : LeW κ w κ' w' := ⟨l, hos, hout⟩
  have hx0 : Ext κ w m κ' w' m := lw.ext k' (Nat.le_refl _)
  refine hn κ' w' a' k' ⟨by rw [sm.defers]; exact re.1, by rw [sm.size]; exact re.2.1, fun i v x h1 h2 => ?_⟩ R (fun e s' κ2 w2 a2 hq hx hr => hR e s' κ2 w2 a2 hq (hx0.trans hx) hr)
  unfold Env.get fillEnv at h1
  simp only at h1
  split at h1
  · rename_i hin
    simp only [Option.some.injEq] at h1
    by_cases hib : i = f.b
    · rw [if_pos hib] at h1
      subst h1; subst hib
      unfold At at hat
      rw [hat] at h2
      simp only [Option.some.injEq] at h2
      subst h2
      have hcl : ∀ e' ∈ List.replicate k.toNat (V.int .u8 f.c), e'.cells.length = 1 := fun e' he => by rw [List.eq_of_mem_replicate he]; rfl
      have hfl : flat (List.replicate k.toNat (V.int .u8 f.c)) = List.replicate k.toNat (V.int .u8 f.c) := by
        generalize k.toNat = K
        induction K with
        | zero => rfl
        | succ K ih => rw [List.replicate_succ]; simp only [flat, List.flatMap_cons] at ih ⊢; rw [ih]; rfl
      have hlen : k.toNat = (List.replicate k.toNat (V.int .u8 f.c)).length := by simp
      have := Rep.sl (κ := κ') (h := w'.heap) .ro (List.replicate k.toNat (V.int .u8 f.c)) w.heap.size 0 k.toNat 1 (List.replicate k.toNat (.int .u8 f.c)) (by simpa using hbk) hcl (by rw [hfl]; simp) (fun j c x hc hx => by
        rw [hfl] at hc
        rw [List.eq_of_mem_replicate (List.mem_of_getElem? hc), List.eq_of_mem_replicate (List.mem_of_getElem? hx)]
        exact .int _ _) (by simp) trivial
      rw [← hlen] at this
      exact this
    · rw [if_neg hib] at h1
      by_cases hiD : i ∈ f.D
      · rw [if_pos hiD] at h1
        subst h1
        exact .any x
      · rw [if_neg hiD] at h1
        rw [sm.slots i hiD] at h2
        refine (re.2.2 i v x ?_ h2).mono l.toLe
        unfold Env.get
        rw [if_pos hin, h1]
  · simp at h1
theorem assoc_filterP {α : Type} {f : Nat → Bool} {l : List (Nat × α)} {t : Nat} {x : α} (h : assoc (l.filter fun p => f p.1) t = some x) : f t = true := by
  have := assoc_mem h
  rw [List.mem_filter] at this
  exact this.2
include hT hm hS hp in
theorem codeT_ok {orc : List (OK × Vars)} : ∀ (c : Code),
    (∀ {S : SS} {ρ : Nat → V} {env : Env} {m : Hp} {gk : Nat → Option Nat} {gb : List Nat} {k r : KX} {L : L} {ks : List (List V → Prop)} (_ : Conc N gk gb S ρ env m) (_ : codeT tt N orc false c S k r = some L) (_ : L.wp p Q S.nv ρ ks), AW P c ⟨env, m⟩ (Way p Q N ρ S ks [] k r)) ∧
    (∀ X rest, c = .seq X rest → ∀ {S : SS} {ρ : Nat → V} {env : Env} {m : Hp} {gk : Nat → Option Nat} {gb : List Nat} {k r : KX} {L : L} {ks : List (List V → Prop)} (_ : Conc N gk gb S ρ env m) (_ : codeT tt N orc true c S k r = some L) (_ : L.wp p Q S.nv ρ ks), AW P rest ⟨env, m⟩ (Way p Q N ρ S ks [] k r)) := by
  intro c
  induction c with
  | seq a b iha ihb =>
    refine ⟨?_, ?_⟩
    · intro S ρ env m gk gb k r L ks cc h hw
      simp only [codeT, cond_false] at h
      split at h
      · rename_i f x q hf
        unfold fillS at hf
        split at hf
        · rename_i f' rest hfx
          split at hf
          · rename_i x' ti si hx hti hsi
            split at hf
            · rename_i e hdd
              split at hf
              · rename_i ei hei
                split at hf
                · rename_i z hz
                  rw [cond_eq_ite] at hf
                  split at hf
                  · rename_i hcond
                    simp only [Option.some.injEq, Prod.mk.injEq] at hf
                    obtain ⟨rfl, rfl, rfl⟩ := hf
                    simp only [Bool.and_eq_true, Bool.not_eq_true'] at hcond
                    obtain ⟨⟨c1, c2⟩, c3⟩ := hcond
                    have c1 := Nat.eq_of_beq_eq_true c1
                    have c3 := Nat.eq_of_beq_eq_true c3
                    obtain ⟨tok, htt⟩ := hT _ _ hti
                    obtain ⟨etok, het⟩ := hT _ _ hei
                    obtain ⟨stok, hst⟩ := hT _ _ hsi
                    have hd := tok.d
                    rw [htt, hdd] at hd
                    have hu : P.underlying f'.ty = some (.slice e) := hd
                    have hsz := etok.sz
                    rw [het, c1] at hsz
                    have hby := etok.by_
                    rw [het] at hby
                    have hesz := stok.sz
                    rw [hst, c3] at hesz
                    obtain ⟨zv, hz1, hz2, _, _⟩ := etok.z _ hz
                    rw [het] at hz1
                    obtain ⟨v1, g1, g2, _⟩ := cc.opA hx
                    obtain ⟨y, L', kn, bl, e2, e3, e4, e5⟩ := emit_ok cc h hw
                    simp only [guardO, E.ev, ← g2] at e2
                    unfold makeK at e2
                    split at e2
                    · rename_i k1 n1 k2 n2 e6 e7
                      rw [e6] at e7
                      simp only [V.int.injEq] at e7
                      obtain ⟨rfl, rfl⟩ := e7
                      rw [erA_int e6] at g1
                      split at e2
                      · rename_i hcc
                        simp only [Option.some.injEq] at e2
                        obtain ⟨X, rfl⟩ := fillX_form hfx
                        refine aw_fill hfx hu hsz hesz hz1 (by rw [hz2]; rfl) hby cc.n g1 hcc.1 hcc.2.2.1 hcc.2.2.2 ?_
                        have cn : Conc N gk gb { S.wit (S.nv + 1) kn bl with slots := (f'.b, .val (.v S.nv)) :: (S.wit (S.nv + 1) kn bl).slots.filter (fun p => !hasN f'.D p.1) } (ext ρ S.nv y) (fillEnv env f' (List.replicate n1.toNat (.int .u8 f'.c))) m := by
                          refine ⟨e5.n, fun t s hs => ?_, e5.boxes, e5.blen, e5.binj, e5.blt, e5.kinj, e5.klt, e5.known, e5.bools, e5.own⟩
                          simp only [SS.look, assoc] at hs
                          by_cases htb : f'.b = t
                          · subst htb
                            rw [show Nat.beq f'.b f'.b = true from Nat.beq_refl _] at hs
                            simp only [cond_true, Option.some.injEq] at hs
                            subst hs
                            have hbN : f'.b < N := (fillX_lt hfx).2 _ (fillX_lt hfx).1
                            refine ⟨hbN, ?_, Nat.ble_eq_true_of_le (Nat.le_refl _)⟩
                            show V.erA (fillEnv env f' _ |>.f f'.b) = ext ρ S.nv y S.nv
                            rw [ext_at, ← e2]
                            simp [fillEnv, V.erA, erAs_map]
                          · have hbt : Nat.beq f'.b t = false := by
                              cases hq : Nat.beq f'.b t with
                              | false => rfl
                              | true => exact absurd (Nat.eq_of_beq_eq_true hq) htb
                            rw [hbt] at hs
                            simp only [cond_false] at hs
                            have hnD := assoc_filterP (f := fun t => !hasN f'.D t) hs
                            have hold := assoc_filterKey (f := fun t => !hasN f'.D t) hs
                            have htD : t ∉ f'.D := fun hm => by
                              have : hasN f'.D t = true := by
                                unfold hasN
                                rw [List.any_eq_true]
                                exact ⟨t, hm, Nat.beq_refl t⟩
                              rw [this] at hnD; simp at hnD
                            obtain ⟨q1, q2, q3⟩ := e5.slots t s hold
                            refine ⟨q1, ?_, q3⟩
                            show RelSV _ _ _ _ s ((fillEnv env f' _).f t)
                            simp only [fillEnv]
                            rw [if_neg (fun e => htb e.symm), if_neg htD]
                            exact q2
                        exact AW.mono (ihb.2 X rest rfl cn e3 e4) fun e s' hq => Way.via (pre := []) hq (agree_ext ρ S.nv y) (Nat.le_succ _) rfl
                      · simp at e2
                    · simp at e2
                  · simp at hf
                · simp at hf
              · simp at hf
            · simp at hf
          · simp at hf
        · simp at hf
      · refine aw_seq (AW.mono (codeX_ok hT hm hS hp a cc h hw) fun e s' hq => ?_)
        cases e with
        | normal =>
          obtain ⟨S', ρ', L', gk', gb', pre, h1, h2, h3, h4, h5, h6⟩ := hq.out
          exact AW.mono (ihb.1 h3 h1 h2) fun e s'' hq => hq.via h4 h5 h6
        | _ => exact hq
    · intro X rest he S ρ env m gk gb k r L ks cc h hw
      simp only [Code.seq.injEq] at he
      obtain ⟨rfl, rfl⟩ := he
      simp only [codeT, cond_true] at h
      exact ihb.1 cc h hw
  | _ =>
    refine ⟨?_, fun X rest he => by simp at he⟩
    intro S ρ env m gk gb k r L ks cc h hw
    simp only [codeT, cond_false] at h
    exact codeX_ok hT hm hS hp _ cc h hw

/-! ### A function -/
/-- A FUNCTION THAT ONLY READS. -/
theorem pure_okA {f : FuncId} {fn : Func} {c : Code} (hf : P.funcs[f]? = some fn) (hb : fn.body = some c) {args : List V} {v : V}
    (hn : args.length ≤ fn.ntmps) (h : AW P c ⟨entry fn.ntmps args, empty⟩ (fun e s => (e = .normal ∨ e = .ret) ∧ ∃ v0, resV P fn.results.toList s = some v0 ∧ v0.erA = v))
    (ha : plains args = true) (hv : v.plain = true) (m : Hp) : CallOk P f args m v m := by
  intro κ w xs k ra
  have ra0 : Reps (bare κ) w.heap args xs := reps_plain (κ := κ) (κ' := bare κ) (fun _ => Nat.le_refl _) ra ha
  refine calls_of_wp hf hb (h (bare κ) w _ (bare_mem k) (envOk_entry ra0 hn) _ fun e s κ1 w1 a1 hq hx hr => ?_)
  obtain ⟨he, v0, hv0, hv1⟩ := hq
  obtain ⟨x, hx1, hx2⟩ := resV_run hx.mem hr hv0
  obtain ⟨κ', l, k', hhw⟩ := frame_back k hx
  have hR : Rep κ' w1.heap v x := rep_plain (κ := κ1) (fun b => by rw [hhw]; exact Nat.le_refl _) (by rw [← hv1]; exact rep_erA hx2) hv
  have fin : a1.defers = [] ∧ ∃ v', (results fn a1.tmps).run P w1 = .ok v' w1 ∧ ∃ x' κ', Ending.returned v' = .returned x' ∧ Ext κ w m κ' w1 m ∧ Rep κ' w1.heap v x' :=
    ⟨hr.1, x, hx1, x, κ', rfl, l.ext k' (Nat.le_refl _), hR⟩
  rcases he with rfl | rfl
  · exact fin
  · exact fin

theorem retX_wp {as : List A} {S : SS} {L : L} {ρ : Nat → V} {ks : List (List V → Prop)} (h : retX tt [] as S = some L) (hw : L.wp p Q S.nv ρ ks) : Q (pack (as.map (A.den ρ))) := by
  match as, h with
  | [], h => simp only [retX, Option.some.injEq] at h; subst h; exact hw
  | [a], h => simp only [retX, Option.some.injEq] at h; subst h; exact hw
  | a :: b :: as, h => simp only [retX, Option.some.injEq] at h; subst h; exact hw

include hT in
theorem retX_ok : ∀ {rs : List ResultVar} {as : List A} {S : SS} {L : L} {ρ : Nat → V} {ks : List (List V → Prop)} {gk : Nat → Option Nat} {gb : List Nat} {env : Env} {m : Hp}, Conc N gk gb S ρ env m → retX tt rs as S = some L → L.wp p Q S.nv ρ ks → as.all (A.below S.nv) = true →
    ∃ vs, resVs P env m.H rs = some vs ∧ Q (pack (as.map (A.den ρ) ++ vs.map V.erA))
  | [], as, S, L, ρ, ks, gk, gb, env, m, c, h, hw, hb => ⟨[], rfl, by simpa using retX_wp h hw⟩
  | .tmp t :: r, as, S, L, ρ, ks, gk, gb, env, m, c, h, hw, hb => by
    simp only [retX] at h
    split at h
    · rename_i a ha
      obtain ⟨s, h1, h2⟩ := Option.bind_eq_some_iff.1 ha
      obtain ⟨ht, hr, hbel⟩ := c.slots t s h1
      obtain ⟨vs, h3, h4⟩ := retX_ok c h hw (by rw [List.all_append, hb]; simp [below_a hbel h2])
      refine ⟨env.f t :: vs, ?_, ?_⟩
      · simp only [resVs, Env.get]
        rw [if_pos (by rw [c.n]; exact ht), h3]
      · simp only [List.map_append, List.map_cons, List.map_nil, List.append_assoc, List.singleton_append] at h4
        rw [List.map_cons, rel_a hr h2]; exact h4
    · simp at h
  | .cell t ty :: r, as, S, L, ρ, ks, gk, gb, env, m, c, h, hw, hb => by
    simp only [retX] at h
    split at h
    · rename_i b off ti h1 hti
      obtain ⟨tok, htt⟩ := hT ty ti hti
      obtain ⟨ht, hr, hbel⟩ := c.slots t _ h1
      obtain ⟨l, hl, hv⟩ := hr.1 trivial
      split at h
      · rename_i cells hbx
        obtain ⟨l', cs, e0, e1, e2⟩ := c.boxes b cells hbx
        rw [hl] at e0
        simp only [Option.some.injEq] at e0
        subst e0
        obtain ⟨v, m', s, S', ρ', L', gk', gb', ⟨rfl, q1⟩, q2, q3, q4, q5, q6, q7, q8, q9⟩ := loadX_ok c tok htt (g := none) ⟨rfl, fun _ _ h => by simp at h⟩ e2 (o := loadT P ty (cs.drop off)) h hw (fun _ => rfl)
        simp only at q2
        split at q2
        · rename_i a ha
          obtain ⟨vs, h3, h4⟩ := retX_ok q4 q2 q3 (by rw [List.all_append, all_below_mono hb q8]; simp [below_a q6 ha])
          refine ⟨v :: vs, ?_, ?_⟩
          · simp only [resVs, Env.get]
            rw [if_pos (by rw [c.n]; exact ht), h3, hv]
            simp only [loadV, e1]
            have q1' : loadT P ty (cs.drop off) = some v := q1
            rw [q1']; rfl
          · simp only [List.map_append, List.map_cons, List.map_nil, List.append_assoc, List.singleton_append, map_den_agree q7 hb] at h4
            rw [List.map_cons, rel_a q5 ha]; exact h4
        · simp at q2
      · simp at h
    · simp at h

theorem pack_res {vs : List V} {s : St} {rs : List ResultVar} (h : resVs P s.env s.m.H rs = some vs) : ∃ v0, resV P rs s = some v0 ∧ v0.erA = pack (vs.map V.erA) := by
  unfold resV
  rw [h]
  cases vs with
  | nil => exact ⟨.tup [], rfl, rfl⟩
  | cons a vs =>
    cases vs with
    | nil => exact ⟨a, rfl, rfl⟩
    | cons b vs => exact ⟨.tup (a :: b :: vs), rfl, by simp [pack, V.erA, erAs_map]⟩

theorem argSlots_look : ∀ {n i t : Nat} {s : SV}, assoc (argSlots i n) t = some s → i ≤ t ∧ t < i + n ∧ s = .val (.v t)
  | 0, i, t, s, h => by simp [argSlots, assoc] at h
  | n + 1, i, t, s, h => by
    simp only [argSlots, assoc] at h
    cases hb : Nat.beq i t with
    | true =>
      rw [hb] at h
      simp only [cond_true, Option.some.injEq] at h
      have := Nat.eq_of_beq_eq_true hb
      subst this
      exact ⟨Nat.le_refl _, by omega, h.symm⟩
    | false =>
      rw [hb] at h
      obtain ⟨h1, h2, h3⟩ := argSlots_look (by simpa using h)
      exact ⟨by omega, by omega, h3⟩

/-- The names at a function's entry. -/
def args0 (args : List V) : Nat → V := fun i => match args[i]? with | some v => v | none => .undef

/-- What is to show of a function, as it is told in the small language. -/
def FunWp (tt : TT) (p : PT) (N : Nat) (orc : List (OK × Vars)) (rs : List ResultVar) (c : Code) (args : List V) (Q : V → Prop) : Prop :=
  match funX tt N orc rs args.length c with
  | some L => L.wp p Q args.length (args0 args) []
  | none => False

include hT hm hS hp in
theorem fun_ok {f : FuncId} {fn : Func} {c : Code} (hf : P.funcs[f]? = some fn) (hb : fn.body = some c) (orc : List (OK × Vars)) {args : List V} {v : V} (hn : args.length ≤ fn.ntmps)
    (hw : FunWp tt p fn.ntmps orc fn.results.toList c args (fun r => r = v)) (ha : canos args = true) (hv : v.cano = true) (m : Hp) : CallOk P f args m v m := by
  unfold FunWp at hw
  split at hw
  · rename_i L hL
    obtain ⟨hpl, her⟩ := canos_plain ha
    refine pure_okA hf hb hn ?_ hpl (cano_plain hv).1 m
    have c0 : Conc fn.ntmps (fun _ => none) [] ⟨argSlots 0 args.length, [], [], [], [], args.length, 0, 0, 0⟩ (args0 args) (entry fn.ntmps args) empty := by
      refine ⟨rfl, fun t s hs => ?_, fun b cells hb => by simp at hb, rfl, fun b b' l h => by simp at h, fun l h => by simp at h, fun k k' i h => by simp at h, fun k i h => by simp at h, fun i n h => by simp [assoc] at h, fun i h => by simp at h, fun b h => absurd h (Nat.not_lt_zero _)⟩
      obtain ⟨h1, h2, rfl⟩ := argSlots_look hs
      rw [Nat.zero_add] at h2
      refine ⟨by omega, ?_, Nat.ble_eq_true_of_le h2⟩
      show V.erA (args.getD t .undef) = args0 args t
      unfold args0
      rw [List.getD_eq_getElem?_getD, List.getElem?_eq_getElem h2]
      have := (canos_iff.1 ha) _ (List.getElem_mem h2)
      exact (cano_plain this).2
    refine AW.mono ((codeT_ok hT hm hS hp c).1 c0 hL hw) fun e s hq => ?_
    have fin : ∀ {S0 : SS} {env : Env} {m : Hp}, Left p (fun r => r = v) fn.ntmps (args0 args) S0 [] (retX tt fn.results.toList []) env m → ∃ v0, resV P fn.results.toList ⟨env, m⟩ = some v0 ∧ v0.erA = v := fun hl => by
      obtain ⟨S', ρ', L', gk', gb', pre, e1, e2, e3, e4, e5, e6⟩ := hl.out
      obtain ⟨vs, q1, q2⟩ := retX_ok hT e3 e1 e2 rfl
      obtain ⟨v0, q3, q4⟩ := pack_res (P := P) (s := ⟨_, _⟩) q1
      exact ⟨v0, q3, by rw [q4]; simpa using q2⟩
    cases e with
    | normal => exact ⟨.inl rfl, fin hq⟩
    | ret => exact ⟨.inr rfl, fin hq⟩
    | exit id => obtain ⟨kx, h1, _⟩ := hq; simp [exOf] at h1
    | _ => exact hq.elim
  · exact hw.elim

end
end Go.Fbs

/- A function that is led to boxes. -/
namespace Go.Fbs

def wordsOk : List AK → List V → Bool
  | [], [] => true
  | .v :: r, _ :: ws => wordsOk r ws
  | .b _ ks :: r, .agg cs :: ws => cs.all sc && shapeC ks cs && wordsOk r ws
  | _, _ => false

/-- What is there at the function's entry. -/
structure EntryOk (gk : Nat → Option Nat) (gb : List Nat) (ρ : Nat → V) (T : List (Nat × Nat)) (nv : Nat) (as : List AK) (words : List V) (i b q : Nat) : Prop where
  len : (aIn b q as words).1.length = as.length
  hlen : (aIn b q as words).2.1.length = (boxKs as).length
  tlen : (aIn b q as words).2.2.length = grsN (boxKs as)
  slots : ∀ t s, assoc (entrySlots i b as) t = some s → i ≤ t ∧ t < i + as.length ∧ ∃ v, (aIn b q as words).1[t - i]? = some v ∧ ((s = .val (.v t) ∧ v = ρ t) ∨ ∃ b' off, s = .ptr b' off none ∧ v = .ptr b' off ∧ b ≤ b' ∧ b' < b + (boxKs as).length)
  boxes : ∀ (j : Nat) cells, (entryBoxes i q as)[j]? = some (some cells) → ∃ cs, (aIn b q as words).2.1[j]? = some (.cells cs) ∧ Cells ρ gk gb T nv cells cs
  blen : (entryBoxes i q as).length = (boxKs as).length
  known : ∀ t n, assoc (entryKnown i as) t = some n → i ≤ t ∧ t < i + as.length ∧ KnownV n (ρ t)

theorem entry_in {gk : Nat → Option Nat} {gb : List Nat} {ρ : Nat → V} {T : List (Nat × Nat)} {nv : Nat} : ∀ {as : List AK} {words : List V} {i b q : Nat}, wordsOk as words = true → boxedOk as = true → canos words = true → (∀ (j : Nat) w, words[j]? = some w → ρ (i + j) = w) →
    i + as.length ≤ nv → (∀ (j : Nat) x, (aIn b q as words).2.2[j]? = some x → T[q + j]? = some x) → (∀ j, j < grsN (boxKs as) → gk (q + j) = some (q + j)) → EntryOk gk gb ρ T nv as words i b q
  | [], [], i, b, q, hw, hb, hc, hρ, hn, hT, hg => ⟨rfl, rfl, rfl, fun t s h => by simp [entrySlots, assoc] at h, fun j cells h => by simp [entryBoxes] at h, rfl, fun t n h => by simp [entryKnown, assoc] at h⟩
  | .v :: r, w :: ws, i, b, q, hw, hb, hc, hρ, hn, hT, hg => by
    simp only [canos, Bool.and_eq_true] at hc
    have ih := entry_in (gk := gk) (gb := gb) (ρ := ρ) (T := T) (nv := nv) (as := r) (words := ws) (i := i + 1) (b := b) (q := q) hw hb hc.2 (fun j w hj => by rw [show i + 1 + j = i + (j + 1) by omega]; exact hρ (j + 1) w (by simpa using hj)) (by simp at hn; omega) hT hg
    refine ⟨by simp [aIn, ih.len], ih.hlen, ih.tlen, fun t s h => ?_, ih.boxes, ih.blen, fun t n h => ?_⟩
    · simp only [entrySlots, assoc] at h
      cases hb : Nat.beq i t with
      | true =>
        rw [hb] at h
        simp only [cond_true, Option.some.injEq] at h
        have := Nat.eq_of_beq_eq_true hb
        subst this
        refine ⟨Nat.le_refl _, by simp, w, by simp [aIn], .inl ⟨h.symm, ?_⟩⟩
        have := hρ 0 w rfl
        simpa using this.symm
      | false =>
        rw [hb] at h
        obtain ⟨h1, h2, v, h3, h4⟩ := ih.slots t s (by simpa using h)
        refine ⟨by omega, by simp; omega, v, ?_, h4⟩
        rw [show t - i = (t - (i + 1)) + 1 by omega]
        simpa [aIn] using h3
    · obtain ⟨h1, h2, h3⟩ := ih.known t n h
      exact ⟨by omega, by simp; omega, h3⟩
  | .b off ks :: r, w :: ws, i, b, q, hw, hb, hc, hρ, hn, hT, hg => by
    cases w
    case agg cs =>
     simp only [wordsOk, Bool.and_eq_true] at hw
     obtain ⟨⟨hsc, hsh⟩, hw⟩ := hw
     simp only [boxedOk, Bool.and_eq_true] at hb
     simp only [canos, Bool.and_eq_true, V.cano] at hc
     obtain ⟨c1, c2, c3⟩ := cIn_len (q := q) hsh
     have hρ0 : ρ i = .agg cs := by have := hρ 0 _ rfl; simpa using this
     have ih := entry_in (gk := gk) (gb := gb) (ρ := ρ) (T := T) (nv := nv) (as := r) (words := ws) (i := i + 1) (b := b + 1) (q := q + grN ks) hw hb.2 hc.2 (fun j w hj => by rw [show i + 1 + j = i + (j + 1) by omega]; exact hρ (j + 1) w (by simpa using hj)) (by simp at hn; omega)
       (fun j x hj => by
         have := hT (grN ks + j) x (by
           simp only [aIn]
           rw [List.getElem?_append_right (by omega), c3, show grN ks + j - grN ks = j by omega]
           exact hj)
         rw [show q + grN ks + j = q + (grN ks + j) by omega]; exact this)
       (fun j hj => by
         have := hg (grN ks + j) (by simp only [boxKs, grsN]; omega)
         rw [show q + grN ks + j = q + (grN ks + j) by omega]; exact this)
     refine ⟨by simp only [aIn, c3, List.length_cons, ih.len], by simp only [aIn, c3, List.length_cons, ih.hlen, boxKs], by simp only [aIn, c3, List.length_append, ih.tlen, boxKs, grsN], fun t s h => ?_, fun j cells h => ?_, by simp only [entryBoxes, boxKs, List.length_cons, ih.blen], fun t n h => ?_⟩
     · simp only [entrySlots, assoc] at h
       cases hbt : Nat.beq i t with
       | true =>
         rw [hbt] at h
         simp only [cond_true, Option.some.injEq] at h
         have := Nat.eq_of_beq_eq_true hbt
         subst this
         exact ⟨Nat.le_refl _, by simp, .ptr b off, by simp [aIn], .inr ⟨b, off, h.symm, rfl, Nat.le_refl _, by simp [boxKs]⟩⟩
       | false =>
         rw [hbt] at h
         obtain ⟨h1, h2, v, h3, h4⟩ := ih.slots t s (by simpa using h)
         refine ⟨by omega, by simp; omega, v, ?_, ?_⟩
         · rw [show t - i = (t - (i + 1)) + 1 by omega]
           simpa [aIn, c3] using h3
         · rcases h4 with h4 | ⟨b', off', h5, h6, h7, h8⟩
           · exact .inl h4
           · exact .inr ⟨b', off', h5, h6, by omega, by simp [boxKs]; omega⟩
     · cases j with
       | zero =>
         simp only [entryBoxes, List.getElem?_cons_zero, Option.some.injEq] at h
         subst h
         refine ⟨(cIn q ks cs).1, by simp [aIn], by rw [freshCells_len, c1], fun j s v h1 h2 => ?_⟩
         refine fresh_rel (gk := gk) (r0 := 0) (q0 := 0) (by simp at hn; omega) (fun _ => .inr trivial) hsh (fun j w hj => ⟨?_, ?_⟩) (fun j hj => hg j (by simp only [boxKs, grsN]; omega)) (fun j x hj => hT j x (by
           simp only [aIn]
           rw [List.getElem?_append_left (List.getElem?_eq_some_iff.1 hj).1]; exact hj)) j s v h1 h2
         · rw [hρ0, Nat.zero_add]
           simp only [cellD, V.cells, List.getD_eq_getElem?_getD, hj, Option.getD_some]
         · exact (cano_plain (canos_iff.1 hc.1 w (List.mem_of_getElem? hj))).2
       | succ j =>
         simp only [entryBoxes, List.getElem?_cons_succ] at h
         obtain ⟨cs', h1, h2⟩ := ih.boxes j cells h
         exact ⟨cs', by simpa [aIn, c3] using h1, h2⟩
     · simp only [entryKnown, assoc] at h
       cases hbt : Nat.beq i t with
       | true =>
         rw [hbt] at h
         simp only [cond_true, Option.some.injEq] at h
         have := Nat.eq_of_beq_eq_true hbt
         subst this
         refine ⟨Nat.le_refl _, by simp, ?_⟩
         rw [hρ0, ← h]
         have hpos : 0 < ks.length := Nat.le_of_ble_eq_true hb.1
         refine KnownV_agg hpos ?_
         unfold chkK
         exact if_pos ⟨c2, hsc⟩
       | false =>
         rw [hbt] at h
         obtain ⟨h1, h2, h3⟩ := ih.known t n (by simpa using h)
         exact ⟨by omega, by simp; omega, h3⟩
    all_goals simp [wordsOk] at hw
  | [], _ :: _, _, _, _, hw, _, _, _, _, _, _ => by simp [wordsOk] at hw
  | .v :: _, [], _, _, _, hw, _, _, _, _, _, _ => by simp [wordsOk] at hw
  | .b _ _ :: _, [], _, _, _, hw, _, _, _, _, _, _ => by simp [wordsOk] at hw

section
variable {p : PT} {Q : V → Prop} {N : Nat}
theorem endX_ok : ∀ {kss : List (List CK)} {b : Nat} {ids : List Nat} {as : List A} {S : SS} {ρ : Nat → V} {gk : Nat → Option Nat} {gb : List Nat} {env : Env} {m : Hp} {L : L} {ks : List (List V → Prop)}, Conc N gk gb S ρ env m → (∀ j, j < kss.length → gb[b + j]? = some (b + j)) →
    endX b kss ids as S = some L → L.wp p Q S.nv ρ ks → as.all (A.below S.nv) = true → ∃ outs gs, endB m b kss = some (outs, gs) ∧ Q (.tup (as.map (A.den ρ) ++ outs)) ∧ Owns gs ∧ ∀ i, GA.own i ∈ gs → ∃ k, k ∉ ids ∧ gk k = some i
  | [], b, ids, as, S, ρ, gk, gb, env, m, L, ks, c, hgb, h, hw, hab => by
    simp only [endX, Option.some.injEq] at h
    subst h
    exact ⟨[], [], rfl, by rw [List.append_nil]; exact hw, dist_nil, fun i hi => by simp at hi⟩
  | cks :: kss, b, ids, as, S, ρ, gk, gb, env, m, L, ks, c, hgb, h, hw, hab => by
    simp only [endX] at h
    split at h
    · rename_i cells hbx
      split at h
      · rename_i ws is hci
        cases hc : (onesN is && is.all (fun i => !hasNat ids i)) with
        | false => rw [hc] at h; simp at h
        | true =>
          rw [hc] at h
          simp only [cond_true] at h
          simp only [Bool.and_eq_true] at hc
          obtain ⟨l, cs, e0, e1, e2⟩ := c.boxes b cells hbx
          have hb0 := hgb 0 (by simp)
          rw [Nat.add_zero, e0] at hb0
          simp only [Option.some.injEq] at hb0
          subst hb0
          obtain ⟨gs1, k1, k2, k3, k4⟩ := cellsIn_spec c.kinj hci e2
          obtain ⟨y, L1, kn, bl, g1, g2, g3, g4⟩ := emit_ok c (g := none) h hw
          have hy : y = .agg (ws.map (A.den ρ)) := (aggK_some (show aggK (ws.map (A.den ρ)) = some y from g1)).1
          obtain ⟨outs, gs, h1, h2, h3, h4⟩ := endX_ok (kss := kss) (b := l + 1) g4 (fun j hj => by rw [show l + 1 + j = l + (j + 1) by omega]; exact hgb (j + 1) (by simp; omega)) g2 g3
            (by show (as ++ [A.v S.nv]).all (A.below (S.nv + 1)) = true; rw [List.all_append, all_below_mono hab (Nat.le_succ _)]; simp; exact v_below _)
          refine ⟨.agg (ws.map (A.den ρ)) :: outs, gs1 ++ gs, by simp only [endB, e1, k1, h1], ?_, ?_, fun i hi => ?_⟩
          · have e : (as ++ [A.v S.nv]).map (A.den (ext ρ S.nv y)) ++ outs = as.map (A.den ρ) ++ .agg (ws.map (A.den ρ)) :: outs := by
              rw [List.map_append, map_den_agree (agree_ext ρ S.nv y) hab, List.append_assoc]
              congr 1
              simp only [List.map_cons, List.map_nil, List.singleton_append, List.cons.injEq, and_true]
              show ext ρ S.nv y S.nv = _
              rw [ext_at, hy]
            rw [← e]; exact h2
          · refine dist_append (k3 (onesN_spec hc.1)) h3 fun n hn hm => ?_
            obtain ⟨k, q1, q2⟩ := k2 n hn
            obtain ⟨k', q3, q4⟩ := h4 n hm
            have := c.kinj k k' n q2 q4
            subst this
            exact q3 (List.mem_append_left _ q1)
          · rcases List.mem_append.1 hi with hi | hi
            · obtain ⟨k, q1, q2⟩ := k2 i hi
              refine ⟨k, fun hm => ?_, q2⟩
              have := List.all_eq_true.1 hc.2 k q1
              rw [hasNat_iff.2 hm] at this
              simp at this
            · obtain ⟨k, q1, q2⟩ := h4 i hi
              exact ⟨k, fun hm => q1 (List.mem_append_right _ hm), q2⟩
      · simp at h
    · simp at h
end

section
variable {P : Program} {tt : TT} (hT : ∀ t ti, tiOf tt t = some ti → TOk P ti ∧ ti.t = t) (hm : P.follows .mixedOrders = true)
variable {p : PT} (hS : Sound P (CE tt p)) (hp : Canon tt p) {Q : V → Prop} {N : Nat}

include hT in
theorem retXE_ok {kss : List (List CK)} : ∀ {rs : List ResultVar} {as : List A} {S : SS} {L : L} {ρ : Nat → V} {ks : List (List V → Prop)} {gk : Nat → Option Nat} {gb : List Nat} {env : Env} {m : Hp}, Conc N gk gb S ρ env m → retXE tt kss rs as S = some L → L.wp p Q S.nv ρ ks → as.all (A.below S.nv) = true →
    ∃ vs outs gs, resVs P env m.H rs = some vs ∧ vs.length = rs.length ∧ endB m 0 kss = some (outs, gs) ∧ Owns gs ∧ Q (.tup (as.map (A.den ρ) ++ vs.map V.erA ++ outs))
  | [], as, S, L, ρ, ks, gk, gb, env, m, c, h, hw, hb => by
    simp only [retXE] at h
    cases ho : Nat.beq S.own kss.length with
    | false => rw [ho] at h; simp at h
    | true =>
      rw [ho] at h
      simp only [cond_true] at h
      have ho := Nat.eq_of_beq_eq_true ho
      obtain ⟨outs, gs, h1, h2, h3, _⟩ := endX_ok c (fun j hj => by rw [Nat.zero_add]; exact c.own j (by omega)) h hw hb
      exact ⟨[], outs, gs, rfl, rfl, h1, h3, by simpa using h2⟩
  | .tmp t :: r, as, S, L, ρ, ks, gk, gb, env, m, c, h, hw, hb => by
    simp only [retXE] at h
    split at h
    · rename_i a ha
      obtain ⟨s, h1, h2⟩ := Option.bind_eq_some_iff.1 ha
      obtain ⟨ht, hr, hbel⟩ := c.slots t s h1
      obtain ⟨vs, outs, gs, h3, hl, h5, h6, h4⟩ := retXE_ok c h hw (by rw [List.all_append, hb]; simp [below_a hbel h2])
      refine ⟨env.f t :: vs, outs, gs, ?_, by simp [hl], h5, h6, ?_⟩
      · simp only [resVs, Env.get]
        rw [if_pos (by rw [c.n]; exact ht), h3]
      · simp only [List.map_append, List.map_cons, List.map_nil, List.append_assoc, List.singleton_append] at h4 ⊢
        rw [rel_a hr h2]; exact h4
    · simp at h
  | .cell t ty :: r, as, S, L, ρ, ks, gk, gb, env, m, c, h, hw, hb => by
    simp only [retXE] at h
    split at h
    · rename_i b off ti h1 hti
      obtain ⟨tok, htt⟩ := hT ty ti hti
      obtain ⟨ht, hr, hbel⟩ := c.slots t _ h1
      obtain ⟨l, hl, hv⟩ := hr.1 trivial
      split at h
      · rename_i cells hbx
        obtain ⟨l', cs, e0, e1, e2⟩ := c.boxes b cells hbx
        rw [hl] at e0
        simp only [Option.some.injEq] at e0
        subst e0
        obtain ⟨v, m', s, S', ρ', L', gk', gb', ⟨rfl, q1⟩, q2, q3, q4, q5, q6, q7, q8, q9⟩ := loadX_ok c tok htt (g := none) ⟨rfl, fun _ _ h => by simp at h⟩ e2 (o := loadT P ty (cs.drop off)) h hw (fun _ => rfl)
        simp only at q2
        split at q2
        · rename_i a ha
          obtain ⟨vs, outs, gs, h3, hl', h5, h6, h4⟩ := retXE_ok q4 q2 q3 (by rw [List.all_append, all_below_mono hb q8]; simp [below_a q6 ha])
          refine ⟨v :: vs, outs, gs, ?_, by simp [hl'], h5, h6, ?_⟩
          · simp only [resVs, Env.get]
            rw [if_pos (by rw [c.n]; exact ht), h3, hv]
            simp only [loadV, e1]
            have q1' : loadT P ty (cs.drop off) = some v := q1
            rw [q1']; rfl
          · simp only [List.map_append, List.map_cons, List.map_nil, List.append_assoc, List.singleton_append, map_den_agree q7 hb] at h4 ⊢
            rw [rel_a q5 ha]; exact h4
        · simp at q2
      · simp at h
    · simp at h

/-- What is to show of a function that is led to boxes. -/
def FunWpE (tt : TT) (p : PT) (N : Nat) (orc : List (OK × Vars)) (rs : List ResultVar) (sg : Sig) (c : Code) (words : List V) (Q : V → Prop) : Prop :=
  match funXE tt N orc rs sg c with
  | some L => L.wp p Q sg.as.length (args0 words) []
  | none => False

theorem wordsOk_len : ∀ {as : List AK} {ws : List V}, wordsOk as ws = true → ws.length = as.length
  | [], [], _ => rfl
  | .v :: r, _ :: ws, h => by simp [wordsOk_len (as := r) (ws := ws) h]
  | .b _ _ :: r, w :: ws, h => by
    cases w
    case agg cs =>
      simp only [wordsOk, Bool.and_eq_true] at h
      simp [wordsOk_len (as := r) (ws := ws) h.2]
    all_goals simp [wordsOk] at h
  | [], _ :: _, h => by simp [wordsOk] at h
  | .v :: _, [], h => by simp [wordsOk] at h
  | .b _ _ :: _, [], h => by simp [wordsOk] at h

include hT hm hS hp in
theorem fun_okE {f : FuncId} {fn : Func} {c : Code} (hf : P.funcs[f]? = some fn) (hb : fn.body = some c) (orc : List (OK × Vars)) {sg : Sig} {words rs : List V} (hn : sg.as.length ≤ fn.ntmps) (hres : fn.results.toList.length = sg.nres)
    (hw : FunWpE tt p fn.ntmps orc fn.results.toList sg c words (fun r => r = .tup rs)) (hok : wordsOk sg.as words = true) (ha : canos words = true) (hr : canos rs = true) : Callee P f sg words rs := by
  unfold FunWpE at hw
  split at hw
  · rename_i L hL
    unfold funXE at hL
    cases hbo : boxedOk sg.as with
    | false => rw [hbo] at hL; simp at hL
    | true =>
      rw [hbo] at hL
      simp only [cond_true] at hL
      have hwl := wordsOk_len hok
      intro κ w xs k ra
      generalize hm0 : (⟨(aIn 0 0 sg.as words).2.1, (aIn 0 0 sg.as words).2.2⟩ : Hp) = m0 at k ⊢
      have hρ : ∀ (j : Nat) w, words[j]? = some w → args0 words (0 + j) = w := fun j w hj => by rw [Nat.zero_add]; unfold args0; rw [hj]
      have en : EntryOk (fun k => if k < grsN (boxKs sg.as) then some k else none) (List.range (boxKs sg.as).length) (args0 words) m0.T sg.as.length sg.as words 0 0 0 :=
        entry_in hok hbo ha hρ (by omega) (fun j x hj => by rw [Nat.zero_add, ← hm0]; exact hj) (fun j hj => by rw [Nat.zero_add]; exact if_pos hj)
      have range_get : ∀ {n b : Nat}, b < n → (List.range n)[b]? = some b := fun {n b} h => by rw [List.getElem?_range h]
      have range_eq : ∀ {n b l : Nat}, (List.range n)[b]? = some l → b = l ∧ b < n := fun {n b l} h => by
        have hlt := (List.getElem?_eq_some_iff.1 h).1
        simp only [List.length_range] at hlt
        rw [range_get hlt] at h
        simp only [Option.some.injEq] at h
        exact ⟨h, hlt⟩
      have c0 : Conc fn.ntmps (fun k => if k < grsN (boxKs sg.as) then some k else none) (List.range (boxKs sg.as).length) ⟨entrySlots 0 0 sg.as, entryBoxes 0 0 sg.as, entryKnown 0 sg.as, [], [], sg.as.length, grsN (boxKs sg.as), 0, (boxKs sg.as).length⟩ (args0 words) (entry fn.ntmps (aIn 0 0 sg.as words).1) m0 := by
        refine ⟨rfl, fun t s hs => ?_, fun b cells hb => ?_, by rw [List.length_range]; exact en.blen.symm, fun b b' l h1 h2 => by have := (range_eq h1).1; have := (range_eq h2).1; omega, fun l h => ?_, fun k k' i h1 h2 => ?_, fun k i h => ?_, fun i n h => ?_, fun i h => by simp at h, fun b hb => range_get hb⟩
        · obtain ⟨_, h2, v, h3, h4⟩ := en.slots t s hs
          rw [Nat.zero_add] at h2
          rw [Nat.sub_zero] at h3
          have hv : (entry fn.ntmps (aIn 0 0 sg.as words).1).f t = v := by
            show ((aIn 0 0 sg.as words).1).getD t .undef = v
            rw [List.getD_eq_getElem?_getD, h3]; rfl
          refine ⟨by omega, ?_, ?_⟩
          · rw [hv]
            rcases h4 with ⟨rfl, rfl⟩ | ⟨b', off, rfl, rfl, _, h8⟩
            · show (args0 words t).erA = args0 words t
              unfold args0
              split
              · rename_i w hw'
                exact (cano_plain (canos_iff.1 ha w (List.mem_of_getElem? hw'))).2
              · rfl
            · exact ⟨fun _ => ⟨b', range_get (by omega), rfl⟩, fun h => absurd trivial h⟩
          · rcases h4 with ⟨rfl, _⟩ | ⟨b', off, rfl, _⟩
            · exact Nat.ble_eq_true_of_le h2
            · rfl
        · obtain ⟨cs, h1, h2⟩ := en.boxes b cells hb
          have hbl : b < (boxKs sg.as).length := by rw [← en.blen]; exact (List.getElem?_eq_some_iff.1 hb).1
          exact ⟨b, cs, range_get hbl, by rw [← hm0]; exact h1, h2⟩
        · rw [List.mem_range] at h
          rw [← hm0]
          simp only [en.hlen]; exact h
        · split at h1 <;> split at h2 <;> simp at h1 h2 <;> omega
        · split at h
          · rename_i hk
            simp only [Option.some.injEq] at h
            subst h
            refine ⟨hk, ?_⟩
            rw [← hm0]
            simp only [en.tlen]; exact hk
          · simp at h
        · obtain ⟨_, h2, h3⟩ := en.known i n h
          rw [Nat.zero_add] at h2
          exact ⟨h2, h3⟩
      have h0 : AW P c ⟨entry fn.ntmps (aIn 0 0 sg.as words).1, m0⟩ (fun e s => (e = .normal ∨ e = .ret) ∧ ∃ v0, resV P fn.results.toList s = some v0 ∧ v0.erA = pack (rs.take sg.nres) ∧ EndOk s.m (boxKs sg.as) (rs.drop sg.nres)) := by
        refine AW.mono (codeX_ok hT hm hS hp c c0 hL hw) fun e s hq => ?_
        have fin : ∀ {S0 : SS} {env : Env} {m : Hp}, Left p (fun r => r = .tup rs) fn.ntmps (args0 words) S0 [] (retXE tt (boxKs sg.as) fn.results.toList []) env m → ∃ v0, resV P fn.results.toList ⟨env, m⟩ = some v0 ∧ v0.erA = pack (rs.take sg.nres) ∧ EndOk m (boxKs sg.as) (rs.drop sg.nres) := fun hl => by
          obtain ⟨S', ρ', L', gk', gb', pre, e1, e2, e3, e4, e5, e6⟩ := hl.out
          obtain ⟨vs, outs, gs, q1, q2, q3, q4, q5⟩ := retXE_ok hT e3 e1 e2 rfl
          simp only [List.map_nil, List.nil_append, V.tup.injEq] at q5
          have hlen : (vs.map V.erA).length = sg.nres := by rw [List.length_map, q2, hres]
          have t1 : rs.take sg.nres = vs.map V.erA := by rw [← q5, ← hlen, List.take_left]
          have t2 : rs.drop sg.nres = outs := by rw [← q5, ← hlen, List.drop_left]
          obtain ⟨v0, q6, q7⟩ := pack_res (P := P) (s := ⟨_, _⟩) q1
          exact ⟨v0, q6, by rw [q7, t1], ⟨gs, by rw [t2]; exact q3, q4⟩⟩
        cases e with
        | normal => exact ⟨.inl rfl, fin hq⟩
        | ret => exact ⟨.inr rfl, fin hq⟩
        | exit id => obtain ⟨kx, h1, _⟩ := hq; simp [exOf] at h1
        | _ => exact hq.elim
      refine calls_of_wp hf hb (h0 κ w _ k (envOk_entry ra (by rw [en.len]; exact hn)) _ fun e s κ1 w1 a1 hq hx hr => ?_)
      obtain ⟨he, v0, hv0, hv1, hend⟩ := hq
      obtain ⟨x, hx1, hx2⟩ := resV_run hx.mem hr hv0
      have fin : a1.defers = [] ∧ ∃ v', (results fn a1.tmps).run P w1 = .ok v' w1 ∧ ∃ x' κ' m1, Ending.returned v' = .returned x' ∧ Ext κ w m0 κ' w1 m1 ∧ Rep κ' w1.heap (pack (rs.take sg.nres)) x' ∧ EndOk m1 (boxKs sg.as) (rs.drop sg.nres) :=
        ⟨hr.1, x, hx1, x, κ1, s.m, rfl, hx, by rw [← hv1]; exact rep_erA hx2, hend⟩
      rcases he with rfl | rfl
      · exact fin
      · exact fin
  · exact hw.elim
end
end Go.Fbs

/- What is said of a function, in the small language; tables of such. -/
namespace Go.Fbs

/-- A function's body. -/
def cB (f : Func) : Code :=
  match f.body with
  | some c => c
  | none => .skip

theorem tiOf_mem : ∀ {ts : List TI} {t : TypeId} {ti : TI}, tiOfL ts t = some ti → ti ∈ ts ∧ ti.t = t
  | [], t, ti, h => by simp [tiOfL] at h
  | i :: r, t, ti, h => by
    simp only [tiOfL] at h
    cases hb : Nat.beq i.t t with
    | true =>
      rw [hb] at h
      simp only [cond_true, Option.some.injEq] at h
      subst h
      exact ⟨List.mem_cons_self, Nat.eq_of_beq_eq_true hb⟩
    | false =>
      rw [hb] at h
      obtain ⟨h1, h2⟩ := tiOf_mem h
      exact ⟨List.mem_cons_of_mem _ h1, h2⟩

section
variable {P : Program}
theorem TOk.nil : ∀ ti ∈ ([] : List TI), TOk P ti := fun _ h => by simp at h
theorem TOk.cons {i : TI} {r : List TI} (h : TOk P i) (hr : ∀ ti ∈ r, TOk P ti) : ∀ ti ∈ i :: r, TOk P ti := fun ti h' => by
  rcases List.mem_cons.1 h' with rfl | h'
  · exact h
  · exact hr ti h'
theorem TOk.tab {tt : TT} (h : ∀ ti ∈ tt.ts, TOk P ti) : ∀ t ti, tiOf tt t = some ti → TOk P ti ∧ ti.t = t := fun _ _ h' => ⟨h _ (tiOf_mem h').1, (tiOf_mem h').2⟩
/-- A type: of several cells; of one; without a zero. -/
theorem TOk.ofA {t : TypeId} {d : TD} {sz by_ : Nat} {z : List V} {eq : Bool} (hd : tdOk P t d) (hs : szT P t = some sz) (ha : aggT P t = some true) (hb : bytesT P t = some by_) (hz : zeroT P t = some (.agg z)) (he : eq = true → P.stoodInHeld t = false ∧ P.eqGuardType P.depth t = false) :
    TOk P ⟨t, d, sz, true, by_, some z, eq⟩ := ⟨hd, hs, ha, hb, fun z' h => by simp only [Option.some.injEq] at h; subst h; exact ⟨_, hz, rfl, fun _ => rfl, fun h => by simp at h⟩, he⟩
theorem TOk.ofS {t : TypeId} {d : TD} {sz by_ : Nat} {z : V} {eq : Bool} (hd : tdOk P t d) (hs : szT P t = some sz) (ha : aggT P t = some false) (hb : bytesT P t = some by_) (hz : zeroT P t = some z) (hc : z.cells = [z]) (he : eq = true → P.stoodInHeld t = false ∧ P.eqGuardType P.depth t = false) :
    TOk P ⟨t, d, sz, false, by_, some [z], eq⟩ := ⟨hd, hs, ha, hb, fun z' h => by simp only [Option.some.injEq] at h; subst h; exact ⟨_, hz, hc, fun h => by simp at h, fun _ => rfl⟩, he⟩
theorem TOk.ofN {t : TypeId} {d : TD} {sz by_ : Nat} {a : Bool} {eq : Bool} (hd : tdOk P t d) (hs : szT P t = some sz) (ha : aggT P t = some a) (hb : bytesT P t = some by_) (he : eq = true → P.stoodInHeld t = false ∧ P.eqGuardType P.depth t = false) :
    TOk P ⟨t, d, sz, a, by_, none, eq⟩ := ⟨hd, hs, ha, hb, fun z' h => by simp at h, he⟩
theorem noEq {Q : Prop} : false = true → Q := fun h => by simp at h

/-- What F answers is what a call answers; nothing else is told; it is a plain value. -/
structure SpecL (P : Program) (f : FuncId) (F : Spec) : Prop where
  enter : Enter P f
  call : ∀ args v, F args = some v → (∀ m, CallOk P f args m v m) ∧ v.erA = v

/-- The same, of a function that is led to boxes. -/
structure SpecE (P : Program) (f : FuncId) (sg : Sig) (F : Spec) : Prop where
  enter : Enter P f
  call : ∀ words v, F words = some v → ∃ rs, v = .tup rs ∧ sg.nres ≤ rs.length ∧ canos words = true ∧ canos rs = true ∧ shapeB (boxKs sg.as) (rs.drop sg.nres) = true ∧ Callee P f sg words rs

/-- A table that holds. -/
def TabOk (P : Program) (tt : TT) (T : List (FuncId × Spec)) : Prop := ∀ f args v, tab T f args = some v →
  v.erA = v ∧ (Nat.blt f EOFF = true → Enter P f ∧ ∀ m, CallOk P f args m v m) ∧
  ∀ g sg, sigOf tt f = some (g, sg) → Enter P g ∧ ∃ rs, v = .tup rs ∧ sg.nres ≤ rs.length ∧ canos args = true ∧ canos rs = true ∧ shapeB (boxKs sg.as) (rs.drop sg.nres) = true ∧ Callee P g sg args rs

variable {tt : TT}
theorem TabOk.nil : TabOk P tt [] := fun f args v h => by simp [tab] at h
theorem TabOk.cons {g : FuncId} {F : Spec} {r : List (FuncId × Spec)} (h : SpecL P g F) (hr : TabOk P tt r) (hg : Nat.blt g EOFF = true := by rfl) : TabOk P tt ((g, F) :: r) := fun f args v hv => by
  simp only [tab] at hv
  cases hb : Nat.beq f g with
  | true =>
    rw [hb] at hv
    have := Nat.eq_of_beq_eq_true hb
    subst this
    obtain ⟨h1, h2⟩ := h.call args v hv
    refine ⟨h2, fun _ => ⟨h.enter, h1⟩, fun g' sg e => ?_⟩
    have h3 : f < EOFF := Nat.le_of_ble_eq_true hg
    unfold sigOf at e
    cases hle : Nat.ble EOFF f with
    | true => exact absurd h3 (Nat.not_lt.2 (Nat.le_of_ble_eq_true hle))
    | false => rw [hle] at e; simp at e
  | false => rw [hb] at hv; exact hr f args v hv
theorem canos_er {l : List V} (h : canos l = true) : (V.tup l).erA = .tup l := by
  have := (canos_plain h).2
  simp only [V.erA, this]
theorem TabOk.consE {e g : FuncId} {sg : Sig} {F : Spec} {r : List (FuncId × Spec)} (h : SpecE P g sg F) (hr : TabOk P tt r) (hs : sigOf tt e = some (g, sg) := by rfl) : TabOk P tt ((e, F) :: r) := fun f args v hv => by
  simp only [tab] at hv
  cases hb : Nat.beq f e with
  | true =>
    rw [hb] at hv
    have := Nat.eq_of_beq_eq_true hb
    subst this
    obtain ⟨rs, rfl, h1, h2, h3, h4, h5⟩ := h.call args v hv
    refine ⟨canos_er h3, fun hl => ?_, fun g' sg' e' => ?_⟩
    · unfold sigOf at hs
      cases hle : Nat.ble EOFF f with
      | true =>
        have h6 : f < EOFF := Nat.le_of_ble_eq_true hl
        exact absurd h6 (Nat.not_lt.2 (Nat.le_of_ble_eq_true hle))
      | false => rw [hle] at hs; simp at hs
    · rw [hs] at e'
      simp only [Option.some.injEq, Prod.mk.injEq] at e'
      obtain ⟨rfl, rfl⟩ := e'
      exact ⟨h.enter, rs, rfl, h1, h2, h3, h4, h5⟩
  | false => rw [hb] at hv; exact hr f args v hv

theorem pack_plain {l : List V} (h : canos l = true) : (pack l).plain = true := by
  have : (pack l).cano = true := by
    unfold pack
    split
    · simp only [canos, Bool.and_eq_true] at h; exact h.1
    · exact h
  exact (cano_plain this).1

theorem TabOk.canon {T : List (FuncId × Spec)} (h : TabOk P tt T) : Canon tt (tab T) := fun f args v hv =>
  ⟨(h f args v hv).1, fun g sg e => let ⟨_, rs, h1, h2, _, _, h3, _⟩ := (h f args v hv).2.2 g sg e; ⟨rs, h1, h2, h3⟩⟩
theorem TabOk.sound {T : List (FuncId × Spec)} (h : TabOk P tt T) : Sound P (CE tt (tab T)) where
  enter := fun f hf => by
    rcases hf with ⟨a, v, hf⟩ | ⟨a, m, r, hf⟩
    · cases hb : Nat.blt f EOFF with
      | false => simp [hb] at hf
      | true => simp only [hb, cond_true] at hf; exact ((h f _ v hf).2.1 hb).1
    · simp only [effE] at hf
      split at hf
      · rename_i e sg hs
        unfold effV at hf
        split at hf
        · split at hf
          · split at hf
            · rename_i rs hF
              exact ((h _ _ _ hF).2.2 f sg (findD_spec hs)).1
            · simp at hf
          · simp at hf
        · simp at hf
      · simp at hf
  pure := fun f args v hf m => by
    intro κ w xs k r
    cases hb : Nat.blt f EOFF with
    | false => simp [hb] at hf
    | true =>
      simp only [hb, cond_true] at hf
      exact ((h f _ v hf).2.1 hb).2 m κ w xs k (reps_erA r)
  eff := fun f args m v m' hf => by
    simp only [effE] at hf
    split at hf
    · rename_i e sg hs
      unfold effV at hf
      split at hf
      · rename_i words ls gs hin
        split at hf
        · rename_i hd
          split at hf
          · rename_i rs hF
            simp only [Option.some.injEq, Prod.mk.injEq] at hf
            obtain ⟨rfl, rfl⟩ := hf
            obtain ⟨_, rs', h1, h2, h3, h4, h5, h6⟩ := (h _ _ _ hF).2.2 f sg (findD_spec hs)
            simp only [V.tup.injEq] at h1
            subst h1
            have hc : canos (rs.take sg.nres) = true := canos_iff.2 fun v hv => canos_iff.1 h4 v (List.mem_of_mem_take hv)
            exact eff_call hin hd.1 hd.2 h3 h4 (pack_plain hc) h6
          · simp at hf
        · simp at hf
      · simp at hf
    · simp at hf

variable (hT : ∀ t ti, tiOf tt t = some ti → TOk P ti ∧ ti.t = t) (hm : P.follows .mixedOrders = true)
include hT hm in
/-- A FUNCTION IS WHAT ITS BODY SAYS. -/
theorem specL_of {f : FuncId} {fn : Func} (hf : P.funcs[f]? = some fn) (hb : fn.body = some (cB fn)) (hname : (fn.name == "runtime.NumGoroutine") = false) {N : Nat} (hN : fn.ntmps = N) {rs : List ResultVar} (hr : fn.results.toList = rs) (n : Nat) (hn : Nat.ble n N = true) (orc : List (OK × Vars))
    {T : List (FuncId × Spec)} (h : TabOk P tt T) {F : Spec} (hF : ∀ args v, F args = some v → args.length = n ∧ canos args = true ∧ v.cano = true ∧ FunWp tt (tab T) N orc rs (cB fn) args (fun r => r = v)) : SpecL P f F := by
  refine ⟨⟨fn, _, hf, hb, hname⟩, fun args v hv => ?_⟩
  obtain ⟨h1, h2, h3, h4⟩ := hF args v hv
  refine ⟨fun m => fun_ok hT hm h.sound h.canon hf hb orc (by rw [hN, h1]; exact Nat.le_of_ble_eq_true hn) (by rw [hN, hr]; exact h4) h2 h3 m, (cano_plain h3).2⟩

include hT hm in
/-- The same, of a function that is led to boxes. -/
theorem specE_of {f : FuncId} {fn : Func} (hf : P.funcs[f]? = some fn) (hb : fn.body = some (cB fn)) (hname : (fn.name == "runtime.NumGoroutine") = false) {N : Nat} (hN : fn.ntmps = N) {rs : List ResultVar} (hr : fn.results.toList = rs) (sg : Sig) (hn : (Nat.ble sg.as.length N && Nat.beq rs.length sg.nres) = true) (orc : List (OK × Vars))
    {T : List (FuncId × Spec)} (h : TabOk P tt T) {F : Spec} (hF : ∀ words v, F words = some v → ∃ ans, v = .tup ans ∧ wordsOk sg.as words = true ∧ canos words = true ∧ canos ans = true ∧ Nat.ble sg.nres ans.length = true ∧ shapeB (boxKs sg.as) (ans.drop sg.nres) = true ∧ FunWpE tt (tab T) N orc rs sg (cB fn) words (fun r => r = .tup ans)) : SpecE P f sg F := by
  refine ⟨⟨fn, _, hf, hb, hname⟩, fun words v hv => ?_⟩
  simp only [Bool.and_eq_true] at hn
  obtain ⟨ans, rfl, h1, h2, h3, h4, h5, h6⟩ := hF words v hv
  exact ⟨ans, rfl, Nat.le_of_ble_eq_true h4, h2, h3, h5, fun_okE hT hm h.sound h.canon hf hb orc (by rw [hN]; exact Nat.le_of_ble_eq_true hn.1) (by rw [hr]; exact Nat.eq_of_beq_eq_true hn.2) (by rw [hN, hr]; exact h6) h1 h2 h3⟩
end
end Go.Fbs

/- Rules for simp over the functions' formulas. -/
namespace Go.Fbs

theorem gBool (b want : Bool) (v : V) : guardV (.bool b) want (some v) = some (if b = want then v else .undef) := by
  cases b <;> cases want <;> rfl
/-- A step that simp is to prove, not to leave to the kernel. -/
theorem nr {α : Sort _} {a b : α} (h : a = b) : a = b := h
theorem gTT (o : Option V) : guardV (.bool true) true o = o := nr rfl
theorem gFF (o : Option V) : guardV (.bool false) false o = o := nr rfl
theorem gTF (o : Option V) : guardV (.bool true) false o = some .undef := nr rfl
theorem gFT (o : Option V) : guardV (.bool false) true o = some .undef := nr rfl
theorem gU (want : Bool) (o : Option V) : guardV .undef want o = some .undef := nr rfl
theorem pBool (b : Bool) (x y : V) : pickV (.bool b) x y = some (if b = true then x else y) := nr rfl
theorem ite_bool (c : Prop) [Decidable c] (p q : Bool) : (if c then V.bool p else V.bool q) = V.bool (if c then p else q) := by split <;> rfl
theorem orN (b q : Bool) (u : V) : (if b = true then V.bool true else if b = false then V.bool q else u) = V.bool (b || q) := by cases b <;> rfl
theorem andN (b q : Bool) (u : V) : (if b = true then (if b = true then V.bool q else u) else V.bool false) = V.bool (b && q) := by cases b <;> rfl
theorem orI (b q : Bool) : (if b = true then V.bool true else V.bool q) = V.bool (b || q) := by cases b <;> rfl
theorem andI (b q : Bool) : (if b = true then V.bool q else V.bool false) = V.bool (b && q) := by cases b <;> rfl
/-- Under a guard it may be taken as it is. -/
@[congr] theorem guardV_congr {x x' : V} {w : Bool} {o o' : Option V} (hx : x = x') (h : x' = .bool w → o = o') : guardV x w o = guardV x' w o' := by
  subst hx
  cases x with
  | bool b =>
    simp only [guardV]
    by_cases hb : b = w
    · subst hb; rw [h rfl]
    · have : (b == w) = false := by simpa using hb
      rw [this]; rfl
  | _ => rfl
theorem iteB_bool (b : Bool) (t e : Prop) : iteB (.bool b) t e = if b = true then t else e := nr rfl
theorem iteB_true (t e : Prop) : iteB (.bool true) t e = t := nr rfl
theorem iteB_false (t e : Prop) : iteB (.bool false) t e = e := nr rfl
theorem not_bool (b : Bool) : unV .not (.bool b) = some (.bool !b) := nr rfl
theorem chkB_bool (b : Bool) : chkBK (.bool b) = some (.bool b) := nr rfl
theorem chkB_undef : chkBK .undef = some .undef := nr rfl
theorem opt_s (v : V) (k : V → Prop) : opt (some v) k = k v := nr rfl
theorem joinP_eq (k : List V → Prop) (b : (List V → Prop) → Prop) : joinP k b = b k := nr rfl

section
variable (k : IntKind) (a b : Int) (s u : List UInt8)
theorem bGeq : binK .geq (.int k a) (.int k b) = some (.bool (decide (b ≤ a))) := by simp [binK, intBin]
theorem bLeq : binK .leq (.int k a) (.int k b) = some (.bool (decide (a ≤ b))) := by simp [binK, intBin]
theorem bLss : binK .lss (.int k a) (.int k b) = some (.bool (decide (a < b))) := by simp [binK, intBin]
theorem bGtr : binK .gtr (.int k a) (.int k b) = some (.bool (decide (b < a))) := by simp [binK, intBin]
theorem bEql : binK .eql (.int k a) (.int k b) = some (.bool (decide (a = b))) := by simp [binK, intBin]; rfl
theorem bNeq : binK .neq (.int k a) (.int k b) = some (.bool (!decide (a = b))) := by simp [binK, intBin, bne]; rfl
theorem bAdd : binK .add (.int k a) (.int k b) = some (.int k (k.wrap (a + b))) := by simp [binK, intBin]
theorem bSub : binK .sub (.int k a) (.int k b) = some (.int k (k.wrap (a - b))) := by simp [binK, intBin]
theorem bMul : binK .mul (.int k a) (.int k b) = some (.int k (k.wrap (a * b))) := by simp [binK, intBin]
theorem bSeq : binK .eql (.str s) (.str u) = some (.bool (s == u)) := nr rfl
theorem bSne : binK .neq (.str s) (.str u) = some (.bool (!(s == u))) := nr rfl
theorem bSlt : binK .lss (.str s) (.str u) = some (.bool (Op.bytesLess s u)) := nr rfl
theorem bSadd (h : s.length + u.length ≤ 9223372036854775807) : binK .add (.str s) (.str u) = some (.str (s ++ u)) := by
  simp only [binK, strBin]; rw [if_pos (by omega)]
theorem eqB_eq (n x y : Bool) : eqBK n (.bool x) (.bool y) = some (.bool ((x == y) != n)) := nr rfl
theorem mmMin : mmK false (.int k a) (.int k b) = some (.int k (if b < a then b else a)) := nr rfl
theorem mmMax : mmK true (.int k a) (.int k b) = some (.int k (if b > a then b else a)) := nr rfl
theorem ext_tup (vs : List V) (i : Nat) : extractV (.tup vs) i = vs[i]? := nr rfl
theorem cellD_agg (cs : List V) (i : Nat) : cellD (.agg cs) i = cs.getD i .undef := nr rfl
theorem convI_int (k' : IntKind) : convI k' (.int k a) = some (.int k' (k'.wrap a)) := nr rfl
end

theorem lenS_s (l : List UInt8) : lenS (.str l) = some (.int .i64 l.length) := nr rfl
theorem lenL_s (g : Tag) (l : List V) : lenL (.sl g l) = some (.int .i64 l.length) := nr rfl
theorem gv_0 (a : V) (l : List V) : gv (a :: l) 0 = a := nr rfl
theorem gv_s (a : V) (l : List V) (i : Nat) : gv (a :: l) (i + 1) = gv l i := nr rfl

theorem chk_agg {n : Nat} {cs : List V} (h : cs.length = n) (hs : cs.all sc = true) : chkK n (.agg cs) = some (.agg cs) := by simp [chkK, h, hs]
theorem chk1_s {v : V} (h : sc v = true) : chk1K v = some v := by simp [chk1K, h]
theorem agg_s {l : List V} (h : l.all sc = true) : aggK l = some (.agg l) := by simp [aggK, h]

/-- Elements by their place. -/
theorem idxL_agg {g : Tag} {es : List V} {k : Nat} {cs : List V} {n : Nat} (h : es[k]? = some (.agg cs)) (hl : cs.length = n) (hs : cs.all sc = true) (q : IntKind) : idxLK true n (.sl g es) (.int q k) = some (.agg cs) := by
  simp [idxLK, h, chk_agg hl hs]
theorem idxL_one {g : Tag} {es : List V} {k : Nat} {v : V} (h : es[k]? = some v) (hs : sc v = true) (n : Nat) (q : IntKind) : idxLK false n (.sl g es) (.int q k) = some v := by
  simp [idxLK, h, chk1_s hs]
theorem idxS_at {l : List UInt8} {k : Nat} {c : UInt8} (h : l[k]? = some c) (q : IntKind) : indexS (.str l) (.int q k) = some (.int .u8 c.toNat) := by
  simp [indexS, h]

theorem app_s {n b : Nat} {g g' : Tag} {es ys : List V} (h : (es.length + ys.length) * (b + 1) ≤ 70368744177664) (h1 : es.all (fun e => e.cells.length == n) = true) (h2 : ys.all (fun e => e.cells.length == n) = true) :
    appK n b (.sl g es) (.sl g' ys) = some (.sl .ro (es ++ ys)) := by simp only [appK]; rw [if_pos ⟨h, h1, h2⟩]
theorem lit_s {n : Nat} {l : List V} (h : l.length * n ≤ 1000000) (h1 : l.all (fun e => e.cells.length == n && e.ok1) = true) : litK n l = some (.sl .ro l) := by
  unfold litK; rw [if_pos ⟨h, h1⟩]

/-- Values without anything known of their room. -/
theorem canos_map {α : Type} {f : α → V} {l : List α} (h : ∀ a, (f a).cano = true) : canos (l.map f) = true :=
  canos_iff.2 fun v hv => by obtain ⟨a, _, rfl⟩ := List.mem_map.1 hv; exact h a
theorem all_map_len {α : Type} {f : α → V} {l : List α} {n : Nat} (h : ∀ a, (f a).cells.length = n) : (l.map f).all (fun e => e.cells.length == n) = true := by
  simp [h]
end Go.Fbs

/- Values that are told of plain data, and read back. -/
namespace Go.Fbs

/-- How data of a kind stand as values. -/
structure Cd (α : Type) where
  enc : α → V
  dec : V → Option α
  de : ∀ a, dec (enc a) = some a
  ed : ∀ v a, dec v = some a → v = enc a
  cano : ∀ a, (enc a).cano = true

section
variable {α : Type} (c : Cd α)
def Cd.lst (l : List α) : V := .sl .ro (l.map c.enc)
def Cd.unl : V → Option (List α)
  | .sl .ro es => es.mapM c.dec
  | _ => none
theorem Cd.mapM_enc : ∀ l : List α, (l.map c.enc).mapM c.dec = some l
  | [] => rfl
  | a :: l => by simp [List.mapM_cons, c.de, Cd.mapM_enc l]
theorem Cd.mapM_dec : ∀ {es : List V} {l : List α}, es.mapM c.dec = some l → es = l.map c.enc
  | [], l, h => by simp at h; subst h; rfl
  | e :: es, l, h => by
    simp only [List.mapM_cons, Option.bind_eq_bind, Option.bind_eq_some_iff] at h
    obtain ⟨a, h1, l', h2, h3⟩ := h
    simp only [Option.pure_def, Option.some.injEq] at h3
    subst h3
    rw [c.ed e a h1, Cd.mapM_dec h2]; rfl
theorem Cd.unl_lst (l : List α) : c.unl (c.lst l) = some l := c.mapM_enc l
theorem Cd.unl_map (l : List α) : c.unl (.sl .ro (l.map c.enc)) = some l := c.mapM_enc l
theorem Cd.lst_unl {v : V} {l : List α} (h : c.unl v = some l) : v = c.lst l := by
  unfold Cd.unl at h
  split at h
  · rw [c.mapM_dec h]; rfl
  · simp at h
theorem Cd.cano_lst (l : List α) : (c.lst l).cano = true := by simp only [Cd.lst, V.cano]; exact canos_map c.cano

/-- Lists of such, as data. -/
def Cd.list : Cd (List α) := ⟨c.lst, c.unl, c.unl_lst, fun _ _ => c.lst_unl, c.cano_lst⟩
end

def cStr : Cd (List UInt8) where
  enc := .str
  dec := fun | .str s => some s | _ => none
  de _ := rfl
  ed v a h := by split at h <;> simp at h; subst h; rfl
  cano _ := rfl
def cInt : Cd Int where
  enc := .int .i64
  dec := fun | .int .i64 s => some s | _ => none
  de _ := rfl
  ed v a h := by split at h <;> simp at h; subst h; rfl
  cano _ := rfl
def cBool : Cd Bool where
  enc := .bool
  dec := fun | .bool s => some s | _ => none
  de _ := rfl
  ed v a h := by split at h <;> simp at h; subst h; rfl
  cano _ := rfl
def cU8 : Cd UInt8 where
  enc := fun b => .int .u8 b.toNat
  dec := fun | .int .u8 n => if 0 ≤ n ∧ n < 256 then some (UInt8.ofNat n.toNat) else none | _ => none
  de b := by
    have := b.toNat_lt
    simp only
    rw [if_pos (by omega)]
    simp
  ed v a h := by
    split at h
    · rename_i n
      split at h
      · rename_i hn
        simp only [Option.some.injEq] at h
        subst h
        have : n.toNat < 256 := by omega
        simp [Nat.mod_eq_of_lt this]; omega
      · simp at h
    · simp at h
  cano _ := rfl

/-- A list's element, by its place. -/
theorem Cd.idx_agg {α : Type} (c : Cd α) {l : List α} {k : Nat} {a : α} (h : l[k]? = some a) {n : Nat} (hc : chkK n (c.enc a) = some (c.enc a)) (q : IntKind) : idxLK true n (c.lst l) (.int q k) = some (c.enc a) := by
  simp [idxLK, Cd.lst, h, hc]
theorem Cd.idx_one {α : Type} (c : Cd α) {l : List α} {k : Nat} {a : α} (h : l[k]? = some a) (hs : sc (c.enc a) = true) (n : Nat) (q : IntKind) : idxLK false n (c.lst l) (.int q k) = some (c.enc a) := by
  simp [idxLK, Cd.lst, h, chk1K, hs]
theorem Cd.len {α : Type} (c : Cd α) (l : List α) : lenL (c.lst l) = some (.int .i64 l.length) := by simp [lenL, Cd.lst]
theorem Cd.app {α : Type} (c : Cd α) {l m : List α} {n b : Nat} (hn : ∀ a, (c.enc a).cells.length = n) (h : (l.length + m.length) * (b + 1) ≤ 70368744177664) : appK n b (c.lst l) (c.lst m) = some (c.lst (l ++ m)) := by
  simp only [Cd.lst]
  rw [app_s (by simpa using h) (all_map_len hn) (all_map_len hn), List.map_append]
end Go.Fbs
namespace Go.Fbs
/-- Where several ways meet: what holds there. -/
theorem joinP_inv {k : List V → Prop} {b : (List V → Prop) → Prop} (I : List V → Prop) (hk : ∀ w, I w → k w) (hb : ∀ r, (∀ w, I w → r w) → b r) : joinP k b := hb k hk
theorem bAndMask {a : Int} {j : Nat} (hj : j < 63) : binK .and (.int .i64 a) (.int .i64 ((2 ^ j - 1 : Nat) : Int)) = some (.int .i64 (a % (2 ^ j : Nat))) := by
  have h2 : (2 : Nat) ^ j < 2 ^ 63 := Nat.pow_lt_pow_right (by omega) hj
  have h0 : 0 < (2 : Nat) ^ j := Nat.pow_pos (by omega)
  simp only [binK, intBin]
  have e : (BitVec.ofInt IntKind.i64.bits a &&& BitVec.ofInt IntKind.i64.bits ((2 ^ j - 1 : Nat) : Int)).toNat = (a % ((2 ^ j : Nat) : Int)).toNat := by
    show (BitVec.ofInt 64 a &&& BitVec.ofInt 64 ((2 ^ j - 1 : Nat) : Int)).toNat = _
    rw [BitVec.toNat_and, BitVec.toNat_ofInt, BitVec.toNat_ofInt]
    have : ((((2 ^ j - 1 : Nat) : Int)) % ((2 ^ 64 : Nat) : Int)).toNat = 2 ^ j - 1 := by
      rw [Int.emod_eq_of_lt (by omega) (by omega)]; omega
    rw [this, Nat.and_two_pow_sub_one_eq_mod]
    have hd : ((2 ^ j : Nat) : Int) ∣ ((2 ^ 64 : Nat) : Int) := by
      rw [Int.natCast_dvd_natCast]; exact Nat.pow_dvd_pow 2 (by omega)
    have h3 := Int.emod_emod_of_dvd a hd
    have h4 : 0 ≤ a % ((2 ^ 64 : Nat) : Int) := Int.emod_nonneg _ (by omega)
    rw [← h3]
    generalize a % ((2 ^ 64 : Nat) : Int) = b at *
    obtain ⟨n, rfl⟩ : ∃ n : Nat, b = n := ⟨b.toNat, by omega⟩
    rw [Int.toNat_natCast, ← Int.natCast_emod, Int.toNat_natCast]
  have h5 : 0 ≤ a % ((2 ^ j : Nat) : Int) := Int.emod_nonneg _ (by omega)
  have h6 : a % ((2 ^ j : Nat) : Int) < ((2 ^ j : Nat) : Int) := Int.emod_lt_of_pos _ (by omega)
  have hw : IntKind.i64.wrap (a % ((2 ^ j : Nat) : Int)) = a % ((2 ^ j : Nat) : Int) := by
    have : (2:Nat)^63 = 9223372036854775808 := by decide
    exact wrap_in (by omega) (by omega)
  rw [e, Int.toNat_of_nonneg h5, hw]; simp
end Go.Fbs

/- From what a law is said to answer to the kit's words; arguments as values. -/
namespace Go.Fbs
open Go.RowKit

/-- What is behind a law's call: true; what was there stands. -/
def Stood (w : World) (e : Ending) (w' : World) : Prop := e = .returned (.bool true) ∧ GrownO w w' ∧ ∀ i, i < w.heap.size → w'.heap[i]? = w.heap[i]?

theorem calls_stood {P : Program} {f : FuncId} {F : Spec} (h : SpecL P f F) {args : List V} (hF : F args = some (.bool true)) (w : World) {xs : List Value} (hr : Reps (sealedCtx w.heap) w.heap args xs) : Calls P f ⟨xs⟩ w (Stood w) :=
  ((h.call args _ hF).1 empty (sealedCtx w.heap) w xs (sealed_mem _) hr).mono fun _ _ ⟨x, κ', he, hx, hv⟩ => ⟨by rw [he, rep_bool hv], ext_grown hx, fun i hi => hx.le.same i hi sealed_owned⟩

/-- An argument reads behind the call as it did. -/
theorem again {H : Type} {enc : TypeId × Value → H} {P : Program} {t : TypeId} (hl : laidOutB P = true) (hr : P.readableRec t = true) (hrow : t < P.types.size) {W W' : World} {v : Value} {d : DataW H} {ps : List MemPlace}
    (h : DataW.Trod enc P W 0 (fun _ => true) true t v d ps) (hb : ∀ i, i < W.heap.size → W'.heap[i]? = W.heap[i]?) {sp : Nat → Bool} (hs : ∀ p ∈ ps, sp p.block = true) : DataW.Trod enc P W' 0 sp true t v d ps := by
  obtain ⟨n, hn⟩ := h
  have hlt := DataW.trod_lt n _ _ _ hn
  refine WideElems.Trod_stays hl hr hrow ⟨n, hn⟩ (fun p hp => ?_) hs
  cases p with
  | cell b o => exact World.cell?_of_block (w := W) (hb b (hlt _ hp))
  | map b => exact hb b (hlt _ hp)

/-- What a law leaves: as it was. -/
theorem post_old {H : Type} {enc : TypeId × Value → H} {P : Program} {f : Func} {s : ChangeSpec} {apart fresh handsOn back : Bool} {W W' : World} {args : Array Value} {v : Value} {ds gs : List (DataW H)} {ps pa pv : List MemPlace}
    (hW : DataW.Whole enc P f.params.toList s.vars apart W args.toList ds gs ps)
    (hr : ∀ (b : Nat) (sp : Nat → Bool) (hd : Bool), DataW.TrodAll enc P W' b sp hd f.resultTypes.toList (v.resultList f.resultTypes.size) (s.fn H (ds ++ gs)).results [])
    (ha : ∀ sp : Nat → Bool, (∀ p ∈ ps, sp p.block = true) → DataW.TrodAll enc P W' 0 sp true f.params.toList args.toList (s.fn H (ds ++ gs)).args pa)
    (hv : ∀ sp : Nat → Bool, (∀ p ∈ ps, sp p.block = true) → DataW.TrodVars enc P W' sp s.vars (s.fn H (ds ++ gs)).vars pv)
    (hp : ps = pa ++ pv) (hg : GrownO W W')
    (ho : ∀ (j : Nat) (t : TypeId) (r : Value), f.resultTypes[j]? = some t → (v.resultList f.resultTypes.size)[j]? = some r → Value.okWide P W' .any 0 t r) :
    s.post enc P f apart fresh handsOn back W args v W' := by
  have low : ∀ p ∈ ps, p.block < W.heap.size := hW.lt
  have inB : ∀ p ∈ ps, (fun b => decide (b < W.heap.size)) p.block = true := fun p h => decide_eq_true (low p h)
  have same : ps = ([] ++ pa) ++ pv := by rw [List.nil_append]; exact hp
  refine ⟨ds, gs, ps, [], pa, pv, hW, hr _ _ _, ha _ inB, hv _ inB, World.keptBut_mono (fun _ h => h.elim) hg.1, fun _ => ?_⟩
  obtain ⟨_, _, _, _, _, nf, nd⟩ := hW
  refine ⟨ho, _, _, ([] ++ pa) ++ pv, ⟨[] ++ pa, pv, Go.ChangeShapes.trodAll_append (ha _ (fun _ _ => rfl)) (hr _ _ _), hv _ (fun _ _ => rfl), rfl, fun b off h => ?_, fun h => ?_⟩, fun p h _ => ?_⟩
  · rw [← same] at h
    rw [hg.2.1 ⟨b, off, none⟩ (low _ h)]
    exact nf b off h
  · rw [← same]; exact nd h
  · rw [← same] at h; exact h

/-! ### Arguments as values -/
section
variable {H : Type} {enc : TypeId × Value → H} {P : Program} {w : World} {base : Nat} {sp : Nat → Bool} {held : Bool} {r : Reach} {b0 : Nat} {t : TypeId} {v : Value} {d : DataW H} {ps : List MemPlace} {κ : Ctx} {h : Heap}

theorem arg_str (ht : P.underlying t = some .string) (hval : Value.okWide P w r b0 t v) (hd : DataW.Trod enc P w base sp held t v d ps) : ∃ s : List UInt8, Rep κ h (.str s) v ∧ s.length ≤ maxLen := by
  obtain ⟨s, rfl, _, _, hs⟩ := Go.ChangeMaps.open_string ht hval hd
  exact ⟨s.data.toList, .str _, hs⟩
theorem arg_int {k : IntKind} (ht : P.underlying t = some (.int k)) (hval : Value.okWide P w r b0 t v) (hd : DataW.Trod enc P w base sp held t v d ps) : ∃ n : Int, Rep κ h (.int k n) v ∧ (Lit.int k n).wf = true := by
  obtain ⟨n, rfl, _, _, hw⟩ := Go.ChangeShapes.open_int ht hval hd
  exact ⟨n, .int _ _, hw⟩
theorem okWide_spot {e : TypeId} {a : Addr} {len cap : Nat} (ht : P.underlying t = some (.slice e)) (hval : Value.okWide P w r b0 t (.slice (some a) len cap)) : a.spot = none := by
  simp only [Value.okWide, Cell.okWide, Cell.ok, ht] at hval
  exact hval.2.2.2.1
theorem sealed_block {b off n : Nat} {xs : List Value} (hl : xs.length = n) (hx : ∀ i, i < n → ∃ x, xs[i]? = some x ∧ x.oneCell' = true ∧ w.cell? ((⟨b, off, none⟩ : Addr).add i) = some x) : Block (sealedCtx w.heap) w.heap b off xs := by
  intro i x hi
  have hin : i < n := by rw [← hl]; exact (List.getElem?_eq_some_iff.1 hi).1
  obtain ⟨x', h1, h2, h3⟩ := hx i hin
  rw [hi] at h1
  obtain rfl := Option.some.inj h1
  rw [Go.WideShapes.add_plain, cell?_eq] at h3
  refine ⟨?_, h3, h2⟩
  unfold hcell at h3
  unfold sealedCtx
  simp only
  split at h3
  · rename_i c _ _ hb
    rw [hb]
    simp only
    exact (Array.getElem?_eq_some_iff.1 h3).1
  · simp at h3
/-- A slice of cells of one word each. -/
theorem rep_slcells {es : List V} {xs : List Value} {b off cap : Nat} (hl : xs.length = es.length) (hu : ∀ e ∈ es, e.cells = [e]) (hr : ∀ (i : Nat) c x, es[i]? = some c → xs[i]? = some x → Rep (sealedCtx w.heap) w.heap c x)
    (hc : es.length ≤ cap) (hx : ∀ i, i < xs.length → ∃ x, xs[i]? = some x ∧ x.oneCell' = true ∧ w.cell? ((⟨b, off, none⟩ : Addr).add i) = some x) : Rep (sealedCtx w.heap) w.heap (.sl .ro es) (.slice (some ⟨b, off, none⟩) es.length cap) := by
  have hf : flat es = es := by
    clear hl hr hc hx
    induction es with
    | nil => rfl
    | cons e es ih => rw [show flat (e :: es) = e.cells ++ flat es from rfl, hu e (by simp), ih fun x hx => hu x (by simp [hx])]; rfl
  exact .sl .ro es b off cap 1 xs (sealed_block rfl hx) (fun e he => by rw [hu e he]; rfl) (by rw [hf, hl]) (by rw [hf]; exact hr) hc trivial
theorem arg_ints {e : TypeId} {k : IntKind} (ht : P.underlying t = some (.slice e)) (he : P.underlying e = some (.int k)) (hc : P.cellsOf e = 1) (hval : Value.okWide P w r b0 t v) (hd : DataW.Trod enc P w base sp held t v d ps) :
    ∃ ns : List Int, Rep (sealedCtx w.heap) w.heap (.sl .ro (ns.map (V.int k))) v ∧ (ns = [] ∨ ∃ es sp, d = .slice es sp ∧ es.length = ns.length) ∧ ∀ n ∈ ns, (Lit.int k n).wf = true := by
  obtain ⟨a, len, cap, rfl⟩ := Go.WideShapes.okWide_slice ht hval
  obtain ⟨n, hn⟩ := hd
  rcases Go.ChangeShapes.open_ints ht he hc hn with ⟨h0, _⟩ | ⟨a', len', cap', zs, h0, _, hl, hm, hz, hx, hcell, hwf⟩
  · simp [Value.cells] at h0
    obtain ⟨rfl, rfl, rfl⟩ := h0
    exact ⟨[], .slnil .ro (by simp), .inl rfl, by simp⟩
  · simp [Value.cells] at h0
    obtain ⟨rfl, rfl, rfl⟩ := h0
    obtain ⟨b, off, spot⟩ := a'
    obtain rfl : spot = none := okWide_spot ht hval
    have hlz : len ≤ zs.length := by rw [hz]; split <;> omega
    refine ⟨zs.take len, ?_, .inr ⟨_, _, congrArg (·.1) hx, by simp [Go.ChangeShapes.lits]⟩, fun n hn => hwf n (List.mem_of_mem_take hn)⟩
    have hll : ((zs.take len).map (V.int k)).length = len := by simp; omega
    have := rep_slcells (w := w) (es := (zs.take len).map (V.int k)) (xs := (zs.take len).map (Value.int k)) (b := b) (off := off) (cap := cap) (by simp) (fun e he => by obtain ⟨n, _, rfl⟩ := List.mem_map.1 he; rfl)
      (fun i c x h1 h2 => by
        simp only [List.getElem?_map, Option.map_eq_some_iff] at h1 h2
        obtain ⟨n1, e1, rfl⟩ := h1
        obtain ⟨n2, e2, rfl⟩ := h2
        rw [e1] at e2
        obtain rfl := Option.some.inj e2
        exact .int _ _) (by omega)
      (fun i hi => by
        have hi' : i < len := by simp at hi; omega
        have hiz : i < zs.length := by omega
        refine ⟨.int k (zs.getD i 0), ?_, rfl, hcell i hiz⟩
        simp [List.getElem?_take, hi', List.getD, List.getElem?_eq_getElem hiz])
    rw [hll] at this
    exact this
end
end Go.Fbs

/- Arguments that are plain data: structs of bools, numbers and texts; slices of such. -/
namespace Go.Fbs
open Go.RowKit

inductive Lf where
  | bool | int (k : IntKind) | str
  deriving Inhabited
/-- A value of such a kind. -/
def Lf.has : Lf → V → Prop
  | .bool, v => ∃ b, v = .bool b
  | .int k, v => ∃ n, v = .int k n ∧ (Lit.int k n).wf = true
  | .str, v => ∃ s, v = .str s ∧ s.length ≤ maxLen
def HasL (ls : List Lf) (vs : List V) : Prop := vs.length = ls.length ∧ ∀ (i : Nat) l v, ls[i]? = some l → vs[i]? = some v → l.has v

theorem HasL.nil : HasL [] [] := ⟨rfl, by simp⟩
theorem HasL.append {ls ms : List Lf} {vs ws : List V} (h : HasL ls vs) (h' : HasL ms ws) : HasL (ls ++ ms) (vs ++ ws) := by
  refine ⟨by simp [h.1, h'.1], fun i l v h1 h2 => ?_⟩
  by_cases hi : i < ls.length
  · rw [List.getElem?_append_left hi] at h1
    rw [List.getElem?_append_left (by rw [h.1]; exact hi)] at h2
    exact h.2 i l v h1 h2
  · rw [List.getElem?_append_right (by omega)] at h1
    rw [List.getElem?_append_right (by rw [h.1]; omega), h.1] at h2
    exact h'.2 _ l v h1 h2
theorem HasL.one {l : Lf} {v : V} (h : l.has v) : HasL [l] [v] := ⟨rfl, fun i l' v' h1 h2 => by
  cases i with
  | zero => simp at h1 h2; subst h1; subst h2; exact h
  | succ i => simp at h1⟩
theorem HasL.cons_inv {l : Lf} {ls : List Lf} {vs : List V} (h : HasL (l :: ls) vs) : ∃ v ws, vs = v :: ws ∧ l.has v ∧ HasL ls ws := by
  cases vs with
  | nil => simp [HasL] at h
  | cons v ws =>
    refine ⟨v, ws, rfl, h.2 0 l v rfl rfl, by have := h.1; simpa using this, fun i l' v' h1 h2 => h.2 (i + 1) l' v' (by simpa using h1) (by simpa using h2)⟩
theorem HasL.nil_inv {vs : List V} (h : HasL [] vs) : vs = [] := List.eq_nil_of_length_eq_zero h.1

theorem Reps.one' {κ : Ctx} {h : Heap} {v : V} {x : Value} (r : Rep κ h v x) : Reps κ h [v] [x] := ⟨rfl, fun i c y h1 h2 => by
  cases i with
  | zero => simp at h1 h2; subst h1; subst h2; exact r
  | succ i => simp at h1⟩

theorem flat_agg : ∀ rows : List (List V), flat (rows.map V.agg) = rows.flatten
  | [] => rfl
  | q :: rows => by
    have := flat_agg rows
    simp only [List.map_cons, List.flatten_cons]
    rw [show flat (V.agg q :: rows.map V.agg) = q ++ flat (rows.map V.agg) from rfl, this]
/-- The kinds of a type's cells. -/
def leafsF (P : Program) (f : TypeId → Option (List Lf)) : Nat → List (Nat × TypeId) → Option (List Lf)
  | _, [] => some []
  | n, (off, t) :: r =>
    match f t with
    | some q => bif Nat.beq off n && Nat.beq (P.cellsOf t) q.length then (leafsF P f (n + q.length) r).map (q ++ ·) else none
    | none => none
def leafs (P : Program) : Nat → TypeId → Option (List Lf)
  | 0, _ => none
  | d + 1, t =>
    match P.underlying t with
    | some .bool => some [.bool]
    | some (.int k) => some [.int k]
    | some .string => some [.str]
    | some (.struct fs) => leafsF P (leafs P d) 0 (fs.toList.map fun f => (f.offset, f.type))
    | _ => none

section
variable {H : Type} {enc : TypeId × Value → H} {P : Program} {w : World} {base : Nat} {sp : Nat → Bool} {held : Bool} {κ : Ctx} {h : Heap}

theorem leaf_fields {d n : Nat} (ih : ∀ t ls fuel cs x, leafs P d t = some ls → DataW.trod enc P w base sp held fuel t cs = some x → cs.length = ls.length → ∃ vs, HasL ls vs ∧ Reps κ h vs cs ∧ ∀ s, V.str s ∈ vs → s.length ∈ x.1.weights P t) {cs : List Value} :
    ∀ (fs : List Field) (off : Nat) (ls : List Lf), leafsF P (leafs P d) off (fs.map fun f => (f.offset, f.type)) = some ls → off + ls.length ≤ cs.length →
      (∀ f ∈ fs, ∃ x, DataW.trod enc P w base sp held n f.type ((cs.drop f.offset).take (P.cellsOf f.type)) = some x) → ∃ vs, HasL ls vs ∧ Reps κ h vs ((cs.drop off).take ls.length) ∧ ∀ s, V.str s ∈ vs → ∃ f ∈ fs, ∃ x, DataW.trod enc P w base sp held n f.type ((cs.drop f.offset).take (P.cellsOf f.type)) = some x ∧ s.length ∈ x.1.weights P f.type
  | [], off, ls, hl, _, _ => by
    simp [leafsF] at hl; subst hl
    exact ⟨[], .nil, by simp [Reps], by simp⟩
  | f :: fs, off, ls, hl, hle, hx => by
    simp only [List.map_cons, leafsF] at hl
    split at hl
    · rename_i q hq
      cases hb : (Nat.beq f.offset off && Nat.beq (P.cellsOf f.type) q.length) with
      | false => rw [hb] at hl; simp at hl
      | true =>
        rw [hb] at hl
        simp only [cond_true, Option.map_eq_some_iff] at hl
        obtain ⟨r, hr, rfl⟩ := hl
        simp only [Bool.and_eq_true] at hb
        have e1 := Nat.eq_of_beq_eq_true hb.1
        have e2 := Nat.eq_of_beq_eq_true hb.2
        obtain ⟨x, hx0⟩ := hx f (by simp)
        have hx1 := hx0
        rw [e1, e2] at hx1
        rw [List.length_append] at hle
        obtain ⟨vs, h1, h2, h2w⟩ := ih _ _ _ _ _ hq hx1 (by rw [List.length_take, List.length_drop]; omega)
        obtain ⟨ws, h3, h4, h4w⟩ := leaf_fields ih fs (off + q.length) r hr (by omega) fun g hg => hx g (by simp [hg])
        refine ⟨vs ++ ws, h1.append h3, ?_, fun s hs => ?_⟩
        rotate_left
        · rcases List.mem_append.1 hs with hs | hs
          · exact ⟨f, by simp, x, hx0, h2w s hs⟩
          · obtain ⟨g, g1, g2⟩ := h4w s hs
            exact ⟨g, by simp [g1], g2⟩
        have e : (cs.drop off).take (q ++ r).length = (cs.drop off).take q.length ++ (cs.drop (off + q.length)).take r.length := by
          rw [List.length_append, List.take_add, List.drop_drop]
        rw [e]
        exact h2.append h4
    · simp at hl

theorem leafsF_len {f : TypeId → Option (List Lf)} : ∀ {fs : List (Nat × TypeId)} {n : Nat} {ls : List Lf}, leafsF P f n fs = some ls → True := fun _ => trivial

/-- A value of leaves alone, cell by cell. -/
theorem leaf_cells : ∀ (d : Nat) (t : TypeId) (ls : List Lf) (fuel : Nat) (cs : List Value) (x : DataW H × List MemPlace), leafs P d t = some ls → DataW.trod enc P w base sp held fuel t cs = some x → cs.length = ls.length → ∃ vs, HasL ls vs ∧ Reps κ h vs cs ∧ ∀ s, V.str s ∈ vs → s.length ∈ x.1.weights P t
  | 0, _, _, _, _, _, hl, _, _ => by simp [leafs] at hl
  | d + 1, t, ls, fuel, cs, x, hl, hd, hlen => by
    unfold leafs at hl
    split at hl
    · rename_i ht
      simp only [Option.some.injEq] at hl; subst hl
      cases fuel with
      | zero => simp [DataW.trod] at hd
      | succ fuel =>
        unfold DataW.trod at hd
        rw [ht] at hd
        split at hd <;> simp_all
        exact ⟨_, .one ⟨_, rfl⟩, .one' (.bool _), by simp⟩
    · rename_i k ht
      simp only [Option.some.injEq] at hl; subst hl
      cases fuel with
      | zero => simp [DataW.trod] at hd
      | succ fuel =>
        unfold DataW.trod at hd
        rw [ht] at hd
        split at hd <;> simp_all
        rename_i k' n heq
        obtain ⟨⟨h1, h2⟩, _⟩ := hd
        subst h1
        exact ⟨_, .one ⟨n, rfl, h2⟩, .one' (.int _ _), by simp⟩
    · rename_i ht
      simp only [Option.some.injEq] at hl; subst hl
      obtain ⟨s, rfl, hx, hs⟩ := DataW.trod_string ht hd
      refine ⟨_, .one ⟨s.data.toList, rfl, hs⟩, .one' (.str s.data.toList), fun q hq => ?_⟩
      simp only [List.mem_singleton, V.str.injEq] at hq
      subst hq
      rw [hx]
      simp [DataW.weights]
    · rename_i fs ht
      obtain ⟨xs, n, rfl, rfl, h1, h2, h3⟩ := DataW.trod_struct ht hd
      have := leaf_fields (κ := κ) (h := h) (fun t ls fuel cs x => leaf_cells d t ls fuel cs x) (cs := cs) fs.toList 0 ls hl (by omega) (fun f hf => by
        obtain ⟨i, hi⟩ := List.getElem?_of_mem hf
        have hi' : fs[i]? = some f := by simpa using hi
        have h4 := h3 i f hi'
        have hil : i < xs.length := by rw [h2]; exact (Array.getElem?_eq_some_iff.1 hi').1
        rw [List.getElem?_eq_getElem hil] at h4
        exact ⟨_, h4⟩)
      rw [List.drop_zero, ← hlen, List.take_length] at this
      obtain ⟨vs, g1, g2, g3⟩ := this
      refine ⟨vs, g1, g2, fun q hq => ?_⟩
      obtain ⟨f, hf, y, hy, hm⟩ := g3 q hq
      obtain ⟨i, hi⟩ := List.getElem?_of_mem hf
      have hi' : fs[i]? = some f := by simpa using hi
      have h4 := h3 i f hi'
      rw [hy] at h4
      simp only [DataW.weights, ht]
      refine DataW.weights_mem_each (j := i) (t := f.type) (d := y.1) ?_ ?_ _ hm
      · rw [List.getElem?_map, hi]; rfl
      · rw [List.getElem?_map, ← h4]; rfl
    · simp at hl

theorem HasL.cell {ls : List Lf} {vs : List V} {xs : List Value} (hh : HasL ls vs) (r : Reps κ h vs xs) : (∀ v ∈ vs, v.cells = [v] ∧ sc v = true) ∧ ∀ x ∈ xs, x.oneCell' = true := by
  have key : ∀ (i : Nat) v, vs[i]? = some v → (v.cells = [v] ∧ sc v = true) ∧ ∀ x, Rep κ h v x → x.oneCell' = true := by
    intro i v hv
    have hi : i < ls.length := by rw [← hh.1]; exact (List.getElem?_eq_some_iff.1 hv).1
    have := hh.2 i _ v (List.getElem?_eq_getElem hi) hv
    cases hl : ls[i] <;> rw [hl] at this <;> simp only [Lf.has] at this
    · obtain ⟨b, rfl⟩ := this; exact ⟨⟨rfl, rfl⟩, fun x r => by cases r; rfl⟩
    · obtain ⟨b, rfl, _⟩ := this; exact ⟨⟨rfl, rfl⟩, fun x r => by cases r; rfl⟩
    · obtain ⟨b, rfl, _⟩ := this; exact ⟨⟨rfl, rfl⟩, fun x r => by cases r; rfl⟩
  constructor
  · intro v hv
    obtain ⟨i, hi⟩ := List.getElem?_of_mem hv
    exact (key i v hi).1
  · intro x hx
    obtain ⟨i, hi⟩ := List.getElem?_of_mem hx
    have hiv : i < vs.length := by rw [← r.1]; exact (List.getElem?_eq_some_iff.1 hi).1
    exact (key i _ (List.getElem?_eq_getElem hiv)).2 x (r.2 i _ x (List.getElem?_eq_getElem hiv) hi)

variable {r : Reach} {b0 : Nat} {t : TypeId} {v : Value} {dd : DataW H} {ps : List MemPlace}
/-- An argument that is a struct of leaves. -/
theorem arg_struct {fs : Array Field} {ls : List Lf} {d : Nat} (ht : P.underlying t = some (.struct fs)) (hl : leafs P d t = some ls) (hc : P.cellsOf t = ls.length) (hval : Value.okWide P w r b0 t v) (hd : DataW.Trod enc P w base sp held t v dd ps) :
    ∃ vs, HasL ls vs ∧ Rep κ h (.agg vs) v ∧ ∀ s, V.str s ∈ vs → s.length ∈ dd.weights P t := by
  unfold Value.okWide at hval
  rw [ht] at hval
  obtain ⟨cs, rfl, hs, _⟩ := hval
  obtain ⟨fuel, hf⟩ := hd
  obtain ⟨vs, h1, h2, h2w⟩ := leaf_cells (κ := κ) (h := h) d t ls fuel cs.toList (dd, ps) hl hf (by simp [hs, hc])
  have h3 := (h1.cell h2).2
  exact ⟨vs, h1, .agg _ _ h2.1 h3 h2.2, h2w⟩

/-- An argument that is a slice of such. -/
theorem arg_slice {e : TypeId} {ls : List Lf} {d : Nat} (ht : P.underlying t = some (.slice e)) (hl : leafs P d e = some ls) (hc : P.cellsOf e = ls.length) (hpos : 0 < ls.length) (hval : Value.okWide P w r b0 t v) (hd : DataW.Trod enc P w base sp held t v dd ps) :
    ∃ rows : List (List V), (∀ q ∈ rows, HasL ls q) ∧ Rep (sealedCtx w.heap) w.heap (.sl .ro (rows.map V.agg)) v ∧ (ls.length = 1 → Rep (sealedCtx w.heap) w.heap (.sl .ro rows.flatten) v) ∧ rows.length ≤ maxLen ∧ ((rows = [] ∧ dd = .nil) ∨ ∃ es sp', dd = .slice es sp' ∧ es.length = rows.length ∧ ∀ (i : Nat) q x, rows[i]? = some q → es[i]? = some x → ∃ n cs pl, DataW.trod enc P w base sp held n e cs = some (x, pl) ∧ Reps (sealedCtx w.heap) w.heap q cs) := by
  obtain ⟨a, len, cap, rfl⟩ := Go.WideShapes.okWide_slice ht hval
  obtain ⟨fuel, hf⟩ := hd
  rcases Go.Deep.open_slice ht hf with ⟨h0, hx⟩ | ⟨a', len', cap', m, n, D, Pl, h0, _, hle, hm, hmm, hx, hel⟩
  · simp [Value.cells] at h0
    obtain ⟨rfl, rfl, rfl⟩ := h0
    exact ⟨[], by simp, .slnil .ro (by simp), fun _ => .slnil .ro (by simp), by simp, .inl ⟨rfl, congrArg (·.1) hx⟩⟩
  · simp [Value.cells] at h0
    obtain ⟨rfl, rfl, rfl⟩ := h0
    obtain ⟨b, off, spot⟩ := a'
    obtain rfl : spot = none := okWide_spot ht hval
    have hlm : len ≤ m := by rw [hmm]; split <;> omega
    have each : ∀ i, i < len → ∃ (cs : List Value) (q : List V), w.cells? base ((⟨b, off, none⟩ : Addr).add (i * P.cellsOf e)) (P.cellsOf e) = some cs ∧ cs.length = ls.length ∧ HasL ls q ∧ Reps (sealedCtx w.heap) w.heap q cs ∧ DataW.trod enc P w base sp held n e cs = some (D i, Pl i) := by
      intro i hi
      obtain ⟨cs, h1, h2⟩ := hel i (by omega)
      have h3 : cs.length = ls.length := by obtain ⟨_, h4, _⟩ := World.cells?_some h1; omega
      obtain ⟨q, h4, h5, _⟩ := leaf_cells (κ := sealedCtx w.heap) (h := w.heap) d e ls n cs _ hl h2 h3
      exact ⟨cs, q, h1, h3, h4, h5, h2⟩
    have : ∃ (css : List (List Value)) (rows : List (List V)), css.length = len ∧ rows.length = len ∧ ∀ (i : Nat) cs q, css[i]? = some cs → rows[i]? = some q →
        w.cells? base ((⟨b, off, none⟩ : Addr).add (i * P.cellsOf e)) (P.cellsOf e) = some cs ∧ cs.length = ls.length ∧ HasL ls q ∧ Reps (sealedCtx w.heap) w.heap q cs ∧ DataW.trod enc P w base sp held n e cs = some (D i, Pl i) := by
      clear hle hm hmm hx hel hlm hf hval
      induction len with
      | zero => exact ⟨[], [], rfl, rfl, by simp⟩
      | succ k ih =>
        obtain ⟨css, rows, h1, h2, h3⟩ := ih (fun i hi => each i (by omega))
        obtain ⟨cs, q, hk⟩ := each k (by omega)
        refine ⟨css ++ [cs], rows ++ [q], by simp [h1], by simp [h2], fun i cs' q' g1 g2 => ?_⟩
        by_cases hik : i < k
        · rw [List.getElem?_append_left (by omega)] at g1 g2
          exact h3 i cs' q' g1 g2
        · have hlt : i < (css ++ [cs]).length := (List.getElem?_eq_some_iff.1 g1).1
          obtain rfl : i = k := by simp [h1] at hlt; omega
          rw [List.getElem?_append_right (by omega), h1] at g1
          rw [List.getElem?_append_right (by omega), h2] at g2
          simp at g1 g2
          subst g1; subst g2
          exact hk
    obtain ⟨css, rows, hc1, hc2, hrow⟩ := this
    have rowAt : ∀ i, i < len → ∃ cs q, css[i]? = some cs ∧ rows[i]? = some q := fun i hi => ⟨_, _, List.getElem?_eq_getElem (by omega), List.getElem?_eq_getElem (by omega)⟩
    have hrows : ∀ q ∈ rows, HasL ls q := by
      intro q hq
      obtain ⟨i, hi⟩ := List.getElem?_of_mem hq
      have : i < rows.length := (List.getElem?_eq_some_iff.1 hi).1
      exact (hrow i _ q (List.getElem?_eq_getElem (by omega)) hi).2.2.1
    -- the cells, one behind the other
    have hflat : Reps (sealedCtx w.heap) w.heap rows.flatten css.flatten := by
      have : ∀ (k : Nat), k ≤ len → Reps (sealedCtx w.heap) w.heap (rows.take k).flatten (css.take k).flatten := by
        intro k
        induction k with
        | zero => intro _; simp [Reps]
        | succ k ih =>
          intro hk
          obtain ⟨cs, q, h1, h2⟩ := rowAt k (by omega)
          rw [List.take_add_one, List.take_add_one, h1, h2]
          simp only [Option.toList_some, List.flatten_append, List.flatten_cons, List.flatten_nil, List.append_nil]
          exact (ih (by omega)).append (hrow k cs q h1 h2).2.2.2.1
      have h := this len (Nat.le_refl _)
      rw [List.take_of_length_le (by omega), List.take_of_length_le (by omega)] at h
      exact h
    have hget : ∀ (i j : Nat) cs x, css[i]? = some cs → cs[j]? = some x → css.flatten[i * ls.length + j]? = some x := by
      have hal : ∀ cs ∈ css, cs.length = ls.length := by
        intro cs hcs
        obtain ⟨i, hi⟩ := List.getElem?_of_mem hcs
        have : i < css.length := (List.getElem?_eq_some_iff.1 hi).1
        exact (hrow i cs _ hi (List.getElem?_eq_getElem (by omega))).2.1
      intro i
      clear hrow rowAt hflat hc1
      induction css generalizing i with
      | nil => intro j cs x h; simp at h
      | cons c css ih =>
        intro j cs x h1 h2
        cases i with
        | zero =>
          simp at h1; subst h1
          rw [List.flatten_cons, Nat.zero_mul, Nat.zero_add, List.getElem?_append_left (List.getElem?_eq_some_iff.1 h2).1]
          exact h2
        | succ i =>
          have hc := hal c (by simp)
          rw [List.flatten_cons, List.getElem?_append_right (by rw [hc, Nat.succ_mul]; omega), hc, show (i + 1) * ls.length + j - ls.length = i * ls.length + j by rw [Nat.succ_mul]; omega]
          exact ih (fun cs hcs => hal cs (by simp [hcs])) i j cs x (by simpa using h1) h2
    have hfl : css.flatten.length = len * ls.length := by
      have := hflat.1
      have h2 : rows.flatten.length = len * ls.length := by
        rw [← hc2]
        clear hrow rowAt hflat hc2 this hget hc1 
        induction rows with
        | nil => simp
        | cons q rows ih =>
          rw [List.flatten_cons, List.length_append, List.length_cons, Nat.succ_mul, ih (fun q hq => hrows q (by simp [hq])), (hrows q (by simp)).1]; omega
      omega
    have hblock : Block (sealedCtx w.heap) w.heap b off css.flatten := by
      refine sealed_block rfl fun k hk => ?_
      rw [hfl] at hk
      have hi : k / ls.length < len := by
        rw [Nat.div_lt_iff_lt_mul hpos]; exact hk
      obtain ⟨cs, q, h1, h2⟩ := rowAt _ hi
      obtain ⟨h3, h4, h5, h6, _⟩ := hrow _ cs q h1 h2
      have hj : k % ls.length < cs.length := by rw [h4]; exact Nat.mod_lt _ hpos
      have hx := hget _ _ _ _ h1 (List.getElem?_eq_getElem hj)
      rw [Nat.mul_comm, Nat.div_add_mod] at hx
      refine ⟨_, hx, (h5.cell h6).2 _ (List.getElem_mem hj), ?_⟩
      obtain ⟨_, h7, h8⟩ := World.cells?_some h3
      have := h8 (k % ls.length) (by rw [hc]; exact Nat.mod_lt _ hpos)
      rw [Go.WideShapes.add_plain, Go.WideShapes.add_plain] at this
      rw [Go.WideShapes.add_plain]
      have e : off + k = off + k / ls.length * P.cellsOf e + k % ls.length := by
        rw [hc, Nat.add_assoc, Nat.mul_comm (k / ls.length), Nat.div_add_mod]
      rw [e, this]
      rw [List.getElem?_eq_getElem hj]
    refine ⟨rows, hrows, ?_, fun h1 => ?_, by rw [hc2]; omega, .inr ⟨_, _, congrArg (·.1) hx, by simp [hc2], fun i q x g1 g2 => ?_⟩⟩
    rotate_left
    rotate_left
    · have hi : i < len := by rw [← hc2]; exact (List.getElem?_eq_some_iff.1 g1).1
      obtain ⟨cs, q', h1, h2⟩ := rowAt i hi
      rw [g1] at h2
      obtain rfl := Option.some.inj h2
      obtain ⟨_, _, _, h6, h7⟩ := hrow i cs q h1 g1
      rw [List.getElem?_map, List.getElem?_range hi] at g2
      obtain rfl := Option.some.inj g2
      exact ⟨n, cs, _, h7, h6⟩
    · have := Rep.sl (κ := sealedCtx w.heap) (h := w.heap) .ro (rows.map V.agg) b off cap ls.length css.flatten hblock
        (fun x hx => by obtain ⟨q, hq, rfl⟩ := List.mem_map.1 hx; exact (hrows q hq).1) (by rw [flat_agg]; exact hflat.1)
        (by rw [flat_agg]; exact hflat.2) (by simp [hc2]; omega) trivial
      simpa [hc2] using this
    · have hone : ∀ q ∈ rows, ∃ v, q = [v] ∧ v.cells = [v] := by
        intro q hq
        have h2 := hrows q hq
        match q, h2.1 with
        | [v], _ =>
          refine ⟨v, rfl, ?_⟩
          obtain ⟨i, hi⟩ := List.getElem?_of_mem hq
          have : i < rows.length := (List.getElem?_eq_some_iff.1 hi).1
          obtain ⟨_, _, g1, g2, _⟩ := hrow i _ [v] (List.getElem?_eq_getElem (by omega)) hi
          exact ((g1.cell g2).1 v (by simp)).1
        | [], h => simp [h1] at h
        | _ :: _ :: _, h => simp [h1] at h
      have hl1 : rows.flatten.length = len := by have := hflat.1; rw [hfl, h1] at this; omega
      have hcells : ∀ e ∈ rows.flatten, e.cells = [e] := by
        intro e he
        obtain ⟨q, hq, heq⟩ := List.mem_flatten.1 he
        obtain ⟨v, rfl, hv⟩ := hone q hq
        simp at heq; subst heq; exact hv
      have hff : flat rows.flatten = rows.flatten := by
        generalize rows.flatten = l at hcells
        induction l with
        | nil => rfl
        | cons e l ih => rw [show flat (e :: l) = e.cells ++ flat l from rfl, hcells e (by simp), ih fun x hx => hcells x (by simp [hx])]; rfl
      have := Rep.sl (κ := sealedCtx w.heap) (h := w.heap) .ro rows.flatten b off cap 1 css.flatten hblock (fun e he => by rw [hcells e he]; rfl) (by rw [hff]; exact hflat.1) (by rw [hff]; exact hflat.2) (by rw [hl1]; omega) trivial
      rwa [hl1] at this
end
end Go.Fbs
namespace Go.Fbs
section
variable {H : Type} {enc : TypeId × Value → H} {P : Program} {w : World} {base : Nat} {sp : Nat → Bool} {held : Bool} {κ : Ctx} {h : Heap} {r : Reach} {b0 : Nat} {t : TypeId} {v : Value} {dd : DataW H} {ps : List MemPlace}
theorem arg_bool (ht : P.underlying t = some .bool) (hval : Value.okWide P w r b0 t v) (hd : DataW.Trod enc P w base sp held t v dd ps) : ∃ b : Bool, Rep κ h (.bool b) v := by
  unfold Value.okWide Cell.okWide Cell.ok at hval
  rw [ht] at hval
  simp only at hval
  split at hval <;> (try (simp at *; done))
  all_goals first | exact ⟨_, .bool _⟩ | (exfalso; simp_all; done)
end
/-- Texts alone. -/
theorem hasL_strs : ∀ {rows : List (List V)}, (∀ q ∈ rows, HasL [.str] q) → ∃ l : List (List UInt8), rows.flatten = l.map V.str ∧ l.length = rows.length ∧ ∀ s ∈ l, s.length ≤ maxLen
  | [], _ => ⟨[], rfl, rfl, by simp⟩
  | q :: rows, h => by
    obtain ⟨l, h1, h2, h3⟩ := hasL_strs (rows := rows) fun q hq => h q (by simp [hq])
    obtain ⟨v, ws, rfl, ⟨s, rfl, hs⟩, hn⟩ := (h q (by simp)).cons_inv
    obtain rfl := hn.nil_inv
    refine ⟨s :: l, by simp [h1], by simp [h2], fun x hx => ?_⟩
    rcases List.mem_cons.1 hx with rfl | hx
    · exact hs
    · exact h3 x hx
end Go.Fbs

namespace Go.Fbs
section
variable {H : Type} {enc : TypeId × Value → H} {P : Program} {w : World} {base : Nat} {sp : Nat → Bool} {held : Bool} {r : Reach} {b0 : Nat} {t : TypeId} {v : Value} {dd : DataW H} {ps : List MemPlace}
/-- An argument that is a slice of texts. -/
theorem arg_strs {e : TypeId} (ht : P.underlying t = some (.slice e)) (he : P.underlying e = some .string) (hc : P.cellsOf e = 1) (hval : Value.okWide P w r b0 t v) (hd : DataW.Trod enc P w base sp held t v dd ps) :
    ∃ l : List (List UInt8), Rep (sealedCtx w.heap) w.heap (.sl .ro (l.map V.str)) v ∧ (∀ s ∈ l, s.length ≤ maxLen) ∧ ((l = [] ∧ dd = .nil) ∨ ∃ sp', dd = .slice (l.map fun s => .lit (.string s)) sp') := by
  obtain ⟨rows, h1, _, h3, h4, h5⟩ := arg_slice (ls := [.str]) (d := 1) ht (by simp [leafs, he]) hc (by simp) hval hd
  obtain ⟨l, h6, h7, h8⟩ := hasL_strs h1
  refine ⟨l, h6 ▸ h3 rfl, h8, ?_⟩
  rcases h5 with ⟨rfl, h9⟩ | ⟨es, sp', rfl, h9, h10⟩
  · exact .inl ⟨List.eq_nil_of_length_eq_zero h7, h9⟩
  · refine .inr ⟨sp', congrArg (fun es => DataW.slice es sp') ?_⟩
    refine List.ext_getElem? fun i => ?_
    by_cases hi : i < rows.length
    · have g1 := List.getElem?_eq_getElem hi
      have g2 : es[i]? = some es[i] := List.getElem?_eq_getElem (by omega)
      obtain ⟨n, cs, pl, g3, g4⟩ := h10 i _ _ g1 g2
      have g5 : rows[i] = [V.str (l[i]'(by omega))] := by
        have e1 : rows.flatten[i]? = (l.map V.str)[i]? := by rw [h6]
        have e2 : ∀ (rows : List (List V)) (i : Nat), (∀ q ∈ rows, HasL [.str] q) → ∀ (hi : i < rows.length), ∃ v, rows[i] = [v] ∧ rows.flatten[i]? = some v := by
          intro rows
          induction rows with
          | nil => intro i _ hi; simp at hi
          | cons q rows ih =>
            intro i hq hi
            obtain ⟨v, ws, rfl, _, hn⟩ := (hq q (by simp)).cons_inv
            obtain rfl := hn.nil_inv
            cases i with
            | zero => exact ⟨v, rfl, rfl⟩
            | succ i =>
              obtain ⟨v', g1, g2⟩ := ih i (fun q h => hq q (by simp [h])) (by simpa using hi)
              exact ⟨v', by simpa using g1, by simpa using g2⟩
        obtain ⟨v', g6, g7⟩ := e2 rows i h1 hi
        rw [g7, List.getElem?_map, List.getElem?_eq_getElem (by omega)] at e1
        rw [g6, Option.some.inj e1]
      rw [g5] at g4
      obtain ⟨x, ys, rfl, r1, r2⟩ := g4.inv_cons
      obtain rfl := rep_str r1
      obtain rfl := r2.inv_nil
      obtain ⟨s', e1, e2, _⟩ := DataW.trod_string he g3
      simp only [List.cons.injEq, Value.string.injEq, and_true] at e1
      subst e1
      simp only [Prod.mk.injEq] at e2
      rw [g2, List.getElem?_map, List.getElem?_eq_getElem (by omega), e2.1]
      rfl
    · rw [List.getElem?_eq_none (by omega), List.getElem?_eq_none (by simp; omega)]
/-- A text, and how it is read. -/
theorem arg_strD {κ : Ctx} {h : Heap} (ht : P.underlying t = some .string) (hval : Value.okWide P w r b0 t v) (hd : DataW.Trod enc P w base sp held t v dd ps) : ∃ s : List UInt8, Rep κ h (.str s) v ∧ s.length ≤ maxLen ∧ dd = .lit (.string s) := by
  obtain ⟨s, rfl, h1, _, hs⟩ := Go.ChangeMaps.open_string ht hval hd
  exact ⟨s.data.toList, .str _, hs, h1⟩
end
end Go.Fbs

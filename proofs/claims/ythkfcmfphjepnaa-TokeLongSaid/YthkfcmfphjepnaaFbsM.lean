/- Regions whose order is drawn: every order does what the text's order does. -/
import Derived.Test.YthkfcmfphjepnaaFbsL
set_option linter.unusedVariables false
set_option linter.unusedSimpArgs false
namespace Go.Fbs
section
variable {P : Program} {C : Callees} {ops : List Oper} {n : Nat} {σ : Nat → Env × List LO} {val : Nat → V}

def listedOf (S : Array Bool) : Nat → Bool := fun i => S.getD i false

theorem listedOf_of_not_lst {S : Array Bool} {i : Nat} (h : lst S i = true) (hi : i < S.size) : listedOf S i = true := by
  unfold lst at h; unfold listedOf
  simp [Array.getD, hi] at h ⊢; exact h

theorem listedOf_set {S : Array Bool} {i j : Nat} (hj : j < S.size) : listedOf (S.setIfInBounds j true) i = if i = j then true else listedOf S i := by
  unfold listedOf
  by_cases h : i = j
  · subst h; simp [Array.getD, hj]
  · simp only [if_neg h, Array.getD_eq_getD_getElem?]
    rw [Array.getElem?_setIfInBounds_ne (fun e => h e.symm)]

theorem closed_set {S : Array Bool} (hsz : S.size = ops.length) (hS : Closed ops (listedOf S)) {j : Nat} {o : Oper} (ho : ops[j]? = some o) (hr : ∀ e ∈ o.after, Region.binds .any e = true → S.getD e.on false = true) :
    Closed ops (listedOf (S.setIfInBounds j true)) := by
  have hj : j < S.size := by rw [hsz]; exact (List.getElem?_eq_some_iff.1 ho).1
  intro q oq hq hl e he hb
  rw [listedOf_set hj] at hl ⊢
  by_cases heq : e.on = j
  · rw [if_pos heq]
  · rw [if_neg heq]
    by_cases hqj : q = j
    · subst hqj
      rw [ho] at hq; simp at hq; subst hq
      exact hr e he hb
    · rw [if_neg hqj] at hl
      exact hS q oq hq hl e he hb

/-- What holds while some of the first n have come up. -/
structure Mid (P : Program) (C : Callees) (ops : List Oper) (n : Nat) (σ : Nat → Env × List LO) (val : Nat → V) (κ0 : Ctx) (h0 : World) (m : Hp) (S : Array Bool) (κ : Ctx) (w : World) (a : Act) : Prop where
  start : (σ 0).2 = m.H
  size : S.size = ops.length
  closed : Closed ops (listedOf S)
  front : ∀ j, n ≤ j → j < ops.length → listedOf S j = false
  ext : Ext κ0 h0 m κ w { m with H := (σ n).2 }
  defers : a.defers = []
  tsize : a.tmps.size = (σ 0).1.n
  kept : ∀ (j : Nat) o, j < n → ops[j]? = some o → listedOf S j = false → (σ (j + 1)).2 ≠ (σ j).2 → κ.box (σ j).2.length = none
  new : ∀ (i : Nat) o d x, i < n → ops[i]? = some o → listedOf S i = true → o.dst = some d → a.tmps[d]? = some x → Rep κ w.heap (val i) x
  old : ∀ d v x, (∀ (i : Nat) o, i < n → ops[i]? = some o → listedOf S i = true → o.dst ≠ some d) → (σ 0).1.get d = some v → a.tmps[d]? = some x → Rep κ w.heap v x

/-- The frame as an operation sees it. -/
def seen (env : Env) (look : List Tmp) : Env := ⟨env.n, fun t => if look.contains t then env.f t else .any⟩

theorem seen_get {env : Env} {look : List Tmp} {t : Nat} (ht : t < env.n) : (seen env look).get t = some (if look.contains t then env.f t else .any) := by
  unfold Env.get seen
  simp only
  rw [if_pos ht]

theorem seen_in {env : Env} {look : List Tmp} {t : Nat} {v : V} (hl : t ∈ look) (h : env.get t = some v) : (seen env look).get t = some v := by
  have ht := Env.get_lt h
  rw [seen_get ht, if_pos (List.contains_iff_mem.2 hl)]
  unfold Env.get at h
  rw [if_pos ht] at h
  exact h

theorem seen_agree {env : Env} {o : Oper} : Agree env (seen env (o.looksAt ops.toArray)) o.op.operands.toList := by
  intro x hx u hu
  cases x with
  | tmp t =>
    simp only [ev] at hu ⊢
    refine seen_in ?_ hu
    unfold Oper.looksAt
    refine List.mem_append.2 (.inl ?_)
    rw [List.mem_filterMap]
    exact ⟨.tmp t, hx, rfl⟩
  | const v => exact hu
  | func f => exact hu
  | global g => exact hu

theorem seen_wanted {env : Env} {o : Oper} {b : Bool} (e : wantedV ops env o = some b) : wantedV ops (seen env (o.looksAt ops.toArray)) o = some b := by
  unfold wantedV at e ⊢
  split at e
  · exact e
  · rename_i j want hg
    cases hd : (ops[j]?).bind (·.dst) with
    | none => rw [hd] at e; simp at e
    | some t =>
      rw [hd] at e
      simp only [Option.bind_some] at e ⊢
      cases ht : env.get t with
      | none => rw [ht] at e; simp at e
      | some v =>
        rw [ht] at e
        have : (seen env (o.looksAt ops.toArray)).get t = some v := by
          refine seen_in ?_ ht
          unfold Oper.looksAt
          refine List.mem_append.2 (.inr ?_)
          rw [hg]
          simp [List.getElem?_toArray, hd]
        rw [this]; exact e

theorem Mid.env {κ0 κ : Ctx} {h0 : World} {m : Hp} {S : Array Bool} {w : World} {a : Act} (t : Trace P C ops n σ val) (f : DrawFacts ops n) (M : Mid P C ops n σ val κ0 h0 m S κ w a) {j : Nat} {o : Oper} (hj : j < n)
    (ho : ops[j]? = some o) (hun : listedOf S j = false) (hr : ∀ e ∈ o.after, Region.binds .any e = true → S.getD e.on false = true) : EnvOk κ w.heap (seen (σ j).1 (o.looksAt ops.toArray)) a := by
  have hlen := t.len j (by omega)
  refine ⟨M.defers, by show _ = (σ j).1.n; rw [hlen, M.tsize], fun d v x hv hx => ?_⟩
  have hd : d < (seen (σ j).1 (o.looksAt ops.toArray)).n := Env.get_lt hv
  have hd : d < (σ j).1.n := hd
  rw [seen_get hd] at hv
  split at hv
  · rename_i hl
    have hl : d ∈ o.looksAt ops.toArray := List.contains_iff_mem.1 hl
    simp only [Option.some.injEq] at hv
    have hget : (σ j).1.get d = some v := by unfold Env.get; rw [if_pos hd, hv]
    by_cases hex : ∃ (i : Nat) (oi : Oper), i < j ∧ ops[i]? = some oi ∧ oi.dst = some d
    · obtain ⟨i, oi, hi, hoi, hdi⟩ := hex
      have hval := t.new f hoi hdi j hi (by omega)
      rw [hget, if_pos (by rw [← hlen]; exact hd)] at hval
      simp only [Option.some.injEq] at hval
      subst hval
      have hli : listedOf S i = true := by
        rcases f.pair i j oi o hi hj hoi ho with h1 | h1
        · exact mask_listed ho M.closed hr h1
        · exact absurd hl ((Oper.apart_spec h1).1 d hdi)
      exact M.new i oi d x (by omega) hoi hli hdi hx
    · have hold := t.old (d := d) j (by omega) (fun i oi hi hoi hdi => hex ⟨i, oi, hi, hoi, hdi⟩)
      rw [hget] at hold
      refine M.old d v x (fun i oi hi hoi hli hdi => ?_) hold.symm hx
      have hij : i ≠ j := fun e => by subst e; rw [hun] at hli; simp at hli
      have hji : j < i := by
        rcases Nat.lt_or_gt_of_ne hij with h1 | h1
        · exact absurd ⟨i, oi, h1, hoi, hdi⟩ hex
        · exact h1
      rcases f.pair j i o oi hji hi ho hoi with h1 | h1
      · have := mask_listed hoi M.closed (M.closed i oi hoi hli) h1
        rw [hun] at this; simp at this
      · exact (Oper.apart_spec h1).2.2 d hdi hl
  · simp only [Option.some.injEq] at hv
    subst hv
    exact .any x

theorem prefix_get {H H' cs : List LO} (h : H' = H ++ cs) (l : Nat) (c : LO) (e : H[l]? = some c) : H'[l]? = some c := by
  rw [h, List.getElem?_append_left (List.getElem?_eq_some_iff.1 e).1]; exact e

/-- One operation comes up. -/
theorem Mid.step {κ0 κ : Ctx} {h0 : World} {m : Hp} {S : Array Bool} {w : World} {a : Act} (hC : Sound P C) (t : Trace P C ops n σ val) (f : DrawFacts ops n) (M : Mid P C ops n σ val κ0 h0 m S κ w a) {j : Nat} {o : Oper} (hj : j < n)
    (ho : ops[j]? = some o) (hun : listedOf S j = false) (hr : ∀ e ∈ o.after, Region.binds .any e = true → S.getD e.on false = true) (Q : Exit → Act → World → Prop) (K : Act → World → Prop)
    (hK : ∀ κ' w' a', Mid P C ops n σ val κ0 h0 m (S.setIfInBounds j true) κ' w' a' → K a' w') : wpOp P ops.toArray Q j K a w := by
  have hjs : j < S.size := by rw [M.size]; exact (List.getElem?_eq_some_iff.1 ho).1
  have renv := M.env t f hj ho hun hr
  have hst := t.step j o hj ho
  obtain ⟨cs, hcs⟩ := t.heap (i := j) n (by omega) (Nat.le_refl _)
  have hpre : ∀ (l : Nat) c, (σ j).2[l]? = some c → (σ n).2[l]? = some c := prefix_get hcs
  -- what is left to show once the operation has put a value
  have close : ∀ κ' w' x, (w'.os = w.os ∧ Kept w w') → Le κ w.heap κ' w'.heap → Mem κ' w'.heap { m with H := (σ n).2 } → (∀ l, l < m.H.length → κ.box l = none → κ'.box l = none) → (∀ (i : Nat) oi, i < n → ops[i]? = some oi → i ≠ j → listedOf S i = false → (σ (i + 1)).2 ≠ (σ i).2 → κ'.box (σ i).2.length = none) →
      Rep κ' w'.heap (val j) x → Mid P C ops n σ val κ0 h0 m (S.setIfInBounds j true) κ' w' (a.put o.dst x) := by
    intro κ' w' x hou hle hmem hhole hk hrep
    have hput : ∀ d, (a.put o.dst x).tmps[d]? = if o.dst = some d then (if d < a.tmps.size then some x else none) else a.tmps[d]? := by
      intro d
      cases hdst : o.dst with
      | none => simp [Act.put]
      | some c =>
        simp only [Act.put, Array.getElem?_setIfInBounds, Option.some.injEq]
        split
        · rename_i h; subst h; rfl
        · rfl
    refine ⟨M.start, by simpa using M.size, closed_set M.size M.closed ho hr, fun q hq1 hq2 => ?_, ⟨M.ext.le.trans hle, hmem, M.ext.grow, fun l hl e => hhole l hl (M.ext.hole l hl e), hou.1.trans M.ext.os, M.ext.out.trans hou.2⟩, ?_, ?_, fun i oi hi hoi hl hne => ?_, fun i oi d y hi hoi hl hd hy => ?_, fun d v y hno hv hy => ?_⟩
    · rw [listedOf_set hjs, if_neg (by omega)]; exact M.front q hq1 hq2
    · cases hdst : o.dst <;> simp [Act.put, M.defers]
    · cases hdst : o.dst <;> simp [Act.put, M.tsize]
    · rw [listedOf_set hjs] at hl
      split at hl
      · simp at hl
      · rename_i hij; exact hk i oi hi hoi hij hl hne
    · rw [listedOf_set hjs] at hl
      rw [hput] at hy
      by_cases hij : i = j
      · subst hij
        rw [ho] at hoi; simp at hoi; subst hoi
        rw [if_pos hd] at hy
        split at hy <;> simp at hy
        subst hy; exact hrep
      · rw [if_neg hij] at hl
        have hne : o.dst ≠ some d := fun e => hij (f.nd i j oi o d hi hj hoi ho hd e)
        rw [if_neg hne] at hy
        exact (M.new i oi d y hi hoi hl hd hy).mono hle
    · have hne : o.dst ≠ some d := hno j o hj ho (by rw [listedOf_set hjs, if_pos rfl])
      rw [hput, if_neg hne] at hy
      refine (M.old d v y (fun i oi hi hoi hl => hno i oi hi hoi ?_) hv hy).mono hle
      rw [listedOf_set hjs]; split <;> first | rfl | exact hl
  unfold wpOp
  have ho' : ops.toArray[j]? = some o := by simpa using ho
  rw [ho']
  simp only
  have hq : ∀ v, evalQ P C (seen (σ j).1 (o.looksAt ops.toArray)) (σ n).2 o.op = some v → val j = v → Region.wanted o (yielded ops.toArray a.tmps) = true → (if Region.wanted o (yielded ops.toArray a.tmps) then o.wp P a w K Q ∨ (o.asks P a w ∧ LetsOut Q) else K (a.put o.dst undef) w) := by
    intro v hv hval hw
    rw [if_pos hw]
    refine .inl (Oper.wp_mono ?_ (evalQ_done (m := { m with H := (σ n).2 }) hC M.ext.mem renv hv Q))
    rintro a' w' ⟨x, κ', rfl, hx, hrep⟩
    refine hK κ' w' _ (close κ' w' x ⟨hx.os, hx.out⟩ hx.le hx.mem (fun l hl => hx.hole l (Nat.lt_of_lt_of_le hl M.ext.grow)) (fun i oi hi hoi _ hl hne => ?_) (by rw [hval]; exact hrep))
    have hlt : (σ i).2.length < (σ n).2.length := by
      obtain ⟨ds, hds⟩ := t.heap (i := i + 1) n (by omega) (Nat.le_refl _)
      obtain ⟨es, hes⟩ := (drStep_env (t.step i oi hi hoi)).2
      have : es ≠ [] := fun e => hne (by rw [hes, e]; simp)
      have := List.length_pos_iff.2 this
      rw [hds, hes]; simp; omega
    exact hx.hole _ hlt (M.kept i oi hi hoi hl hne)
  unfold drStep at hst
  split at hst
  · rename_i hw
    have hw' := wantedV_run (w := w) renv (seen_wanted (ops := ops) hw)
    split at hst
    · simp only [Option.map_eq_some_iff] at hst
      obtain ⟨v, hv, hst⟩ := hst
      simp at hst
      exact hq v (evalQ_congr seen_agree hpre hv) hst.2.symm hw'
    · simp only [Option.map_eq_some_iff] at hst
      obtain ⟨ds, hds, hst⟩ := hst
      · simp at hst
        obtain ⟨hs1, hs2⟩ := hst
        rw [if_pos hw']
        have hH1 : (σ (j + 1)).2 = (σ j).2 ++ [.cells ds] := by rw [← hs1]
        obtain ⟨cs', hcs'⟩ := t.heap (i := j + 1) n (by omega) (Nat.le_refl _)
        have hget : (σ n).2[(σ j).2.length]? = some (.cells ds) := prefix_get hcs' _ _ (by rw [hH1]; simp)
        have hnone : κ.box (σ j).2.length = none := M.kept j o hj ho hun (by rw [hH1]; simp)
        refine .inl (Oper.wp_mono ?_ (alloc_does (m := { m with H := (σ n).2 }) (l := (σ j).2.length) M.ext.mem renv (evalA_congr seen_agree hds) hget hnone Q))
        rintro a' w' ⟨x, κ', rfl, hle, hmem, hrep, hbox, hos, hout⟩
        -- places differ
        have hdiff : ∀ (i : Nat) oi, i < n → ops[i]? = some oi → i ≠ j → (σ (i + 1)).2 ≠ (σ i).2 → (σ i).2.length ≠ (σ j).2.length := by
          intro i oi hi hoi hij hne
          obtain ⟨es, hes⟩ := (drStep_env (t.step i oi hi hoi)).2
          have hes' : es ≠ [] := fun e => hne (by rw [hes, e]; simp)
          have hpos := List.length_pos_iff.2 hes'
          rcases Nat.lt_or_gt_of_ne hij with h1 | h1
          · obtain ⟨fs, hfs⟩ := t.heap (i := i + 1) j (by omega) (by omega)
            rw [hfs, hes]
            simp only [List.length_append]
            omega
          · obtain ⟨fs, hfs⟩ := t.heap (i := j + 1) i (by omega) (by omega)
            rw [hfs, hH1]
            simp only [List.length_append, List.length_singleton]
            omega
        refine hK κ' w' _ (close κ' w' x ⟨hos, hout⟩ hle hmem (fun l hl hb => ?_) (fun i oi hi hoi hij hl hne => ?_) (by rw [← hs2]; exact hrep))
        · rw [hbox]
          simp only
          have : l ≠ (σ j).2.length := by
            obtain ⟨fs, hfs⟩ := t.heap (i := 0) j (by omega) (by omega)
            rw [hfs, M.start]; simp; omega
          rw [if_neg this]; exact hb
        · rw [hbox]
          simp only
          rw [if_neg (hdiff i oi hi hoi hij hne)]
          exact M.kept i oi hi hoi hl hne
  · rename_i hw
    have hw' := wantedV_run (w := w) renv (seen_wanted (ops := ops) hw)
    simp at hst
    rw [if_neg (by rw [hw']; simp)]
    refine hK κ w _ (close κ w Go.undef ⟨rfl, Kept.refl _⟩ (Le.refl _ _) M.ext.mem (fun _ _ h => h) (fun i oi hi hoi _ hl hne => M.kept i oi hi hoi hl hne) ?_)
    rw [← hst.2]; exact .undef
  · simp at hst

end
end Go.Fbs

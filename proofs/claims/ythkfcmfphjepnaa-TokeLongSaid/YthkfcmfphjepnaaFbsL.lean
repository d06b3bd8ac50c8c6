/- Regions whose order is drawn: the theorem. -/
import Derived.Test.YthkfcmfphjepnaaFbsK
set_option linter.unusedVariables false
set_option linter.unusedSimpArgs false
namespace Go.Fbs

def lst (S : Array Bool) (i : Nat) : Bool := S.getD i true

def unl (S : Array Bool) : Nat := S.toList.count false

theorem count_set : ∀ (l : List Bool) (i : Nat), l[i]? = some false → (l.set i true).count false + 1 = l.count false
  | [], i, h => by simp at h
  | b :: l, 0, h => by simp at h; subst h; simp
  | b :: l, i + 1, h => by
    have := count_set l i (by simpa using h)
    cases b <;> simp <;> omega

theorem unl_set {S : Array Bool} {i : Nat} (h : S[i]? = some false) : unl (S.setIfInBounds i true) + 1 = unl S := by
  unfold unl
  rw [Array.toList_setIfInBounds]
  exact count_set _ _ (by simpa using h)

theorem ready_iff {ops : List Oper} {S : Array Bool} {i : Nat} : i ∈ Region.ready .any ops.toArray S ↔ ∃ o, ops[i]? = some o ∧ lst S i = false ∧ ∀ e ∈ o.after, Region.binds .any e = true → S.getD e.on false = true := by
  unfold Region.ready
  simp only [List.mem_filter, List.mem_range, Bool.and_eq_true, Bool.not_eq_true', lst]
  constructor
  · rintro ⟨h1, h2, h3⟩
    have h1' : i < ops.length := by simpa using h1
    refine ⟨ops[i], List.getElem?_eq_getElem h1', h2, fun e he hb => ?_⟩
    have : (ops.toArray[i]?).map (fun o => o.after.all fun e => !Region.binds .any e || S.getD e.on false) = some (ops[i].after.all fun e => !Region.binds .any e || S.getD e.on false) := by
      rw [List.getElem?_toArray, List.getElem?_eq_getElem h1']; rfl
    rw [this] at h3
    simp only [Option.getD_some, Array.all_eq_true] at h3
    obtain ⟨q, hq, rfl⟩ := Array.mem_iff_getElem.1 he
    have := h3 q hq
    simpa [hb] using this
  · rintro ⟨o, h1, h2, h3⟩
    have h1' := (List.getElem?_eq_some_iff.1 h1).1
    refine ⟨by simpa using h1', h2, ?_⟩
    rw [List.getElem?_toArray, h1]
    simp only [Option.map_some, Option.getD_some, Array.all_eq_true]
    intro q hq
    have := h3 o.after[q] (by simp)
    cases hb : Region.binds .any o.after[q] with
    | false => simp
    | true => simpa using this hb

structure DrawFacts (ops : List Oper) (n : Nat) : Prop where
  le : n ≤ ops.length
  nd : ∀ (i j : Nat) x y d, i < n → j < n → ops[i]? = some x → ops[j]? = some y → x.dst = some d → y.dst = some d → i = j
  back : ∀ (j : Nat) o, ops[j]? = some o → ∀ e ∈ o.after, Region.binds .any e = true → e.on < j
  pair : ∀ (i j : Nat) x y, i < j → j < n → ops[i]? = some x → ops[j]? = some y → ((masksFrom [] ops).getD j 0).testBit i = true ∨ Oper.apart ops.toArray x y = true
  tail : ∀ (i j : Nat), i < j → n ≤ j → j < ops.length → ((masksFrom [] ops).getD j 0).testBit i = true

theorem noDup_spec : ∀ (l : List (Option Tmp)), noDup l = true → ∀ (i j : Nat) d, l[i]? = some (some d) → l[j]? = some (some d) → i = j
  | [], _, i, j, d, h, _ => by simp at h
  | none :: r, h, i, j, d, h1, h2 => by
    cases i with
    | zero => simp at h1
    | succ i =>
      cases j with
      | zero => simp at h2
      | succ j => rw [noDup_spec r (by simpa [noDup] using h) i j d (by simpa using h1) (by simpa using h2)]
  | some c :: r, h, i, j, d, h1, h2 => by
    simp only [noDup, Bool.and_eq_true, Bool.not_eq_true'] at h
    obtain ⟨h3, h4⟩ := h
    have hne : ∀ (q : Nat), r[q]? = some (some c) → False := fun q hq => by
      have := List.mem_of_getElem? hq
      have : r.contains (some c) = true := List.contains_iff_mem.2 this
      rw [this] at h3; simp at h3
    cases i with
    | zero =>
      cases j with
      | zero => rfl
      | succ j => simp at h1 h2; subst h1; exact (hne j h2).elim
    | succ i =>
      cases j with
      | zero => simp at h1 h2; subst h2; exact (hne i h1).elim
      | succ j => rw [noDup_spec r h4 i j d (by simpa using h1) (by simpa using h2)]

theorem drawFacts {ops : List Oper} {n : Nat} (h : drawOk ops n = true) : DrawFacts ops n := by
  unfold drawOk at h
  simp only [Bool.and_eq_true, List.all_eq_true, List.mem_range, decide_eq_true_eq] at h
  obtain ⟨⟨⟨⟨h0, h1⟩, h2⟩, h3⟩, h4⟩ := h
  refine ⟨h0, fun i j x y d hi hj hx hy hxd hyd => ?_, fun j o ho e he hb => ?_, fun i j x y hij hjn hx hy => ?_, fun i j hij hnj hj => ?_⟩
  · refine noDup_spec _ h1 i j d ?_ ?_
    · rw [List.getElem?_map, List.getElem?_take_of_lt hi, hx]; simp [hxd]
    · rw [List.getElem?_map, List.getElem?_take_of_lt hj, hy]; simp [hyd]
  · have hj := (List.getElem?_eq_some_iff.1 ho).1
    have := h2 j hj
    rw [List.getD_eq_getElem?_getD, ho] at this
    simp only [Option.getD_some, edgesBack, List.all_eq_true] at this
    have := this e (by simpa using he)
    simpa [hb] using this
  · have := h3 j hjn i hij
    unfold pairOk at this
    rw [hx, hy] at this
    simpa using this
  · have := h4 j hj
    simp only [Bool.or_eq_true, decide_eq_true_eq] at this
    rcases this with h5 | h5
    · omega
    · exact List.all_eq_true.1 h5 i (List.mem_range.2 hij)

section
variable {P : Program} {C : Callees} {ops : List Oper}

/-- The steps of the part that may come in any order, written down. -/
theorem dr_trace : ∀ {rest : List Oper} {s s' : Env × List LO}, evalDr P C ops rest s = some s' →
    ∃ (σ : Nat → Env × List LO) (val : Nat → V), σ 0 = s ∧ σ rest.length = s' ∧ ∀ (j : Nat) o, rest[j]? = some o → drStep P C ops (σ j) o = some (σ (j + 1), val j)
  | [], s, s', e => by
    simp [evalDr] at e; subst e
    exact ⟨fun _ => s, fun _ => .undef, rfl, rfl, by simp⟩
  | o :: rest, s, s', e => by
    simp only [evalDr] at e
    split at e
    · rename_i s1 v h1
      obtain ⟨σ, val, h2, h3, h4⟩ := dr_trace e
      refine ⟨fun i => match i with | 0 => s | i + 1 => σ i, fun i => match i with | 0 => v | i + 1 => val i, rfl, h3, fun j o' ho => ?_⟩
      cases j with
      | zero => simp at ho; subst ho; simpa [h2] using h1
      | succ j => exact h4 j o' (by simpa using ho)
    · simp at e

theorem drStep_env {s s' : Env × List LO} {o : Oper} {v : V} (e : drStep P C ops s o = some (s', v)) : s'.1 = putV s.1 o.dst v ∧ ∃ cs, s'.2 = s.2 ++ cs := by
  unfold drStep at e
  split at e
  · split at e
    · simp only [Option.map_eq_some_iff] at e
      obtain ⟨u, _, e⟩ := e
      simp at e; obtain ⟨rfl, rfl⟩ := e; exact ⟨rfl, [], by simp⟩
    · simp only [Option.map_eq_some_iff] at e
      obtain ⟨u, _, e⟩ := e
      simp at e; obtain ⟨rfl, rfl⟩ := e; exact ⟨rfl, _, rfl⟩
  · simp at e; obtain ⟨rfl, rfl⟩ := e; exact ⟨rfl, [], by simp⟩
  · simp at e

theorem putV_get {env : Env} {dst : Option Tmp} {v : V} {t : Nat} : (putV env dst v).get t = if dst = some t then (if t < env.n then some v else none) else env.get t := by
  cases dst with
  | none => simp [putV]
  | some d =>
    simp only [putV, Env.get_put, Option.some.injEq]

theorem putV_len {env : Env} {dst : Option Tmp} {v : V} : (putV env dst v).n = env.n := by
  cases dst <;> rfl

/-- What is known of the trace. -/
structure Trace (P : Program) (C : Callees) (ops : List Oper) (n : Nat) (σ : Nat → Env × List LO) (val : Nat → V) : Prop where
  step : ∀ (j : Nat) o, j < n → ops[j]? = some o → drStep P C ops (σ j) o = some (σ (j + 1), val j)
  le : n ≤ ops.length

variable {n : Nat} {σ : Nat → Env × List LO} {val : Nat → V}

theorem Trace.len (t : Trace P C ops n σ val) : ∀ j, j ≤ n → (σ j).1.n = (σ 0).1.n
  | 0, _ => rfl
  | j + 1, hj => by
    have hlt : j < ops.length := by have := t.le; omega
    have := (drStep_env (t.step j ops[j] (by omega) (List.getElem?_eq_getElem hlt))).1
    rw [this, putV_len]; exact t.len j (by omega)

theorem Trace.heap (t : Trace P C ops n σ val) {i : Nat} : ∀ j, i ≤ j → j ≤ n → ∃ cs, (σ j).2 = (σ i).2 ++ cs
  | 0, h, _ => by
    obtain rfl : i = 0 := Nat.le_zero.1 h
    exact ⟨[], by simp⟩
  | j + 1, h, hj => by
    by_cases hi : i = j + 1
    · subst hi; exact ⟨[], by simp⟩
    · obtain ⟨cs, h1⟩ := t.heap (i := i) j (by omega) (by omega)
      have hlt : j < ops.length := by have := t.le; omega
      obtain ⟨ds, h2⟩ := (drStep_env (t.step j ops[j] (by omega) (List.getElem?_eq_getElem hlt))).2
      exact ⟨cs ++ ds, by rw [h2, h1]; simp⟩

/-- A slot that none of the first j writes. -/
theorem Trace.old (t : Trace P C ops n σ val) {d : Nat} : ∀ j, j ≤ n → (∀ (i : Nat) o, i < j → ops[i]? = some o → o.dst ≠ some d) → (σ j).1.get d = (σ 0).1.get d
  | 0, _, _ => rfl
  | j + 1, hj, h => by
    have hlt : j < ops.length := by have := t.le; omega
    have ho := List.getElem?_eq_getElem hlt
    rw [(drStep_env (t.step j ops[j] (by omega) ho)).1, putV_get, if_neg (h j _ (by omega) ho)]
    exact t.old j (by omega) (fun i o hi ho => h i o (by omega) ho)

/-- A slot that one of the first j writes. -/
theorem Trace.new (t : Trace P C ops n σ val) (f : DrawFacts ops n) {d i : Nat} {o : Oper} (hio : ops[i]? = some o) (hd : o.dst = some d) : ∀ j, i < j → j ≤ n → (σ j).1.get d = if d < (σ 0).1.n then some (val i) else none
  | 0, h, _ => by omega
  | j + 1, h, hj => by
    have hlt : j < ops.length := by have := t.le; omega
    have ho := List.getElem?_eq_getElem hlt
    rw [(drStep_env (t.step j ops[j] (by omega) ho)).1, putV_get]
    by_cases hij : i = j
    · subst hij
      rw [ho] at hio; simp at hio; subst hio
      rw [if_pos hd, t.len i (by omega)]
    · rw [if_neg (fun e => hij (f.nd i j _ _ d (by omega) (by omega) hio ho hd e))]
      exact t.new f hio hd j (by omega) (by omega)

end
end Go.Fbs

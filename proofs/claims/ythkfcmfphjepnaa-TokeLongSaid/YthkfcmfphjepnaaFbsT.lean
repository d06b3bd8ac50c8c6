/- Tables of callees; what a function is said to answer. -/
import Derived.Test.YthkfcmfphjepnaaFbsS
set_option linter.unusedVariables false
set_option linter.unusedSimpArgs false
namespace Go.Fbs

abbrev Spec := List V → Option V

/-- A call of the function finds a body. -/
def Enter (P : Program) (f : FuncId) : Prop := ∃ fn c, P.funcs[f]? = some fn ∧ fn.body = some c ∧ (fn.name == "runtime.NumGoroutine") = false

/-- What F answers is what a call answers; nothing else is told. -/
structure SpecOk (P : Program) (f : FuncId) (F : Spec) : Prop where
  enter : Enter P f
  call : ∀ args v, F args = some v → ∀ m, CallOk P f args m v m

def tab : List (FuncId × Spec) → PT
  | [] => fun _ _ => none
  | (g, F) :: r => fun f args => bif Nat.beq f g then F args else tab r f args

def noE : ET := fun _ _ _ => none

theorem sound_nil {P : Program} {E : FuncId → Bool} : Sound P (CT E (tab []) noE) where
  enter := fun f h => by rcases h with ⟨a, v, h⟩ | ⟨a, m, r, h⟩ <;> simp [tab, noE] at h
  pure := fun f args v h => by simp [tab] at h
  eff := fun f args m v m' h => by simp [noE] at h

theorem sound_cons {P : Program} {E : FuncId → Bool} {g : FuncId} {F : Spec} {r : List (FuncId × Spec)} (h : SpecOk P g F) (hr : Sound P (CT E (tab r) noE)) : Sound P (CT E (tab ((g, F) :: r)) noE) where
  enter := fun f hf => by
    by_cases hfg : f = g
    · subst hfg; exact h.enter
    · rcases hf with ⟨a, v, hf⟩ | ⟨a, m, x, hf⟩
      · have hb : Nat.beq f g = false := by cases hb : Nat.beq f g with
          | false => rfl
          | true => exact absurd (Nat.eq_of_beq_eq_true hb) hfg
        simp only [tab, hb, cond_false] at hf
        exact hr.enter f (.inl ⟨a, v, hf⟩)
      · simp [noE] at hf
  pure := fun f args v hf m => by
    by_cases hfg : f = g
    · subst hfg
      have hb : Nat.beq f f = true := Nat.beq_refl f
      simp only [tab, hb, cond_true] at hf
      exact h.call args v hf m
    · have hb : Nat.beq f g = false := by cases hb : Nat.beq f g with
        | false => rfl
        | true => exact absurd (Nat.eq_of_beq_eq_true hb) hfg
      simp only [tab, hb, cond_false] at hf
      exact hr.pure f args v hf m
  eff := fun f args m v m' h => by simp [noE] at h

/-- A byte, a bool, a text, a number of Go's, as values. -/
abbrev vI (n : Int) : V := .int .i64 n
abbrev vB (c : UInt8) : V := .int .u8 c.toNat

/-- What a text may be long. -/
def big : Nat := 4611686018427387904

def natOf : V → Nat
  | .int _ n => n.toNat
  | _ => 0

theorem lenS_str (l : List UInt8) : lenS (.str l) = some (.int .i64 l.length) := Option.some.inj (congrArg some rfl)
theorem lenL_sl (g : Tag) (l : List V) : lenL (.sl g l) = some (.int .i64 l.length) := Option.some.inj (congrArg some rfl)
theorem sliceS_from {l : List UInt8} {k : Nat} (h : k ≤ l.length) (kk : IntKind) : sliceS (.str l) (some (.int kk k)) none = some (.str (l.drop k)) := by
  simp [sliceS, boundV, h]
theorem sliceS_to {l : List UInt8} {k : Nat} (h : k ≤ l.length) (kk : IntKind) : sliceS (.str l) none (some (.int kk k)) = some (.str (l.take k)) := by
  simp [sliceS, boundV, h]
theorem sliceS_both {l : List UInt8} {j k : Nat} (h : k ≤ l.length) (hj : j ≤ k) (kk kk' : IntKind) : sliceS (.str l) (some (.int kk j)) (some (.int kk' k)) = some (.str ((l.take k).drop j)) := by
  simp [sliceS, boundV, h, hj]
theorem indexS_at {l : List UInt8} {k : Nat} {c : UInt8} (h : l[k]? = some c) (kk : IntKind) : indexS (.str l) (.int kk k) = some (.int .u8 c.toNat) := by
  simp [indexS, h]

/-- A contract that leaves the world alone. -/
theorem callOk_same {P : Program} {f : FuncId} {args : List V} {m : Hp} {v : V} (h : ∀ (κ : Ctx) (w : World) (xs : List Value), Reps κ w.heap args xs → ∃ x, Calls P f ⟨xs⟩ w (fun e w' => e = .returned x ∧ w' = w) ∧ Rep κ w.heap v x) : CallOk P f args m v m := by
  intro κ w xs k r
  obtain ⟨x, c, rx⟩ := h κ w xs r
  refine c.mono fun e w' ⟨he, hw⟩ => ?_
  subst hw
  exact ⟨x, κ, he, Ext.refl k, rx⟩
theorem reps_str1 {κ : Ctx} {h : Heap} {a : List UInt8} {xs : List Value} (r : Reps κ h [.str a] xs) : xs = [.string ⟨⟨a⟩⟩] := by
  obtain ⟨x, ys, rfl, r1, r2⟩ := r.inv_cons
  rw [r2.inv_nil, rep_str r1]
theorem reps_str2 {κ : Ctx} {h : Heap} {a b : List UInt8} {xs : List Value} (r : Reps κ h [.str a, .str b] xs) : xs = [.string ⟨⟨a⟩⟩, .string ⟨⟨b⟩⟩] := by
  obtain ⟨x, ys, rfl, r1, r2⟩ := r.inv_cons
  rw [reps_str1 r2, rep_str r1]

/-- A slice that was grown by append from nothing. -/
def GrownSl (sz : Nat) (es : List V) (x : V) (T : List (Nat × Nat)) : Prop :=
  (es = [] ∧ x = .sl .full []) ∨ (es ≠ [] ∧ ∃ i, x = .sl (.own i) es ∧ T[i]? = some (es.length, sz))
/-- The tag that is left of it at the end. -/
def rtag (es : List V) : Tag := if es = [] then .full else .ro
theorem grownSl_nil {sz : Nat} {T : List (Nat × Nat)} : GrownSl sz [] (.sl .full []) T := .inl ⟨rfl, rfl⟩
theorem grownSl_er {sz : Nat} {es : List V} {x : V} {T : List (Nat × Nat)} (h : GrownSl sz es x T) : x.er1 = .sl (rtag es) es := by
  rcases h with ⟨rfl, rfl⟩ | ⟨hn, i, rfl, _⟩
  · rfl
  · simp [V.er1, rtag, hn]
theorem grownSl_append {sz by_ : Nat} {es ys : List V} {x : V} {g : Tag} {m : Hp} (h : GrownSl sz es x m.T) (hy : ys ≠ []) (hb : (es.length + ys.length) * (by_ + 1) ≤ 70368744177664)
    (he : ∀ e ∈ es, e.cells.length = sz) (hys : ∀ e ∈ ys, e.cells.length = sz) :
    ∃ x' T', appendK sz by_ x (.sl g ys) m = some (x', ⟨m.H, T'⟩) ∧ GrownSl sz (es ++ ys) x' T' := by
  have h1 : es.all (fun e => e.cells.length == sz) = true := by simpa using he
  have h2 : ys.all (fun e => e.cells.length == sz) = true := by simpa using hys
  have hne : es ++ ys ≠ [] := by simp [hy]
  rcases h with ⟨rfl, rfl⟩ | ⟨hn, i, rfl, ht⟩
  · refine ⟨_, _, by simp only [appendK, appendT]; rw [if_pos ⟨hb, h1, h2⟩, if_neg hy], .inr ⟨hne, _, rfl, ?_⟩⟩
    simp
  · refine ⟨.sl (.own i) (es ++ ys), m.T.set i (es.length + ys.length, sz), by simp only [appendK, appendT]; rw [if_pos ⟨hb, h1, h2⟩, if_neg hy, if_pos ht], .inr ⟨hne, _, rfl, ?_⟩⟩
    have hi : i < m.T.length := (List.getElem?_eq_some_iff.1 ht).1
    simp [hi]
theorem grownSl_len {sz : Nat} {es : List V} {x : V} {T : List (Nat × Nat)} (h : GrownSl sz es x T) : lenL x = some (.int .i64 es.length) := by
  rcases h with ⟨rfl, rfl⟩ | ⟨hn, i, rfl, _⟩ <;> rfl
end Go.Fbs

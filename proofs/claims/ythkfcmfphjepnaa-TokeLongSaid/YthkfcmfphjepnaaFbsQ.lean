/- The evaluator, stepped: what is left to show behind a region, as one formula over its slots. -/
import Derived.Test.YthkfcmfphjepnaaFbsP
set_option linter.unusedVariables false
set_option linter.unusedSimpArgs false
namespace Go.Fbs

/-- A value is there, and what is left holds of it. -/
def opt (o : Option V) (k : V → Prop) : Prop :=
  match o with
  | some v => k v
  | none => False

def optC (o : Option (List V)) (k : List V → Prop) : Prop :=
  match o with
  | some v => k v
  | none => False

def opt2 (o : Option (V × Hp)) (k : V → Hp → Prop) : Prop :=
  match o with
  | some (v, m) => k v m
  | none => False

/-- A value under a guard. -/
def guardV (g : V) (want : Bool) (o : Option V) : Option V :=
  match g with
  | .bool b => if b == want then o else some .undef
  | .undef => some .undef
  | _ => none

/-- Something done under a guard. -/
def guardC (g : V) (want : Bool) (A B : Prop) : Prop :=
  match g with
  | .bool b => if b == want then A else B
  | .undef => B
  | _ => False

def gval (ops : List Oper) (env : Env) (j : Nat) : Option V := ((ops[j]?).bind (·.dst)).bind env.get

theorem wantedV_gval {ops : List Oper} {env : Env} {o : Oper} {j : Nat} {want : Bool} (hg : o.guard = some (j, want)) :
    wantedV ops env o = match gval ops env j with | some (.bool b) => some (b == want) | some .undef => some false | _ => none := by
  unfold wantedV gval; rw [hg]
  rfl

/-- One operation, unguarded. -/
def stepK (P : Program) (C : Callees) (op : Op) (env : Env) (m : Hp) (k : V → Hp → Prop) : Prop :=
  if isQ C op then opt (evalQ P C env m.H op) fun v => k v m
  else if isA op then optC (evalA P env op) fun cs => k (.ptr m.H.length 0) { m with H := m.H ++ [.cells cs] }
  else opt2 (evalW P C env m op) k

/-- Operations one behind the other; K: what is left to show. -/
def opsK (P : Program) (C : Callees) (ops : List Oper) : List Oper → Env → Hp → (Env → Hp → Prop) → Prop
  | [], env, m, K => K env m
  | o :: rest, env, m, K =>
    match o.guard with
    | none => stepK P C o.op env m fun v m' => opsK P C ops rest (putV env o.dst v) m' K
    | some (j, want) =>
      match gval ops env j with
      | some g =>
        if isQ C o.op then opt (guardV g want (evalQ P C env m.H o.op)) fun v => opsK P C ops rest (putV env o.dst v) m K
        else guardC g want (stepK P C o.op env m fun v m' => opsK P C ops rest (putV env o.dst v) m' K) (opsK P C ops rest (putV env o.dst .undef) m K)
      | none => False

theorem stepK_spec {P : Program} {C : Callees} {op : Op} {env : Env} {m : Hp} {k : V → Hp → Prop} (h : stepK P C op env m k) : ∃ v m', evalOp P C env m op = some (v, m') ∧ k v m' := by
  unfold stepK at h
  unfold evalOp
  split at h
  · rename_i hq
    rw [if_pos hq]
    cases he : evalQ P C env m.H op with
    | none => rw [he] at h; exact h.elim
    | some v => rw [he] at h; exact ⟨v, m, rfl, h⟩
  · rename_i hq
    rw [if_neg hq]
    split at h
    · rename_i ha
      rw [if_pos ha]
      cases he : evalA P env op with
      | none => rw [he] at h; exact h.elim
      | some cs => rw [he] at h; exact ⟨_, _, rfl, h⟩
    · rename_i ha
      rw [if_neg ha]
      cases he : evalW P C env m op with
      | none => rw [he] at h; exact h.elim
      | some r => rw [he] at h; exact ⟨r.1, r.2, rfl, h⟩

theorem opsK_spec {P : Program} {C : Callees} {ops : List Oper} {K : Env → Hp → Prop} : ∀ {rest : List Oper} {env : Env} {m : Hp}, opsK P C ops rest env m K → ∃ env' m', evalOps P C ops rest env m = some (env', m') ∧ K env' m'
  | [], env, m, h => ⟨env, m, rfl, h⟩
  | o :: rest, env, m, h => by
    simp only [opsK] at h
    simp only [evalOps]
    split at h
    · rename_i hg
      have : wantedV ops env o = some true := by unfold wantedV; rw [hg]
      rw [this]
      obtain ⟨v, m', h1, h2⟩ := stepK_spec h
      simp only [h1]
      exact opsK_spec h2
    · rename_i j want hg
      rw [wantedV_gval hg]
      split at h
      · rename_i g hgv
        rw [hgv]
        split at h
        · rename_i hq
          unfold guardV at h
          cases g with
          | bool b =>
            simp only at h ⊢
            by_cases hb : (b == want) = true
            · rw [if_pos hb] at h
              rw [hb]
              simp only
              unfold evalOp
              rw [if_pos hq]
              cases he : evalQ P C env m.H o.op with
              | none => rw [he] at h; exact h.elim
              | some v => rw [he] at h; simp only [Option.map_some]; exact opsK_spec h
            · rw [if_neg hb] at h
              have hb' : (b == want) = false := by simpa using hb
              rw [hb']
              simp only
              exact opsK_spec h
          | undef => exact opsK_spec h
          | _ => exact h.elim
        · unfold guardC at h
          cases g with
          | bool b =>
            simp only at h ⊢
            by_cases hb : (b == want) = true
            · rw [if_pos hb] at h
              rw [hb]
              obtain ⟨v, m', h1, h2⟩ := stepK_spec h
              simp only [h1]
              exact opsK_spec h2
            · rw [if_neg hb] at h
              have hb' : (b == want) = false := by simpa using hb
              rw [hb']
              simp only
              exact opsK_spec h
          | undef => exact opsK_spec h
          | _ => exact h.elim
      · exact h.elim

/-- The part that may come in any order: what only reads, and new boxes. -/
theorem opsK_dr {P : Program} {C : Callees} {ops : List Oper} {T : List (Nat × Nat)} : ∀ {rest tail : List Oper} {env : Env} {H : List LO} {K : Env → Hp → Prop}, rest.all (fun o => isQ C o.op || (isA o.op && o.guard.isNone)) = true →
    opsK P C ops (rest ++ tail) env ⟨H, T⟩ K → ∃ env' H', evalDr P C ops rest (env, H) = some (env', H') ∧ opsK P C ops tail env' ⟨H', T⟩ K
  | [], tail, env, H, K, _, h => ⟨env, H, rfl, h⟩
  | o :: rest, tail, env, H, K, ha, h => by
    simp only [List.all_cons, Bool.and_eq_true] at ha
    obtain ⟨ha1, ha2⟩ := ha
    simp only [List.cons_append, opsK] at h
    simp only [evalDr, drStep]
    split at h
    · rename_i hg
      have : wantedV ops env o = some true := by unfold wantedV; rw [hg]
      rw [this]
      simp only
      unfold stepK at h
      split at h
      · rename_i hq
        rw [if_pos hq]
        cases he : evalQ P C env H o.op with
        | none => simp only at h; rw [he] at h; exact h.elim
        | some v => simp only at h; rw [he] at h; simp only [Option.map_some]; exact opsK_dr ha2 h
      · rename_i hq
        rw [if_neg hq]
        have hA : isA o.op = true := by
          have := ha1
          simp only [Bool.or_eq_true, Bool.and_eq_true] at this
          rcases this with h1 | h1
          · exact absurd h1 hq
          · exact h1.1
        rw [if_pos hA] at h
        cases he : evalA P env o.op with
        | none => rw [he] at h; exact h.elim
        | some cs => rw [he] at h; simp only [Option.map_some]; exact opsK_dr ha2 h
    · rename_i j want hg
      rw [wantedV_gval hg]
      have hq : isQ C o.op = true := by
        simpa [hg] using ha1
      split at h
      · rename_i g hgv
        rw [hgv]
        rw [if_pos hq] at h
        unfold guardV at h
        cases g with
        | bool b =>
          simp only at h ⊢
          by_cases hb : (b == want) = true
          · rw [if_pos hb] at h
            rw [hb]
            simp only
            rw [if_pos hq]
            cases he : evalQ P C env H o.op with
            | none => rw [he] at h; exact h.elim
            | some v => rw [he] at h; simp only [Option.map_some]; exact opsK_dr ha2 h
          · rw [if_neg hb] at h
            have hb' : (b == want) = false := by simpa using hb
            rw [hb']
            simp only
            exact opsK_dr ha2 h
        | undef => exact opsK_dr ha2 h
        | _ => exact h.elim
      · exact h.elim

/-- A fact that simp does not see. -/
structure Veil (p : Prop) : Prop where
  out : p

section
variable {P : Program} {C : Callees} {s : St} {Q : Exit → St → Prop}

theorem aw_regionK (hC : Sound P C) {id : Nat} {ops : List Oper} (h : ∀ K : Env → Hp → Prop, Veil (∀ env m, Q .normal ⟨env, m⟩ → K env m) → opsK P C ops ops s.env s.m K) : AW P (.region id ops.toArray false) s Q := by
  obtain ⟨env', m', h1, h2⟩ := opsK_spec (h (fun env m => Q .normal ⟨env, m⟩) ⟨fun _ _ h => h⟩)
  exact aw_region hC h1 h2

theorem aw_drawnK (hC : Sound P C) (n : Nat) {id : Nat} {ops : List Oper} (hm : P.follows .mixedOrders = true) (hd : drawOk ops n = true) (ha : (ops.take n).all (fun o => isQ C o.op || (isA o.op && o.guard.isNone)) = true)
    (h : ∀ K : Env → Hp → Prop, Veil (∀ env m, Q .normal ⟨env, m⟩ → K env m) → opsK P C ops ops s.env s.m K) : AW P (.region id ops.toArray true) s Q := by
  have h0 := h (fun env m => Q .normal ⟨env, m⟩) ⟨fun _ _ h => h⟩
  rw [show opsK P C ops ops s.env s.m = opsK P C ops (ops.take n ++ ops.drop n) s.env s.m by rw [List.take_append_drop]] at h0
  obtain ⟨env1, H1, h1, h2⟩ := opsK_dr (T := s.m.T) ha h0
  obtain ⟨env', m', h3, h4⟩ := opsK_spec h2
  exact aw_drawn hC n hm hd (by unfold evalDrawn; rw [h1]; exact h3) h4

end
/-! ### A function's regions -/
def regionsOf : Code → List (Nat × List Oper)
  | .region id ops _ => [(id, ops.toList)]
  | .seq a b => regionsOf a ++ regionsOf b
  | .cond _ a b => regionsOf a ++ regionsOf b
  | .block _ b => regionsOf b
  | .loop b => regionsOf b
  | .scope b => regionsOf b
  | _ => []

def opsAt (fn : Func) (r : Nat) : List Oper :=
  match fn.body with
  | some c => (((regionsOf c).find? fun p => p.1 == r).map (·.2)).getD []
  | none => []

abbrev PT := FuncId → List V → Option V
abbrev ET := FuncId → List V → Hp → Option (V × Hp)

/-- The callees' table, its kinds fixed. -/
abbrev CT (E : FuncId → Bool) (p : PT) (e : ET) : Callees := ⟨E, p, e⟩

/-- A slot is filled. -/
def pt (t : Nat → V) (d : Nat) (v : V) : Nat → V := fun i => bif Nat.beq i d then v else t i

theorem pt_apply (t : Nat → V) (d : Nat) (v : V) (i : Nat) : pt t d v i = if i = d then v else t i := Env.put_f ⟨0, t⟩ d v i

end Go.Fbs

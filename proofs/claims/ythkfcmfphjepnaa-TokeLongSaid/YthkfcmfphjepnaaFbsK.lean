/- Regions whose order is drawn: what only reads may come in any order; what writes comes behind all else. -/
import Derived.Test.YthkfcmfphjepnaaFbsJ
set_option linter.unusedVariables false
set_option linter.unusedSimpArgs false
namespace Go.Fbs

/-- Which operations must have come up before an operation may: a bit each. -/
def maskOf (acc : List Nat) (o : Oper) : Nat :=
  o.after.toList.foldl (fun s e => if Region.binds .any e then s ||| 2 ^ e.on ||| acc.getD e.on 0 else s) 0

def masksFrom (acc : List Nat) : List Oper → List Nat
  | [] => acc
  | o :: rest => masksFrom (acc ++ [maskOf acc o]) rest

def edgesBack (j : Nat) (o : Oper) : Bool := o.after.toList.all fun e => !Region.binds .any e || e.on < j

def pairOk (ops : List Oper) (ms : List Nat) (i j : Nat) : Bool :=
  (ms.getD j 0).testBit i || (match ops[i]?, ops[j]? with | some x, some y => Oper.apart ops.toArray x y | _, _ => false)

def noDup : List (Option Tmp) → Bool
  | [] => true
  | none :: r => noDup r
  | some d :: r => !(r.contains (some d)) && noDup r

/-- The first n operations may come in any order, the others come behind all that stands ahead. -/
def drawOk (ops : List Oper) (n : Nat) : Bool :=
  let ms := masksFrom [] ops
  decide (n ≤ ops.length) && noDup ((ops.take n).map (·.dst)) && (List.range ops.length).all (fun j => edgesBack j (ops.getD j default)) &&
  (List.range n).all (fun j => (List.range j).all fun i => pairOk ops ms i j) && (List.range ops.length).all (fun j => j < n || (List.range j).all fun i => (ms.getD j 0).testBit i)

/-- One operation of the part that may come in any order. -/
def drStep (P : Program) (C : Callees) (ops : List Oper) (s : Env × List LO) (o : Oper) : Option ((Env × List LO) × V) :=
  match wantedV ops s.1 o with
  | some true =>
    if isQ C o.op then (evalQ P C s.1 s.2 o.op).map fun v => ((putV s.1 o.dst v, s.2), v)
    else (evalA P s.1 o.op).map fun cs => ((putV s.1 o.dst (.ptr s.2.length 0), s.2 ++ [.cells cs]), .ptr s.2.length 0)
  | some false => some ((putV s.1 o.dst .undef, s.2), .undef)
  | none => none

def evalDr (P : Program) (C : Callees) (ops : List Oper) : List Oper → Env × List LO → Option (Env × List LO)
  | [], s => some s
  | o :: rest, s =>
    match drStep P C ops s o with
    | some (s', _) => evalDr P C ops rest s'
    | none => none

def evalDrawn (P : Program) (C : Callees) (ops : List Oper) (n : Nat) (env : Env) (m : Hp) : Option (Env × Hp) :=
  match evalDr P C ops (ops.take n) (env, m.H) with
  | some (env', H') => evalOps P C ops (ops.drop n) env' { m with H := H' }
  | none => none

/-! ### What the masks say -/
theorem foldl_mask {acc : List Nat} (i : Nat) : ∀ (es : List Edge) (s : Nat), (es.foldl (fun s e => if Region.binds .any e then s ||| 2 ^ e.on ||| acc.getD e.on 0 else s) s).testBit i = true →
    s.testBit i = true ∨ ∃ e ∈ es, Region.binds .any e = true ∧ (e.on = i ∨ (acc.getD e.on 0).testBit i = true)
  | [], s, h => .inl h
  | e :: es, s, h => by
    rw [List.foldl_cons] at h
    rcases foldl_mask i es _ h with h1 | ⟨e', h1, h2⟩
    · split at h1
      · rename_i hb
        simp only [Nat.testBit_or, Bool.or_eq_true, Nat.testBit_two_pow, decide_eq_true_eq] at h1
        rcases h1 with (h1 | h1) | h1
        · exact .inl h1
        · exact .inr ⟨e, by simp, hb, .inl h1⟩
        · exact .inr ⟨e, by simp, hb, .inr h1⟩
      · exact .inl h1
    · exact .inr ⟨e', by simp [h1], h2⟩

def Closed (ops : List Oper) (S : Nat → Bool) : Prop := ∀ j o, ops[j]? = some o → S j = true → ∀ e ∈ o.after, Region.binds .any e = true → S e.on = true

def MaskSays (ops : List Oper) (j m : Nat) : Prop := ∀ o, ops[j]? = some o → ∀ S : Nat → Bool, Closed ops S → (∀ e ∈ o.after, Region.binds .any e = true → S e.on = true) → ∀ i, m.testBit i = true → S i = true

theorem masksFrom_spec (ops : List Oper) : ∀ (rest : List Oper) (acc : List Nat), (∀ k, rest[k]? = ops[acc.length + k]?) → (∀ j, j < acc.length → MaskSays ops j (acc.getD j 0)) →
    ∀ j, j < acc.length + rest.length → MaskSays ops j ((masksFrom acc rest).getD j 0)
  | [], acc, _, h, j, hj => h j (by simpa using hj)
  | o :: rest, acc, hr, h, j, hj => by
    simp only [masksFrom]
    refine masksFrom_spec ops rest (acc ++ [maskOf acc o]) (fun k => ?_) (fun q hq => ?_) j (by simp at hj ⊢; omega)
    · have := hr (k + 1)
      simp only [List.getElem?_cons_succ] at this
      rw [this]; simp; congr 1; omega
    · simp only [List.length_append, List.length_singleton] at hq
      by_cases hq' : q < acc.length
      · rw [List.getD_eq_getElem?_getD, List.getElem?_append_left hq', ← List.getD_eq_getElem?_getD]; exact h q hq'
      · obtain rfl : q = acc.length := by omega
        have he : (acc ++ [maskOf acc o]).getD acc.length 0 = maskOf acc o := by simp [List.getD]
        rw [he]
        intro o' ho' S hS hS' i hi
        have h0 := hr 0
        simp at h0
        rw [← h0] at ho'
        simp at ho'; subst ho'
        rcases foldl_mask i o.after.toList 0 hi with h1 | ⟨e, h1, h2, h3⟩
        · simp at h1
        · have h1' : e ∈ o.after := by simpa using h1
          have h4 := hS' e h1' h2
          rcases h3 with rfl | h3
          · exact h4
          · have hlt : e.on < acc.length := by
              refine Nat.lt_of_not_le fun hle => ?_
              rw [List.getD_eq_getElem?_getD, List.getElem?_eq_none hle] at h3
              simp at h3
            cases hoe : ops[e.on]? with
            | none =>
              exfalso
              have := List.getElem?_eq_none_iff.1 hoe
              have h5 := hr 0
              simp at h5
              have := (List.getElem?_eq_some_iff.1 h5.symm).1
              omega
            | some oe => exact h e.on hlt oe hoe S hS (fun e' he' hb' => hS e.on oe hoe h4 e' he' hb') i h3

theorem mask_listed {ops : List Oper} {j : Nat} {o : Oper} (ho : ops[j]? = some o) {S : Nat → Bool} (hS : Closed ops S) (hr : ∀ e ∈ o.after, Region.binds .any e = true → S e.on = true) {i : Nat}
    (hb : ((masksFrom [] ops).getD j 0).testBit i = true) : S i = true :=
  masksFrom_spec ops ops [] (by simp) (by simp) j (by simpa using (List.getElem?_eq_some_iff.1 ho).1) o ho S hS hr i hb

/-! ### An operation looks at its own slots alone -/
def Agree (env env' : Env) (xs : List Operand) : Prop := ∀ x ∈ xs, ∀ u, ev env x = some u → ev env' x = some u

theorem Agree.evs {env env' : Env} : ∀ {xs : List Operand} {vs : List V}, Agree env env' xs → evs env xs = some vs → evs env' xs = some vs
  | [], vs, _, e => e
  | x :: xs, vs, h, e => by
    simp only [Fbs.evs] at e ⊢
    split at e <;> simp at e
    rename_i v vs' h1 h2
    rw [h x (by simp) _ h1, Agree.evs (fun y hy => h y (by simp [hy])) h2]
    simpa using e

theorem Agree.parts {env env' : Env} : ∀ {xs : List (Nat × Operand)} {vs : List (Nat × V)}, Agree env env' (xs.map (·.2)) → partsV env xs = some vs → partsV env' xs = some vs
  | [], vs, _, e => e
  | (i, x) :: xs, vs, h, e => by
    simp only [partsV] at e ⊢
    split at e
    · rename_i v vs' h1 h2
      rw [h x (by simp) _ h1, Agree.parts (fun y hy => h y (by simp [hy])) h2]
      exact e
    · simp at e

theorem Agree.opt {env env' : Env} {x : Option Operand} {v : Option V} (h : Agree env env' x.toList) (e : optEv env x = some v) : optEv env' x = some v := by
  cases x with
  | none => exact e
  | some x =>
    simp only [optEv, Option.map_eq_some_iff] at e ⊢
    obtain ⟨u, h1, h2⟩ := e
    exact ⟨u, h x (by simp) _ h1, h2⟩

theorem loadV_grow {P : Program} {t : TypeId} {H H' : List LO} (hH : ∀ (l : Nat) c, H[l]? = some c → H'[l]? = some c) {x v : V} (e : loadV P t H x = some v) : loadV P t H' x = some v := by
  cases x <;> simp only [loadV] at e ⊢ <;> try exact e
  split at e
  · rename_i cs h1
    rw [hH _ _ h1]; exact e
  · simp at e

theorem Agree.one {env env' : Env} {x : Operand} {xs : List Operand} (h : Agree env env' xs) (hx : x ∈ xs) {f f' : V → Option V} {v : V} (hf : ∀ u, f u = some v → f' u = some v) (e : ev1 env x f = some v) : ev1 env' x f' = some v := by
  obtain ⟨u, h1, h2⟩ := ev1_some e
  unfold ev1
  rw [h x hx u h1]; exact hf u h2

theorem Agree.two {env env' : Env} {x y : Operand} {xs : List Operand} (h : Agree env env' xs) (hx : x ∈ xs) (hy : y ∈ xs) {f : V → V → Option V} {v : V} (e : ev2 env x y f = some v) : ev2 env' x y f = some v := by
  obtain ⟨u, u', h1, h2, h3⟩ := ev2_some e
  unfold ev2
  rw [h x hx u h1, h y hy u' h2]; exact h3

theorem evalQ_congr {P : Program} {C : Callees} {env env' : Env} {H H' : List LO} {op : Op} {v : V} (h : Agree env env' op.operands.toList) (hH : ∀ (l : Nat) c, H[l]? = some c → H'[l]? = some c)
    (e : evalQ P C env H op = some v) : evalQ P C env' H' op = some v := by
  cases op <;> simp only [evalQ] at e ⊢ <;> try exact e
  case move x => exact h x (by simp [Op.operands]) _ e
  case assign x => exact h x (by simp [Op.operands]) _ e
  case pick c x y =>
    split at e
    · rename_i t u u' h1 h2 h3
      rw [h c (by simp [Op.operands]) _ h1, h x (by simp [Op.operands]) _ h2, h y (by simp [Op.operands]) _ h3]
      exact e
    · simp at e
  case build t parts =>
    split at e
    · rename_i ps hps
      rw [Agree.parts (by simpa [Op.operands] using h) hps]; exact e
    · simp at e
  case buildSlice t len parts =>
    split at e
    · rename_i ps hps
      rw [Agree.parts (by simpa [Op.operands] using h) hps]; exact e
    · simp at e
  case load t x => exact h.one (by simp [Op.operands]) (fun u => loadV_grow hH) e
  case nilCheck x => exact h.one (by simp [Op.operands]) (fun _ h => h) e
  case binOp op t x y t2 => exact h.two (by simp [Op.operands]) (by simp [Op.operands]) e
  case unOp op t x => exact h.one (by simp [Op.operands]) (fun _ h => h) e
  case convert src dst x => exact h.one (by simp [Op.operands]) (fun _ h => h) e
  case makeFunc fn first captured =>
    cases fn <;> simp only at e ⊢ <;> try exact e
    split at e
    · rename_i vs hvs
      rw [Agree.evs (fun y hy => h y (by simp [Op.operands] at hy ⊢; exact .inr hy)) hvs]; exact e
    · simp at e
  case slice t x lo hi mx =>
    cases mx <;> simp only at e ⊢ <;> try exact e
    split at e
    · rename_i u l q h1 h2 h3
      rw [h x (by simp [Op.operands]) _ h1, Agree.opt (fun y hy => h y (by simp [Op.operands] at hy ⊢; simp [hy])) h2, Agree.opt (fun y hy => h y (by simp [Op.operands] at hy ⊢; simp [hy])) h3]; exact e
    · simp at e
  case fieldAddr s x f => exact h.one (by simp [Op.operands]) (fun _ h => h) e
  case field s x f => exact h.one (by simp [Op.operands]) (fun _ h => h) e
  case indexAddr t x i => exact h.two (by simp [Op.operands]) (by simp [Op.operands]) e
  case index t x i => exact h.two (by simp [Op.operands]) (by simp [Op.operands]) e
  case extract x i => exact h.one (by simp [Op.operands]) (fun _ h => h) e
  case call c =>
    obtain ⟨callee, args, ts⟩ := c
    simp only at e ⊢
    split at e
    · rename_i b vs hvs
      rw [Agree.evs (fun y hy => h y (by simp [Op.operands, Call.operands] at hy ⊢; exact hy)) hvs]; exact e
    · rename_i f vs hvs
      rw [Agree.evs (fun y hy => h y (by simp [Op.operands, Call.operands] at hy ⊢; exact .inr hy)) hvs]
      exact h.one (by simp [Op.operands, Call.operands]) (fun _ h => h) e
    · simp at e
  all_goals simp at e

theorem evalA_congr {P : Program} {env env' : Env} {op : Op} {cs : List V} (h : Agree env env' op.operands.toList) (e : evalA P env op = some cs) : evalA P env' op = some cs := by
  cases op <;> simp only [evalA] at e ⊢ <;> try exact e
  case box t x =>
    split at e
    · rename_i u h1
      rw [h x (by simp [Op.operands]) _ h1]; exact e
    · simp at e
  all_goals simp at e

end Go.Fbs

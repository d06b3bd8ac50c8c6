/- Code: what holds behind it; functions. -/
import Derived.Test.YthkfcmfphjepnaaFbsN
import Derived.LoopN
set_option linter.unusedVariables false
set_option linter.unusedSimpArgs false
namespace Go.Fbs

/-- Behind the code, run from s, Q holds of the way out and of the state. -/
def AW (P : Program) (c : Code) (s : St) (Q : Exit → St → Prop) : Prop :=
  ∀ (κ : Ctx) (w : World) (a : Act), Mem κ w.heap s.m → EnvOk κ w.heap s.env a → ∀ R : Exit → Act → World → Prop,
    (∀ e s' κ' w' a', Q e s' → Ext κ w s.m κ' w' s'.m → EnvOk κ' w'.heap s'.env a' → R e a' w') → c.wp P R a w

section
variable {P : Program} {C : Callees} {s : St} {Q : Exit → St → Prop}

theorem AW.mono {c : Code} {Q' : Exit → St → Prop} (h : AW P c s Q) (hq : ∀ e s, Q e s → Q' e s) : AW P c s Q' :=
  fun κ w a k re R hR => h κ w a k re R (fun e s' κ' w' a' q => hR e s' κ' w' a' (hq e s' q))

theorem aw_skip (h : Q .normal s) : AW P .skip s Q := fun κ w a k re R hR => wp_skip (hR _ _ κ w a h (Ext.refl k) re)
theorem aw_label {l : Nat} (h : Q .normal s) : AW P (.label l) s Q := fun κ w a k re R hR => wp_label (hR _ _ κ w a h (Ext.refl k) re)
theorem aw_exit {id : Nat} (h : Q (.exit id) s) : AW P (.exit id) s Q := fun κ w a k re R hR => wp_exit (hR _ _ κ w a h (Ext.refl k) re)
theorem aw_ret (h : Q .ret s) : AW P .ret s Q := fun κ w a k re R hR => wp_ret (hR _ _ κ w a h (Ext.refl k) re)

def thenQ (next : St → Prop) (Q : Exit → St → Prop) : Exit → St → Prop
  | .normal, s => next s
  | e, s => Q e s

theorem aw_seq {x y : Code} (h : AW P x s (thenQ (fun s' => AW P y s' Q) Q)) : AW P (.seq x y) s Q := by
  intro κ w a k re R hR
  refine wp_seq (h κ w a k re _ fun e s' κ' w' a' hq hx hr => ?_)
  cases e with
  | normal => exact hq κ' w' a' hx.mem hr R (fun e2 s2 κ2 w2 a2 q2 hx2 hr2 => hR e2 s2 κ2 w2 a2 q2 (hx.trans hx2) hr2)
  | _ => exact hR _ s' κ' w' a' hq hx hr

theorem aw_cond {c : Operand} {x y : Code} {t : Bool} (hc : ev s.env c = some (.bool t)) (h : AW P (if t then x else y) s Q) : AW P (.cond c x y) s Q :=
  fun κ w a k re R hR => wp_cond (rep_bool (re.ev hc)) (h κ w a k re R hR)

def blockQ (id : Nat) (Q : Exit → St → Prop) : Exit → St → Prop
  | .exit j, s => if j = id then Q .normal s else Q (.exit j) s
  | e, s => Q e s

theorem aw_block {id : Nat} {c : Code} (h : AW P c s (blockQ id Q)) : AW P (.block id c) s Q := by
  intro κ w a k re R hR
  refine wp_block (h κ w a k re _ fun e s' κ' w' a' hq hx hr => ?_)
  cases e with
  | exit j =>
    simp only [Exit.inBlock]
    simp only [blockQ] at hq
    split
    · rename_i hj; rw [if_pos hj] at hq; exact hR _ s' κ' w' a' hq hx hr
    · rename_i hj; rw [if_neg hj] at hq; exact hR _ s' κ' w' a' hq hx hr
  | _ => exact hR _ s' κ' w' a' hq hx hr

/-- A loop: what holds at each round's head, and a measure that falls. -/
theorem aw_loop {c : Code} (I : St → Prop) (μ : St → Nat) (h0 : I s) (round : ∀ s, I s → AW P c s (thenQ (fun s' => I s' ∧ μ s' < μ s) Q)) : AW P (.loop c) s Q := by
  intro κ w a k re R hR
  have key : ∀ (n : Nat) (s1 : St) (κ1 : Ctx) (w1 : World) (a1 : Act), μ s1 < n → I s1 → Ext κ w s.m κ1 w1 s1.m → EnvOk κ1 w1.heap s1.env a1 → Code.rounds P c R n a1 w1 := by
    intro n
    induction n with
    | zero => intro s1 κ1 w1 a1 h; omega
    | succ n ih =>
      intro s1 κ1 w1 a1 hn hI hx hr
      refine round s1 hI κ1 w1 a1 hx.mem hr _ fun e s' κ' w' a' hq hx' hr' => ?_
      cases e with
      | normal => exact ih s' κ' w' a' (by have := hq.2; omega) hq.1 (hx.trans hx') hr'
      | _ => exact hR _ s' κ' w' a' hq (hx.trans hx') hr'
  exact wp_loop_rounds (μ s + 1) (key _ s κ w a (Nat.lt_succ_self _) h0 (Ext.refl k) re)

theorem aw_region (hC : Sound P C) {id : Nat} {ops : List Oper} {env' : Env} {m' : Hp} (e : evalOps P C ops ops s.env s.m = some (env', m')) (h : Q .normal ⟨env', m'⟩) : AW P (.region id ops.toArray false) s Q :=
  fun κ w a k re R hR => wp_region_lit (ops_sound hC e κ w a k re (fun κ' w' a' hx hr => hR _ ⟨env', m'⟩ κ' w' a' h hx hr))

theorem aw_drawn (hC : Sound P C) (n : Nat) {id : Nat} {ops : List Oper} {env' : Env} {m' : Hp} (hm : P.follows .mixedOrders = true) (hd : drawOk ops n = true) (e : evalDrawn P C ops n s.env s.m = some (env', m'))
    (h : Q .normal ⟨env', m'⟩) : AW P (.region id ops.toArray true) s Q :=
  fun κ w a k re R hR => drawn_sound hC hd hm e k re (fun κ' w' a' hx hr => hR _ ⟨env', m'⟩ κ' w' a' h hx hr)

/-! ### Results -/
def resVs (P : Program) (env : Env) (H : List LO) : List ResultVar → Option (List V)
  | [] => some []
  | .tmp t :: r =>
    match env.get t, resVs P env H r with
    | some v, some vs => some (v :: vs)
    | _, _ => none
  | .cell t ty :: r =>
    match env.get t, resVs P env H r with
    | some u, some vs => (loadV P ty H u).map (· :: vs)
    | _, _ => none

def resV (P : Program) (rs : List ResultVar) (s : St) : Option V :=
  match resVs P s.env s.m.H rs with
  | some [v] => some v
  | some vs => some (.tup vs)
  | none => none

theorem resVs_run {κ : Ctx} {w : World} {a : Act} {env : Env} {m : Hp} (k : Mem κ w.heap m) (re : EnvOk κ w.heap env a) : ∀ {rs : List ResultVar} {vs : List V}, resVs P env m.H rs = some vs →
    ∃ xs : List Value, (rs.mapM (fun r => match r with | .tmp t => pure (a.tmps.getD t undef) | .cell b t => do loadVar t (← asAddr (a.tmps.getD b undef))) : Sem (List Value)).run P w = .ok xs w ∧ Reps κ w.heap vs xs
  | [], vs, e => by simp [resVs] at e; subst e; exact ⟨[], by simp, Reps.nil⟩
  | .tmp t :: rs, vs, e => by
    simp only [resVs] at e
    split at e <;> simp at e
    rename_i v vs' h1 h2
    subst e
    obtain ⟨xs, h3, h4⟩ := resVs_run k re h2
    refine ⟨a.tmps.getD t undef :: xs, ?_, Reps.cons (by have := re.ev (x := .tmp t) h1; simpa [Act.eval] using this) h4⟩
    simp only [List.mapM_cons, Sem.run_bind, Sem.run_pure, Result.andThen_ok]
    rw [h3]; rfl
  | .cell t ty :: rs, vs, e => by
    simp only [resVs] at e
    split at e
    · rename_i u vs' h1 h2
      simp only [Option.map_eq_some_iff] at e
      obtain ⟨v, h5, rfl⟩ := e
      obtain ⟨xs, h3, h4⟩ := resVs_run k re h2
      have hu : Rep κ w.heap u (a.tmps.getD t undef) := by have := re.ev (x := .tmp t) h1; simpa [Act.eval] using this
      obtain ⟨y, hy, ry⟩ := load_run (P := P) k hu h5
      refine ⟨y :: xs, ?_, Reps.cons ry h4⟩
      have hload : (do loadVar ty (← asAddr (a.tmps.getD t undef)) : Sem Value).run P w = .ok y w := by
        cases u <;> simp only [loadV] at h5 <;> try (simp at h5; done)
        · obtain ⟨b, _, he⟩ := rep_ptr hu
          rw [he] at hy ⊢
          simpa [Instr.loadAt, Instr.sureAddr, asAddr] using hy
        · obtain ⟨b, off, ys, _, _, he⟩ := rep_ro hu
          rw [he] at hy ⊢
          simpa [Instr.loadAt, Instr.sureAddr, asAddr] using hy
      simp only [List.mapM_cons, Sem.run_bind]
      simp only [Sem.run_bind] at hload
      rw [hload]
      simp only [Result.andThen_ok]
      rw [h3]; rfl
    · simp at e

theorem resV_run {κ : Ctx} {w : World} {a : Act} {s : St} {fn : Func} {v : V} (k : Mem κ w.heap s.m) (re : EnvOk κ w.heap s.env a) (e : resV P fn.results.toList s = some v) :
    ∃ x, (results fn a.tmps).run P w = .ok x w ∧ Rep κ w.heap v x := by
  unfold resV at e
  cases hv : resVs P s.env s.m.H fn.results.toList with
  | none => simp [hv] at e
  | some vs =>
    obtain ⟨xs, h1, h2⟩ := resVs_run k re hv
    have hrun : (results fn a.tmps).run P w = .ok (if h : (⟨xs⟩ : Array Value).size = 1 then (⟨xs⟩ : Array Value)[0] else .tuple ⟨xs⟩) w := by
      unfold results
      rw [Array.mapM_eq_mapM_toList]
      simp only [Sem.run_bind, Sem.run_map]
      exact (congrArg (fun r : Result (List Value) => (r.andThen fun a w' => Result.ok a.toArray w').andThen fun a w' => Sem.run P (pure (if h : a.size = 1 then a[0] else Value.tuple a)) w') h1).trans (by simp)
    rw [hv] at e
    cases vs with
    | nil =>
      simp at e; subst e
      obtain rfl := h2.inv_nil
      exact ⟨.tuple ⟨[]⟩, by rw [hrun]; rfl, .tup _ _ rfl (by simp)⟩
    | cons u us =>
      obtain ⟨x, xs', rfl, rx, r'⟩ := h2.inv_cons
      cases us with
      | nil =>
        simp at e; subst e
        obtain rfl := r'.inv_nil
        exact ⟨x, by rw [hrun]; rfl, rx⟩
      | cons u' us' =>
        simp at e; subst e
        refine ⟨.tuple ⟨x :: xs'⟩, ?_, .tup _ _ h2.1 h2.2⟩
        rw [hrun, dif_neg]
        have := h2.1
        simp at this ⊢
        intro h; subst h; simp at this

end
end Go.Fbs

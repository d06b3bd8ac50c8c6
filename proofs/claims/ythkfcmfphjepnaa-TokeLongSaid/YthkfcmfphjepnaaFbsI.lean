/- What the evaluator says of an operation, the machine does; regions; code. -/
import Derived.Test.YthkfcmfphjepnaaFbsH
set_option linter.unusedVariables false
set_option linter.unusedSimpArgs false
namespace Go.Fbs
section
variable {P : Program} {κ : Ctx} {w : World} {m : Hp}

/-- A call answers, and leaves the memory so. -/
def CallOk (P : Program) (f : FuncId) (args : List V) (m : Hp) (v : V) (m' : Hp) : Prop :=
  ∀ (κ : Ctx) (w : World) (xs : List Value), Mem κ w.heap m → Reps κ w.heap args xs →
    Calls P f ⟨xs⟩ w (fun e w' => ∃ x κ', e = .returned x ∧ Ext κ w m κ' w' m' ∧ Rep κ' w'.heap v x)

structure Sound (P : Program) (C : Callees) : Prop where
  enter : ∀ f, ((∃ args v, C.pure f args = some v) ∨ ∃ args m r, C.eff f args m = some r) → ∃ fn c, P.funcs[f]? = some fn ∧ fn.body = some c ∧ (fn.name == "runtime.NumGoroutine") = false
  pure : ∀ f args v, C.pure f args = some v → ∀ m, CallOk P f args m v m
  eff : ∀ f args m v m', C.eff f args m = some (v, m') → CallOk P f args m v m'

/-- The operation is done in the frame: its value lies in its slot. -/
def Does (P : Program) (κ : Ctx) (w : World) (m : Hp) (o : Oper) (a : Act) (v : V) (m' : Hp) : Prop :=
  ∀ Q, o.wp P a w (fun a' w' => ∃ x κ', a' = a.put o.dst x ∧ Ext κ w m κ' w' m' ∧ Rep κ' w'.heap v x) Q

theorem Does.of_done {o : Oper} {a : Act} {v : V} {m' : Hp} (h : OpDone κ w ((execOp a.eval o).run P w) v m') (hl : m.H.length ≤ m'.H.length) : Does P κ w m o a v m' := by
  intro Q
  obtain ⟨y, κ', w', hr, l, k, r⟩ := h
  unfold Oper.wp
  rcases hr with hr | ⟨hr, rfl⟩
  · rw [hr]; exact ⟨y, κ', rfl, l.ext k hl, r⟩
  · rw [hr]; exact ⟨Go.undef, κ', rfl, l.ext k hl, r⟩

theorem Does.of_call {o : Oper} {a : Act} {v : V} {m' : Hp} {f : FuncId} {xs : List Value} {args : List V} (hr : (execOp a.eval o).run P w = .ok (.enter f ⟨xs⟩) w) (hc : CallOk P f args m v m')
    (k : Mem κ w.heap m) (ra : Reps κ w.heap args xs) : Does P κ w m o a v m' := by
  intro Q
  unfold Oper.wp
  rw [hr]
  refine (hc κ w xs k ra).mono fun e w' he => ?_
  obtain ⟨x, κ', rfl, l, r⟩ := he
  exact ⟨x, κ', rfl, l, r⟩

theorem done_value {s : Sem Value} {v : V} {y : Value} (hr : s.run P w = .ok y w) (k : Mem κ w.heap m) (r : Rep κ w.heap v y) : OpDone κ w ((do pure (.value (← s)) : Sem Next).run P w) v m :=
  OpDone.same (y := y) (by simp [hr]) k r

theorem optEv_rep {env : Env} {a : Act} (re : EnvOk κ w.heap env a) {x : Option Operand} {v : Option V} (e : optEv env x = some v) : OptRep κ w.heap v (x.map a.eval) := by
  cases x with
  | none => simp [optEv] at e; subst e; trivial
  | some x =>
    simp only [optEv, Option.map_eq_some_iff] at e
    obtain ⟨u, h1, rfl⟩ := e
    exact re.ev h1

theorem call_run {f : Operand} {args : Array Operand} {ts : Array TypeId} {t : TypeId} {a : Act} {g : FuncId} {cs : List Value} (hf : a.eval f = .func (.func g) #[] ⟨cs⟩) {fn : Func} {c : Code}
    (h1 : P.funcs[g]? = some fn) (h2 : fn.body = some c) (h3 : (fn.name == "runtime.NumGoroutine") = false) :
    (do let d ← resolve a.eval { callee := .value f, args, argTypes := ts } t; invoke d.target d.args : Sem Next).run P w = .ok (.enter g ⟨args.toList.map a.eval ++ cs⟩) w := by
  simp only [resolve, hf, Deferred.ofValue, Sem.run_bind, Sem.run_pure, Result.andThen_ok, invoke]
  have e2 : (#[] ++ Array.map a.eval args ++ { toList := cs } : Array Value) = ⟨args.toList.map a.eval ++ cs⟩ := by apply Array.ext'; simp
  rw [e2]
  have h4 : fn.name ≠ "runtime.NumGoroutine" := by simpa using h3
  simp [callFunc, h1, h2, h4]

theorem builtinQ_run {b : Builtin} {ts : Array TypeId} {t : TypeId} {cs : Array Bool} {vs : List V} {xs : List Value} {v : V} (k : Mem κ w.heap m) (r : Reps κ w.heap vs xs) (e : builtinQ P b ts.toList vs = some v) :
    OpDone κ w ((builtin b ts t cs ⟨xs⟩).run P w) v m := by
  obtain ⟨ts⟩ := ts
  unfold builtinQ at e
  split at e
  · rename_i t x hts
    simp only at hts
    subst hts
    obtain ⟨a, as, rfl, ra, r'⟩ := r.inv_cons
    obtain rfl := r'.inv_nil
    split at e
    · rename_i s hu
      simp at e; subst e
      obtain rfl := rep_str ra
      refine OpDone.same (y := .int .i64 s.length) ?_ k (.int _ _)
      simp [builtin, Builtin.len_, run_underlying hu, goInt]
      rfl
    · rename_i g es hu
      simp at e; subst e
      rename_i el
      rcases rep_sl ra with ⟨rfl, rfl, _⟩ | ⟨b, off, cap, sz, xs, hx, hun, hr, hcap, _, rfl⟩
      · exact OpDone.same (y := .int .i64 0) (by simp [builtin, Builtin.len_, run_underlying hu, goInt]) k (.int _ _)
      · exact OpDone.same (y := .int .i64 es.length) (by simp [builtin, Builtin.len_, run_underlying hu, goInt]) k (.int _ _)
    · simp at e
  · simp at e; subst e
    obtain ⟨a, as, rfl, ra, r'⟩ := r.inv_cons
    obtain ⟨a', as', rfl, ra', r''⟩ := r'.inv_cons
    obtain rfl := r''.inv_nil
    obtain rfl := rep_int ra; obtain rfl := rep_int ra'
    refine OpDone.same ?_ k (.int _ _)
    simp [builtin, Builtin.min_, Builtin.min2]
  · simp at e; subst e
    obtain ⟨a, as, rfl, ra, r'⟩ := r.inv_cons
    obtain ⟨a', as', rfl, ra', r''⟩ := r'.inv_cons
    obtain rfl := r''.inv_nil
    obtain rfl := rep_int ra; obtain rfl := rep_int ra'
    refine OpDone.same ?_ k (.int _ _)
    simp [builtin, Builtin.max_, Builtin.max2]
  · simp at e

theorem adds_slice {tx e' : TypeId} (hk : P.underlying tx = some (.slice e')) {g : Tag} {ys : List V} {y : Value} (r : Rep κ w.heap (.sl g ys) y) :
    ∃ news, ∀ sz, (∀ y ∈ ys, y.cells.length = sz) → Adds P κ w sz tx y ys news := by
  rcases rep_sl r with ⟨rfl, rfl, _⟩ | ⟨b, off, cap, sz', xs, hx, hun, hr, hcap, _, rfl⟩
  · exact ⟨[], fun sz _ => ⟨Src.ofNil w hk 0, Reps.nil⟩⟩
  · refine ⟨xs, fun sz hu => ⟨Src.ofSlice w hk _ _ _ _ ?_ (fun j u hj => ?_) (block_one hx), hr⟩⟩
    · rw [hr.1, uniform_flat hu]
    · rw [Addr.add_mid, cell?_eq]; exact (hx j u hj).2.1

theorem adds_string {tx : TypeId} (hk : P.underlying tx = some .string) (s : List UInt8) : Adds P κ w 1 tx (.string ⟨⟨s⟩⟩) (s.map fun b => .int .u8 b.toNat) (byteCells ⟨⟨s⟩⟩) := by
  have h := Src.ofString w hk ⟨⟨s⟩⟩
  refine ⟨?_, ?_⟩
  · have hl : (s.map fun b => V.int .u8 b.toNat).length = (ByteArray.mk ⟨s⟩).size := by simp; rfl
    rw [hl]; exact h
  · have hfl : flat (s.map fun b => V.int .u8 b.toNat) = s.map fun b => V.int .u8 b.toNat := by
      have := flat_scalars (ns := s.map fun b => (b.toNat : Int)) (q := .u8)
      simpa [List.map_map, Function.comp_def] using this
    rw [hfl]
    refine ⟨by simp [byteCells], fun i c x h1 h2 => ?_⟩
    simp only [byteCells, List.getElem?_map, Option.map_eq_some_iff] at h1 h2
    obtain ⟨b1, e1, rfl⟩ := h1
    obtain ⟨b2, e2, rfl⟩ := h2
    rw [e1] at e2; simp at e2; subst e2
    exact .int _ _

theorem builtinE_run {b : Builtin} {ts : Array TypeId} {t : TypeId} {cs : Array Bool} {vs : List V} {xs : List Value} {v : V} {m' : Hp} (k : Mem κ w.heap m) (r : Reps κ w.heap vs xs)
    (e : builtinE P b ts.toList vs m = some (v, m')) : OpDone κ w ((builtin b ts t cs ⟨xs⟩).run P w) v m' := by
  obtain ⟨ts⟩ := ts
  unfold builtinE at e
  split at e
  · rename_i t1 u x y hts
    simp only at hts
    subst hts
    obtain ⟨a, as, rfl, ra, r'⟩ := r.inv_cons
    obtain ⟨a', as', rfl, ra', r''⟩ := r'.inv_cons
    obtain rfl := r''.inv_nil
    split at e
    · rename_i e' ut g ys hu
      cases hut : P.underlying t1 with
      | none => unfold appendV at e; rw [hut] at e; simp at e
      | some d =>
        cases d with
        | slice el =>
          obtain ⟨news, hn⟩ := adds_slice hu ra'
          exact append_done k ra (fun sz _ h => hn sz h) hut e
        | _ => unfold appendV at e; rw [hut] at e; simp at e
    · rename_i el s hu hut
      split at e
      · rename_i h1
        obtain rfl := rep_str ra'
        refine append_done (news := byteCells ⟨⟨s⟩⟩) k ra (fun sz hsz _ => ?_) hut e
        obtain rfl : sz = 1 := by rw [h1] at hsz; simpa using hsz.symm
        exact adds_string hu s
      · simp at e
    · simp at e
  · simp at e

theorem ev1_some {env : Env} {x : Operand} {f : V → Option V} {v : V} (e : ev1 env x f = some v) : ∃ u, ev env x = some u ∧ f u = some v := by
  unfold ev1 at e
  split at e
  · rename_i u h; exact ⟨u, h, e⟩
  · simp at e

theorem ev2_some {env : Env} {x y : Operand} {f : V → V → Option V} {v : V} (e : ev2 env x y f = some v) : ∃ u u', ev env x = some u ∧ ev env y = some u' ∧ f u u' = some v := by
  unfold ev2 at e
  split at e
  · rename_i u u' h h'; exact ⟨u, u', h, h', e⟩
  · simp at e

theorem evalQ_done {C : Callees} (hC : Sound P C) {env : Env} {a : Act} {o : Oper} {v : V} (k : Mem κ w.heap m) (re : EnvOk κ w.heap env a) (e : evalQ P C env m.H o.op = some v) : Does P κ w m o a v m := by
  obtain ⟨dst, op, ty, pos, after, guard⟩ := o
  simp only at e
  cases op <;> simp only [evalQ] at e
  case move x => exact .of_done (OpDone.same rfl k (re.ev e)) (Nat.le_refl _)
  case assign x => exact .of_done (OpDone.same rfl k (re.ev e)) (Nat.le_refl _)
  case pick c x y =>
    split at e
    · rename_i t u u' h1 h2 h3
      cases t <;> simp only [pickV] at e <;> try (simp at e; done)
      rename_i t
      have hc := rep_bool (re.ev h1)
      simp at e
      subst e
      refine .of_done (OpDone.same (y := if t then a.eval x else a.eval y) ?_ k ?_) (Nat.le_refl _)
      · simp [execOp, hc, asBool]
      · cases t
        · exact re.ev h3
        · exact re.ev h2
    · simp at e
  case build t parts =>
    split at e
    · rename_i ps hps
      unfold buildQ at e
      split at e
      · rename_i hok
        obtain ⟨h1, h2⟩ := parts_rep re hps hok
        have := build_done (P := P) k h1 h2 e
        have e2 : (parts.map fun x => (x.1, a.eval x.2)) = ⟨parts.toList.map fun p => (p.1, a.eval p.2)⟩ := by apply Array.ext'; simp
        refine .of_done ?_ (Nat.le_refl _)
        simp only [execOp, e2]
        exact this
      · simp at e
    · simp at e
  case buildSlice t len parts =>
    split at e
    · rename_i ps hps
      unfold buildSliceQ at e
      split at e
      · rename_i hok
        obtain ⟨h1, h2⟩ := parts_rep re hps hok
        have := buildSlice_done (P := P) k h1 h2 e
        have e2 : (parts.map fun x => (x.1, a.eval x.2)) = ⟨parts.toList.map fun p => (p.1, a.eval p.2)⟩ := by apply Array.ext'; simp
        refine .of_done ?_ (Nat.le_refl _)
        simp only [execOp, e2]
        exact this
      · simp at e
    · simp at e
  case load t x =>
    obtain ⟨u, hx, e⟩ := ev1_some e
    obtain ⟨y, hy, ry⟩ := load_run (P := P) (t := t) (v := v) k (re.ev hx) e
    exact .of_done (done_value hy k ry) (Nat.le_refl _)
  case nilCheck x =>
    obtain ⟨u, hx, e⟩ := ev1_some e
    have rx := re.ev hx
    cases u <;> simp [nilV] at e
    case ptr l off =>
      subst e
      obtain ⟨b, hb, he⟩ := rep_ptr rx
      exact .of_done (OpDone.same (y := .pointer (some ⟨b, off, none⟩)) (by simp [execOp, he]) k (by rw [← he]; exact rx)) (Nat.le_refl _)
    case ro cs =>
      subst e
      obtain ⟨b, off, xs, _, _, he⟩ := rep_ro rx
      exact .of_done (OpDone.same (y := .pointer (some ⟨b, off, none⟩)) (by simp [execOp, he]) k (by rw [← he]; exact rx)) (Nat.le_refl _)
    case func f cs =>
      subst e
      obtain ⟨xs, _, he⟩ := rep_func rx
      exact .of_done (OpDone.same (y := .func (.func f) #[] ⟨xs⟩) (by simp [execOp, he]) k (by rw [← he]; exact rx)) (Nat.le_refl _)
  case binOp op t x y t2 =>
    obtain ⟨u, u', h1, h2, e⟩ := ev2_some e
    obtain ⟨z, hz, rz⟩ := binV_run (P := P) (ox := x) (oy := y) e (re.ev h1) (re.ev h2)
    exact .of_done (done_value hz k rz) (Nat.le_refl _)
  case unOp op t x =>
    obtain ⟨u, h1, e⟩ := ev1_some e
    have rx := re.ev h1
    refine .of_done ?_ (Nat.le_refl _)
    unfold unV at e
    split at e <;> simp at e
    · subst e
      have := rep_int rx
      exact done_value (y := .int _ _) (by simp only [execOp, this]; simp [Op.unary, Op.intArith]) k (.int _ _)
    · subst e
      have := rep_bool rx
      exact done_value (y := .bool _) (by simp only [execOp, this]; simp [Op.unary]) k (.bool _)
  case convert src dst x =>
    obtain ⟨u, h1, e⟩ := ev1_some e
    unfold convQ at e
    split at e
    · rename_i r hr
      simp at e; subst e
      exact .of_done (bytes_done k (re.ev h1) hr) (Nat.le_refl _)
    · exact .of_done (convert_done k (re.ev h1) e) (Nat.le_refl _)
  case makeFunc fn first captured =>
    cases fn <;> simp only at e
    case func f =>
      split at e
      · rename_i vs hvs
        split at e <;> simp at e
        rename_i hf
        subst e; subst hf
        have := re.evs hvs
        refine .of_done (done_value (y := .func (.func f) #[] ⟨captured.toList.map a.eval⟩) ?_ k (.func _ _ _ this.1 this.2)) (Nat.le_refl _)
        simp [Instr.makeFunc]
        apply Array.ext'
        simp
      · simp at e
    all_goals simp at e
  case slice t x lo hi mx =>
    cases mx <;> simp only at e
    case none =>
      split at e
      · rename_i u l h h1 h2 h3
        obtain ⟨y, hy, ry⟩ := slice_run (P := P) (re.ev h1) (optEv_rep re h2) (optEv_rep re h3) e
        exact .of_done (done_value hy k ry) (Nat.le_refl _)
      · simp at e
    case some => simp at e
  case fieldAddr s x f =>
    obtain ⟨u, h1, e⟩ := ev1_some e
    obtain ⟨y, hy, ry⟩ := fieldAddr_run (P := P) (re.ev h1) e
    exact .of_done (done_value hy k ry) (Nat.le_refl _)
  case field s x f =>
    obtain ⟨u, h1, e⟩ := ev1_some e
    obtain ⟨y, hy, ry⟩ := field_run (P := P) (re.ev h1) e
    exact .of_done (done_value hy k ry) (Nat.le_refl _)
  case indexAddr t x i =>
    obtain ⟨u, u', h1, h2, e⟩ := ev2_some e
    obtain ⟨y, hy, ry⟩ := indexAddr_run (P := P) (re.ev h1) (re.ev h2) e
    exact .of_done (done_value hy k ry) (Nat.le_refl _)
  case index t x i =>
    obtain ⟨u, u', h1, h2, e⟩ := ev2_some e
    obtain ⟨y, hy, ry⟩ := index_run (P := P) (re.ev h1) (re.ev h2) e
    exact .of_done (done_value hy k ry) (Nat.le_refl _)
  case extract x i =>
    obtain ⟨u, h1, e⟩ := ev1_some e
    cases u <;> simp only [extractV] at e <;> try (simp at e; done)
    obtain ⟨y, hy, ry⟩ := extract_run (P := P) (i := i) (re.ev h1) e
    exact .of_done (done_value hy k ry) (Nat.le_refl _)
  case call c =>
    obtain ⟨callee, args, ts⟩ := c
    simp only at e
    split at e
    · rename_i b vs hvs
      have r := re.evs hvs
      refine .of_done ?_ (Nat.le_refl _)
      have := builtinQ_run (t := ty) (cs := args.map fun | .const _ => true | _ => false) k r e
      simp only [execOp, resolve, Sem.run_bind, Sem.run_pure, Result.andThen_ok, invoke]
      have e2 : args.map a.eval = ⟨args.toList.map a.eval⟩ := by apply Array.ext'; simp
      rw [e2]
      exact this
    · rename_i f vs hvs
      obtain ⟨u, hf, e⟩ := ev1_some e
      cases u <;> simp only [callQ] at e <;> try (simp at e; done)
      rename_i g caps
      obtain ⟨cs, rc, hfe⟩ := rep_func (re.ev hf)
      obtain ⟨fn, c, h1, h2, h3⟩ := hC.enter g (.inl ⟨_, _, e⟩)
      exact .of_call (call_run hfe h1 h2 h3) (hC.pure g _ _ e m) k ((re.evs hvs).append rc)
    · simp at e
  all_goals simp at e

end
end Go.Fbs

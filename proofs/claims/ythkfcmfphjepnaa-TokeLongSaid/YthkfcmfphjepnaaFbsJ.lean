/- Operations that make boxes or write; regions in the order of the text. -/
import Derived.Test.YthkfcmfphjepnaaFbsI
set_option linter.unusedVariables false
set_option linter.unusedSimpArgs false
namespace Go.Fbs
section
variable {P : Program} {κ : Ctx} {w : World} {m : Hp}

theorem alloc_does {env : Env} {a : Act} {o : Oper} {cs : List V} {l : Nat} (k : Mem κ w.heap m) (re : EnvOk κ w.heap env a) (e : evalA P env o.op = some cs)
    (hl : m.H[l]? = some (.cells cs)) (hn : κ.box l = none) (Q : Exit → Act → World → Prop) :
    o.wp P a w (fun a' w' => ∃ x κ', a' = a.put o.dst x ∧ Le κ w.heap κ' w'.heap ∧ Mem κ' w'.heap m ∧ Rep κ' w'.heap (.ptr l 0) x ∧ (κ'.box = fun i => if i = l then some w.heap.size else κ.box i) ∧ w'.os = w.os ∧ Kept w w') Q := by
  have fin : ∀ (t : TypeId) (xs : List Value), Reps κ w.heap cs xs → (∀ x ∈ xs, x.oneCell' = true) →
      (execOp a.eval o).run P w = .ok (.value (.pointer (some ⟨w.heap.size, 0, none⟩))) { w with heap := w.heap.push (.cells ⟨xs⟩ t (0, 0)) } →
      o.wp P a w (fun a' w' => ∃ x κ', a' = a.put o.dst x ∧ Le κ w.heap κ' w'.heap ∧ Mem κ' w'.heap m ∧ Rep κ' w'.heap (.ptr l 0) x ∧ (κ'.box = fun i => if i = l then some w.heap.size else κ.box i) ∧ w'.os = w.os ∧ Kept w w') Q := by
    intro t xs hr ho hrun
    obtain ⟨κ', h1, h2, h3⟩ := mem_box_at k hl hn (o := .cells ⟨xs⟩ t (0, 0)) ⟨xs, t, rfl, hr, ho⟩
    unfold Oper.wp
    rw [hrun]
    exact ⟨_, κ', rfl, h1, h2, .ptr _ _ _ (by rw [h3]; simp), h3, rfl, kept_push w _ _⟩
  obtain ⟨dst, op, ty, pos, after, guard⟩ := o
  simp only at e
  cases op <;> simp only [evalA] at e
  case alloc t =>
    obtain ⟨xs, h1, h2, h3⟩ := alloc_run (P := P) (κ := κ) (w := w) e
    exact fin t xs h2 h3 (by simp only [execOp, Sem.run_bind, h1]; rfl)
  case box t x =>
    split at e
    · rename_i v hv
      split at e <;> simp at e
      rename_i ho
      subst e
      obtain ⟨xs, h1, h2, h3⟩ := box_run (P := P) (t := t) (re.ev hv) ho
      exact fin t xs h2 h3 (by simp only [execOp, Sem.run_bind, h1]; rfl)
    · simp at e
  all_goals simp at e

theorem appendV_len {t : TypeId} {x : V} {ys : List V} {v : V} {m' : Hp} (e : appendV P t x ys m = some (v, m')) : m'.H = m.H := by
  unfold appendV at e
  repeat' split at e
  all_goals first | (simp at e; obtain ⟨_, rfl⟩ := e; rfl) | (simp at e; done)

theorem makeSliceV_len {t : TypeId} {x y : V} {v : V} {m' : Hp} (e : makeSliceV P t x y m = some (v, m')) : m'.H = m.H := by
  unfold makeSliceV at e
  repeat' split at e
  all_goals first | (simp at e; obtain ⟨_, rfl⟩ := e; rfl) | (simp at e; done)

theorem builtinE_len {b : Builtin} {ts : List TypeId} {xs : List V} {v : V} {m' : Hp} (e : builtinE P b ts xs m = some (v, m')) : m'.H = m.H := by
  unfold builtinE at e
  split at e
  · split at e
    · exact appendV_len e
    · split at e
      · exact appendV_len e
      · simp at e
    · simp at e
  · simp at e

theorem evalW_done {C : Callees} (hC : Sound P C) {env : Env} {a : Act} {o : Oper} {v : V} {m' : Hp} (k : Mem κ w.heap m) (re : EnvOk κ w.heap env a) (e : evalW P C env m o.op = some (v, m')) : Does P κ w m o a v m' := by
  obtain ⟨dst, op, ty, pos, after, guard⟩ := o
  simp only at e
  cases op <;> simp only [evalW] at e
  case store t x y =>
    split at e
    · rename_i u' u h1 h2
      unfold storeV at e
      split at e
      · rename_i l off n h3
        split at e
        · rename_i cs hcs
          split at e <;> simp at e
          rename_i hc
          obtain ⟨rfl, rfl⟩ := e
          exact .of_done (store_done k (re.ev h1) (re.ev h2) h3 hcs hc.1 hc.2.1 hc.2.2) (by simp)
        · simp at e
      · simp at e
    · simp at e
  case makeSlice t x y =>
    split at e
    · rename_i u u' h1 h2
      exact .of_done (makeSlice_done k (re.ev h1) (re.ev h2) e) (by rw [makeSliceV_len e]; exact Nat.le_refl _)
    · simp at e
  case call c =>
    obtain ⟨callee, args, ts⟩ := c
    simp only at e
    split at e
    · rename_i b vs hvs
      have r := re.evs hvs
      have := builtinE_run (t := ty) (cs := args.map fun | .const _ => true | _ => false) k r e
      refine .of_done ?_ (by rw [builtinE_len e]; exact Nat.le_refl _)
      simp only [execOp, resolve, Sem.run_bind, Sem.run_pure, Result.andThen_ok, invoke]
      have e2 : args.map a.eval = ⟨args.toList.map a.eval⟩ := by apply Array.ext'; simp
      rw [e2]
      exact this
    · rename_i f vs hvs
      split at e
      · rename_i g caps hf
        obtain ⟨cs, rc, hfe⟩ := rep_func (re.ev hf)
        obtain ⟨fn, c, h1, h2, h3⟩ := hC.enter g (.inr ⟨_, _, _, e⟩)
        exact .of_call (call_run hfe h1 h2 h3) (hC.eff g _ _ _ _ e) k ((re.evs hvs).append rc)
      · simp at e
    · simp at e
  all_goals simp at e

theorem evalOp_done {C : Callees} (hC : Sound P C) {env : Env} {a : Act} {o : Oper} {v : V} {m' : Hp} (k : Mem κ w.heap m) (re : EnvOk κ w.heap env a) (e : evalOp P C env m o.op = some (v, m')) : Does P κ w m o a v m' := by
  unfold evalOp at e
  split at e
  · simp only [Option.map_eq_some_iff] at e
    obtain ⟨u, h1, e⟩ := e
    simp at e; obtain ⟨rfl, rfl⟩ := e
    exact evalQ_done hC k re h1
  · split at e
    · simp only [Option.map_eq_some_iff] at e
      obtain ⟨cs, h1, e⟩ := e
      simp at e; obtain ⟨rfl, rfl⟩ := e
      intro Q
      have k' := mem_keep k [.cells cs]
      refine Oper.wp_mono ?_ (alloc_does (l := m.H.length) k' re h1 (by simp) (mem_none k (Nat.le_refl _)) Q)
      rintro a' w' ⟨x, κ', h2, h3, h4, h5, h6, hos, hout⟩
      refine ⟨x, κ', h2, ⟨h3, h4, by simp, fun l hl hb => ?_, hos, hout⟩, h5⟩
      rw [h6]
      simp only
      rw [if_neg (by omega)]; exact hb
    · exact evalW_done hC k re e

theorem wantedV_run {ops : List Oper} {env : Env} {a : Act} {o : Oper} {b : Bool} (re : EnvOk κ w.heap env a) (e : wantedV ops env o = some b) :
    Region.wanted o (yielded ops.toArray a.tmps) = b := by
  unfold wantedV at e
  unfold Region.wanted
  split at e
  · rename_i hg
    rw [hg]; simpa using e
  · rename_i j want hg
    rw [hg]
    simp only
    have get : ∀ v, ((ops[j]?).bind (·.dst)).bind env.get = some v → ∃ x, ((ops.toArray[j]?).bind (·.dst)).bind (a.tmps[·]?) = some x ∧ Rep κ w.heap v x := by
      intro v hv
      rw [Option.bind_eq_some_iff] at hv
      obtain ⟨t, h1, h2⟩ := hv
      have ht : t < a.tmps.size := by rw [re.2.1]; exact Env.get_lt h2
      refine ⟨a.tmps[t], ?_, re.2.2 t v _ h2 (Array.getElem?_eq_getElem ht)⟩
      rw [List.getElem?_toArray, h1]
      simp [ht]
    split at e
    · rename_i b' hb
      simp at e; subst e
      obtain ⟨x, h1, h2⟩ := get _ hb
      obtain rfl := rep_bool h2
      simp only [yielded, h1]
      cases b' <;> cases want <;> rfl
    · rename_i hb
      simp at e; subst e
      obtain ⟨x, h1, h2⟩ := get _ hb
      obtain rfl := rep_undef h2
      simp only [yielded, h1]
      rfl
    · simp at e

theorem EnvOk.ext {κ' : Ctx} {w' : World} {m' : Hp} {env : Env} {a : Act} (re : EnvOk κ w.heap env a) (x : Ext κ w m κ' w' m') : EnvOk κ' w'.heap env a := re.mono x.le

theorem ops_sound {C : Callees} (hC : Sound P C) {ops : List Oper} {Q : Exit → Act → World → Prop} : ∀ {rest : List Oper} {env : Env} {m : Hp} {env' : Env} {m' : Hp},
    evalOps P C ops rest env m = some (env', m') → ∀ (κ : Ctx) (w : World) (a : Act), Mem κ w.heap m → EnvOk κ w.heap env a →
    (∀ κ' w' a', Ext κ w m κ' w' m' → EnvOk κ' w'.heap env' a' → Q .normal a' w') → wpList P ops.toArray Q rest a w
  | [], env, m, env', m', e, κ, w, a, k, re, hQ => by
    simp [evalOps] at e
    obtain ⟨rfl, rfl⟩ := e
    exact hQ κ w a (Ext.refl k) re
  | o :: rest, env, m, env', m', e, κ, w, a, k, re, hQ => by
    simp only [evalOps] at e
    split at e
    · rename_i hw
      split at e
      · rename_i v m1 h1
        unfold wpList
        rw [if_pos (wantedV_run re hw)]
        refine .inl (Oper.wp_mono ?_ (evalOp_done hC k re h1 Q))
        rintro a1 w1 ⟨x, κ1, rfl, hx, hr⟩
        refine ops_sound hC e κ1 w1 _ hx.mem ?_ (fun κ' w' a' h2 h3 => hQ κ' w' a' (hx.trans h2) h3)
        have := (re.mono hx.le).put (dst := o.dst) hr
        unfold putV
        exact this
      · simp at e
    · rename_i hw
      unfold wpList
      rw [if_neg (by rw [wantedV_run re hw]; simp)]
      refine ops_sound hC e κ w _ k ?_ hQ
      have := re.put (dst := o.dst) (v := .undef) (x := Go.undef) .undef
      unfold putV
      exact this
    · simp at e

end
end Go.Fbs

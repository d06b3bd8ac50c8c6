/- What the evaluator's small functions say of the machine's. -/
import Derived.Test.YthkfcmfphjepnaaFbsB
import Derived.Deep.MidRow
import Derived.Deep.AppendSrc
import Derived.Laws.StructEq
import Derived.Laws.AppendOwn
import Derived.WalkKit
set_option linter.unusedVariables false
set_option linter.unusedSimpArgs false
namespace Go.Fbs
section
variable {κ : Ctx} {h : Heap}

theorem rep_bool {b : Bool} {x : Value} (r : Rep κ h (.bool b) x) : x = .bool b := by cases r; rfl
theorem rep_int {k : IntKind} {n : Int} {x : Value} (r : Rep κ h (.int k n) x) : x = .int k n := by cases r; rfl
theorem rep_str {s : List UInt8} {x : Value} (r : Rep κ h (.str s) x) : x = .string ⟨⟨s⟩⟩ := by cases r; rfl
theorem rep_nilp {x : Value} (r : Rep κ h .nilp x) : x = .pointer none := by cases r; rfl
theorem rep_undef {x : Value} (r : Rep κ h .undef x) : x = Go.undef := by cases r; rfl
theorem rep_ptr {l off : Nat} {x : Value} (r : Rep κ h (.ptr l off) x) : ∃ b, κ.box l = some b ∧ x = .pointer (some ⟨b, off, none⟩) := by
  cases r; exact ⟨_, by assumption, rfl⟩
theorem rep_ro {cs : List V} {x : Value} (r : Rep κ h (.ro cs) x) : ∃ b off xs, Block κ h b off xs ∧ Reps κ h cs xs ∧ x = .pointer (some ⟨b, off, none⟩) := by
  cases r with
  | ro _ b off xs hx hl hr => exact ⟨b, off, xs, hx, ⟨hl, hr⟩, rfl⟩
theorem rep_func {f : Nat} {cs : List V} {x : Value} (r : Rep κ h (.func f cs) x) : ∃ xs, Reps κ h cs xs ∧ x = .func (.func f) #[] ⟨xs⟩ := by
  cases r with
  | func _ _ xs hl hr => exact ⟨xs, ⟨hl, hr⟩, rfl⟩
theorem rep_agg {cs : List V} {x : Value} (r : Rep κ h (.agg cs) x) : ∃ xs, Reps κ h cs xs ∧ (∀ x ∈ xs, x.oneCell' = true) ∧ x = .agg ⟨xs⟩ := by
  cases r with
  | agg _ xs hl ho hr => exact ⟨xs, ⟨hl, hr⟩, ho, rfl⟩
theorem rep_tup {cs : List V} {x : Value} (r : Rep κ h (.tup cs) x) : ∃ xs, Reps κ h cs xs ∧ x = .tuple ⟨xs⟩ := by
  cases r with
  | tup _ xs hl hr => exact ⟨xs, ⟨hl, hr⟩, rfl⟩

theorem Reps.nil : Reps κ h [] [] := ⟨rfl, fun i c x h1 => by simp at h1⟩
theorem Reps.cons {c : V} {cs : List V} {x : Value} {xs : List Value} (a : Rep κ h c x) (b : Reps κ h cs xs) : Reps κ h (c :: cs) (x :: xs) :=
  ⟨by simp [b.1], fun i d y h1 h2 => by
    cases i with
    | zero => simp at h1 h2; subst h1; subst h2; exact a
    | succ i => simp at h1 h2; exact b.2 i d y h1 h2⟩
theorem Reps.inv_cons {c : V} {cs : List V} {ys : List Value} (r : Reps κ h (c :: cs) ys) : ∃ x xs, ys = x :: xs ∧ Rep κ h c x ∧ Reps κ h cs xs := by
  obtain ⟨hl, hr⟩ := r
  cases ys with
  | nil => simp at hl
  | cons x xs => exact ⟨x, xs, rfl, hr 0 c x rfl rfl, by simpa using hl, fun i d y h1 h2 => hr (i + 1) d y (by simpa using h1) (by simpa using h2)⟩
theorem Reps.inv_nil {ys : List Value} (r : Reps κ h [] ys) : ys = [] := by
  have := r.1; simpa using this
theorem Reps.drop {cs : List V} {xs : List Value} (r : Reps κ h cs xs) (n : Nat) : Reps κ h (cs.drop n) (xs.drop n) :=
  ⟨by simp [r.1], fun i c x h1 h2 => r.2 (n + i) c x (by simpa using h1) (by simpa using h2)⟩
theorem Reps.take {cs : List V} {xs : List Value} (r : Reps κ h cs xs) (n : Nat) : Reps κ h (cs.take n) (xs.take n) :=
  ⟨by simp [r.1], fun i c x h1 h2 => by
    rw [List.getElem?_take] at h1 h2
    split at h1 <;> simp_all
    exact r.2 i c x h1 h2⟩
theorem Reps.append {cs ds : List V} {xs ys : List Value} (a : Reps κ h cs xs) (b : Reps κ h ds ys) : Reps κ h (cs ++ ds) (xs ++ ys) := by
  refine ⟨by simp [a.1, b.1], fun i c x h1 h2 => ?_⟩
  rw [List.getElem?_append] at h1 h2
  rw [a.1] at h2
  split at h1
  · rename_i hi; rw [if_pos hi] at h2; exact a.2 i c x h1 h2
  · rename_i hi; rw [if_neg hi] at h2; exact b.2 _ c x h1 h2
theorem Reps.get {cs : List V} {xs : List Value} (r : Reps κ h cs xs) {i : Nat} {c : V} (hc : cs[i]? = some c) : ∃ x, xs[i]? = some x ∧ Rep κ h c x := by
  have hi : i < xs.length := by rw [r.1]; exact (List.getElem?_eq_some_iff.1 hc).1
  exact ⟨xs[i], List.getElem?_eq_getElem hi, r.2 i c _ hc (List.getElem?_eq_getElem hi)⟩
theorem Reps.set {cs : List V} {xs : List Value} (r : Reps κ h cs xs) {i : Nat} {c : V} {x : Value} (hc : Rep κ h c x) : Reps κ h (cs.set i c) (xs.set i x) := by
  refine ⟨by simp [r.1], fun j d y h1 h2 => ?_⟩
  rw [List.getElem?_set] at h1 h2
  rw [r.1] at h2
  split at h1
  · rename_i hij
    rw [if_pos hij] at h2
    split at h1 <;> simp_all
  · rename_i hij
    rw [if_neg hij] at h2
    exact r.2 j d y h1 h2

theorem rep_ofScalar {x : Value} {v : V} (e : V.ofScalar x = some v) : Rep κ h v x := by
  unfold V.ofScalar at e
  split at e <;> simp at e <;> subst e
  · exact .bool _
  · exact .int _ _
  · rename_i s; exact .str _
  · exact .nilp
  · exact .slnil .full (by simp)

theorem reps_ofScalars : ∀ {xs : List Value} {vs : List V}, xs.mapM V.ofScalar = some vs → Reps κ h vs xs ∧ ∀ x ∈ xs, x.oneCell' = true
  | [], vs, e => by simp at e; subst e; exact ⟨Reps.nil, by simp⟩
  | x :: xs, vs, e => by
    simp only [List.mapM_cons, Option.bind_eq_bind, Option.bind_eq_some_iff, Option.pure_def, Option.some.injEq] at e
    obtain ⟨v, h1, vs', h2, rfl⟩ := e
    obtain ⟨h3, h4⟩ := reps_ofScalars h2
    refine ⟨Reps.cons (rep_ofScalar h1) h3, fun y hy => ?_⟩
    rcases List.mem_cons.1 hy with rfl | hy
    · unfold V.ofScalar at h1
      split at h1 <;> simp at h1 <;> rfl
    · exact h4 y hy

theorem rep_ofVal {x : Value} {v : V} (e : V.ofVal x = some v) : Rep κ h v x := by
  unfold V.ofVal at e
  split at e
  · rename_i cs
    simp only [Option.map_eq_some_iff] at e
    obtain ⟨vs, h1, rfl⟩ := e
    obtain ⟨h2, h3⟩ := reps_ofScalars (κ := κ) (h := h) h1
    obtain ⟨l⟩ := cs
    exact .agg vs l h2.1 h3 h2.2
  · exact rep_ofScalar e

theorem ok1_ofVal {x : Value} {v : V} (e : V.ofVal x = some v) : v.ok1 = true := by
  unfold V.ofVal at e
  split at e
  · simp only [Option.map_eq_some_iff] at e
    obtain ⟨vs, h1, rfl⟩ := e
    rfl
  · unfold V.ofScalar at e
    split at e <;> simp at e <;> subst e <;> rfl

/-- A value's cells. -/
theorem rep_cells {v : V} {x : Value} (r : Rep κ h v x) (ho : v.ok1 = true) : Reps κ h v.cells x.cells.toList ∧ ∀ y ∈ x.cells.toList, y.oneCell' = true := by
  cases r with
  | agg cs xs hl h1 hr => exact ⟨⟨hl, hr⟩, h1⟩
  | tup => simp [V.ok1] at ho
  | undef => simp [V.ok1] at ho
  | any => simp [V.ok1] at ho
  | bool b => exact ⟨Reps.cons (.bool b) Reps.nil, by simp [Value.cells, Value.oneCell']⟩
  | int k n => exact ⟨Reps.cons (.int k n) Reps.nil, by simp [Value.cells, Value.oneCell']⟩
  | str s => exact ⟨Reps.cons (.str s) Reps.nil, by simp [Value.cells, Value.oneCell']⟩
  | ptr l off b hb => exact ⟨Reps.cons (.ptr l off b hb) Reps.nil, by simp [Value.cells, Value.oneCell']⟩
  | ro cs b off xs hx hl hr => exact ⟨Reps.cons (.ro cs b off xs hx hl hr) Reps.nil, by simp [Value.cells, Value.oneCell']⟩
  | nilp => exact ⟨Reps.cons .nilp Reps.nil, by simp [Value.cells, Value.oneCell']⟩
  | slnil g hg => exact ⟨Reps.cons (.slnil g hg) Reps.nil, by simp [Value.cells, Value.oneCell']⟩
  | sl g es b off cap sz xs hx hu hl hr hc ht => exact ⟨Reps.cons (.sl g es b off cap sz xs hx hu hl hr hc ht) Reps.nil, by simp [Value.cells, Value.oneCell']⟩
  | mapnil => exact ⟨Reps.cons .mapnil Reps.nil, by simp [Value.cells, Value.oneCell']⟩
  | map l b hb => exact ⟨Reps.cons (.map l b hb) Reps.nil, by simp [Value.cells, Value.oneCell']⟩
  | func f caps xs hl hr => exact ⟨Reps.cons (.func f caps xs hl hr) Reps.nil, by simp [Value.cells, Value.oneCell']⟩

theorem rep_er1 {v : V} {x : Value} (r : Rep κ h v x) : Rep κ h v.er1 x := by
  cases r with
  | slnil g hg => cases g <;> exact .slnil _ (by simp)
  | sl g es b off cap sz xs hx hu hl hr hc ht =>
    cases g with
    | own i => exact .sl .ro es b off cap sz xs hx hu hl hr hc trivial
    | ro => exact .sl .ro es b off cap sz xs hx hu hl hr hc ht
    | full => exact .sl .full es b off cap sz xs hx hu hl hr hc ht
  | bool b => exact .bool b
  | int k n => exact .int k n
  | str s => exact .str s
  | ptr l off b hb => exact .ptr l off b hb
  | ro cs b off xs hx hl hr => exact .ro cs b off xs hx hl hr
  | nilp => exact .nilp
  | mapnil => exact .mapnil
  | map l b hb => exact .map l b hb
  | func f caps xs hl hr => exact .func f caps xs hl hr
  | agg cs xs hl ho hr => exact .agg cs xs hl ho hr
  | tup cs xs hl hr => exact .tup cs xs hl hr
  | undef => exact .undef
  | any x => exact .any x

theorem reps_er1 {cs : List V} {xs : List Value} (r : Reps κ h cs xs) : Reps κ h (cs.map V.er1) xs :=
  ⟨by simp [r.1], fun i c x h1 h2 => by
    simp only [List.getElem?_map, Option.map_eq_some_iff] at h1
    obtain ⟨d, h3, rfl⟩ := h1
    exact rep_er1 (r.2 i d x h3 h2)⟩

theorem rep_er {v : V} {x : Value} (r : Rep κ h v x) : Rep κ h v.er x := by
  cases v with
  | agg cs =>
    obtain ⟨xs, h1, h2, rfl⟩ := rep_agg r
    have := reps_er1 h1
    exact .agg _ _ this.1 h2 this.2
  | tup cs =>
    obtain ⟨xs, h1, rfl⟩ := rep_tup r
    have := reps_er1 h1
    exact .tup _ _ this.1 this.2
  | _ => exact rep_er1 r

theorem er_cells {v : V} (h : v.ok1 = true) : v.er.cells = v.cells.map V.er1 := by
  cases v with
  | sl g es => cases g <;> rfl
  | tup vs => simp [V.ok1] at h
  | _ => rfl

theorem er_flat : ∀ {es : List V}, (∀ e ∈ es, e.ok1 = true) → flat (es.map V.er) = (flat es).map V.er1
  | [], _ => rfl
  | e :: es, h => by
    have h1 := er_cells (h e (by simp))
    have h2 := er_flat (es := es) (fun e' he => h e' (by simp [he]))
    simp only [flat, List.map_cons, List.flatMap_cons, List.map_append] at h2 ⊢
    rw [h1, h2]

theorem EnvOk.ev {env : Env} {a : Act} (r : EnvOk κ h env a) {x : Operand} {v : V} (e : Fbs.ev env x = some v) : Rep κ h v (a.eval x) := by
  cases x with
  | tmp t =>
    simp only [Fbs.ev] at e
    have ht : t < a.tmps.size := by rw [r.2.1]; exact Env.get_lt e
    have := r.2.2 t v a.tmps[t] e (Array.getElem?_eq_getElem ht)
    simpa [Act.eval, Array.getD, ht] using this
  | const x => exact rep_ofVal e
  | func f =>
    simp only [Fbs.ev, Option.some.injEq] at e
    subst e
    exact .func f [] [] rfl (by simp)
  | global g => simp [Fbs.ev] at e

theorem EnvOk.evs {env : Env} {a : Act} (r : EnvOk κ h env a) : ∀ {xs : List Operand} {vs : List V}, Fbs.evs env xs = some vs → Reps κ h vs (xs.map a.eval)
  | [], vs, e => by simp [Fbs.evs] at e; subst e; exact Reps.nil
  | x :: xs, vs, e => by
    simp only [Fbs.evs] at e
    split at e <;> simp at e
    rename_i v vs' h1 h2
    subst e
    exact Reps.cons (r.ev h1) (r.evs h2)
end

section types
variable {P : Program} {κ : Ctx} {h : Heap} (w : World)

theorem szT_run {t : TypeId} {n : Nat} (e : szT P t = some n) : (sizeOf t).run P w = .ok n w := by
  unfold szT at e
  cases hi : P.info? t with
  | none => simp [hi] at e
  | some i => simp [hi] at e; subst e; simp [sizeOf, typeInfo, hi]

theorem szT_info {t : TypeId} {n : Nat} (e : szT P t = some n) : ∃ i, P.info? t = some i ∧ i.size = n := by
  unfold szT at e
  cases hi : P.info? t with
  | none => simp [hi] at e
  | some i => simp [hi] at e; exact ⟨i, rfl, e⟩

theorem zeroT_info {t : TypeId} {z : V} (e : zeroT P t = some z) : ∃ i x, P.info? t = some i ∧ i.zero = some x ∧ V.ofVal x = some z := by
  unfold zeroT at e
  cases hi : P.info? t with
  | none => simp [hi] at e
  | some i =>
    simp only [hi, Option.bind_some, Option.bind_eq_some_iff] at e
    obtain ⟨x, h1, h2⟩ := e
    exact ⟨i, x, rfl, h1, h2⟩

theorem zeroT_run {t : TypeId} {z : V} (e : zeroT P t = some z) : ∃ x, (zeroValue t).run P w = .ok x w ∧ V.ofVal x = some z := by
  obtain ⟨i, x, h1, h2, h3⟩ := zeroT_info e
  exact ⟨x, by simp [zeroValue, typeInfo, h1, h2], h3⟩

theorem aggT_run {t : TypeId} {b : Bool} (e : aggT P t = some b) : (isAgg t).run P w = .ok b w := by
  unfold aggT at e
  unfold isAgg
  cases hu : P.underlying t with
  | none => simp [hu] at e
  | some d =>
    rw [Sem.run_bind, run_underlying hu w]
    cases d <;> simp [hu] at e <;> subst e <;> rfl

theorem getElem?_take_cells {xs : List Value} {n j : Nat} {v : Value} (e : (xs.take n)[j]? = some v) : xs[j]? = some v := by
  rw [List.getElem?_take] at e
  split at e
  · exact e
  · simp at e

/-- A variable is read. -/
theorem loadT_run {t : TypeId} {cs : List V} {v : V} {b off : Nat} {xs : List Value} (hc : ∀ (i : Nat) x, xs[i]? = some x → hcell w.heap b (off + i) = some x ∧ x.oneCell' = true)
    (hr : Reps κ h cs xs) (e : loadT P t cs = some v) : ∃ x, (loadVar t ⟨b, off, none⟩).run P w = .ok x w ∧ Rep κ h v x := by
  unfold loadT at e
  split at e
  · rename_i n h1 h2
    split at e <;> simp at e
    rename_i hn
    subst e
    refine ⟨.agg ⟨xs.take n⟩, ?_, .agg _ _ (by simp [hr.1]) (fun x hx => ?_) (hr.take n).2⟩
    · have hl : (loadCells ⟨b, off, none⟩ n).run P w = .ok (xs.take n).toArray w := by
        have := run_loadCells_list (P := P) w ⟨b, off, none⟩ (xs.take n) (fun j v hv => by
          rw [Addr.add_mid, cell?_eq]; exact (hc j v (getElem?_take_cells hv)).1)
        have hlen : (xs.take n).length = n := by rw [List.length_take, hr.1]; omega
        rwa [hlen] at this
      simp [loadVar, aggT_run w h1, szT_run w h2, hl]
    · obtain ⟨i, hi, rfl⟩ := List.mem_iff_getElem.1 hx
      exact (hc i _ (getElem?_take_cells (List.getElem?_eq_getElem hi))).2
  · rename_i n h1 h2
    obtain ⟨x, hx, hrx⟩ := hr.get e
    refine ⟨x, ?_, hrx⟩
    have := (hc 0 x hx).1
    simp [loadVar, aggT_run w h1, cell?_eq]
    simp at this
    rw [this]
  · simp at e

theorem partT_run {t : TypeId} {cs : List V} {off : Nat} {v : V} {xs : List Value} (ho : ∀ x ∈ xs, x.oneCell' = true) (hr : Reps κ h cs xs) (e : partT P t cs off = some v) :
    ∃ x, (part t ⟨xs⟩ off).run P w = .ok x w ∧ Rep κ h v x := by
  unfold partT at e
  split at e
  · rename_i n h1 h2
    split at e <;> simp at e
    rename_i hn
    subst e
    refine ⟨.agg ⟨(xs.drop off).take n⟩, ?_, .agg _ _ (by simp [hr.1]) (fun x hx => ho x (List.mem_of_mem_drop (List.mem_of_mem_take hx))) ((hr.drop off).take n).2⟩
    simp [part, aggT_run w h1, szT_run w h2]
  · rename_i n h1 h2
    obtain ⟨x, hx, hrx⟩ := hr.get e
    refine ⟨x, ?_, hrx⟩
    simp [part, aggT_run w h1, hx]
  · simp at e

end types
end Go.Fbs

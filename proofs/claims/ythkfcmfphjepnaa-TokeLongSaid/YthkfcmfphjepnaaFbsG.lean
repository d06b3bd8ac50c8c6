/- Each operation of the evaluator is the machine's: those that make or write memory. -/
import Derived.Test.YthkfcmfphjepnaaFbsF
set_option linter.unusedVariables false
set_option linter.unusedSimpArgs false
namespace Go.Fbs

theorem setCell_out (w : World) (a : Addr) (v : Value) : (w.setCell a v).os = w.os ∧ Kept w (w.setCell a v) := by
  refine ⟨rfl, rfl, fun x => World.frozen?_setCell _ _ _ _⟩
theorem setCells_out (b : Nat) : ∀ (o : Nat) (vs : List Value) (w : World), (w.setCells b o vs).os = w.os ∧ Kept w (w.setCells b o vs)
  | _, [], _ => ⟨rfl, Kept.refl _⟩
  | o, v :: r, w => by
    have h1 := setCells_out b (o + 1) r (w.setCell ⟨b, o, none⟩ v)
    have h2 := setCell_out w ⟨b, o, none⟩ v
    exact ⟨h1.1.trans h2.1, h2.2.trans h1.2⟩


section
variable {P : Program} {κ : Ctx} {w : World} {m : Hp}

theorem list_ext {l : Array Value} : (⟨l.toList⟩ : Array Value) = l := by cases l; rfl

theorem alloc_run {t : TypeId} {cs : List V} (e : (zeroT P t).map V.cells = some cs) : ∃ xs : List Value,
    (Instr.alloc t true (.tuple #[])).run P w = .ok (.pointer (some ⟨w.heap.size, 0, none⟩)) { w with heap := w.heap.push (.cells ⟨xs⟩ t (0, 0)) } ∧ Reps κ w.heap cs xs ∧ ∀ x ∈ xs, x.oneCell' = true := by
  simp only [Option.map_eq_some_iff] at e
  obtain ⟨z, e, rfl⟩ := e
  obtain ⟨x, h1, h2⟩ := zeroT_run (P := P) w e
  obtain ⟨h3, h4⟩ := rep_cells (κ := κ) (h := w.heap) (rep_ofVal h2) (ok1_ofVal h2)
  exact ⟨x.cells.toList, by simp [Instr.alloc, h1, newVar, newRow], h3, h4⟩

theorem box_run {t : TypeId} {v : V} {x : Value} (r : Rep κ w.heap v x) (ho : v.ok1 = true) : ∃ xs : List Value,
    (Instr.box t x).run P w = .ok (.pointer (some ⟨w.heap.size, 0, none⟩)) { w with heap := w.heap.push (.cells ⟨xs⟩ t (0, 0)) } ∧ Reps κ w.heap v.cells xs ∧ ∀ x ∈ xs, x.oneCell' = true := by
  obtain ⟨h3, h4⟩ := rep_cells r ho
  exact ⟨x.cells.toList, by simp [Instr.box, newVar, newRow], h3, h4⟩

/-! ### Parts laid over zero cells -/
theorem fold_splice : ∀ (vs : List Value) (k off : Nat) (cells : Array Value), off + k + vs.length ≤ cells.size →
    ((vs.zipIdx k).foldl (fun (cs : Array Value) (p : Value × Nat) => cs.setIfInBounds (off + p.2) p.1) cells).toList = cells.toList.take (off + k) ++ vs ++ cells.toList.drop (off + k + vs.length)
  | [], k, off, cells, _ => by simp
  | v :: vs, k, off, cells, hl => by
    simp only [List.length_cons] at hl
    simp only [List.zipIdx_cons, List.foldl_cons]
    rw [fold_splice vs (k + 1) off _ (by simp; omega)]
    simp only [Array.toList_setIfInBounds]
    apply List.ext_getElem?
    intro i
    have hlen : off + k < cells.toList.length := by simp; omega
    simp only [List.getElem?_append, List.getElem?_take, List.getElem?_drop, List.length_append, List.length_take, List.length_set, List.length_cons, List.getElem?_set, Array.length_toList]
    have e1 : min (off + (k + 1)) cells.size = off + k + 1 := by omega
    have e2 : min (off + k) cells.size = off + k := by omega
    rw [e1, e2]
    by_cases h1 : i < off + k
    · have h2 : i < off + k + 1 := by omega
      have h3 : i < off + k + 1 + vs.length := by omega
      have h4 : i < off + k + (vs.length + 1) := by omega
      have h5 : ¬ off + k = i := by omega
      have h6 : i < off + (k + 1) := by omega
      simp [h1, h2, h3, h4, h5, h6]
    · by_cases h7 : i = off + k
      · subst h7
        simp [hlen, show off + k < cells.size by simpa using hlen]
        omega
      · have h2 : ¬ i < off + k + 1 := by omega
        by_cases h3 : i < off + k + 1 + vs.length
        · have h4 : i < off + k + (vs.length + 1) := by omega
          have h5 : i - (off + k) = (i - (off + k + 1)) + 1 := by omega
          simp [h1, h2, h3, h4, h5]
        · have h4 : ¬ i < off + k + (vs.length + 1) := by omega
          have h8 : ¬ off + k = off + (k + 1) + vs.length + (i - (off + k + 1 + vs.length)) := by omega
          simp only [h1, h2, h3, h4, if_false, h8]
          congr 1
          omega

theorem fill_run {place : Nat → Option (Nat × Nat)} : ∀ {parts : List (Nat × V)} {parts' : List (Nat × Value)} {cells : List V} {xs : List Value} {cs : List V},
    parts'.length = parts.length → (∀ (i : Nat) p p', parts[i]? = some p → parts'[i]? = some p' → p.1 = p'.1 ∧ Rep κ w.heap p.2 p'.2 ∧ p.2.ok1 = true) →
    Reps κ w.heap cells xs → (∀ x ∈ xs, x.oneCell' = true) → fillV place cells parts = some cs →
    ∃ ys, Instr.fill place ⟨xs⟩ parts' = some ⟨ys⟩ ∧ Reps κ w.heap cs ys ∧ ∀ y ∈ ys, y.oneCell' = true
  | [], parts', cells, xs, cs, hl, _, hr, ho, e => by
    simp at hl; subst hl
    simp [fillV] at e; subst e
    exact ⟨xs, rfl, hr, ho⟩
  | (i, v) :: rest, parts', cells, xs, cs, hl, hp, hr, ho, e => by
    cases parts' with
    | nil => simp at hl
    | cons p' rest' =>
      obtain ⟨i', x⟩ := p'
      obtain ⟨h1, h2, h3⟩ := hp 0 (i, v) (i', x) rfl rfl
      simp at h1 h2 h3
      subst h1
      simp only [fillV] at e
      split at e
      · simp at e
      rename_i off size hpl
      split at e
      · simp at e
      rename_i hc
      simp at hc
      obtain ⟨hc1, hc2⟩ := hc
      obtain ⟨h4, h5⟩ := rep_cells h2 h3
      have hsz : x.cells.size = size := by
        have := h4.1
        simp at this
        omega
      have hxs : xs.length = cells.length := hr.1
      have hle : ¬ (x.cells.size ≠ size ∨ off + x.cells.size > xs.length) := by
        have := h4.1
        simp at this
        omega
      have hfold : (x.cells.zipIdx.foldl (fun cs (p : Value × Nat) => cs.setIfInBounds (off + p.2) p.1) (⟨xs⟩ : Array Value)) = ⟨xs.take off ++ x.cells.toList ++ xs.drop (off + x.cells.size)⟩ := by
        apply Array.ext'
        have := fold_splice x.cells.toList 0 off ⟨xs⟩ (by simp; omega)
        rw [← Array.foldl_toList]
        simpa using this
      obtain ⟨ys, h6, h7, h8⟩ := fill_run (place := place) (parts := rest) (parts' := rest') (cells := cells.take off ++ v.cells ++ cells.drop (off + v.cells.length))
        (xs := xs.take off ++ x.cells.toList ++ xs.drop (off + x.cells.size)) (cs := cs) (by simpa using hl)
        (fun j p p' a b => hp (j + 1) p p' (by simpa using a) (by simpa using b))
        (by
          have : v.cells.length = x.cells.size := by have := h4.1; simp at this; omega
          rw [this]
          exact ((hr.take off).append h4).append (hr.drop _))
        (fun y hy => by
          rcases List.mem_append.1 hy with hy | hy
          · rcases List.mem_append.1 hy with hy | hy
            · exact ho y (List.mem_of_mem_take hy)
            · exact h5 y hy
          · exact ho y (List.mem_of_mem_drop hy)) e
      refine ⟨ys, ?_, h7, h8⟩
      simp only [Instr.fill, hpl]
      rw [if_neg (by simpa using hle)]
      rw [← h6]
      congr 1

theorem parts_rep {env : Env} {a : Act} (re : EnvOk κ w.heap env a) : ∀ {parts : List (Nat × Operand)} {ps : List (Nat × V)}, partsV env parts = some ps → partsOk ps = true →
    (parts.map fun p => (p.1, a.eval p.2)).length = ps.length ∧ ∀ (i : Nat) p p', ps[i]? = some p → (parts.map fun p => (p.1, a.eval p.2))[i]? = some p' → p.1 = p'.1 ∧ Rep κ w.heap p.2 p'.2 ∧ p.2.ok1 = true
  | [], ps, e, _ => by simp [partsV] at e; subst e; simp
  | (i, x) :: rest, ps, e, ok => by
    simp only [partsV] at e
    split at e <;> simp at e
    rename_i v vs h1 h2
    subst e
    simp only [partsOk, List.all_cons, Bool.and_eq_true] at ok
    obtain ⟨h3, h4⟩ := parts_rep re h2 (by simpa [partsOk] using ok.2)
    refine ⟨by simpa using h3, fun j p p' a b => ?_⟩
    cases j with
    | zero => simp at a b; subst a; subst b; exact ⟨rfl, re.ev h1, ok.1⟩
    | succ j => exact h4 j p p' (by simpa using a) (by simpa using b)

theorem places_run : ∀ {fs : List Field} {ps : List (Nat × Nat)}, placesT P fs = some ps → (fs.mapM (fun f => Prod.mk f.offset <$> sizeOf f.type) : Sem (List (Nat × Nat))).run P w = .ok ps w
  | [], ps, e => by simp [placesT] at e; subst e; simp
  | f :: fs, ps, e => by
    simp only [placesT] at e
    split at e <;> simp at e
    rename_i n r h1 h2
    subst e
    simp [List.mapM_cons, szT_run w h1, places_run h2]

theorem build_done {t : TypeId} {parts : List (Nat × V)} {parts' : List (Nat × Value)} {v : V} (k : Mem κ w.heap m) (hl : parts'.length = parts.length)
    (hp : ∀ (i : Nat) p p', parts[i]? = some p → parts'[i]? = some p' → p.1 = p'.1 ∧ Rep κ w.heap p.2 p'.2 ∧ p.2.ok1 = true) (e : buildV P t parts = some v) :
    OpDone κ w ((do pure (.value (← Instr.build t ⟨parts'⟩)) : Sem Next).run P w) v m := by
  unfold buildV at e
  split at e
  · rename_i fs z hu hz
    split at e
    · rename_i ps hps
      simp only [Option.map_eq_some_iff] at e
      obtain ⟨cs, h1, rfl⟩ := e
      obtain ⟨x, h2, h3⟩ := zeroT_run (P := P) w hz
      obtain ⟨h4, h5⟩ := rep_cells (κ := κ) (h := w.heap) (rep_ofVal h3) (ok1_ofVal h3)
      obtain ⟨ys, h6, h7, h8⟩ := fill_run hl hp h4 h5 h1
      refine OpDone.same (y := .agg ⟨ys⟩) ?_ k (.agg _ _ h7.1 h8 h7.2)
      have hm : (fs.mapM (fun f => do pure (f.offset, ← sizeOf f.type)) : Sem (Array (Nat × Nat))).run P w = .ok ⟨ps⟩ w := by
        rw [Array.mapM_eq_mapM_toList]
        simp [places_run hps]
      have h6' : Instr.fill (fun i => (⟨ps⟩ : Array (Nat × Nat))[i]?) x.cells parts' = some ⟨ys⟩ := by simpa using h6
      simp only [Instr.build, Sem.run_bind, h2, Result.andThen_ok, run_underlying hu, hm, h6', Sem.run_pure]
    · simp at e
  · rename_i n et z hu hz
    split at e
    · rename_i sz hsz
      simp only [Option.map_eq_some_iff] at e
      obtain ⟨cs, h1, rfl⟩ := e
      obtain ⟨x, h2, h3⟩ := zeroT_run (P := P) w hz
      obtain ⟨h4, h5⟩ := rep_cells (κ := κ) (h := w.heap) (rep_ofVal h3) (ok1_ofVal h3)
      obtain ⟨ys, h6, h7, h8⟩ := fill_run hl hp h4 h5 h1
      refine OpDone.same (y := .agg ⟨ys⟩) ?_ k (.agg _ _ h7.1 h8 h7.2)
      have h6' : Instr.fill (fun i => some (i * sz, sz)) x.cells parts' = some ⟨ys⟩ := by simpa using h6
      simp only [Instr.build, Sem.run_bind, h2, Result.andThen_ok, run_underlying hu, szT_run w hsz, h6', Sem.run_pure]
    · simp at e
  · simp at e

/-- The literal's cells: every element laid. -/
theorem fill_elems {sz : Nat} : ∀ {parts : List (Nat × V)} {parts' : List (Nat × Value)} {es : List V} {k : Nat} {base : List Value} {pre : List Value},
    elemsV k parts = some es → parts'.length = parts.length → (∀ (i : Nat) p p', parts[i]? = some p → parts'[i]? = some p' → p.1 = p'.1 ∧ Rep κ w.heap p.2 p'.2 ∧ p.2.ok1 = true) →
    (∀ e ∈ es, e.cells.length = sz) → pre.length = k * sz → base.length = es.length * sz →
    ∃ ys, Instr.fill (fun i => some (i * sz, sz)) ⟨pre ++ base⟩ parts' = some ⟨pre ++ ys⟩ ∧ Reps κ w.heap (flat es) ys ∧ ∀ y ∈ ys, y.oneCell' = true
  | [], parts', es, k, base, pre, e, hl, _, _, _, hb => by
    simp [elemsV] at e; subst e
    simp at hl; subst hl
    simp at hb; subst hb
    exact ⟨[], rfl, Reps.nil, by simp⟩
  | (i, v) :: rest, parts', es, k, base, pre, e, hl, hp, hu, hpre, hb => by
    cases parts' with
    | nil => simp at hl
    | cons p' rest' =>
      obtain ⟨i', x⟩ := p'
      obtain ⟨h1, h2, h3⟩ := hp 0 (i, v) (i', x) rfl rfl
      simp at h1 h2 h3
      subst h1
      simp only [elemsV] at e
      split at e
      · rename_i hik
        subst hik
        simp only [Option.map_eq_some_iff] at e
        obtain ⟨es', h4, rfl⟩ := e
        obtain ⟨h5, h6⟩ := rep_cells h2 h3
        have hvs : v.cells.length = sz := hu v (by simp)
        have hxs : x.cells.size = sz := by have := h5.1; simp at this; omega
        simp only [List.length_cons, Nat.succ_mul] at hb
        obtain ⟨ys, h7, h8, h9⟩ := fill_elems (parts := rest) (parts' := rest') (es := es') (k := i + 1) (base := base.drop sz) (pre := pre ++ x.cells.toList) h4 (by simpa using hl)
          (fun j p p' a b => hp (j + 1) p p' (by simpa using a) (by simpa using b)) (fun e he => hu e (by simp [he])) (by simp [hpre, hxs, Nat.succ_mul]) (by simp; omega)
        refine ⟨x.cells.toList ++ ys, ?_, ?_, ?_⟩
        · have hfold : (x.cells.zipIdx.foldl (fun cs (p : Value × Nat) => cs.setIfInBounds (i * sz + p.2) p.1) (⟨pre ++ base⟩ : Array Value)) = ⟨pre ++ x.cells.toList ++ base.drop sz⟩ := by
            apply Array.ext'
            have := fold_splice x.cells.toList 0 (i * sz) ⟨pre ++ base⟩ (by simp; omega)
            rw [← Array.foldl_toList]
            simp only [Nat.add_zero, Array.length_toList, hxs] at this
            simp only [Array.toList_zipIdx]
            rw [this, ← hpre]
            simp [List.drop_append]
          simp only [Instr.fill]
          rw [if_neg (by simp; omega), hfold]
          simpa using h7
        · simp only [flat, List.flatMap_cons]; exact h5.append h8
        · intro y hy
          rcases List.mem_append.1 hy with hy | hy
          · exact h6 y hy
          · exact h9 y hy
      · simp at e

theorem buildSlice_done {t : TypeId} {len : Nat} {parts : List (Nat × V)} {parts' : List (Nat × Value)} {v : V} (k : Mem κ w.heap m) (hl : parts'.length = parts.length)
    (hp : ∀ (i : Nat) p p', parts[i]? = some p → parts'[i]? = some p' → p.1 = p'.1 ∧ Rep κ w.heap p.2 p'.2 ∧ p.2.ok1 = true) (e : buildSliceV P t len parts = some v) :
    OpDone κ w ((do pure (.value (← Instr.buildSlice t len ⟨parts'⟩)) : Sem Next).run P w) v m := by
  unfold buildSliceV at e
  split at e
  · rename_i et hu
    split at e
    · rename_i sz z es hsz hz hes
      split at e <;> simp at e
      rename_i hc
      obtain ⟨hc1, hc2, hc3, hc4, hc5⟩ := hc
      subst e
      have hun : ∀ e ∈ es, e.cells.length = sz := fun e he => by simpa using List.all_eq_true.1 hc5 e he
      obtain ⟨x, h2, h3⟩ := zeroT_run (P := P) w hz
      obtain ⟨base, hbase⟩ : ∃ base : List Value, ((Array.range (len * sz)).map fun i => (if len * sz = 0 then (#[] : Array Value) else x.cells)[i % (if len * sz = 0 then (#[] : Array Value) else x.cells).size]!) = ⟨base⟩ := ⟨_, list_ext.symm⟩
      have hblen : base.length = es.length * sz := by
        have := congrArg Array.size hbase
        simp at this
        rw [hc1]; omega
      obtain ⟨ys, h4, h5, h6⟩ := fill_elems (κ := κ) (w := w) (sz := sz) (k := 0) (pre := []) (base := base) hes hl hp hun (by simp) hblen
      have hys : ys.length = es.length * sz := by rw [h5.1, uniform_flat hun]
      have hok : ∀ (k : Nat) (ps : List (Nat × V)) (es : List V), elemsV k ps = some es → (∀ p ∈ ps, p.2.ok1 = true) → ∀ e ∈ es, e.ok1 = true := by
        intro k ps
        induction ps generalizing k with
        | nil => intro es he _ e hm; simp [elemsV] at he; subst he; simp at hm
        | cons p ps ih =>
          obtain ⟨i, v⟩ := p
          intro es he hp e hm
          simp only [elemsV] at he
          split at he
          · simp only [Option.map_eq_some_iff] at he
            obtain ⟨es', h1, rfl⟩ := he
            rcases List.mem_cons.1 hm with rfl | hm
            · exact hp (i, e) (by simp)
            · exact ih _ es' h1 (fun q hq => hp q (by simp [hq])) e hm
          · simp at he
      have hoks : ∀ e ∈ es, e.ok1 = true := hok 0 parts es hes (fun p hpm => by
        obtain ⟨i, hi⟩ := List.mem_iff_getElem?.1 hpm
        have hlt : i < parts'.length := by rw [hl]; exact (List.getElem?_eq_some_iff.1 hi).1
        exact (hp i p parts'[i] hi (List.getElem?_eq_getElem hlt)).2.2)
      have h5' : Reps κ w.heap (flat (es.map V.er)) ys := by rw [er_flat hoks]; exact reps_er1 h5
      have hun' : ∀ e ∈ es.map V.er, e.cells.length = sz := fun e he => by
        obtain ⟨e', h1, rfl⟩ := List.mem_map.1 he
        rw [er_cells (hoks e' h1), List.length_map]; exact hun e' h1
      obtain ⟨κ', l, k', hb⟩ := mem_sealed k ⟨ys⟩ et (0, 0) ys.length (fun x hx => h6 x (List.mem_of_mem_take hx))
      have hbt : Block κ' (w.heap.push (.cells ⟨ys⟩ et (0, 0))) w.heap.size 0 ys := by simpa using hb
      refine ⟨.slice (some ⟨w.heap.size, 0, none⟩) es.length es.length, κ', { w with heap := w.heap.push (.cells ⟨ys⟩ et (0, 0)) }, .inl ?_, ⟨l, rfl, kept_push w _ _⟩, k', by
        have hlen : es.length = (es.map V.er).length := by simp
        conv => arg 4; rw [hlen]
        exact .sl .full _ _ 0 _ sz ys hbt hun' h5'.1 (h5'.mono l.toLe).2 (Nat.le_refl _) rfl⟩
      have hlim : ¬ (len * sz > 2 ^ 24) := by omega
      simp only [List.nil_append] at h4
      by_cases h0 : len * sz = 0
      · rw [if_pos h0] at hbase
        simp only [Instr.buildSlice, Sem.run_bind, run_underlying hu, Result.andThen_ok, szT_run w hsz]
        rw [if_neg hlim, if_pos h0]
        simp only [Sem.run_bind, Sem.run_pure, Result.andThen_ok, hbase, h4, newRow, run_newObj, hc1]
      · rw [if_neg h0] at hbase
        simp only [Instr.buildSlice, Sem.run_bind, run_underlying hu, Result.andThen_ok, szT_run w hsz]
        rw [if_neg hlim, if_neg h0]
        simp only [Sem.run_bind, h2, Sem.run_pure, Result.andThen_ok, hbase, h4, newRow, run_newObj, hc1]
    · simp at e
  · simp at e

/-! ### A box is written -/
theorem setCells_heap (b : Nat) (E : TypeId) : ∀ (vs : List Value) (o : Nat) (w : World) (c : Array Value), w.heap[b]? = some (.cells c E (0, 0)) → o + vs.length ≤ c.size →
    (w.setCells b o vs).heap[b]? = some (.cells ⟨c.toList.take o ++ vs ++ c.toList.drop (o + vs.length)⟩ E (0, 0)) ∧ Only w.heap (w.setCells b o vs).heap b
  | [], o, w, c, hc, _ => by
    refine ⟨?_, rfl, fun _ _ => rfl⟩
    simp [World.setCells, hc]
  | v :: vs, o, w, c, hc, hl => by
    simp only [List.length_cons] at hl
    have h1 : (w.setCell ⟨b, o, none⟩ v).heap[b]? = some (.cells (c.setIfInBounds o v) E (0, 0)) := by
      simp [World.setCell, Array.getElem?_modify, hc]
    have h2 : Only w.heap (w.setCell ⟨b, o, none⟩ v).heap b := by
      refine ⟨by simp [World.setCell], fun i hi => ?_⟩
      simp only [World.setCell]
      rw [Array.getElem?_modify]
      simp [Ne.symm hi]
    obtain ⟨h3, h4⟩ := setCells_heap b E vs (o + 1) (w.setCell ⟨b, o, none⟩ v) _ h1 (by simp; omega)
    refine ⟨?_, by show (w.setCells b o (v :: vs)).heap.size = _; rw [World.setCells, h4.size, h2.size], fun i hi => by rw [World.setCells, h4.same i hi, h2.same i hi]⟩
    rw [World.setCells, h3]
    congr 3
    have := fold_splice (v :: vs) 0 o c (by simp; omega)
    have h5 := fold_splice vs 0 (o + 1) (c.setIfInBounds o v) (by simp; omega)
    simp only [Array.toList_setIfInBounds, Nat.add_zero] at h5
    have e1 : o < c.toList.length := by simp; omega
    apply List.ext_getElem?
    intro i
    simp only [Array.toList_setIfInBounds, List.length_cons]
    simp only [List.getElem?_append, List.getElem?_take, List.getElem?_drop, List.length_append, List.length_take, List.length_set, List.length_cons, List.getElem?_set, Array.length_toList]
    have e2 : min (o + 1) c.size = o + 1 := by omega
    have e3 : min o c.size = o := by omega
    rw [e2, e3]
    by_cases h1 : i < o
    · have a1 : i < o + 1 := by omega
      have a2 : i < o + 1 + vs.length := by omega
      have a3 : i < o + (vs.length + 1) := by omega
      have a4 : ¬ o = i := by omega
      simp [h1, a1, a2, a3, a4]
    · by_cases h7 : i = o
      · subst h7
        simp [show i < c.size by simpa using e1]
        omega
      · have a1 : ¬ i < o + 1 := by omega
        by_cases h3 : i < o + 1 + vs.length
        · have a3 : i < o + (vs.length + 1) := by omega
          have a5 : i - o = (i - (o + 1)) + 1 := by omega
          simp [h1, a1, h3, a3, a5]
        · have a3 : ¬ i < o + (vs.length + 1) := by omega
          have a8 : ¬ o = o + 1 + vs.length + (i - (o + 1 + vs.length)) := by omega
          simp only [h1, a1, h3, a3, if_false, a8]
          congr 1
          omega

theorem storeCells_run {b off : Nat} {E : TypeId} {c : Array Value} {vs : List Value} (hc : w.heap[b]? = some (.cells c E (0, 0))) (hl : off + vs.length ≤ c.size) (ho : ∀ v ∈ vs, v.oneCell' = true) :
    (storeCells ⟨b, off, none⟩ vs).run P w = .ok () (w.setCells b off vs) := by
  have h1 : ∀ j, j < vs.length → (w.cell? ⟨b, off + 0 + j, none⟩).isSome = true := fun j hj => by
    rw [cell?_eq]; unfold hcell; rw [hc]
    simp only [Array.getElem?_eq_getElem (show off + 0 + j < c.size by omega), Option.isSome_some]
  have h2 : ∀ j, j < vs.length → w.frozen? ⟨b, off + 0 + j, none⟩ = false := fun j hj => by
    unfold World.frozen?; simp [hc]
  have := run_storeCells_cells (P := P) b off vs 0 w h1 h2 ho
  simpa using this

theorem store_done {t : TypeId} {l off n : Nat} {v : V} {cs : List V} {a x : Value} (k : Mem κ w.heap m) (ra : Rep κ w.heap (.ptr l off) a) (rx : Rep κ w.heap v x) (hn : szT P t = some n)
    (hcs : m.H[l]? = some (.cells cs)) (ho : v.ok1 = true) (hv : v.cells.length = n) (hle : off + n ≤ cs.length) :
    OpDone κ w ((do Instr.storeAt t a x; pure .skip : Sem Next).run P w) .undef { m with H := m.H.set l (.cells (splice cs v.cells off)) } := by
  obtain ⟨b, hb, rfl⟩ := rep_ptr ra
  obtain ⟨_, h1, xs, E, rfl, h2, h3⟩ := k.2.1.2 l b _ hb hcs
  obtain ⟨h4, h5⟩ := rep_cells rx ho
  have hxs : x.cells.size = n := by have := h4.1; simp at this; omega
  have hxl : xs.length = cs.length := h2.1
  have hlen : x.cells.toList.length = n := by simpa using hxs
  obtain ⟨h6, h7⟩ := setCells_heap b E x.cells.toList off w ⟨xs⟩ h1 (by rw [hlen]; show off + n ≤ xs.length; omega)
  have hr : Reps κ w.heap (splice cs v.cells off) (xs.take off ++ x.cells.toList ++ xs.drop (off + x.cells.toList.length)) := by
    unfold splice
    rw [hlen, ← hv]
    exact ((h2.take off).append h4).append (h2.drop _)
  obtain ⟨l1, l2⟩ := mem_store (c := .cells (splice cs v.cells off)) k hb h7 h6 ⟨_, E, rfl, hr, (fun y hy => by
    rcases List.mem_append.1 hy with hy | hy
    · rcases List.mem_append.1 hy with hy | hy
      · exact h3 y (List.mem_of_mem_take hy)
      · exact h5 y hy
    · exact h3 y (List.mem_of_mem_drop hy))⟩
  refine ⟨Go.undef, κ, w.setCells b off x.cells.toList, .inr ⟨?_, rfl⟩, ⟨l1, (setCells_out b off _ w).1, (setCells_out b off _ w).2⟩, l2, .undef⟩
  have hst := storeCells_run (P := P) (vs := x.cells.toList) h1 (by rw [hlen]; show off + n ≤ xs.length; omega) h5
  simp only [Instr.storeAt, Instr.sureAddr, storeVar, Sem.run_bind, Sem.run_pure, Result.andThen_ok, szT_run w hn]
  rw [if_neg (by simp [hxs])]
  simp [hst]

end
end Go.Fbs

/- Each operation of the evaluator is the machine's: reading, building, cutting. -/
import Derived.Test.YthkfcmfphjepnaaFbsE
set_option linter.unusedVariables false
set_option linter.unusedSimpArgs false
namespace Go.Fbs
section
variable {P : Program} {κ : Ctx} {w : World} {m : Hp}

theorem reps_block {cs : List V} {xs : List Value} {b off : Nat} (hx : Block κ w.heap b off xs) (hr : Reps κ w.heap cs xs) (k : Nat) :
    Block κ w.heap b (off + k) (xs.drop k) ∧ Reps κ w.heap (cs.drop k) (xs.drop k) :=
  ⟨fun i x h => by
    have := hx (k + i) x (by simpa using h)
    rwa [← Nat.add_assoc] at this, hr.drop k⟩

theorem load_run {t : TypeId} {x : V} {a : Value} {v : V} (k : Mem κ w.heap m) (ra : Rep κ w.heap x a)
    (e : loadV P t m.H x = some v) : ∃ y, (Instr.loadAt t a).run P w = .ok y w ∧ Rep κ w.heap v y := by
  cases x with
  | ptr l off =>
    obtain ⟨b, hb, rfl⟩ := rep_ptr ra
    simp only [loadV] at e
    split at e
    · rename_i cs hcs
      obtain ⟨_, h1, xs, E, rfl, h2, h3⟩ := k.2.1.2 l b _ hb hcs
      obtain ⟨y, hy, ry⟩ := loadT_run (κ := κ) w (b := b) (off := off) (xs := xs.drop off) (fun i x hx => by
        have hx' : xs[off + i]? = some x := by simpa using hx
        refine ⟨?_, h3 x (List.mem_of_getElem? hx')⟩
        unfold hcell; rw [h1]; simpa using hx') (h2.drop off) e
      exact ⟨y, by simp [Instr.loadAt, Instr.sureAddr, hy], ry⟩
    · simp at e
  | ro cs =>
    obtain ⟨b, off, xs, hx, hr, rfl⟩ := rep_ro ra
    obtain ⟨y, hy, ry⟩ := loadT_run (κ := κ) w (b := b) (off := off) (xs := xs) (fun i x h => ⟨(hx i x h).2.1, (hx i x h).2.2⟩) hr e
    exact ⟨y, by simp [Instr.loadAt, Instr.sureAddr, hy], ry⟩
  | _ => simp [loadV] at e

theorem fieldPlace_run {b off : Nat} {f : Field} {n : Nat} (hn : szT P f.type = some (n + 1)) :
    (fieldPlace ⟨b, off, none⟩ f).run P w = .ok ⟨b, off + f.offset, none⟩ w := by
  simp [fieldPlace, szT_run w hn, Addr.add_mid]

theorem fieldAddr_run {s : TypeId} {x v : V} {f : Nat} {a : Value} (ra : Rep κ w.heap x a) (e : fieldAddrV P s x f = some v) :
    ∃ y, (Instr.fieldAt s a f).run P w = .ok y w ∧ Rep κ w.heap v y := by
  unfold fieldAddrV at e
  split at e
  · rename_i fs hu
    split at e
    · rename_i fd hf
      split at e
      · rename_i n l off hn
        simp at e; subst e
        obtain ⟨b, hb, rfl⟩ := rep_ptr ra
        exact ⟨.pointer (some ⟨b, off + fd.offset, none⟩), by simp [Instr.fieldAt, run_underlying hu, hf, Instr.sureAddr, fieldPlace_run hn], .ptr _ _ _ hb⟩
      · rename_i n cs hn
        simp at e; subst e
        obtain ⟨b, off, xs, hx, hr, rfl⟩ := rep_ro ra
        obtain ⟨h1, h2⟩ := reps_block hx hr fd.offset
        exact ⟨.pointer (some ⟨b, off + fd.offset, none⟩), by simp [Instr.fieldAt, run_underlying hu, hf, Instr.sureAddr, fieldPlace_run hn], .ro _ b _ _ h1 h2.1 h2.2⟩
      · simp at e
    · simp at e
  · simp at e

theorem field_run {s : TypeId} {x v : V} {f : Nat} {a : Value} (ra : Rep κ w.heap x a) (e : fieldV P s x f = some v) :
    ∃ y, (Instr.field s a f).run P w = .ok y w ∧ Rep κ w.heap v y := by
  unfold fieldV at e
  split at e
  · rename_i fs cs hu
    split at e
    · rename_i fd hf
      obtain ⟨xs, hr, ho, rfl⟩ := rep_agg ra
      obtain ⟨y, hy, ry⟩ := partT_run w ho hr e
      exact ⟨y, by simp [Instr.field, run_underlying hu, hf, asAgg, hy], ry⟩
    · simp at e
  · simp at e

theorem uniform_flat : ∀ {es : List V} {sz : Nat}, (∀ e ∈ es, e.cells.length = sz) → (flat es).length = es.length * sz
  | [], _, _ => by simp [flat]
  | e :: es, sz, hu => by
    have h1 := hu e (by simp)
    have h2 := uniform_flat (es := es) (sz := sz) (fun e' he => hu e' (by simp [he]))
    simp only [flat, List.flatMap_cons, List.length_append, List.length_cons] at h2 ⊢
    rw [h1, h2, Nat.succ_mul]; omega

theorem flat_get : ∀ {es : List V} {sz : Nat}, (∀ e ∈ es, e.cells.length = sz) → ∀ (i j : Nat) e, es[i]? = some e → j < sz → (flat es)[i * sz + j]? = e.cells[j]?
  | [], _, _, i, j, e, he, _ => by simp at he
  | e0 :: es, sz, hu, 0, j, e, he, hj => by
    simp at he; subst he
    have h1 := hu e0 (by simp)
    simp only [flat, List.flatMap_cons, Nat.zero_mul, Nat.zero_add]
    rw [List.getElem?_append_left (by omega)]
  | e0 :: es, sz, hu, i + 1, j, e, he, hj => by
    have h1 := hu e0 (by simp)
    have h2 := flat_get (es := es) (sz := sz) (fun e' he => hu e' (by simp [he])) i j e (by simpa using he) hj
    simp only [flat, List.flatMap_cons]
    rw [List.getElem?_append_right (by rw [h1, Nat.succ_mul]; omega), h1, show (i + 1) * sz + j - sz = i * sz + j by rw [Nat.succ_mul]; omega]
    exact h2

theorem flat_drop : ∀ {es : List V} {sz : Nat}, (∀ e ∈ es, e.cells.length = sz) → ∀ (i : Nat), (flat es).drop (i * sz) = flat (es.drop i)
  | [], _, _, i => by simp [flat]
  | e0 :: es, sz, hu, 0 => by simp
  | e0 :: es, sz, hu, i + 1 => by
    have h1 := hu e0 (by simp)
    have h2 := flat_drop (es := es) (sz := sz) (fun e' he => hu e' (by simp [he])) i
    simp only [flat, List.flatMap_cons, List.drop_succ_cons] at h2 ⊢
    rw [← h2, List.drop_append, h1, List.drop_eq_nil_of_le (by rw [h1, Nat.succ_mul]; omega), show (i + 1) * sz - sz = i * sz by rw [Nat.succ_mul]; omega]
    rfl

theorem flat_take : ∀ {es : List V} {sz : Nat}, (∀ e ∈ es, e.cells.length = sz) → ∀ (i : Nat), (flat es).take (i * sz) = flat (es.take i)
  | [], _, _, i => by simp [flat]
  | e0 :: es, sz, hu, 0 => by simp [flat]
  | e0 :: es, sz, hu, i + 1 => by
    have h1 := hu e0 (by simp)
    have h2 := flat_take (es := es) (sz := sz) (fun e' he => hu e' (by simp [he])) i
    simp only [flat, List.flatMap_cons, List.take_succ_cons] at h2 ⊢
    rw [← h2, List.take_append, h1, List.take_of_length_le (by rw [h1, Nat.succ_mul]; omega), show (i + 1) * sz - sz = i * sz by rw [Nat.succ_mul]; omega]

theorem flat_append (xs ys : List V) : flat (xs ++ ys) = flat xs ++ flat ys := by simp [flat]

/-- What a slice's value says. -/
theorem rep_sl {g : Tag} {es : List V} {x : Value} (r : Rep κ w.heap (.sl g es) x) :
    (es = [] ∧ x = .slice none 0 0 ∧ ∀ i, g ≠ .own i) ∨
    ∃ b off cap sz xs, Block κ w.heap b off xs ∧ (∀ e ∈ es, e.cells.length = sz) ∧ Reps κ w.heap (flat es) xs ∧ es.length ≤ cap ∧ TagOk κ g es.length b off cap sz ∧ x = .slice (some ⟨b, off, none⟩) es.length cap := by
  cases r with
  | slnil _ hg => exact .inl ⟨rfl, rfl, hg⟩
  | sl _ _ b off cap sz xs hx hu hl hr hc ht => exact .inr ⟨b, off, cap, sz, xs, hx, hu, ⟨hl, hr⟩, hc, ht, rfl⟩

theorem indexAddr_run {t : TypeId} {x i v : V} {a n : Value} (ra : Rep κ w.heap x a) (rn : Rep κ w.heap i n) (e : indexAddrV P t x i = some v) :
    ∃ y, (Instr.indexAt t a n).run P w = .ok y w ∧ Rep κ w.heap v y := by
  unfold indexAddrV at e
  split at e
  · rename_i et g es k i hu
    obtain rfl := rep_int rn
    split at e
    · rename_i sz hsz
      split at e
      · rename_i hi
        simp only [Option.bind_eq_some_iff] at e
        obtain ⟨el, hel, e⟩ := e
        split at e <;> simp at e
        rename_i hcl
        subst e
        have hlt := (List.getElem?_eq_some_iff.1 hel).1
        rcases rep_sl ra with ⟨rfl, _, _⟩ | ⟨b, off, cap, sz', xs, hx, hun, hr, hc, ht, rfl⟩
        · simp at hel
        · have hs' : sz' = sz + 1 := by rw [← hun el (List.mem_of_getElem? hel)]; exact hcl
          subst hs'
          obtain ⟨h1, h2⟩ := reps_block hx hr (i.toNat * (sz + 1))
          refine ⟨.pointer (some ⟨b, off + i.toNat * (sz + 1), none⟩), ?_, .ro _ b _ ((xs.drop (i.toNat * (sz + 1))).take (sz + 1)) (fun j x hj => h1 j x (getElem?_take_cells hj)) ?_ ?_⟩
          · have : 0 ≤ i ∧ i < (es.length : Int) := ⟨hi, by omega⟩
            simp [Instr.indexAt, run_underlying hu, asIntOf, this, szT_run w hsz, Addr.add_mid]
          · have : (flat es).length = es.length * (sz + 1) := uniform_flat hun
            rw [List.length_take, List.length_drop, hr.1, this, hcl]
            have : (i.toNat + 1) * (sz + 1) ≤ es.length * (sz + 1) := Nat.mul_le_mul_right _ hlt
            rw [Nat.succ_mul] at this
            omega
          · intro j c x hj hx'
            have hjl : j < sz + 1 := by rw [← hcl]; exact (List.getElem?_eq_some_iff.1 hj).1
            refine h2.2 j c x ?_ (getElem?_take_cells hx')
            rw [List.getElem?_drop, flat_get hun _ _ _ hel hjl]; exact hj
      · simp at e
    · simp at e
  · rename_i len et l off k i hu
    obtain rfl := rep_int rn
    obtain ⟨b, hb, rfl⟩ := rep_ptr ra
    split at e
    · rename_i sz hsz
      split at e <;> simp at e
      rename_i hi
      subst e
      refine ⟨.pointer (some ⟨b, off + i.toNat * sz, none⟩), ?_, .ptr _ _ _ hb⟩
      have h1 : 0 ≤ i ∧ i < (len : Int) := ⟨hi.1, hi.2.1⟩
      simp [Instr.indexAt, run_underlying hu, asIntOf, h1, szT_run w hsz, Addr.add_mid, Instr.sureAddr]
    · simp at e
  · simp at e

theorem index_run {t : TypeId} {x i v : V} {a n : Value} (ra : Rep κ w.heap x a) (rn : Rep κ w.heap i n) (e : indexV P t x i = some v) :
    ∃ y, (Instr.index t a n).run P w = .ok y w ∧ Rep κ w.heap v y := by
  unfold indexV at e
  split at e
  · rename_i s k i hu
    obtain rfl := rep_int rn
    obtain rfl := rep_str ra
    split at e
    · rename_i hi
      simp only [Option.map_eq_some_iff] at e
      obtain ⟨c, hc, rfl⟩ := e
      refine ⟨.int .u8 c.toNat, ?_, .int _ _⟩
      have hlt : i.toNat < s.length := (List.getElem?_eq_some_iff.1 hc).1
      have h2 : (ByteArray.mk ⟨s⟩)[i.toNat]? = some c := by
        rw [show (ByteArray.mk ⟨s⟩)[i.toNat]? = some ((ByteArray.mk ⟨s⟩)[i.toNat]'(by show i.toNat < s.length; exact hlt)) from getElem?_pos _ _ _]
        congr 1
        have := (List.getElem?_eq_some_iff.1 hc).2
        rw [← this]; rfl
      simp [Instr.index, run_underlying hu, asIntOf, hi, h2]
    · simp at e
  · rename_i len et cs k i hu
    obtain rfl := rep_int rn
    obtain ⟨xs, hr, ho, rfl⟩ := rep_agg ra
    split at e
    · rename_i sz hsz
      split at e
      · rename_i hi
        obtain ⟨y, hy, ry⟩ := partT_run w ho hr e
        refine ⟨y, ?_, ry⟩
        simp [Instr.index, run_underlying hu, asIntOf, hi, szT_run w hsz, hy]
      · simp at e
    · simp at e
  · simp at e

theorem extract_run {vs : List V} {i : Nat} {v : V} {a : Value} (ra : Rep κ w.heap (.tup vs) a) (e : vs[i]? = some v) :
    ∃ y, (Instr.extract a i).run P w = .ok y w ∧ Rep κ w.heap v y := by
  obtain ⟨xs, hr, rfl⟩ := rep_tup ra
  obtain ⟨y, hy, ry⟩ := hr.get e
  exact ⟨y, by simp [Instr.extract, hy], ry⟩

def boundSem (a : Option Value) (dflt top : Nat) (code : BoundsCode) : Sem Nat :=
  match a with
  | some v => Instr.sliceBound v top code
  | none => pure dflt

def OptRep (κ : Ctx) (h : Heap) (x : Option V) (a : Option Value) : Prop :=
  match x, a with
  | none, none => True
  | some x, some a => Rep κ h x a
  | _, _ => False

theorem sliceBounds_two (isSlice : Bool) (len cap : Nat) (alo ahi : Option Value) :
    Instr.sliceBounds isSlice len cap alo ahi none = (do
      let h ← boundSem ahi len cap (if isSlice then .sliceAcap else .sliceAlen)
      let l ← boundSem alo 0 h .sliceB
      pure (l, h, cap)) := by
  cases alo <;> cases ahi <;> simp [Instr.sliceBounds, boundSem]

theorem bound_run {x : Option V} {a : Option Value} {dflt top n : Nat} {code : BoundsCode} (hx : OptRep κ w.heap x a)
    (e : boundV x dflt top = some n) : (∀ top', top ≤ top' → (boundSem a dflt top' code).run P w = .ok n w) ∧ (dflt ≤ top → n ≤ top) := by
  unfold boundV at e
  split at e
  · cases a with
    | none => simp at e; subst e; exact ⟨fun _ _ => rfl, id⟩
    | some a => simp [OptRep] at hx
  · rename_i k i
    cases a with
    | none => simp [OptRep] at hx
    | some a =>
      obtain rfl := rep_int hx
      split at e <;> simp at e
      rename_i hi
      subst e
      refine ⟨fun top' ht => ?_, fun _ => by omega⟩
      have : 0 ≤ i ∧ i ≤ (top' : Int) := ⟨hi.1, by omega⟩
      simp [boundSem, Instr.sliceBound, asIntOf, this]
  · simp at e

theorem slice_run {t : TypeId} {x v : V} {lo hi : Option V} {a : Value} {alo ahi : Option Value} (ra : Rep κ w.heap x a)
    (hlo : OptRep κ w.heap lo alo) (hhi : OptRep κ w.heap hi ahi)
    (e : sliceV P t x lo hi = some v) : ∃ y, (Instr.sliceAt t a alo ahi none).run P w = .ok y w ∧ Rep κ w.heap v y := by
  unfold sliceV at e
  split at e
  · rename_i s hu
    obtain rfl := rep_str ra
    split at e
    · rename_i h hh
      split at e
      · rename_i l hl
        simp at e; subst e
        obtain ⟨h1, h1'⟩ := bound_run (P := P) (κ := κ) (w := w) (code := .sliceAlen) hhi hh
        obtain ⟨h2, h2'⟩ := bound_run (P := P) (κ := κ) (w := w) (code := .sliceB) hlo hl
        refine ⟨.string ⟨⟨(s.take h).drop l⟩⟩, ?_, .str _⟩
        have hsz : (ByteArray.mk ⟨s⟩).size = s.length := rfl
        have hb : (Instr.sliceBounds false (ByteArray.mk ⟨s⟩).size (ByteArray.mk ⟨s⟩).size alo ahi none).run P w = .ok (l, h, s.length) w := by
          rw [hsz, sliceBounds_two]
          simp [h1 _ (Nat.le_refl _), h2 _ (Nat.le_refl _)]
        have hext : (ByteArray.mk ⟨s⟩).extract l h = ⟨⟨(s.take h).drop l⟩⟩ := by
          apply ByteArray.ext
          rw [ByteArray.data_extract]
          apply Array.ext'
          simp [List.drop_take]
        simp only [Instr.sliceAt, Instr.slice, Sem.run_bind, run_underlying hu, Result.andThen_ok]
        simp [hb, hext]
      · simp at e
    · simp at e
  · rename_i et g es hu
    split at e
    · rename_i sz h hsz hh
      split at e
      · rename_i l hl
        split at e <;> simp at e
        rename_i hg
        subst e
        obtain ⟨hpos, hall⟩ := hg
        obtain ⟨h1, h1'⟩ := bound_run (P := P) (κ := κ) (w := w) (code := .sliceAcap) hhi hh
        obtain ⟨h2, h2'⟩ := bound_run (P := P) (κ := κ) (w := w) (code := .sliceB) hlo hl
        have hle : h ≤ es.length := h1' (Nat.le_refl _)
        have hle' : l ≤ h := h2' (Nat.zero_le _)
        have big : ∀ (cap : Nat), es.length ≤ cap → (Instr.sliceBounds true es.length cap alo ahi none).run P w = .ok (l, h, cap) w := by
          intro cap hcap
          rw [sliceBounds_two]
          simp [h1 cap hcap, h2 _ (Nat.le_refl _)]
        rcases rep_sl ra with ⟨rfl, rfl, hgg⟩ | ⟨b, off, cap, sz', xs, hx, hun, hr, hc, ht, rfl⟩
        · have hl0 : l = 0 := by simp at hle; omega
          have hh0 : h = 0 := by simp at hle; omega
          subst hl0; subst hh0
          have hb := big 0 (by simp)
          simp at hb
          refine ⟨.slice none 0 0, ?_, ?_⟩
          · simp only [Instr.sliceAt, Instr.slice, Sem.run_bind, run_underlying hu, Result.andThen_ok]
            simp [hb, szT_run w hsz]
          · simp only [List.take_nil, List.drop_nil]
            exact .slnil _ (fun i => by
              cases g with
              | ro => simp [sliceTag]
              | full => simp only [sliceTag]; split <;> simp
              | own j => exact absurd rfl (hgg j))
        · have hb := big cap hc
          have hun2 : es ≠ [] → sz' = sz := fun hne => by
            obtain ⟨e0, he0⟩ := List.exists_mem_of_ne_nil es hne
            rw [← hun e0 he0]
            have := List.all_eq_true.1 hall e0 he0
            simpa using this
          have hun' : ∀ e ∈ (es.take h).drop l, e.cells.length = sz := fun e he => by
            have hm : e ∈ es := List.mem_of_mem_take (List.mem_of_mem_drop he)
            have := List.all_eq_true.1 hall e hm
            simpa using this
          refine ⟨.slice (if cap = l then some ⟨b, off, none⟩ else some ⟨b, off + l * sz, none⟩) (h - l) (cap - l), ?_, ?_⟩
          · simp only [Instr.sliceAt, Instr.slice, Sem.run_bind, run_underlying hu, Result.andThen_ok]
            simp only [hb, Result.andThen_ok, szT_run w hsz, Sem.run_bind, Sem.run_pure, Option.map_some, Addr.add_mid]
          · have hlen : ((es.take h).drop l).length = h - l := by simp; omega
            rw [show h - l = ((es.take h).drop l).length by omega]
            by_cases hcl : cap = l
            · have he0 : (es.take h).drop l = [] := List.eq_nil_of_length_eq_zero (by omega)
              rw [if_pos hcl, he0]
              refine .sl _ [] b off _ sz' [] (fun i x hx => by simp at hx) (by simp) (by simp [flat]) (by simp) (by simp) ?_
              have hcap0 : cap - l = 0 := by omega
              cases g with
              | ro => trivial
              | full => simp only [sliceTag]; split <;> simp [TagOk, hcap0]
              | own j =>
                simp only [sliceTag]
                split
                · trivial
                · rename_i hcond
                  simp at hcond
                  obtain ⟨hhn, hl0⟩ := hcond
                  obtain ⟨L, h3, h4, h5⟩ := ht
                  have hc0 : cap = 0 := by omega
                  have he : es.length = 0 := by omega
                  refine ⟨L, h3, by simp, fun hn => ?_⟩
                  obtain ⟨h6, h7, h8, h9⟩ := h5 (by simp at hn; omega)
                  exact ⟨h6, h7, by omega, h9⟩
            · rw [if_neg hcl]
              by_cases hne : es = []
              · subst hne
                have he0 : (([] : List V).take h).drop l = [] := by simp
                rw [he0]
                refine .sl _ [] b _ _ sz' [] (fun i x hx => by simp at hx) (by simp) (by simp [flat]) (by simp) (by simp) ?_
                cases g with
                | ro => trivial
                | full => simp [TagOk] at ht; omega
                | own j =>
                  simp only [sliceTag]
                  split
                  · trivial
                  · rename_i hcond
                    simp at hcond
                    obtain ⟨hhn, hl0⟩ := hcond
                    subst hl0
                    simpa using ht
              · obtain rfl := hun2 hne
                obtain ⟨h3, h4⟩ := reps_block hx hr (l * sz')
                rw [flat_drop hun] at h4
                have h5 : Reps κ w.heap (flat ((es.take h).drop l)) ((xs.drop (l * sz')).take ((h - l) * sz')) := by
                  have := h4.take ((h - l) * sz')
                  rwa [flat_take (fun e he => hun e (List.mem_of_mem_drop he)), ← List.drop_take] at this
                refine .sl _ _ b _ _ sz' _ (fun j x hj => h3 j x (getElem?_take_cells hj)) hun' h5.1 h5.2 (by omega) ?_
                cases g with
                | ro => trivial
                | full =>
                  simp only [sliceTag]
                  split
                  · trivial
                  · rename_i hcond
                    cases hi with
                    | some _ => simp at hcond
                    | none =>
                      simp [boundV] at hh
                      simp only [TagOk] at ht ⊢
                      omega
                | own j =>
                  simp only [sliceTag]
                  split
                  · trivial
                  · rename_i hcond
                    simp at hcond
                    obtain ⟨hhn, hl0⟩ := hcond
                    subst hl0
                    cases hi with
                    | some _ => simp at hhn
                    | none =>
                      simp [boundV] at hh
                      subst hh
                      simpa using ht
      · simp at e
    · simp at e
  · simp at e

end
end Go.Fbs

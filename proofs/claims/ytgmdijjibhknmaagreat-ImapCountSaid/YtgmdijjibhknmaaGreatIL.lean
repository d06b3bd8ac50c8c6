/- stat.Normal: what holds while it builds its rows. -/
import Derived.Test.YtgmdijjibhknmaaGreatIK
set_option linter.unusedVariables false
set_option linter.unusedSimpArgs false
set_option maxRecDepth 100000
namespace Go.Fbs
open Go.Proofs Go.RowKit Go.Maps
variable {w w' wr w0 w2 X : World} {base C : Nat} {v x y z : Value} {zs us ls rs : List B8} {done rows : List SM} {ad : Option Addr} {cp : Nat}
theorem set_here {b : Nat} {c : Array Value} {E : TypeId} (o : Nat) (v : Value) (h : w.heap[b]? = some (.cells c E (0, 0))) : (w.setCell ⟨b, o, none⟩ v).heap[b]? = some (.cells (c.setIfInBounds o v) E (0, 0)) := by
  unfold World.setCell
  simp [h, Array.getElem?_modify]
theorem set_else {b b' : Nat} (o : Nat) (v : Value) (h : b' ≠ b) : (w.setCell ⟨b, o, none⟩ v).heap[b']? = w.heap[b']? := by
  unfold World.setCell
  simp [Array.getElem?_modify, Ne.symm h]
theorem set_size {b : Nat} (o : Nat) (v : Value) : (w.setCell ⟨b, o, none⟩ v).heap.size = w.heap.size := by simp [World.setCell]
def flatS (rows : List SM) : List Value := rows.flatMap SM.cells
theorem flatS_len (rows : List SM) : (flatS rows).length = rows.length * 6 := by
  induction rows with
  | nil => rfl
  | cons s rows ih =>
    show (s.cells ++ flatS rows).length = _
    rw [List.length_append, ih, List.length_cons]
    show 6 + _ = _
    omega
theorem flatS_snoc (rows : List SM) (s : SM) : flatS (rows ++ [s]) = flatS rows ++ s.cells := by
  unfold flatS
  rw [List.flatMap_append]
  simp
theorem flatS_at : ∀ {rows : List SM} {i j : Nat} {s : SM}, rows[i]? = some s → j < 6 → (flatS rows)[i * 6 + j]? = s.cells[j]?
  | [], i, j, s, h, _ => by simp at h
  | r :: rows, 0, j, s, h, hj => by
    obtain rfl : r = s := by simpa using h
    show (r.cells ++ flatS rows)[0 * 6 + j]? = _
    rw [Nat.zero_mul, Nat.zero_add, List.getElem?_append_left (show j < r.cells.length from hj)]
  | r :: rows, i + 1, j, s, h, hj => by
    show (r.cells ++ flatS rows)[(i + 1) * 6 + j]? = _
    have h6 : r.cells.length = 6 := rfl
    rw [List.getElem?_append_right (by omega)]
    have e : (i + 1) * 6 + j - r.cells.length = i * 6 + j := by omega
    rw [e]
    exact flatS_at (by simpa using h) hj
def StOwn (base : Nat) (w : World) (v : Value) (rows : List SM) : Prop := w.ownsRow base 31 6 v rows.length (flatS rows)
theorem StOwn.at (h : StOwn base w (.slice ad rows.length cp) rows) : StAt w ad rows := by
  by_cases h0 : rows = []
  · subst h0
    exact ⟨0, 0, fun e => absurd rfl e, fun i s hi => by simp at hi⟩
  · obtain ⟨g, cp', e, _⟩ := own_some h (by have := List.length_pos_iff.2 h0; omega)
    cases e
    refine ⟨g, 0, fun _ => rfl, fun i s hi j u hj => ?_⟩
    have h6 : j < 6 := (List.getElem?_eq_some_iff.1 hj).1
    have hlt := (List.getElem?_eq_some_iff.1 hi).1
    rw [Nat.zero_add, World.ownsRow.cellAt h (i * 6 + j) (by omega), flatS_at hi h6]
    exact hj
theorem own_keep {e : TypeId} {size n : Nat} {xs : List Value} (h : w.ownsRow base e size v n xs) (hs : ∀ (k : Nat) (cur : Array Value), w.heap[k]? = some (Obj.cells cur e (0, 0)) → w'.heap[k]? = w.heap[k]?) : w'.ownsRow base e size v n xs := by
  obtain ⟨h1, h2⟩ := h
  refine ⟨h1, ?_⟩
  rcases h2 with h2 | ⟨g, cap, cur, hv, hg, hh, hr⟩
  · exact .inl h2
  · exact .inr ⟨g, cap, cur, hv, hg, (hs g cur hh).trans hh, hr⟩
theorem own_low {base' : Nat} {e : TypeId} {size n : Nat} {xs : List Value} (h : w.ownsRow base e size v n xs) (hb : base' ≤ base) : w.ownsRow base' e size v n xs := by
  obtain ⟨h1, h2⟩ := h
  refine ⟨h1, ?_⟩
  rcases h2 with h2 | ⟨g, cap, cur, hv, hg, hh, hr⟩
  · exact .inl h2
  · exact .inr ⟨g, cap, cur, hv, by omega, hh, hr⟩
theorem own_type {e : TypeId} {size n : Nat} {xs : List Value} (h : w.ownsRow base e size v n xs) {q : Nat} (hq : v.ownBlock = some q) : base ≤ q ∧ ∃ cur, w.heap[q]? = some (Obj.cells cur e (0, 0)) := by
  rcases h.2 with ⟨rfl, _⟩ | ⟨g, cap, cur, rfl, hb, hg, _⟩
  · cases hq
  · cases hq; exact ⟨hb, cur, hg⟩
theorem TxOwn.bel (h : TxOwn base w v zs) (hb : Bel w.heap.size w w') : TxOwn base w' v zs := h.keep hb.block
theorem TxOwn.low {base' : Nat} (h : TxOwn base w v zs) (hb : base' ≤ base) : TxOwn base' w v zs := own_low h hb
/-- A statement's four rows, of one's own. -/
structure Ok4 (base : Nat) (w : World) (s : SM) : Prop where
  u : TxOwn base w s.u [[117]]
  g : TxOwn base w s.g []
  a : TxOwn base w s.a [[42]]
  r : TxOwn base w s.r [[42]]
theorem Ok4.step {s : SM} (h : Ok4 base w s) (hs : ∀ (k : Nat) (cur : Array Value), w.heap[k]? = some (Obj.cells cur 9 (0, 0)) → w'.heap[k]? = w.heap[k]?) : Ok4 base w' s := ⟨own_keep h.u hs, own_keep h.g hs, own_keep h.a hs, own_keep h.r hs⟩
theorem Ok4.bel {s : SM} (h : Ok4 base w s) (hb : Bel w.heap.size w w') : Ok4 base w' s := h.step fun k _ hk => hb.block k (Array.getElem?_eq_some_iff.1 hk).1
/-- What holds while Normal's rows are built: its policy lies in block C. -/
structure NS (base C : Nat) (w0 wr : World) (x y z : Value) (us ls rs : List B8) (ad : Option Addr) (cp : Nat) (done : List SM) : Prop where
  bel : Bel C w0 wr
  blk : wr.heap[C]? = some (.cells #[x, y, z, .slice none 0 0, .slice ad done.length cp, .slice none 0 0] 27 (0, 0))
  own : StOwn (C + 1) wr (.slice ad done.length cp) done
  ok : ∀ s ∈ done, Ok4 base wr s
  u : TxOwn base wr x us
  a : TxOwn base wr y ls
  r : TxOwn base wr z rs
theorem NS.lt (h : NS base C w0 wr x y z us ls rs ad cp done) : C < wr.heap.size := (Array.getElem?_eq_some_iff.1 h.blk).1
theorem NS.step (h : NS base C w0 wr x y z us ls rs ad cp done) (hb : Bel wr.heap.size wr w') : NS base C w0 w' x y z us ls rs ad cp done :=
  ⟨h.bel.trans (hb.mono (Nat.le_of_lt h.lt)), (hb.block C h.lt).trans h.blk, own_keep h.own fun k _ hk => hb.block k (Array.getElem?_eq_some_iff.1 hk).1, fun s hs => (h.ok s hs).bel hb, h.u.bel hb, h.a.bel hb, h.r.bel hb⟩
theorem NS.same (h : NS base C w0 wr x y z us ls rs ad cp done) (hos : w'.os = wr.os) (hout : w'.output = wr.output) (hsz : wr.heap.size ≤ w'.heap.size) (hb : w'.heap[C]? = wr.heap[C]?) (ho : ∀ k, k < wr.heap.size → k ≠ C → w'.heap[k]? = wr.heap[k]?) : NS base C w0 w' x y z us ls rs ad cp done :=
  h.step ⟨hos, hout, hsz, fun k hk => by
    by_cases e : k = C
    · rw [e]; exact hb
    · exact ho k hk e⟩
/-- A statement more. -/
theorem NS.push {g cp' : Nat} {o : Obj} {s : SM} (h : NS base C w0 X x y z us ls rs ad cp done) (hs : Ok4 base X s) (hg : (X.alloc o).grownBy w2 (Value.slice ad done.length cp).ownBlock)
    (hown : w2.ownsRow (C + 1) 31 6 (.slice (some ⟨g, 0, none⟩) (done.length + 1) cp') (done.length + 1) (flatS done ++ s.cells)) :
    NS base C w0 (w2.setCell ⟨C, 4, none⟩ (.slice (some ⟨g, 0, none⟩) (done.length + 1) cp')) x y z us ls rs (some ⟨g, 0, none⟩) cp' (done ++ [s]) := by
  have h2 := h.step (bel_alloc X o)
  have s2 := hs.bel (bel_alloc X o)
  have hrow : ∀ q, (Value.slice ad done.length cp).ownBlock = some q → C + 1 ≤ q ∧ ∃ cur, (X.alloc o).heap[q]? = some (Obj.cells cur 31 (0, 0)) := fun q hq => own_type h2.own hq
  have hC : w2.heap[C]? = (X.alloc o).heap[C]? := hg.block C h2.lt fun e => by have := (hrow C e.symm).1; omega
  have hk9 : ∀ (k : Nat) (cur : Array Value), (X.alloc o).heap[k]? = some (Obj.cells cur 9 (0, 0)) → (w2.setCell ⟨C, 4, none⟩ (.slice (some ⟨g, 0, none⟩) (done.length + 1) cp')).heap[k]? = (X.alloc o).heap[k]? := fun k cur hk => by
    rw [set_else _ _ (fun e => by rw [e, h2.blk] at hk; cases hk)]
    refine hg.block k (Array.getElem?_eq_some_iff.1 hk).1 fun e => ?_
    obtain ⟨_, cur2, h3⟩ := hrow k e.symm
    rw [hk] at h3
    cases h3
  have hl : (done ++ [s]).length = done.length + 1 := by simp
  refine ⟨⟨?_, ?_, ?_, fun k hk => ?_⟩, ?_, ?_, fun s' hs' => ?_, own_keep h2.u hk9, own_keep h2.a hk9, own_keep h2.r hk9⟩
  · exact hg.os.trans h2.bel.os
  · exact hg.output.trans h2.bel.output
  · rw [set_size]; exact Nat.le_trans h2.bel.size hg.size
  · rw [set_else _ _ (by omega)]
    exact (hg.block k (by have := h2.lt; omega) fun e => by have := (hrow k e.symm).1; omega).trans (h2.bel.block k hk)
  · rw [set_here 4 _ (hC.trans h2.blk), hl]
    rfl
  · unfold StOwn
    rw [hl, flatS_snoc]
    exact own_keep hown fun k cur hk => set_else _ _ fun e => by rw [e, hC, h2.blk] at hk; cases hk
  · rcases List.mem_append.1 hs' with hs' | hs'
    · exact (h2.ok s' hs').step hk9
    · obtain rfl := List.mem_singleton.1 hs'
      exact s2.step hk9
theorem Rise.of {a b : List SM} (h : Rise a) (e : b.map SM.sid = a.map SM.sid) : Rise b := by
  have hg : ∀ (i : Nat) (s : SM), b[i]? = some s → ∃ t : SM, a[i]? = some t ∧ t.sid = s.sid := fun i s hi => by
    have h1 : (b.map SM.sid)[i]? = some s.sid := by rw [List.getElem?_map, hi]; rfl
    rw [e, List.getElem?_map] at h1
    cases ha : a[i]? with
    | none => rw [ha] at h1; cases h1
    | some t => rw [ha] at h1; exact ⟨t, rfl, by simpa using h1⟩
  intro i p q hp hq
  obtain ⟨p', h1, e1⟩ := hg i p hp
  obtain ⟨q', h2, e2⟩ := hg _ q hq
  rw [← e1, ← e2]
  exact h i p' q' h1 h2
end Go.Fbs

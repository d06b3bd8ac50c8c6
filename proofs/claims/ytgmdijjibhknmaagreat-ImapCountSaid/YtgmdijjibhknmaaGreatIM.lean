/- stat.Normal, walked. -/
import Derived.Test.YtgmdijjibhknmaaGreatIKB
import Derived.Test.YtgmdijjibhknmaaGreatIL
import Derived.Test.YtgmdijjibhknmaaGreatIP
import Derived.Deep.DeepCutAuto
import Derived.Test.YtgmdijjibhknmaaGreatIQ
set_option linter.unusedVariables false
set_option linter.unusedSimpArgs false
set_option maxRecDepth 100000
namespace Go.Fbs
open Go.Proofs Go.RowKit Go.Maps
variable {w w' wr : World}
theorem Tryz.info31 : (Tryz.prog.info? 31).map (fun i => (i.zero, i.size, i.bytes)) = some (some (.agg #[.string ⟨#[]⟩, .bool false, .slice none 0 0, .slice none 0 0, .slice none 0 0, .slice none 0 0]), 6, 120) := by kernel_rfl
theorem bel_of_drew {a b : World} (h : Bel a.drew.heap.size a.drew b) : Bel a.heap.size a b := ⟨h.os, h.output, h.size, h.block⟩
/-- All that lay there lies as it was. -/
def Sc (X w : World) : Prop := Bel X.heap.size X w
theorem Sc.refl {X : World} : Sc X X := Bel.refl _ _
theorem Sc.alloc {X W : World} {o : Obj} (h : Sc X W) : Sc X (W.alloc o) := Bel.trans h ((bel_alloc W o).mono h.size)
theorem Sc.drew {X W : World} (h : Sc X W) : Sc X W.drew := ⟨h.os, h.output, h.size, h.block⟩
theorem Sc.call {X W w1 : World} (k : Bel W.heap.size W w1) (h : Sc X W) : Sc X w1 := Bel.trans h (k.mono h.size)
theorem Sc.set {X W : World} {b o : Nat} {v : Value} (hb : X.heap.size ≤ b) (h : Sc X W) : Sc X (W.setCell ⟨b, o, none⟩ v) :=
  ⟨h.os, h.output, by rw [set_size]; exact h.size, fun k hk => (set_else o v (by omega)).trans (h.block k hk)⟩
theorem Sc.size {X W : World} (h : Sc X W) : X.heap.size ≤ W.heap.size := Bel.size h
theorem newC {W w1 : World} {n : Nat} (hk : Bel W.heap.size W w1) (h : W.heap[n]? = some (.cells #[.slice none 0 0, .slice none 0 0, .slice none 0 0, .slice none 0 0, .slice none 0 0, .slice none 0 0] 27 (0, 0))) :
    w1.heap[n]? = some (.cells #[.slice none 0 0, .slice none 0 0, .slice none 0 0, .slice none 0 0, .slice none 0 0, .slice none 0 0] 27 (0, 0)) ∧ w1.cell? ⟨n, 0, none⟩ = some (.slice none 0 0) ∧ w1.cell? ⟨n, 1, none⟩ = some (.slice none 0 0) ∧ w1.cell? ⟨n, 2, none⟩ = some (.slice none 0 0) ∧ w1.cell? ⟨n, 3, none⟩ = some (.slice none 0 0) ∧ w1.cell? ⟨n, 4, none⟩ = some (.slice none 0 0) ∧ w1.cell? ⟨n, 5, none⟩ = some (.slice none 0 0) ∧ w1.frozen? ⟨n, 0, none⟩ = false ∧ w1.frozen? ⟨n, 1, none⟩ = false ∧ w1.frozen? ⟨n, 2, none⟩ = false ∧ w1.frozen? ⟨n, 3, none⟩ = false ∧ w1.frozen? ⟨n, 4, none⟩ = false ∧ w1.frozen? ⟨n, 5, none⟩ = false := by
  have h2 := (hk.block n (Array.getElem?_eq_some_iff.1 h).1).trans h
  exact ⟨h2, by rw [Lib.cell_of_heap h2]; rfl, by rw [Lib.cell_of_heap h2]; rfl, by rw [Lib.cell_of_heap h2]; rfl, by rw [Lib.cell_of_heap h2]; rfl, by rw [Lib.cell_of_heap h2]; rfl, by rw [Lib.cell_of_heap h2]; rfl, (by unfold World.frozen?; rw [h2]; rfl), (by unfold World.frozen?; rw [h2]; rfl), (by unfold World.frozen?; rw [h2]; rfl), (by unfold World.frozen?; rw [h2]; rfl), (by unfold World.frozen?; rw [h2]; rfl), (by unfold World.frozen?; rw [h2]; rfl)⟩
/-- Below block C all is as it was, and block H holds what it held. -/
def Sh (C H : Nat) (oH : Obj) (Y w : World) : Prop := Bel C Y w ∧ C < w.heap.size ∧ w.heap[H]? = some oH
theorem Sh.alloc {C H : Nat} {oH o : Obj} {Y W : World} (h : Sh C H oH Y W) : Sh C H oH Y (W.alloc o) :=
  ⟨h.1.trans ((bel_alloc W o).mono (Nat.le_of_lt h.2.1)), Nat.lt_of_lt_of_le h.2.1 (bel_alloc W o).size, ((bel_alloc W o).block H (Array.getElem?_eq_some_iff.1 h.2.2).1).trans h.2.2⟩
theorem Sh.drew {C H : Nat} {oH : Obj} {Y W : World} (h : Sh C H oH Y W) : Sh C H oH Y W.drew := ⟨⟨h.1.os, h.1.output, h.1.size, h.1.block⟩, h.2.1, h.2.2⟩
theorem Sh.call {C H : Nat} {oH : Obj} {Y W w1 : World} (k : Bel W.heap.size W w1) (h : Sh C H oH Y W) : Sh C H oH Y w1 :=
  ⟨h.1.trans (k.mono (Nat.le_of_lt h.2.1)), Nat.lt_of_lt_of_le h.2.1 k.size, (k.block H (Array.getElem?_eq_some_iff.1 h.2.2).1).trans h.2.2⟩
theorem Sh.set {C H o : Nat} {oH : Obj} {Y W : World} {v : Value} (hne : H ≠ C) (h : Sh C H oH Y W) : Sh C H oH Y (W.setCell ⟨C, o, none⟩ v) :=
  ⟨⟨h.1.os, h.1.output, by rw [set_size]; exact h.1.size, fun k hk => (set_else o v (by omega)).trans (h.1.block k hk)⟩, by rw [set_size]; exact h.2.1, (set_else o v hne).trans h.2.2⟩
theorem Sh.grow {C H : Nat} {oH : Obj} {Y W w1 : World} {row : Option Nat} (g : W.grownBy w1 row) (hr : ∀ q, row = some q → C < q ∧ q < H) (h : Sh C H oH Y W) : Sh C H oH Y w1 :=
  ⟨h.1.trans ⟨g.os, g.output, g.size, fun k hk => g.block k (Nat.lt_trans hk h.2.1) fun e => by have := (hr k e.symm).1; omega⟩, Nat.lt_of_lt_of_le h.2.1 g.size, (g.block H (Array.getElem?_eq_some_iff.1 h.2.2).1 fun e => by have := (hr H e.symm).2; omega).trans h.2.2⟩
theorem keepH {C H : Nat} {Y w' : World} {a b c d e f : Value} (h : Sh C H (.cells #[a, b, c, d, e, f] 31 (0, 0)) Y w') :
    w'.cell? ⟨H, 0, none⟩ = some a ∧ w'.cell? ⟨H, 1, none⟩ = some b ∧ w'.cell? ⟨H, 2, none⟩ = some c ∧ w'.cell? ⟨H, 3, none⟩ = some d ∧ w'.cell? ⟨H, 4, none⟩ = some e ∧ w'.cell? ⟨H, 5, none⟩ = some f ∧ Sh C H (.cells #[a, b, c, d, e, f] 31 (0, 0)) Y w' :=
  ⟨by rw [Lib.cell_of_heap h.2.2]; rfl, by rw [Lib.cell_of_heap h.2.2]; rfl, by rw [Lib.cell_of_heap h.2.2]; rfl, by rw [Lib.cell_of_heap h.2.2]; rfl, by rw [Lib.cell_of_heap h.2.2]; rfl, by rw [Lib.cell_of_heap h.2.2]; rfl, h⟩
theorem NS.cell4 {base C cp : Nat} {w0 wr : World} {x y z : Value} {us ls rs : List B8} {ad : Option Addr} {done : List SM} (h : NS base C w0 wr x y z us ls rs ad cp done) : wr.cell? ⟨C, 4, none⟩ = some (.slice ad done.length cp) := by
  rw [Lib.cell_of_heap h.blk]; rfl
theorem NS.putX {base C cp : Nat} {w0 wr : World} {x y z v : Value} {us ls rs : List B8} {ad : Option Addr} {done : List SM} {o : Nat} (h : NS base C w0 wr x y z us ls rs ad cp done)
    (hv : (#[x, y, z, .slice none 0 0, .slice ad done.length cp, .slice none 0 0] : Array Value).setIfInBounds o v = #[x, y, z, .slice none 0 0, .slice ad done.length cp, .slice none 0 0]) : NS base C w0 (wr.setCell ⟨C, o, none⟩ v) x y z us ls rs ad cp done :=
  h.same rfl rfl (by rw [set_size]; exact Nat.le_refl _) (by rw [set_here o v h.blk, hv]; exact h.blk.symm) fun k _ hk => set_else o v hk
theorem NS.put3 {base C cp : Nat} {w0 wr : World} {x y z : Value} {us ls rs : List B8} {ad : Option Addr} {done : List SM} (h : NS base C w0 wr x y z us ls rs ad cp done) : NS base C w0 (wr.setCell ⟨C, 3, none⟩ (.slice none 0 0)) x y z us ls rs ad cp done := h.putX rfl
theorem NS.put4 {base C cp : Nat} {w0 wr : World} {x y z : Value} {us ls rs : List B8} {ad : Option Addr} {done : List SM} (h : NS base C w0 wr x y z us ls rs ad cp done) : NS base C w0 (wr.setCell ⟨C, 4, none⟩ (.slice ad done.length cp)) x y z us ls rs ad cp done := h.putX rfl
theorem NS.put5 {base C cp : Nat} {w0 wr : World} {x y z : Value} {us ls rs : List B8} {ad : Option Addr} {done : List SM} (h : NS base C w0 wr x y z us ls rs ad cp done) : NS base C w0 (wr.setCell ⟨C, 5, none⟩ (.slice none 0 0)) x y z us ls rs ad cp done := h.putX rfl
theorem size27 : (Tryz.prog.info? 27).map (·.size) = some 6 := by kernel_rfl
theorem set_grown {W : World} (b o : Nat) (v : Value) : W.grownBy (W.setCell ⟨b, o, none⟩ v) (some b) := ⟨rfl, rfl, rfl, by rw [set_size]; exact Nat.le_refl _, fun k _ hk => set_else o v fun e => hk (by rw [e])⟩
theorem put6 {W : World} {b : Nat} (x y z p q r : Value) (h : W.heap[b]? = some (.cells #[.slice none 0 0, .slice none 0 0, .slice none 0 0, .slice none 0 0, .slice none 0 0, .slice none 0 0] 27 (0, 0))) :
    ((((((W.setCell ⟨b, 0, none⟩ x).setCell ⟨b, 1, none⟩ y).setCell ⟨b, 2, none⟩ z).setCell ⟨b, 3, none⟩ p).setCell ⟨b, 4, none⟩ q).setCell ⟨b, 5, none⟩ r).heap[b]? = some (.cells #[x, y, z, p, q, r] 27 (0, 0)) ∧ W.grownBy ((((((W.setCell ⟨b, 0, none⟩ x).setCell ⟨b, 1, none⟩ y).setCell ⟨b, 2, none⟩ z).setCell ⟨b, 3, none⟩ p).setCell ⟨b, 4, none⟩ q).setCell ⟨b, 5, none⟩ r) (some b) := by
  refine ⟨?_, ((((((set_grown b 0 x).trans (set_grown b 1 y)).trans (set_grown b 2 z)).trans (set_grown b 3 p)).trans (set_grown b 4 q)).trans (set_grown b 5 r))⟩
  exact (set_here 5 _ (set_here 4 _ (set_here 3 _ (set_here 2 _ (set_here 1 _ (set_here 0 _ h))))))
theorem st_news (W : World) (s : SM) : ∀ j u, s.cells[j]? = some u → (W.alloc (.cells #[.string ⟨⟨s.sid⟩⟩, .bool false, s.u, s.g, s.a, s.r] 31)).cell? ((⟨W.heap.size, 0, none⟩ : Addr).add j) = some u :=
  World.news_of_block (cs := #[.string ⟨⟨s.sid⟩⟩, .bool false, s.u, s.g, s.a, s.r]) (heap_alloc_new W _)
theorem TxAt.form {w : World} {v : Value} {zs : List B8} {n : Nat} (h : TxAt w v zs) (hn : zs.length = n) : ∃ a c, v = .slice a n c := by
  subst hn
  rcases h with ⟨c, rfl, rfl⟩ | ⟨b, off, c, rfl, _⟩
  · exact ⟨_, _, rfl⟩
  · exact ⟨_, _, rfl⟩
theorem TxOwn.alloc1 {W : World} {o : Obj} {base : Nat} {v : Value} {zs : List B8} (h : TxOwn base W v zs) : TxOwn base (W.alloc o) v zs := h.bel (bel_alloc W o)
theorem TxOwn.drew1 {W : World} {base : Nat} {v : Value} {zs : List B8} (h : TxOwn base W v zs) : TxOwn base W.drew v zs := h.keep fun _ _ => rfl
theorem TxOwn.call1 {W w1 : World} {base : Nat} {v : Value} {zs : List B8} (k : Bel W.heap.size W w1) (h : TxOwn base W v zs) : TxOwn base w1 v zs := h.bel k
theorem ns_new {W : World} {base : Nat} {x y z : Value} {us ls rs : List B8} (hx : TxOwn base W x us) (hy : TxOwn base W y ls) (hz : TxOwn base W z rs) :
    NS base W.heap.size (W.alloc (.cells #[x, y, z, .slice none 0 0, .slice none 0 0, .slice none 0 0] 27)) (W.alloc (.cells #[x, y, z, .slice none 0 0, .slice none 0 0, .slice none 0 0] 27)) x y z us ls rs none 0 [] :=
  ⟨Bel.refl _ _, heap_alloc_new _ _, World.ownsRow_nil _ _ _ _, fun s hs => (by cases hs), hx.alloc1, hy.alloc1, hz.alloc1⟩
theorem ns_set {W : World} {base C : Nat} {x y z : Value} {us ls rs : List B8} (hC : W.heap[C]? = some (.cells #[.slice none 0 0, .slice none 0 0, .slice none 0 0, .slice none 0 0, .slice none 0 0, .slice none 0 0] 27 (0, 0))) (hx : TxOwn base W x us) (hy : TxOwn base W y ls) (hz : TxOwn base W z rs) :
    NS base C ((((((W.setCell ⟨C, 0, none⟩ x).setCell ⟨C, 1, none⟩ y).setCell ⟨C, 2, none⟩ z).setCell ⟨C, 3, none⟩ (.slice none 0 0)).setCell ⟨C, 4, none⟩ (.slice none 0 0)).setCell ⟨C, 5, none⟩ (.slice none 0 0)) ((((((W.setCell ⟨C, 0, none⟩ x).setCell ⟨C, 1, none⟩ y).setCell ⟨C, 2, none⟩ z).setCell ⟨C, 3, none⟩ (.slice none 0 0)).setCell ⟨C, 4, none⟩ (.slice none 0 0)).setCell ⟨C, 5, none⟩ (.slice none 0 0)) x y z us ls rs none 0 [] := by
  have hk : ∀ (k : Nat) (cur : Array Value), W.heap[k]? = some (Obj.cells cur 9 (0, 0)) → ((((((W.setCell ⟨C, 0, none⟩ x).setCell ⟨C, 1, none⟩ y).setCell ⟨C, 2, none⟩ z).setCell ⟨C, 3, none⟩ (.slice none 0 0)).setCell ⟨C, 4, none⟩ (.slice none 0 0)).setCell ⟨C, 5, none⟩ (.slice none 0 0)).heap[k]? = W.heap[k]? := fun k cur hk => by
    have hne : k ≠ C := fun e => by rw [e, hC] at hk; cases hk
    rw [set_else _ _ hne, set_else _ _ hne, set_else _ _ hne, set_else _ _ hne, set_else _ _ hne, set_else _ _ hne]
  exact ⟨Bel.refl _ _, (set_here 5 _ (set_here 4 _ (set_here 3 _ (set_here 2 _ (set_here 1 _ (set_here 0 _ hC)))))), World.ownsRow_nil _ _ _ _, fun s hs => (by cases hs), own_keep hx hk, own_keep hy hk, own_keep hz hk⟩
theorem one_cells {base : Nat} {W : World} {s : SM} (h : Ok4 base W s) : ∀ u ∈ s.cells, u.oneCell' = true := by
  obtain ⟨sid, u, g, a, r⟩ := s
  obtain ⟨_, _, e1⟩ := h.u.at.form (n := 1) rfl
  obtain ⟨_, _, e2⟩ := h.g.at.form (n := 0) rfl
  obtain ⟨_, _, e3⟩ := h.a.at.form (n := 1) rfl
  obtain ⟨_, _, e4⟩ := h.r.at.form (n := 1) rfl
  dsimp only at e1 e2 e3 e4
  subst e1 e2 e3 e4
  intro u hu
  simp only [SM.cells, List.mem_cons, List.not_mem_nil, or_false] at hu
  rcases hu with rfl | rfl | rfl | rfl | rfl | rfl <;> rfl
theorem shut {p : Prop} (h : p) : Shut p := h
theorem sid_end {done rows : List SM} {s : SM} {s1 : B8} (h : ∀ u g a r : Value, (done ++ [(⟨s1, u, g, a, r⟩ : SM)]).map SM.sid = (rows.take (done.length + 1)).map SM.sid) (hs : Shut (s.sid = s1)) : (done ++ [s]).map SM.sid = (rows.take (done.length + 1)).map SM.sid := by
  have h2 := hs.out
  obtain ⟨sid, u, g, a, r⟩ := s
  cases h2
  exact h u g a r
/-- The first half: three lists, each text once. -/
structure NR (w w' : World) (x y z : Value) (us ls rs : List B8) (ad : Option Addr) (cp : Nat) (done rows : List SM) : Prop where
  bel : Bel w.heap.size w w'
  u : TxOwn w.heap.size w' x (onceM us)
  a : TxOwn w.heap.size w' y (onceM ls)
  r : TxOwn w.heap.size w' z (onceM rs)
  st : StOwn w.heap.size w' (.slice ad done.length cp) done
  sids : done.map SM.sid = rows.map SM.sid
  ok : ∀ s ∈ done, Ok4 w.heap.size w' s
theorem keepN {X w' : World} {B : Nat} {a b c d e f : Value} (h : X.heap[B]? = some (.cells #[a, b, c, d, e, f] 27 (0, 0))) (hs : Sc X w') :
    w'.cell? ⟨B, 0, none⟩ = some a ∧ w'.cell? ⟨B, 1, none⟩ = some b ∧ w'.cell? ⟨B, 2, none⟩ = some c ∧ Sc X w' := by
  have h2 : w'.heap[B]? = some (.cells #[a, b, c, d, e, f] 27 (0, 0)) := (hs.block B (Array.getElem?_eq_some_iff.1 h).1).trans h
  exact ⟨by rw [Lib.cell_of_heap h2]; rfl, by rw [Lib.cell_of_heap h2]; rfl, by rw [Lib.cell_of_heap h2]; rfl, hs⟩
set_option maxHeartbeats 12800000 in
theorem normal_walk {vu va vr : Value} {us ls rs : List B8} {ag ar ab : Option Addr} {cg cr cb : Nat} {rows : List SM} (hu : TxAt w vu us) (ha : TxAt w va ls) (hr : TxAt w vr rs) (hst : StAt w ar rows) (hR : Rise rows) (hn : rows.length ≤ 19)
    (h4 : ∀ s ∈ rows, TxAt w s.u [[117]] ∧ TxAt w s.g [] ∧ TxAt w s.a [[42]] ∧ TxAt w s.r [[42]]) (nu : us.length ≤ 100000) (na : ls.length ≤ 100000) (nr : rs.length ≤ 100000) :
    Calls Tryz.prog 7 #[.agg #[vu, va, vr, .slice ag 0 cg, .slice ar rows.length cr, .slice ab 0 cb]] w fun e w' => ∃ x y z ad cp done, e = .returned (.agg #[x, y, z, .slice none 0 0, .slice ad (done : List SM).length cp, .slice none 0 0]) ∧ NR w w' x y z us ls rs ad cp done rows := by
  obtain ⟨i0, hi, hzz⟩ := info_parts Tryz.info31
  obtain ⟨hz0, hz1, hz2⟩ : i0.zero = some (.agg #[.string ⟨#[]⟩, .bool false, .slice none 0 0, .slice none 0 0, .slice none 0 0, .slice none 0 0]) ∧ i0.size = 6 ∧ i0.bytes = 120 := by simpa using hzz
  clear hzz
  obtain ⟨X, hX⟩ : ∃ X, X = (w.alloc (.cells #[vu, va, vr, .slice ag 0 cg, .slice ar rows.length cr, .slice ab 0 cb] 27)).alloc (.cells #[.slice none 0 0, .slice none 0 0, .slice none 0 0, .slice none 0 0, .slice none 0 0, .slice none 0 0] 27) := ⟨_, rfl⟩
  have z1 : (w.alloc (.cells #[vu, va, vr, .slice ag 0 cg, .slice ar rows.length cr, .slice ab 0 cb] 27)).heap.size = w.heap.size + 1 := alloc_sz rfl _
  have z2 : w.heap.size + 1 + 1 ≤ X.heap.size := by rw [hX, alloc_sz z1 _]; exact Nat.le_refl _
  have hwX : w.heap.size ≤ X.heap.size := by omega
  have k0 : X.heap[w.heap.size]? = some (.cells #[vu, va, vr, .slice ag 0 cg, .slice ar rows.length cr, .slice ab 0 cb] 27 (0, 0)) := by rw [hX, heap_alloc_old _ _ (by omega), heap_alloc_new]
  have k1 : X.heap[w.heap.size + 1]? = some (.cells #[.slice none 0 0, .slice none 0 0, .slice none 0 0, .slice none 0 0, .slice none 0 0, .slice none 0 0] 27 (0, 0)) := by rw [hX, ← z1, heap_alloc_new]
  have hb : Bel w.heap.size w X := by rw [hX]; exact ⟨rfl, rfl, by simp; omega, fun k hk => by rw [heap_alloc_old _ _ (by omega), heap_alloc_old _ _ hk]⟩
  have y0 : X.cell? ⟨w.heap.size, 0, none⟩ = some vu := by rw [Lib.cell_of_heap k0]; rfl
  have y1 : X.cell? ⟨w.heap.size, 1, none⟩ = some va := by rw [Lib.cell_of_heap k0]; rfl
  have y2 : X.cell? ⟨w.heap.size, 2, none⟩ = some vr := by rw [Lib.cell_of_heap k0]; rfl
  go_enter Tryz.func7, Tryz.ntmps7
  go_wp2
  rw [← hX]
  clear hX z1
  go_cut [3] (fun s3 wx => ∃ (C : Nat) (x y z : Value), s3 = .pointer (some ⟨C, 0, none⟩) ∧ X.heap.size ≤ C ∧ Sc X wx ∧ NS w.heap.size C wx wx x y z (onceM us) (onceM ls) (onceM rs) none 0 [])
  case first =>
    go_region_held3 (fun w' => w'.cell? ⟨w.heap.size, 0, none⟩ = some vu ∧ w'.cell? ⟨w.heap.size, 1, none⟩ = some va ∧ w'.cell? ⟨w.heap.size, 2, none⟩ = some vr ∧ Sc X w')
      (first
        | (refine keepN k0 ?_; (with_reducible (repeat first | assumption | exact Sc.refl | refine Sc.alloc ?_ | refine Sc.drew ?_ | (refine Sc.call (by assumption) ?_) | (refine Sc.set (by first | exact Nat.le_refl _ | (refine Sc.size (X := X) ?_; (with_reducible (repeat first | assumption | exact Sc.refl | refine Sc.alloc ?_ | refine Sc.drew ?_ | (refine Sc.call (by assumption) ?_))))) ?_)))))
      (first
        | (go_at_call_of 17 vu; refine (once_walk ((hu.bel hb).bel (show Sc X _ from by (with_reducible (repeat first | assumption | exact Sc.refl | refine Sc.alloc ?_ | refine Sc.drew ?_ | (refine Sc.call (by assumption) ?_))))) nu).mono ?_; rintro e w1 ⟨x, rfl, ho1, hb1⟩; obtain ⟨ad1, cp1, rfl⟩ := own_form ho1; replace ho1 := TxOwn.low ho1 (Nat.le_trans hwX (Sc.size (X := X) (by (with_reducible (repeat first | assumption | exact Sc.refl | refine Sc.alloc ?_ | refine Sc.drew ?_ | (refine Sc.call (by assumption) ?_)))))); (first | (have hCx := newC hb1 hC; obtain ⟨hC, c0, c1, c2, c3, c4, c5, f0, f1, f2, f3, f4, f5⟩ := hCx) | (have hCx := newC (n := X.heap.size) hb1 (heap_alloc_new X.drew _); obtain ⟨hC, c0, c1, c2, c3, c4, c5, f0, f1, f2, f3, f4, f5⟩ := hCx) | (have hCx := newC hb1 (heap_alloc_new _ _); obtain ⟨hC, c0, c1, c2, c3, c4, c5, f0, f1, f2, f3, f4, f5⟩ := hCx) | skip))
        | (go_at_call_of 17 va; refine (once_walk ((ha.bel hb).bel (show Sc X _ from by (with_reducible (repeat first | assumption | exact Sc.refl | refine Sc.alloc ?_ | refine Sc.drew ?_ | (refine Sc.call (by assumption) ?_))))) na).mono ?_; rintro e w2 ⟨y, rfl, ho2, hb2⟩; obtain ⟨ad2, cp2, rfl⟩ := own_form ho2; replace ho2 := TxOwn.low ho2 (Nat.le_trans hwX (Sc.size (X := X) (by (with_reducible (repeat first | assumption | exact Sc.refl | refine Sc.alloc ?_ | refine Sc.drew ?_ | (refine Sc.call (by assumption) ?_)))))); (first | (have hCx := newC hb2 hC; obtain ⟨hC, c0, c1, c2, c3, c4, c5, f0, f1, f2, f3, f4, f5⟩ := hCx) | (have hCx := newC (n := X.heap.size) hb2 (heap_alloc_new X.drew _); obtain ⟨hC, c0, c1, c2, c3, c4, c5, f0, f1, f2, f3, f4, f5⟩ := hCx) | (have hCx := newC hb2 (heap_alloc_new _ _); obtain ⟨hC, c0, c1, c2, c3, c4, c5, f0, f1, f2, f3, f4, f5⟩ := hCx) | skip))
        | (go_at_call_of 17 vr; refine (once_walk ((hr.bel hb).bel (show Sc X _ from by (with_reducible (repeat first | assumption | exact Sc.refl | refine Sc.alloc ?_ | refine Sc.drew ?_ | (refine Sc.call (by assumption) ?_))))) nr).mono ?_; rintro e w3 ⟨z, rfl, ho3, hb3⟩; obtain ⟨ad3, cp3, rfl⟩ := own_form ho3; replace ho3 := TxOwn.low ho3 (Nat.le_trans hwX (Sc.size (X := X) (by (with_reducible (repeat first | assumption | exact Sc.refl | refine Sc.alloc ?_ | refine Sc.drew ?_ | (refine Sc.call (by assumption) ?_)))))); (first | (have hCx := newC hb3 hC; obtain ⟨hC, c0, c1, c2, c3, c4, c5, f0, f1, f2, f3, f4, f5⟩ := hCx) | (have hCx := newC (n := X.heap.size) hb3 (heap_alloc_new X.drew _); obtain ⟨hC, c0, c1, c2, c3, c4, c5, f0, f1, f2, f3, f4, f5⟩ := hCx) | (have hCx := newC hb3 (heap_alloc_new _ _); obtain ⟨hC, c0, c1, c2, c3, c4, c5, f0, f1, f2, f3, f4, f5⟩ := hCx) | skip)))
    all_goals
      go_wp2_with fail
      go_meet
      exact ⟨_, _, _, _, rfl, (by with_reducible first | exact Nat.le_refl _ | exact Sc.size (X := X) (by (with_reducible (repeat first | assumption | exact Sc.refl | refine Sc.alloc ?_ | refine Sc.drew ?_ | (refine Sc.call (by assumption) ?_))))), (by (with_reducible (repeat first | assumption | exact Sc.refl | refine Sc.alloc ?_ | refine Sc.drew ?_ | (refine Sc.call (by assumption) ?_) | (refine Sc.set (by first | exact Nat.le_refl _ | (refine Sc.size (X := X) ?_; (with_reducible (repeat first | assumption | exact Sc.refl | refine Sc.alloc ?_ | refine Sc.drew ?_ | (refine Sc.call (by assumption) ?_))))) ?_)))), (by with_reducible first | exact ns_new (by (with_reducible (repeat first | assumption | refine TxOwn.alloc1 ?_ | refine TxOwn.drew1 ?_ | (refine TxOwn.call1 (by assumption) ?_)))) (by (with_reducible (repeat first | assumption | refine TxOwn.alloc1 ?_ | refine TxOwn.drew1 ?_ | (refine TxOwn.call1 (by assumption) ?_)))) (by (with_reducible (repeat first | assumption | refine TxOwn.alloc1 ?_ | refine TxOwn.drew1 ?_ | (refine TxOwn.call1 (by assumption) ?_)))) | exact ns_set hC (by (with_reducible (repeat first | assumption | refine TxOwn.alloc1 ?_ | refine TxOwn.drew1 ?_ | (refine TxOwn.call1 (by assumption) ?_)))) (by (with_reducible (repeat first | assumption | refine TxOwn.alloc1 ?_ | refine TxOwn.drew1 ?_ | (refine TxOwn.call1 (by assumption) ?_)))) (by (with_reducible (repeat first | assumption | refine TxOwn.alloc1 ?_ | refine TxOwn.drew1 ?_ | (refine TxOwn.call1 (by assumption) ?_)))))⟩
  case rest =>
    obtain ⟨C, x, y, z, rfl, hCX, hsc, hN⟩ := hcut
    obtain ⟨adx, cpx, rfl⟩ := own_form hN.u
    obtain ⟨ady, cpy, rfl⟩ := own_form hN.a
    obtain ⟨adz, cpz, rfl⟩ := own_form hN.r
    have kB : wc.heap[w.heap.size]? = some (.cells #[vu, va, vr, .slice ag 0 cg, .slice ar rows.length cr, .slice ab 0 cb] 27 (0, 0)) := (hsc.block _ (by omega)).trans k0
    have d3 : wc.cell? ⟨w.heap.size, 3, none⟩ = some (.slice ag 0 cg) := by rw [Lib.cell_of_heap kB]; rfl
    have d4 : wc.cell? ⟨w.heap.size, 4, none⟩ = some (.slice ar rows.length cr) := by rw [Lib.cell_of_heap kB]; rfl
    clear y0 y1 y2
    go_wp2
    go_loopw [23] (fun i wr => i = .int .i64 0 ∧ wr = wc) (fun _ _ => 0)
    case atStart => exact ⟨rfl, rfl⟩
    case round =>
      obtain ⟨rfl, rfl⟩ := hrel
      obtain ⟨wr0, hwr0⟩ : ∃ x, x = wr := ⟨_, rfl⟩
      subst hwr0
      go_wp2
      go_loopw [42] (fun i wq => ∃ (j : Nat) (done : List SM) (ad : Option Addr) (cp : Nat), i = .int .i64 j ∧ j ≤ rows.length ∧ Sc X wq ∧ NS w.heap.size C wr0 wq (.slice adx (onceM us).length cpx) (.slice ady (onceM ls).length cpy) (.slice adz (onceM rs).length cpz) (onceM us) (onceM ls) (onceM rs) ad cp done ∧ done.length = j ∧ done.map SM.sid = (rows.take j).map SM.sid) (fun i _ => rows.length - (iOf i).toNat)
      case atStart => exact ⟨0, [], none, 0, rfl, Nat.zero_le _, hsc, hN, rfl, by simp⟩
      case round =>
        obtain ⟨j, done, ad, cp, rfl, hj, hsq, hNq, hdl, hds⟩ := hrel
        subst hdl
        by_cases hjl : done.length < rows.length
        · have hj1 : (done.length : Int) < (rows.length : Int) := by omega
          have hjz : (0 : Int) ≤ (done.length : Int) := by omega
          obtain ⟨⟨s1, u1, g1, a1, r1⟩, hx⟩ : ∃ s, rows[done.length]? = some s := ⟨_, List.getElem?_eq_getElem hjl⟩
          obtain ⟨b, off, had, hg⟩ := ((hst.bel hb).bel hsq).get
          obtain rfl := had (fun e => by rw [e] at hjl; simp at hjl)
          obtain ⟨x0, x1, x2, x3, x4, x5⟩ := hg done.length _ hx
          obtain ⟨t1, t2, t3, t4⟩ := h4 _ (List.mem_of_getElem? hx)
          dsimp only at x0 x1 x2 x3 x4 x5 t1 t2 t3 t4
          clear hg
          obtain ⟨ua, uc, rfl⟩ := t1.form (n := 1) rfl
          obtain ⟨ga, gc, rfl⟩ := t2.form (n := 0) rfl
          obtain ⟨aa, ac, rfl⟩ := t3.form (n := 1) rfl
          obtain ⟨ra, rc, rfl⟩ := t4.form (n := 1) rfl
          go_wp2
          obtain ⟨Y, hY⟩ : ∃ Y, Y = wr.alloc (.cells #[.string ⟨⟨s1⟩⟩, .bool false, .slice ua 1 uc, .slice ga 0 gc, .slice aa 1 ac, .slice ra 1 rc] 31) := ⟨_, rfl⟩
          have hCw : C < wr.heap.size := hNq.lt
          have hYs : wr.heap.size < Y.heap.size := by rw [hY, alloc_sz rfl _]; omega
          have kH : Y.heap[wr.heap.size]? = some (.cells #[.string ⟨⟨s1⟩⟩, .bool false, .slice ua 1 uc, .slice ga 0 gc, .slice aa 1 ac, .slice ra 1 rc] 31 (0, 0)) := by rw [hY]; exact heap_alloc_new _ _
          have hbwY : Bel wr.heap.size wr Y := by rw [hY]; exact bel_alloc _ _
          have hNY := hNq.step hbwY
          have hsY : Sc X Y := hsq.trans (hbwY.mono hsq.size)
          have hYd : Bel Y.heap.size Y Y.drew := ⟨rfl, rfl, Nat.le_refl _, fun _ _ => rfl⟩
          have e0 := hNY.cell4
          have T1 := (t1.bel hb).bel hsY
          have T2 := (t2.bel hb).bel hsY
          have T3 := (t3.bel hb).bel hsY
          have T4 := (t4.bel hb).bel hsY
          have hHC : wr.heap.size ≠ C := by omega
          have hrow : ∀ q, (Value.slice ad done.length cp).ownBlock = some q → C < q ∧ q < wr.heap.size := fun q hq => hNq.own.lt q hq
          have hdl2 : done.length ≤ 19 := by omega
          have hSY : Sh C wr.heap.size (.cells #[.string ⟨⟨s1⟩⟩, .bool false, .slice ua 1 uc, .slice ga 0 gc, .slice aa 1 ac, .slice ra 1 rc] 31 (0, 0)) Y Y := ⟨Bel.refl _ _, by omega, kH⟩
          rw [← hY]
          have hsd : ∀ u g a r : Value, (done ++ [(⟨s1, u, g, a, r⟩ : SM)]).map SM.sid = (rows.take (done.length + 1)).map SM.sid := fun u g a r => by
            rw [List.map_append, List.take_add_one, hx, List.map_append, hds]; rfl
          have hwY : w.heap.size ≤ Y.heap.size := by omega
          clear hY x0 x1 x2 x3 x4 x5 t1 t2 t3 t4
          refine wp_region_inv (I := fun l a' w' => (∃ (l0 l1 l2 l3 l4 l5 l6 l7 l8 l9 l10 l11 l12 l13 l14 l15 l16 l17 l18 : Bool) (v46 v47 v48 v49 v50 v51 v52 v53 v54 v55 v56 v57 v58 v59 v60 v61 v62 v63 v64 v65 v66 v67 : Value), l = #[l0, l1, l2, l3, l4, l5, l6, l7, l8, l9, l10, l11, l12, l13, l14, l15, l16, l17, l18, false, false, false, false] ∧ a' = ⟨#[Value.agg #[vu, va, vr, Value.slice ag 0 cg, Value.slice (some { block := b, off := off }) rows.length cr, Value.slice ab 0 cb], Value.pointer (some { block := w.heap.size, off := 0 }), Value.pointer (some { block := w.heap.size + 1, off := 0 }), Value.pointer (some { block := C, off := 0 }), undef, u5, undef, Value.pointer (some { block := wr.heap.size, off := 0 }), undef, undef, u10, u11, u12, u13, u14, u15, u16, u17, u18, u19, Value.pointer (some { block := w.heap.size, off := 3 }), Value.slice ag 0 cg, Value.int IntKind.i64 0, Value.int IntKind.i64 0, Value.bool false, u25, u26, u27, u28, u29, u30, u31, u32, u33, u34, u35, u36, u37, u38, Value.pointer (some { block := w.heap.size, off := 4 }), Value.slice (some { block := b, off := off }) rows.length cr, Value.int IntKind.i64 ↑rows.length, Value.int IntKind.i64 ↑done.length, Value.bool true, Value.pointer (some { block := b, off := off + done.length * 6 }), Value.agg #[Value.string { data := { toList := s1 } }, Value.bool false, Value.slice ua 1 uc, Value.slice ga 0 gc, Value.slice aa 1 ac, Value.slice ra 1 rc], v46, v47, v48, v49, v50, v51, v52, v53, v54, v55, v56, v57, v58, v59, v60, v61, v62, v63, v64, v65, v66, v67, u68, u69, undef, undef, undef, u73, u74, u75, u76, u77, u78, u79, u80, u81, u82, u83, u84, u85, u86, u87, u88, u89, u90, u91, u92, u93, u94, u95, u96, u97, u98, u99, u100, u101, u102, u103, u104, u105, u106, u107, u108, u109, u110, u111, u112], []⟩ ∧ Shut (l0 = true → v46 = (.pointer (some ⟨C, 4, none⟩))) ∧ Shut (l1 = true → l0 = true ∧ v47 = (.slice ad done.length cp)) ∧ Shut (l2 = true → v48 = (.pointer (some ⟨wr.heap.size, 0, none⟩))) ∧ Shut (l3 = true → l2 = true ∧ v49 = (.string ⟨⟨s1⟩⟩)) ∧ Shut (l4 = true → v50 = (.pointer (some ⟨wr.heap.size, 1, none⟩))) ∧ Shut (l5 = true → l4 = true ∧ v51 = (.bool false)) ∧ Shut (l6 = true → v52 = (.pointer (some ⟨wr.heap.size, 2, none⟩))) ∧ Shut (l7 = true → l6 = true ∧ v53 = (.slice ua 1 uc)) ∧ Shut (l8 = true → l7 = true ∧ ∃ (ta : Option Addr) (tc : Nat), v54 = .slice ta 1 tc ∧ TxOwn w.heap.size w' v54 [[117]]) ∧ Shut (l9 = true → v55 = (.pointer (some ⟨wr.heap.size, 3, none⟩))) ∧ Shut (l10 = true → l9 = true ∧ v56 = (.slice ga 0 gc)) ∧ Shut (l11 = true → l10 = true ∧ ∃ (ta : Option Addr) (tc : Nat), v57 = .slice ta 0 tc ∧ TxOwn w.heap.size w' v57 []) ∧ Shut (l12 = true → v58 = (.pointer (some ⟨wr.heap.size, 4, none⟩))) ∧ Shut (l13 = true → l12 = true ∧ v59 = (.slice aa 1 ac)) ∧ Shut (l14 = true → l13 = true ∧ ∃ (ta : Option Addr) (tc : Nat), v60 = .slice ta 1 tc ∧ TxOwn w.heap.size w' v60 [[42]]) ∧ Shut (l15 = true → v61 = (.pointer (some ⟨wr.heap.size, 5, none⟩))) ∧ Shut (l16 = true → l15 = true ∧ v62 = (.slice ra 1 rc)) ∧ Shut (l17 = true → l16 = true ∧ ∃ (ta : Option Addr) (tc : Nat), v63 = .slice ta 1 tc ∧ TxOwn w.heap.size w' v63 [[42]]) ∧ Shut (l18 = true → l3 = true ∧ l5 = true ∧ l8 = true ∧ l11 = true ∧ l14 = true ∧ l17 = true ∧ v64 = .agg #[v49, v51, v54, v57, v60, v63]) ∧ Bel Y.heap.size Y w') ∨ (∃ (l0 l1 : Bool) (v46 v47 v48 v49 v50 v51 v52 v53 v54 v55 v56 v57 v58 v59 v60 v61 v62 v63 v64 v65 v66 v67 : Value) (W : World) (s : SM), l = #[l0, l1, true, true, true, true, true, true, true, true, true, true, true, true, true, true, true, true, true, true, false, false, false] ∧ a' = ⟨#[Value.agg #[vu, va, vr, Value.slice ag 0 cg, Value.slice (some { block := b, off := off }) rows.length cr, Value.slice ab 0 cb], Value.pointer (some { block := w.heap.size, off := 0 }), Value.pointer (some { block := w.heap.size + 1, off := 0 }), Value.pointer (some { block := C, off := 0 }), undef, u5, undef, Value.pointer (some { block := wr.heap.size, off := 0 }), undef, undef, u10, u11, u12, u13, u14, u15, u16, u17, u18, u19, Value.pointer (some { block := w.heap.size, off := 3 }), Value.slice ag 0 cg, Value.int IntKind.i64 0, Value.int IntKind.i64 0, Value.bool false, u25, u26, u27, u28, u29, u30, u31, u32, u33, u34, u35, u36, u37, u38, Value.pointer (some { block := w.heap.size, off := 4 }), Value.slice (some { block := b, off := off }) rows.length cr, Value.int IntKind.i64 ↑rows.length, Value.int IntKind.i64 ↑done.length, Value.bool true, Value.pointer (some { block := b, off := off + done.length * 6 }), Value.agg #[Value.string { data := { toList := s1 } }, Value.bool false, Value.slice ua 1 uc, Value.slice ga 0 gc, Value.slice aa 1 ac, Value.slice ra 1 rc], v46, v47, v48, v49, v50, v51, v52, v53, v54, v55, v56, v57, v58, v59, v60, v61, v62, v63, v64, v65, v66, v67, u68, u69, undef, undef, undef, u73, u74, u75, u76, u77, u78, u79, u80, u81, u82, u83, u84, u85, u86, u87, u88, u89, u90, u91, u92, u93, u94, u95, u96, u97, u98, u99, u100, u101, u102, u103, u104, u105, u106, u107, u108, u109, u110, u111, u112], []⟩ ∧ Shut (l0 = true → v46 = (.pointer (some ⟨C, 4, none⟩))) ∧ Shut (l1 = true → l0 = true ∧ v47 = (.slice ad done.length cp)) ∧ Shut (s.sid = s1) ∧ w' = W.alloc (.cells #[.string ⟨⟨s.sid⟩⟩, .bool false, s.u, s.g, s.a, s.r] 31) ∧ Bel Y.heap.size Y W ∧ Ok4 w.heap.size W s ∧ v65 = .slice (some ⟨W.heap.size, 0, none⟩) 1 1) ∨ (∃ (l21 : Bool) (v46 v47 v48 v49 v50 v51 v52 v53 v54 v55 v56 v57 v58 v59 v60 v61 v62 v63 v64 v65 v66 v67 : Value) (W : World) (s : SM) (g cp' : Nat), l = #[true, true, true, true, true, true, true, true, true, true, true, true, true, true, true, true, true, true, true, true, true, l21, false] ∧ a' = ⟨#[Value.agg #[vu, va, vr, Value.slice ag 0 cg, Value.slice (some { block := b, off := off }) rows.length cr, Value.slice ab 0 cb], Value.pointer (some { block := w.heap.size, off := 0 }), Value.pointer (some { block := w.heap.size + 1, off := 0 }), Value.pointer (some { block := C, off := 0 }), undef, u5, undef, Value.pointer (some { block := wr.heap.size, off := 0 }), undef, undef, u10, u11, u12, u13, u14, u15, u16, u17, u18, u19, Value.pointer (some { block := w.heap.size, off := 3 }), Value.slice ag 0 cg, Value.int IntKind.i64 0, Value.int IntKind.i64 0, Value.bool false, u25, u26, u27, u28, u29, u30, u31, u32, u33, u34, u35, u36, u37, u38, Value.pointer (some { block := w.heap.size, off := 4 }), Value.slice (some { block := b, off := off }) rows.length cr, Value.int IntKind.i64 ↑rows.length, Value.int IntKind.i64 ↑done.length, Value.bool true, Value.pointer (some { block := b, off := off + done.length * 6 }), Value.agg #[Value.string { data := { toList := s1 } }, Value.bool false, Value.slice ua 1 uc, Value.slice ga 0 gc, Value.slice aa 1 ac, Value.slice ra 1 rc], v46, v47, v48, v49, v50, v51, v52, v53, v54, v55, v56, v57, v58, v59, v60, v61, v62, v63, v64, v65, v66, v67, u68, u69, undef, undef, undef, u73, u74, u75, u76, u77, u78, u79, u80, u81, u82, u83, u84, u85, u86, u87, u88, u89, u90, u91, u92, u93, u94, u95, u96, u97, u98, u99, u100, u101, u102, u103, u104, u105, u106, u107, u108, u109, u110, u111, u112], []⟩ ∧ Shut (l21 = true → v67 = (.pointer (some ⟨C, 4, none⟩))) ∧ Shut (s.sid = s1) ∧ Bel Y.heap.size Y W ∧ Ok4 w.heap.size W s ∧ v66 = .slice (some ⟨g, 0, none⟩) (done.length + 1) cp' ∧ (W.alloc (.cells #[.string ⟨⟨s.sid⟩⟩, .bool false, s.u, s.g, s.a, s.r] 31)).grownBy w' (Value.slice ad done.length cp).ownBlock ∧ w'.ownsRow (C + 1) 31 6 (.slice (some ⟨g, 0, none⟩) (done.length + 1) cp') (done.length + 1) (flatS done ++ s.cells)) ∨ (∃ (v46 v47 v48 v49 v50 v51 v52 v53 v54 v55 v56 v57 v58 v59 v60 v61 v62 v63 v64 v65 v66 v67 : Value) (s : SM) (g cp' : Nat), l = #[true, true, true, true, true, true, true, true, true, true, true, true, true, true, true, true, true, true, true, true, true, true, true] ∧ a' = ⟨#[Value.agg #[vu, va, vr, Value.slice ag 0 cg, Value.slice (some { block := b, off := off }) rows.length cr, Value.slice ab 0 cb], Value.pointer (some { block := w.heap.size, off := 0 }), Value.pointer (some { block := w.heap.size + 1, off := 0 }), Value.pointer (some { block := C, off := 0 }), undef, u5, undef, Value.pointer (some { block := wr.heap.size, off := 0 }), undef, undef, u10, u11, u12, u13, u14, u15, u16, u17, u18, u19, Value.pointer (some { block := w.heap.size, off := 3 }), Value.slice ag 0 cg, Value.int IntKind.i64 0, Value.int IntKind.i64 0, Value.bool false, u25, u26, u27, u28, u29, u30, u31, u32, u33, u34, u35, u36, u37, u38, Value.pointer (some { block := w.heap.size, off := 4 }), Value.slice (some { block := b, off := off }) rows.length cr, Value.int IntKind.i64 ↑rows.length, Value.int IntKind.i64 ↑done.length, Value.bool true, Value.pointer (some { block := b, off := off + done.length * 6 }), Value.agg #[Value.string { data := { toList := s1 } }, Value.bool false, Value.slice ua 1 uc, Value.slice ga 0 gc, Value.slice aa 1 ac, Value.slice ra 1 rc], v46, v47, v48, v49, v50, v51, v52, v53, v54, v55, v56, v57, v58, v59, v60, v61, v62, v63, v64, v65, v66, v67, u68, u69, undef, undef, undef, u73, u74, u75, u76, u77, u78, u79, u80, u81, u82, u83, u84, u85, u86, u87, u88, u89, u90, u91, u92, u93, u94, u95, u96, u97, u98, u99, u100, u101, u102, u103, u104, u105, u106, u107, u108, u109, u110, u111, u112], []⟩ ∧ Shut (s.sid = s1) ∧ Sc X w' ∧ NS w.heap.size C wr0 w' (.slice adx (onceM us).length cpx) (.slice ady (onceM ls).length cpy) (.slice adz (onceM rs).length cpz) (onceM us) (onceM ls) (onceM rs) (some ⟨g, 0, none⟩) cp' (done ++ [s]))) mixed3 (by kernel_rfl) ?_ ?_ ?_
          · exact .inl ⟨false, false, false, false, false, false, false, false, false, false, false, false, false, false, false, false, false, false, false, u46, u47, u48, u49, u50, u51, u52, u53, u54, u55, u56, u57, u58, u59, u60, u61, u62, u63, u64, u65, u66, u67, rfl, rfl, (shut fun h => by cases h), (shut fun h => by cases h), (shut fun h => by cases h), (shut fun h => by cases h), (shut fun h => by cases h), (shut fun h => by cases h), (shut fun h => by cases h), (shut fun h => by cases h), (shut fun h => by cases h), (shut fun h => by cases h), (shut fun h => by cases h), (shut fun h => by cases h), (shut fun h => by cases h), (shut fun h => by cases h), (shut fun h => by cases h), (shut fun h => by cases h), (shut fun h => by cases h), (shut fun h => by cases h), (shut fun h => by cases h), hYd⟩
          · rintro listed a1 w1 i hJ hmem
            have hlt : i < 23 := by obtain ⟨_, o, ho, _⟩ := mem_ready.1 hmem; exact (Array.getElem?_eq_some_iff.1 ho).1
            rcases hJ with ⟨l0, l1, l2, l3, l4, l5, l6, l7, l8, l9, l10, l11, l12, l13, l14, l15, l16, l17, l18, v46, v47, v48, v49, v50, v51, v52, v53, v54, v55, v56, v57, v58, v59, v60, v61, v62, v63, v64, v65, v66, v67, rfl, rfl, h0, h1, h2, h3, h4, h5, h6, h7, h8, h9, h10, h11, h12, h13, h14, h15, h16, h17, h18, hB⟩ | ⟨l0, l1, v46, v47, v48, v49, v50, v51, v52, v53, v54, v55, v56, v57, v58, v59, v60, v61, v62, v63, v64, v65, v66, v67, W, s, rfl, rfl, h0, h1, hs, rfl, hB, hO, rfl⟩ | ⟨l21, v46, v47, v48, v49, v50, v51, v52, v53, v54, v55, v56, v57, v58, v59, v60, v61, v62, v63, v64, v65, v66, v67, W, s, g, cp', rfl, rfl, h21, hs, hB, hO, rfl, hG, hR⟩ | ⟨v46, v47, v48, v49, v50, v51, v52, v53, v54, v55, v56, v57, v58, v59, v60, v61, v62, v63, v64, v65, v66, v67, s, g, cp', rfl, rfl, hs, hS, hM⟩
            · obtain rfl | rfl | rfl | rfl | rfl | rfl | rfl | rfl | rfl | rfl | rfl | rfl | rfl | rfl | rfl | rfl | rfl | rfl | rfl | rfl | rfl | rfl | rfl := (by omega : i = 0 ∨ i = 1 ∨ i = 2 ∨ i = 3 ∨ i = 4 ∨ i = 5 ∨ i = 6 ∨ i = 7 ∨ i = 8 ∨ i = 9 ∨ i = 10 ∨ i = 11 ∨ i = 12 ∨ i = 13 ∨ i = 14 ∨ i = 15 ∨ i = 16 ∨ i = 17 ∨ i = 18 ∨ i = 19 ∨ i = 20 ∨ i = 21 ∨ i = 22)
              · refine wpOp_run (by rfl) (by rfl) fun K hK => ?_
                unfold Oper.wp; go_simp
                exact hK.out _ _ (.inl ⟨true, l1, l2, l3, l4, l5, l6, l7, l8, l9, l10, l11, l12, l13, l14, l15, l16, l17, l18, _, _, _, _, _, _, _, _, _, _, _, _, _, _, _, _, _, _, _, _, _, _, rfl, rfl, (shut fun _ => rfl), (shut fun h => ⟨rfl, (h1.out h).2⟩), h2, h3, h4, h5, h6, h7, h8, h9, h10, h11, h12, h13, h14, h15, h16, h17, h18, hB⟩)
              · obtain ⟨hun, hall⟩ := ready_deps hmem (by rfl)
                have d0 : l0 = true := hall ⟨0, .data⟩ (by simp) rfl
                obtain rfl := h0.out d0
                have e4 := (hNY.step hB).cell4
                refine wpOp_run (by rfl) (by rfl) fun K hK => ?_
                unfold Oper.wp; go_simp
                exact hK.out _ _ (.inl ⟨l0, true, l2, l3, l4, l5, l6, l7, l8, l9, l10, l11, l12, l13, l14, l15, l16, l17, l18, _, _, _, _, _, _, _, _, _, _, _, _, _, _, _, _, _, _, _, _, _, _, rfl, rfl, h0, (shut fun _ => ⟨d0, rfl⟩), h2, h3, h4, h5, h6, h7, h8, h9, h10, h11, h12, h13, h14, h15, h16, h17, h18, hB⟩)
              · refine wpOp_run (by rfl) (by rfl) fun K hK => ?_
                unfold Oper.wp; go_simp
                exact hK.out _ _ (.inl ⟨l0, l1, true, l3, l4, l5, l6, l7, l8, l9, l10, l11, l12, l13, l14, l15, l16, l17, l18, _, _, _, _, _, _, _, _, _, _, _, _, _, _, _, _, _, _, _, _, _, _, rfl, rfl, h0, h1, (shut fun _ => rfl), (shut fun h => ⟨rfl, (h3.out h).2⟩), h4, h5, h6, h7, h8, h9, h10, h11, h12, h13, h14, h15, h16, h17, h18, hB⟩)
              · obtain ⟨hun, hall⟩ := ready_deps hmem (by rfl)
                have d2 : l2 = true := hall ⟨2, .data⟩ (by simp) rfl
                obtain rfl := h2.out d2
                have ec : w1.cell? ⟨wr.heap.size, 0, none⟩ = some (.string ⟨⟨s1⟩⟩) := by rw [Lib.cell_of_heap ((hB.block _ hYs).trans kH)]; rfl
                refine wpOp_run (by rfl) (by rfl) fun K hK => ?_
                unfold Oper.wp; go_simp
                exact hK.out _ _ (.inl ⟨l0, l1, l2, true, l4, l5, l6, l7, l8, l9, l10, l11, l12, l13, l14, l15, l16, l17, l18, _, _, _, _, _, _, _, _, _, _, _, _, _, _, _, _, _, _, _, _, _, _, rfl, rfl, h0, h1, h2, (shut fun _ => ⟨d2, rfl⟩), h4, h5, h6, h7, h8, h9, h10, h11, h12, h13, h14, h15, h16, h17, (shut fun h => absurd (h18.out h).1 (by rw [show l3 = false from hun]; simp)), hB⟩)
              · refine wpOp_run (by rfl) (by rfl) fun K hK => ?_
                unfold Oper.wp; go_simp
                exact hK.out _ _ (.inl ⟨l0, l1, l2, l3, true, l5, l6, l7, l8, l9, l10, l11, l12, l13, l14, l15, l16, l17, l18, _, _, _, _, _, _, _, _, _, _, _, _, _, _, _, _, _, _, _, _, _, _, rfl, rfl, h0, h1, h2, h3, (shut fun _ => rfl), (shut fun h => ⟨rfl, (h5.out h).2⟩), h6, h7, h8, h9, h10, h11, h12, h13, h14, h15, h16, h17, h18, hB⟩)
              · obtain ⟨hun, hall⟩ := ready_deps hmem (by rfl)
                have d4 : l4 = true := hall ⟨4, .data⟩ (by simp) rfl
                obtain rfl := h4.out d4
                have ec : w1.cell? ⟨wr.heap.size, 1, none⟩ = some (.bool false) := by rw [Lib.cell_of_heap ((hB.block _ hYs).trans kH)]; rfl
                refine wpOp_run (by rfl) (by rfl) fun K hK => ?_
                unfold Oper.wp; go_simp
                exact hK.out _ _ (.inl ⟨l0, l1, l2, l3, l4, true, l6, l7, l8, l9, l10, l11, l12, l13, l14, l15, l16, l17, l18, _, _, _, _, _, _, _, _, _, _, _, _, _, _, _, _, _, _, _, _, _, _, rfl, rfl, h0, h1, h2, h3, h4, (shut fun _ => ⟨d4, rfl⟩), h6, h7, h8, h9, h10, h11, h12, h13, h14, h15, h16, h17, (shut fun h => absurd (h18.out h).2.1 (by rw [show l5 = false from hun]; simp)), hB⟩)
              · refine wpOp_run (by rfl) (by rfl) fun K hK => ?_
                unfold Oper.wp; go_simp
                exact hK.out _ _ (.inl ⟨l0, l1, l2, l3, l4, l5, true, l7, l8, l9, l10, l11, l12, l13, l14, l15, l16, l17, l18, _, _, _, _, _, _, _, _, _, _, _, _, _, _, _, _, _, _, _, _, _, _, rfl, rfl, h0, h1, h2, h3, h4, h5, (shut fun _ => rfl), (shut fun h => ⟨rfl, (h7.out h).2⟩), h8, h9, h10, h11, h12, h13, h14, h15, h16, h17, h18, hB⟩)
              · obtain ⟨hun, hall⟩ := ready_deps hmem (by rfl)
                have d6 : l6 = true := hall ⟨6, .data⟩ (by simp) rfl
                obtain rfl := h6.out d6
                have ec : w1.cell? ⟨wr.heap.size, 2, none⟩ = some (.slice ua 1 uc) := by rw [Lib.cell_of_heap ((hB.block _ hYs).trans kH)]; rfl
                refine wpOp_run (by rfl) (by rfl) fun K hK => ?_
                unfold Oper.wp; go_simp
                exact hK.out _ _ (.inl ⟨l0, l1, l2, l3, l4, l5, l6, true, l8, l9, l10, l11, l12, l13, l14, l15, l16, l17, l18, _, _, _, _, _, _, _, _, _, _, _, _, _, _, _, _, _, _, _, _, _, _, rfl, rfl, h0, h1, h2, h3, h4, h5, h6, (shut fun _ => ⟨d6, rfl⟩), (shut fun h => ⟨rfl, (h8.out h).2⟩), h9, h10, h11, h12, h13, h14, h15, h16, h17, h18, hB⟩)
              · obtain ⟨hun, hall⟩ := ready_deps hmem (by rfl)
                have d7 : l7 = true := hall ⟨7, .data⟩ (by simp) rfl
                obtain ⟨d6, rfl⟩ := h7.out d7
                refine wpOp_run (by rfl) (by rfl) fun K hK => ?_
                unfold Oper.wp; go_simp
                refine (once_walk (T1.bel hB) (by decide)).mono ?_
                rintro e w2 ⟨v, rfl, ho, hb⟩
                rw [once_one] at ho
                obtain ⟨da, dp, rfl⟩ := ho.at.form (n := 1) rfl
                try dsimp only
                exact hK.out _ _ (.inl ⟨l0, l1, l2, l3, l4, l5, l6, l7, true, l9, l10, l11, l12, l13, l14, l15, l16, l17, l18, _, _, _, _, _, _, _, _, _, _, _, _, _, _, _, _, _, _, _, _, _, _, rfl, rfl, h0, h1, h2, h3, h4, h5, h6, h7, (shut fun _ => ⟨d7, _, _, rfl, ho.low (Nat.le_trans hwY hB.size)⟩), h9, h10, (shut fun h => ⟨(h11.out h).1, (h11.out h).2.imp fun _ h => h.imp fun _ h => ⟨h.1, h.2.bel hb⟩⟩), h12, h13, (shut fun h => ⟨(h14.out h).1, (h14.out h).2.imp fun _ h => h.imp fun _ h => ⟨h.1, h.2.bel hb⟩⟩), h15, h16, (shut fun h => ⟨(h17.out h).1, (h17.out h).2.imp fun _ h => h.imp fun _ h => ⟨h.1, h.2.bel hb⟩⟩), (shut fun h => absurd (h18.out h).2.2.1 (by rw [show l8 = false from hun]; simp)), hB.trans (hb.mono hB.size)⟩)
              · refine wpOp_run (by rfl) (by rfl) fun K hK => ?_
                unfold Oper.wp; go_simp
                exact hK.out _ _ (.inl ⟨l0, l1, l2, l3, l4, l5, l6, l7, l8, true, l10, l11, l12, l13, l14, l15, l16, l17, l18, _, _, _, _, _, _, _, _, _, _, _, _, _, _, _, _, _, _, _, _, _, _, rfl, rfl, h0, h1, h2, h3, h4, h5, h6, h7, h8, (shut fun _ => rfl), (shut fun h => ⟨rfl, (h10.out h).2⟩), h11, h12, h13, h14, h15, h16, h17, h18, hB⟩)
              · obtain ⟨hun, hall⟩ := ready_deps hmem (by rfl)
                have d9 : l9 = true := hall ⟨9, .data⟩ (by simp) rfl
                obtain rfl := h9.out d9
                have ec : w1.cell? ⟨wr.heap.size, 3, none⟩ = some (.slice ga 0 gc) := by rw [Lib.cell_of_heap ((hB.block _ hYs).trans kH)]; rfl
                refine wpOp_run (by rfl) (by rfl) fun K hK => ?_
                unfold Oper.wp; go_simp
                exact hK.out _ _ (.inl ⟨l0, l1, l2, l3, l4, l5, l6, l7, l8, l9, true, l11, l12, l13, l14, l15, l16, l17, l18, _, _, _, _, _, _, _, _, _, _, _, _, _, _, _, _, _, _, _, _, _, _, rfl, rfl, h0, h1, h2, h3, h4, h5, h6, h7, h8, h9, (shut fun _ => ⟨d9, rfl⟩), (shut fun h => ⟨rfl, (h11.out h).2⟩), h12, h13, h14, h15, h16, h17, h18, hB⟩)
              · obtain ⟨hun, hall⟩ := ready_deps hmem (by rfl)
                have d10 : l10 = true := hall ⟨10, .data⟩ (by simp) rfl
                obtain ⟨d9, rfl⟩ := h10.out d10
                refine wpOp_run (by rfl) (by rfl) fun K hK => ?_
                unfold Oper.wp; go_simp
                refine (once_walk (T2.bel hB) (by decide)).mono ?_
                rintro e w2 ⟨v, rfl, ho, hb⟩
                rw [once_nil] at ho
                obtain ⟨da, dp, rfl⟩ := ho.at.form (n := 0) rfl
                try dsimp only
                exact hK.out _ _ (.inl ⟨l0, l1, l2, l3, l4, l5, l6, l7, l8, l9, l10, true, l12, l13, l14, l15, l16, l17, l18, _, _, _, _, _, _, _, _, _, _, _, _, _, _, _, _, _, _, _, _, _, _, rfl, rfl, h0, h1, h2, h3, h4, h5, h6, h7, (shut fun h => ⟨(h8.out h).1, (h8.out h).2.imp fun _ h => h.imp fun _ h => ⟨h.1, h.2.bel hb⟩⟩), h9, h10, (shut fun _ => ⟨d10, _, _, rfl, ho.low (Nat.le_trans hwY hB.size)⟩), h12, h13, (shut fun h => ⟨(h14.out h).1, (h14.out h).2.imp fun _ h => h.imp fun _ h => ⟨h.1, h.2.bel hb⟩⟩), h15, h16, (shut fun h => ⟨(h17.out h).1, (h17.out h).2.imp fun _ h => h.imp fun _ h => ⟨h.1, h.2.bel hb⟩⟩), (shut fun h => absurd (h18.out h).2.2.2.1 (by rw [show l11 = false from hun]; simp)), hB.trans (hb.mono hB.size)⟩)
              · refine wpOp_run (by rfl) (by rfl) fun K hK => ?_
                unfold Oper.wp; go_simp
                exact hK.out _ _ (.inl ⟨l0, l1, l2, l3, l4, l5, l6, l7, l8, l9, l10, l11, true, l13, l14, l15, l16, l17, l18, _, _, _, _, _, _, _, _, _, _, _, _, _, _, _, _, _, _, _, _, _, _, rfl, rfl, h0, h1, h2, h3, h4, h5, h6, h7, h8, h9, h10, h11, (shut fun _ => rfl), (shut fun h => ⟨rfl, (h13.out h).2⟩), h14, h15, h16, h17, h18, hB⟩)
              · obtain ⟨hun, hall⟩ := ready_deps hmem (by rfl)
                have d12 : l12 = true := hall ⟨12, .data⟩ (by simp) rfl
                obtain rfl := h12.out d12
                have ec : w1.cell? ⟨wr.heap.size, 4, none⟩ = some (.slice aa 1 ac) := by rw [Lib.cell_of_heap ((hB.block _ hYs).trans kH)]; rfl
                refine wpOp_run (by rfl) (by rfl) fun K hK => ?_
                unfold Oper.wp; go_simp
                exact hK.out _ _ (.inl ⟨l0, l1, l2, l3, l4, l5, l6, l7, l8, l9, l10, l11, l12, true, l14, l15, l16, l17, l18, _, _, _, _, _, _, _, _, _, _, _, _, _, _, _, _, _, _, _, _, _, _, rfl, rfl, h0, h1, h2, h3, h4, h5, h6, h7, h8, h9, h10, h11, h12, (shut fun _ => ⟨d12, rfl⟩), (shut fun h => ⟨rfl, (h14.out h).2⟩), h15, h16, h17, h18, hB⟩)
              · obtain ⟨hun, hall⟩ := ready_deps hmem (by rfl)
                have d13 : l13 = true := hall ⟨13, .data⟩ (by simp) rfl
                obtain ⟨d12, rfl⟩ := h13.out d13
                refine wpOp_run (by rfl) (by rfl) fun K hK => ?_
                unfold Oper.wp; go_simp
                refine (once_walk (T3.bel hB) (by decide)).mono ?_
                rintro e w2 ⟨v, rfl, ho, hb⟩
                rw [once_one] at ho
                obtain ⟨da, dp, rfl⟩ := ho.at.form (n := 1) rfl
                try dsimp only
                exact hK.out _ _ (.inl ⟨l0, l1, l2, l3, l4, l5, l6, l7, l8, l9, l10, l11, l12, l13, true, l15, l16, l17, l18, _, _, _, _, _, _, _, _, _, _, _, _, _, _, _, _, _, _, _, _, _, _, rfl, rfl, h0, h1, h2, h3, h4, h5, h6, h7, (shut fun h => ⟨(h8.out h).1, (h8.out h).2.imp fun _ h => h.imp fun _ h => ⟨h.1, h.2.bel hb⟩⟩), h9, h10, (shut fun h => ⟨(h11.out h).1, (h11.out h).2.imp fun _ h => h.imp fun _ h => ⟨h.1, h.2.bel hb⟩⟩), h12, h13, (shut fun _ => ⟨d13, _, _, rfl, ho.low (Nat.le_trans hwY hB.size)⟩), h15, h16, (shut fun h => ⟨(h17.out h).1, (h17.out h).2.imp fun _ h => h.imp fun _ h => ⟨h.1, h.2.bel hb⟩⟩), (shut fun h => absurd (h18.out h).2.2.2.2.1 (by rw [show l14 = false from hun]; simp)), hB.trans (hb.mono hB.size)⟩)
              · refine wpOp_run (by rfl) (by rfl) fun K hK => ?_
                unfold Oper.wp; go_simp
                exact hK.out _ _ (.inl ⟨l0, l1, l2, l3, l4, l5, l6, l7, l8, l9, l10, l11, l12, l13, l14, true, l16, l17, l18, _, _, _, _, _, _, _, _, _, _, _, _, _, _, _, _, _, _, _, _, _, _, rfl, rfl, h0, h1, h2, h3, h4, h5, h6, h7, h8, h9, h10, h11, h12, h13, h14, (shut fun _ => rfl), (shut fun h => ⟨rfl, (h16.out h).2⟩), h17, h18, hB⟩)
              · obtain ⟨hun, hall⟩ := ready_deps hmem (by rfl)
                have d15 : l15 = true := hall ⟨15, .data⟩ (by simp) rfl
                obtain rfl := h15.out d15
                have ec : w1.cell? ⟨wr.heap.size, 5, none⟩ = some (.slice ra 1 rc) := by rw [Lib.cell_of_heap ((hB.block _ hYs).trans kH)]; rfl
                refine wpOp_run (by rfl) (by rfl) fun K hK => ?_
                unfold Oper.wp; go_simp
                exact hK.out _ _ (.inl ⟨l0, l1, l2, l3, l4, l5, l6, l7, l8, l9, l10, l11, l12, l13, l14, l15, true, l17, l18, _, _, _, _, _, _, _, _, _, _, _, _, _, _, _, _, _, _, _, _, _, _, rfl, rfl, h0, h1, h2, h3, h4, h5, h6, h7, h8, h9, h10, h11, h12, h13, h14, h15, (shut fun _ => ⟨d15, rfl⟩), (shut fun h => ⟨rfl, (h17.out h).2⟩), h18, hB⟩)
              · obtain ⟨hun, hall⟩ := ready_deps hmem (by rfl)
                have d16 : l16 = true := hall ⟨16, .data⟩ (by simp) rfl
                obtain ⟨d15, rfl⟩ := h16.out d16
                refine wpOp_run (by rfl) (by rfl) fun K hK => ?_
                unfold Oper.wp; go_simp
                refine (once_walk (T4.bel hB) (by decide)).mono ?_
                rintro e w2 ⟨v, rfl, ho, hb⟩
                rw [once_one] at ho
                obtain ⟨da, dp, rfl⟩ := ho.at.form (n := 1) rfl
                try dsimp only
                exact hK.out _ _ (.inl ⟨l0, l1, l2, l3, l4, l5, l6, l7, l8, l9, l10, l11, l12, l13, l14, l15, l16, true, l18, _, _, _, _, _, _, _, _, _, _, _, _, _, _, _, _, _, _, _, _, _, _, rfl, rfl, h0, h1, h2, h3, h4, h5, h6, h7, (shut fun h => ⟨(h8.out h).1, (h8.out h).2.imp fun _ h => h.imp fun _ h => ⟨h.1, h.2.bel hb⟩⟩), h9, h10, (shut fun h => ⟨(h11.out h).1, (h11.out h).2.imp fun _ h => h.imp fun _ h => ⟨h.1, h.2.bel hb⟩⟩), h12, h13, (shut fun h => ⟨(h14.out h).1, (h14.out h).2.imp fun _ h => h.imp fun _ h => ⟨h.1, h.2.bel hb⟩⟩), h15, h16, (shut fun _ => ⟨d16, _, _, rfl, ho.low (Nat.le_trans hwY hB.size)⟩), (shut fun h => absurd (h18.out h).2.2.2.2.2.1 (by rw [show l17 = false from hun]; simp)), hB.trans (hb.mono hB.size)⟩)
              · obtain ⟨hun, hall⟩ := ready_deps hmem (by rfl)
                have d3 : l3 = true := hall ⟨3, .data⟩ (by simp) rfl
                have d5 : l5 = true := hall ⟨5, .data⟩ (by simp) rfl
                have d8 : l8 = true := hall ⟨8, .data⟩ (by simp) rfl
                have d11 : l11 = true := hall ⟨11, .data⟩ (by simp) rfl
                have d14 : l14 = true := hall ⟨14, .data⟩ (by simp) rfl
                have d17 : l17 = true := hall ⟨17, .data⟩ (by simp) rfl
                obtain ⟨d2, rfl⟩ := h3.out d3
                obtain ⟨d4, rfl⟩ := h5.out d5
                obtain ⟨d7, a8, c8, rfl, t8⟩ := h8.out d8
                obtain ⟨d10, a11, c11, rfl, t11⟩ := h11.out d11
                obtain ⟨d13, a14, c14, rfl, t14⟩ := h14.out d14
                obtain ⟨d16, a17, c17, rfl, t17⟩ := h17.out d17
                refine wpOp_run (by rfl) (by rfl) fun K hK => ?_
                unfold Oper.wp; go_simp
                exact hK.out _ _ (.inl ⟨l0, l1, l2, l3, l4, l5, l6, l7, l8, l9, l10, l11, l12, l13, l14, l15, l16, l17, true, _, _, _, _, _, _, _, _, _, _, _, _, _, _, _, _, _, _, _, _, _, _, rfl, rfl, h0, h1, h2, h3, h4, h5, h6, h7, h8, h9, h10, h11, h12, h13, h14, h15, h16, h17, (shut fun _ => ⟨d3, d5, d8, d11, d14, d17, rfl⟩), hB⟩)
              · obtain ⟨hun, hall⟩ := ready_deps hmem (by rfl)
                have d18 : l18 = true := hall ⟨18, .data⟩ (by simp) rfl
                obtain ⟨d3, d5, d8, d11, d14, d17, rfl⟩ := h18.out d18
                obtain ⟨d2, rfl⟩ := h3.out d3
                obtain ⟨d4, rfl⟩ := h5.out d5
                obtain ⟨d7, a8, c8, rfl, t8⟩ := h8.out d8
                obtain ⟨d10, a11, c11, rfl, t11⟩ := h11.out d11
                obtain ⟨d13, a14, c14, rfl, t14⟩ := h14.out d14
                obtain ⟨d16, a17, c17, rfl, t17⟩ := h17.out d17
                have d6 := (h7.out d7).1
                have d9 := (h10.out d10).1
                have d12 := (h13.out d13).1
                have d15 := (h16.out d16).1
                subst d2 d3 d4 d5 d6 d7 d8 d9 d10 d11 d12 d13 d14 d15 d16 d17 d18
                refine wpOp_run (by rfl) (by rfl) fun K hK => ?_
                unfold Oper.wp; go_simp
                exact hK.out _ _ (.inr (.inl ⟨l0, l1, _, _, _, _, _, _, _, _, _, _, _, _, _, _, _, _, _, _, _, _, _, _, w1, ⟨s1, .slice a8 1 c8, .slice a11 0 c11, .slice a14 1 c14, .slice a17 1 c17⟩, rfl, rfl, h0, h1, rfl, rfl, hB, ⟨t8, t11, t14, t17⟩, rfl⟩))
              · obtain ⟨hun, hall⟩ := ready_deps hmem (by rfl)
                cases (show false = true from hall ⟨19, .data⟩ (by simp) rfl)
              · obtain ⟨hun, hall⟩ := ready_deps hmem (by rfl)
                cases (show false = true from hall ⟨19, .phase⟩ (by simp) rfl)
              · obtain ⟨hun, hall⟩ := ready_deps hmem (by rfl)
                cases (show false = true from hall ⟨21, .data⟩ (by simp) rfl)
            · obtain rfl | rfl | rfl | rfl | rfl | rfl | rfl | rfl | rfl | rfl | rfl | rfl | rfl | rfl | rfl | rfl | rfl | rfl | rfl | rfl | rfl | rfl | rfl := (by omega : i = 0 ∨ i = 1 ∨ i = 2 ∨ i = 3 ∨ i = 4 ∨ i = 5 ∨ i = 6 ∨ i = 7 ∨ i = 8 ∨ i = 9 ∨ i = 10 ∨ i = 11 ∨ i = 12 ∨ i = 13 ∨ i = 14 ∨ i = 15 ∨ i = 16 ∨ i = 17 ∨ i = 18 ∨ i = 19 ∨ i = 20 ∨ i = 21 ∨ i = 22)
              · refine wpOp_run (by rfl) (by rfl) fun K hK => ?_
                unfold Oper.wp; go_simp
                exact hK.out _ _ (.inr (.inl ⟨true, l1, _, _, _, _, _, _, _, _, _, _, _, _, _, _, _, _, _, _, _, _, _, _, W, s, rfl, rfl, (shut fun _ => rfl), (shut fun h => ⟨rfl, (h1.out h).2⟩), hs, rfl, hB, hO, rfl⟩))
              · obtain ⟨hun, hall⟩ := ready_deps hmem (by rfl)
                have d0 : l0 = true := hall ⟨0, .data⟩ (by simp) rfl
                obtain rfl := h0.out d0
                have e4 := ((hNY.step hB).step (bel_alloc W (.cells #[.string ⟨⟨s.sid⟩⟩, .bool false, s.u, s.g, s.a, s.r] 31))).cell4
                refine wpOp_run (by rfl) (by rfl) fun K hK => ?_
                unfold Oper.wp; go_simp
                exact hK.out _ _ (.inr (.inl ⟨l0, true, _, _, _, _, _, _, _, _, _, _, _, _, _, _, _, _, _, _, _, _, _, _, W, s, rfl, rfl, h0, (shut fun _ => ⟨d0, rfl⟩), hs, rfl, hB, hO, rfl⟩))
              · cases (show true = false from (mem_ready.1 hmem).1)
              · cases (show true = false from (mem_ready.1 hmem).1)
              · cases (show true = false from (mem_ready.1 hmem).1)
              · cases (show true = false from (mem_ready.1 hmem).1)
              · cases (show true = false from (mem_ready.1 hmem).1)
              · cases (show true = false from (mem_ready.1 hmem).1)
              · cases (show true = false from (mem_ready.1 hmem).1)
              · cases (show true = false from (mem_ready.1 hmem).1)
              · cases (show true = false from (mem_ready.1 hmem).1)
              · cases (show true = false from (mem_ready.1 hmem).1)
              · cases (show true = false from (mem_ready.1 hmem).1)
              · cases (show true = false from (mem_ready.1 hmem).1)
              · cases (show true = false from (mem_ready.1 hmem).1)
              · cases (show true = false from (mem_ready.1 hmem).1)
              · cases (show true = false from (mem_ready.1 hmem).1)
              · cases (show true = false from (mem_ready.1 hmem).1)
              · cases (show true = false from (mem_ready.1 hmem).1)
              · cases (show true = false from (mem_ready.1 hmem).1)
              · obtain ⟨hun, hall⟩ := ready_deps hmem (by rfl)
                have d1 : l1 = true := hall ⟨1, .data⟩ (by simp) rfl
                obtain ⟨d0, rfl⟩ := h1.out d1
                subst d0 d1
                have hone := one_cells hO
                have hM := hNY.step hB
                refine wpOp_run (by rfl) (by rfl) fun K hK => ?_
                refine wp_append_lies _ _ _ _ (by rfl) (C + 1) 31 i0 _ 6 120 Tryz.underlying24 hi hz0 hz1 hz2 rfl (by decide) (.slice ad done.length cp) done.length (flatS done) (by rfl) (hM.step (bel_alloc W _)).own ⟨W.heap.size, 0, none⟩ 1 1 s.cells (by rfl) (by rfl) (st_news W s) hone (by decide) (by unfold maxLen; omega) (by omega) (Nat.le_trans hM.lt (bel_alloc _ _).size) (W.heap.size + 1) (alloc_sz rfl _) ?_
                intro g cp' w6 hown6 hgrow6 hat6 hlt6
                exact hK.out _ _ (.inr (.inr (.inl ⟨false, _, _, _, _, _, _, _, _, _, _, _, _, _, _, _, _, _, _, _, _, _, _, W, s, g, cp', rfl, rfl, (shut fun h => by cases h), hs, hB, hO, rfl, hgrow6, hown6⟩)))
              · obtain ⟨hun, hall⟩ := ready_deps hmem (by rfl)
                cases (show false = true from hall ⟨20, .phase⟩ (by simp) rfl)
              · obtain ⟨hun, hall⟩ := ready_deps hmem (by rfl)
                cases (show false = true from hall ⟨21, .data⟩ (by simp) rfl)
            · obtain rfl | rfl | rfl | rfl | rfl | rfl | rfl | rfl | rfl | rfl | rfl | rfl | rfl | rfl | rfl | rfl | rfl | rfl | rfl | rfl | rfl | rfl | rfl := (by omega : i = 0 ∨ i = 1 ∨ i = 2 ∨ i = 3 ∨ i = 4 ∨ i = 5 ∨ i = 6 ∨ i = 7 ∨ i = 8 ∨ i = 9 ∨ i = 10 ∨ i = 11 ∨ i = 12 ∨ i = 13 ∨ i = 14 ∨ i = 15 ∨ i = 16 ∨ i = 17 ∨ i = 18 ∨ i = 19 ∨ i = 20 ∨ i = 21 ∨ i = 22)
              · cases (show true = false from (mem_ready.1 hmem).1)
              · cases (show true = false from (mem_ready.1 hmem).1)
              · cases (show true = false from (mem_ready.1 hmem).1)
              · cases (show true = false from (mem_ready.1 hmem).1)
              · cases (show true = false from (mem_ready.1 hmem).1)
              · cases (show true = false from (mem_ready.1 hmem).1)
              · cases (show true = false from (mem_ready.1 hmem).1)
              · cases (show true = false from (mem_ready.1 hmem).1)
              · cases (show true = false from (mem_ready.1 hmem).1)
              · cases (show true = false from (mem_ready.1 hmem).1)
              · cases (show true = false from (mem_ready.1 hmem).1)
              · cases (show true = false from (mem_ready.1 hmem).1)
              · cases (show true = false from (mem_ready.1 hmem).1)
              · cases (show true = false from (mem_ready.1 hmem).1)
              · cases (show true = false from (mem_ready.1 hmem).1)
              · cases (show true = false from (mem_ready.1 hmem).1)
              · cases (show true = false from (mem_ready.1 hmem).1)
              · cases (show true = false from (mem_ready.1 hmem).1)
              · cases (show true = false from (mem_ready.1 hmem).1)
              · cases (show true = false from (mem_ready.1 hmem).1)
              · cases (show true = false from (mem_ready.1 hmem).1)
              · refine wpOp_run (by rfl) (by rfl) fun K hK => ?_
                unfold Oper.wp; go_simp
                exact hK.out _ _ (.inr (.inr (.inl ⟨true, _, _, _, _, _, _, _, _, _, _, _, _, _, _, _, _, _, _, _, _, _, _, W, s, g, cp', rfl, rfl, (shut fun _ => rfl), hs, hB, hO, rfl, hG, hR⟩)))
              · obtain ⟨hun, hall⟩ := ready_deps hmem (by rfl)
                have d21 : l21 = true := hall ⟨21, .data⟩ (by simp) rfl
                obtain rfl := h21.out d21
                have hM := hNY.step hB
                have hC6 := (hG.block C ((hM.step (bel_alloc W (.cells #[.string ⟨⟨s.sid⟩⟩, .bool false, s.u, s.g, s.a, s.r] 31))).lt) fun e => absurd (hrow C e.symm).1 (Nat.lt_irrefl C)).trans (hM.step (bel_alloc W (.cells #[.string ⟨⟨s.sid⟩⟩, .bool false, s.u, s.g, s.a, s.r] 31))).blk
                have e6 : w1.cell? ⟨C, 4, none⟩ = some (.slice ad done.length cp) := by rw [Lib.cell_of_heap hC6]; rfl
                have f6 : w1.frozen? ⟨C, 4, none⟩ = false := by unfold World.frozen?; rw [hC6]; rfl
                refine wpOp_run (by rfl) (by rfl) fun K hK => ?_
                unfold Oper.wp; go_simp
                exact hK.out _ _ (.inr (.inr (.inr ⟨_, _, _, _, _, _, _, _, _, _, _, _, _, _, _, _, _, _, _, _, _, _, s, g, cp', by rw [d21]; rfl, rfl, hs, Sc.set hCX (Bel.trans (Bel.trans hsY (hB.mono hsY.size)) (bel_grow (Nat.le_trans hsY.size hB.size) hG (fun q hq => by have := hrow q hq; omega))), hM.push hO hG hR⟩)))
            · obtain rfl | rfl | rfl | rfl | rfl | rfl | rfl | rfl | rfl | rfl | rfl | rfl | rfl | rfl | rfl | rfl | rfl | rfl | rfl | rfl | rfl | rfl | rfl := (by omega : i = 0 ∨ i = 1 ∨ i = 2 ∨ i = 3 ∨ i = 4 ∨ i = 5 ∨ i = 6 ∨ i = 7 ∨ i = 8 ∨ i = 9 ∨ i = 10 ∨ i = 11 ∨ i = 12 ∨ i = 13 ∨ i = 14 ∨ i = 15 ∨ i = 16 ∨ i = 17 ∨ i = 18 ∨ i = 19 ∨ i = 20 ∨ i = 21 ∨ i = 22)
              · cases (show true = false from (mem_ready.1 hmem).1)
              · cases (show true = false from (mem_ready.1 hmem).1)
              · cases (show true = false from (mem_ready.1 hmem).1)
              · cases (show true = false from (mem_ready.1 hmem).1)
              · cases (show true = false from (mem_ready.1 hmem).1)
              · cases (show true = false from (mem_ready.1 hmem).1)
              · cases (show true = false from (mem_ready.1 hmem).1)
              · cases (show true = false from (mem_ready.1 hmem).1)
              · cases (show true = false from (mem_ready.1 hmem).1)
              · cases (show true = false from (mem_ready.1 hmem).1)
              · cases (show true = false from (mem_ready.1 hmem).1)
              · cases (show true = false from (mem_ready.1 hmem).1)
              · cases (show true = false from (mem_ready.1 hmem).1)
              · cases (show true = false from (mem_ready.1 hmem).1)
              · cases (show true = false from (mem_ready.1 hmem).1)
              · cases (show true = false from (mem_ready.1 hmem).1)
              · cases (show true = false from (mem_ready.1 hmem).1)
              · cases (show true = false from (mem_ready.1 hmem).1)
              · cases (show true = false from (mem_ready.1 hmem).1)
              · cases (show true = false from (mem_ready.1 hmem).1)
              · cases (show true = false from (mem_ready.1 hmem).1)
              · cases (show true = false from (mem_ready.1 hmem).1)
              · cases (show true = false from (mem_ready.1 hmem).1)
          · rintro listed a1 w1 hJ hall
            rcases hJ with ⟨l0, l1, l2, l3, l4, l5, l6, l7, l8, l9, l10, l11, l12, l13, l14, l15, l16, l17, l18, v46, v47, v48, v49, v50, v51, v52, v53, v54, v55, v56, v57, v58, v59, v60, v61, v62, v63, v64, v65, v66, v67, rfl, rfl, h0, h1, h2, h3, h4, h5, h6, h7, h8, h9, h10, h11, h12, h13, h14, h15, h16, h17, h18, hB⟩ | ⟨l0, l1, v46, v47, v48, v49, v50, v51, v52, v53, v54, v55, v56, v57, v58, v59, v60, v61, v62, v63, v64, v65, v66, v67, W, s, rfl, rfl, h0, h1, hs, rfl, hB, hO, rfl⟩ | ⟨l21, v46, v47, v48, v49, v50, v51, v52, v53, v54, v55, v56, v57, v58, v59, v60, v61, v62, v63, v64, v65, v66, v67, W, s, g, cp', rfl, rfl, h21, hs, hB, hO, rfl, hG, hR⟩ | ⟨v46, v47, v48, v49, v50, v51, v52, v53, v54, v55, v56, v57, v58, v59, v60, v61, v62, v63, v64, v65, v66, v67, s, g, cp', rfl, rfl, hs, hS, hM⟩
            · cases (show false = true from hall 19 (by decide))
            · cases (show false = true from hall 20 (by decide))
            · cases (show false = true from hall 22 (by decide))
            · go_wp2
              go_simp
              have hjl2 : done.length + 1 ≤ rows.length := hjl
              have hsd2 := sid_end hsd hs
              exact ⟨⟨done.length + 1, by simp, hjl, done ++ [s], ⟨_, _, hM⟩, by simp, by rw [hsd2, List.map_take]⟩, by simp [iOf]; omega⟩
        · have hj1 : ¬ (done.length : Int) < (rows.length : Int) := by omega
          have hds2 : done.map SM.sid = rows.map SM.sid := by rw [hds, List.take_of_length_le (by omega)]
          have hRd := hR.of hds2
          have hdl : done.length ≤ 19 := by omega
          have kB2 : wr.heap[w.heap.size]? = some (.cells #[vu, va, vr, .slice ag 0 cg, .slice ar rows.length cr, .slice ab 0 cb] 27 (0, 0)) := (hsq.block _ (by omega)).trans k0
          have d5 : wr.cell? ⟨w.heap.size, 5, none⟩ = some (.slice ab 0 cb) := by rw [Lib.cell_of_heap kB2]; rfl
          go_wp2
          go_loopw [72] (fun i wv => i = .int .i64 0 ∧ wv = wr) (fun _ _ => 0)
          case atStart => exact ⟨rfl, rfl⟩
          case round =>
            obtain ⟨rfl, rfl⟩ := hrel
            have b3 : wr.cell? ⟨C, 3, none⟩ = some (.slice none 0 0) := by rw [Lib.cell_of_heap hNq.blk]; rfl
            have b4 := hNq.cell4
            have b5 : wr.cell? ⟨C, 5, none⟩ = some (.slice none 0 0) := by rw [Lib.cell_of_heap hNq.blk]; rfl
            have s21 := sort21 (cp := cp) hNq.own.at hRd hdl
            go_wp2_with (first
              | (go_at_call 18; refine (sort18 none 0 _ _).mono ?_; rintro e w1 ⟨rfl, rfl⟩)
              | (go_at_call 21; refine s21.mono ?_; rintro e w2 ⟨rfl, hb2⟩; have N1 := hNq.step hb2; have g3 : w2.cell? ⟨C, 3, none⟩ = some (.slice none 0 0) := (by rw [Lib.cell_of_heap N1.blk]; rfl); have g5 : w2.cell? ⟨C, 5, none⟩ = some (.slice none 0 0) := (by rw [Lib.cell_of_heap N1.blk]; rfl); have g4 := N1.cell4; have ff3 : w2.frozen? ⟨C, 3, none⟩ = false := (by unfold World.frozen?; rw [N1.blk]; rfl))
              | (go_at_call 26; refine (sort26 none 0 _ _).mono ?_; rintro e w3 ⟨rfl, rfl⟩)
              | (go_at_call 28; refine (compact28 none 0 _ _).mono ?_; rintro e w4 ⟨rfl, rfl⟩; have N2 := N1.put3; have l4 := N2.cell4; have s30 := compact30 (cp := cp) N2.own.at hRd (Nat.le_trans hdl (by decide)))
              | (go_at_call 30; refine s30.mono ?_; rintro e w5 ⟨rfl, hb5⟩; have N3 := N2.step hb5; have p4 := N3.cell4; have ff4 : w5.frozen? ⟨C, 4, none⟩ = false := (by unfold World.frozen?; rw [N3.blk]; rfl); have N4 := N3.put4; have p5 : (w5.setCell ⟨C, 4, none⟩ (.slice ad done.length cp)).cell? ⟨C, 5, none⟩ = some (.slice none 0 0) := (by rw [Lib.cell_of_heap N4.blk]; rfl); have ff5 : (w5.setCell ⟨C, 4, none⟩ (.slice ad done.length cp)).frozen? ⟨C, 5, none⟩ = false := (by unfold World.frozen?; rw [N4.blk]; rfl))
              | (go_at_call 32; refine (compact32 none 0 _ _).mono ?_; rintro e w6 ⟨rfl, rfl⟩; have N5 := N4.put5; have q0 : ((w5.setCell ⟨C, 4, none⟩ (.slice ad done.length cp)).setCell ⟨C, 5, none⟩ (.slice none 0 0)).cell? ⟨C, 0, none⟩ = some (.slice adx (onceM us).length cpx) := (by rw [Lib.cell_of_heap N5.blk]; rfl); have q1 : ((w5.setCell ⟨C, 4, none⟩ (.slice ad done.length cp)).setCell ⟨C, 5, none⟩ (.slice none 0 0)).cell? ⟨C, 1, none⟩ = some (.slice ady (onceM ls).length cpy) := (by rw [Lib.cell_of_heap N5.blk]; rfl); have q2 : ((w5.setCell ⟨C, 4, none⟩ (.slice ad done.length cp)).setCell ⟨C, 5, none⟩ (.slice none 0 0)).cell? ⟨C, 2, none⟩ = some (.slice adz (onceM rs).length cpz) := (by rw [Lib.cell_of_heap N5.blk]; rfl); have q3 : ((w5.setCell ⟨C, 4, none⟩ (.slice ad done.length cp)).setCell ⟨C, 5, none⟩ (.slice none 0 0)).cell? ⟨C, 3, none⟩ = some (.slice none 0 0) := (by rw [Lib.cell_of_heap N5.blk]; rfl); have q4 : ((w5.setCell ⟨C, 4, none⟩ (.slice ad done.length cp)).setCell ⟨C, 5, none⟩ (.slice none 0 0)).cell? ⟨C, 4, none⟩ = some (.slice ad done.length cp) := (by rw [Lib.cell_of_heap N5.blk]; rfl); have q5 : ((w5.setCell ⟨C, 4, none⟩ (.slice ad done.length cp)).setCell ⟨C, 5, none⟩ (.slice none 0 0)).cell? ⟨C, 5, none⟩ = some (.slice none 0 0) := (by rw [Lib.cell_of_heap N5.blk]; rfl); have kT := (N5.bel.block (w.heap.size + 1) (by omega)).trans ((hsc.block (w.heap.size + 1) (by omega)).trans k1); obtain ⟨_, z0, z1, z2, z3, z4, z5, f0, f1, f2, f3, f4, f5⟩ := newC (Bel.refl _ _) kT))
            obtain ⟨kz, gz⟩ := put6 (.slice adx (onceM us).length cpx) (.slice ady (onceM ls).length cpy) (.slice adz (onceM rs).length cpz) (.slice none 0 0) (.slice ad done.length cp) (.slice none 0 0) kT
            have h9 : ∀ (E : TypeId), E ≠ 27 → ∀ (k : Nat) (cur : Array Value), _ = some (Obj.cells cur E (0, 0)) → _ := fun E hE k cur hk => gz.block k (Array.getElem?_eq_some_iff.1 hk).1 fun e => by cases e; rw [kT] at hk; cases hk; exact hE rfl
            refine bodyPost_ret (results_cell_row (by rfl) _ _ (w.heap.size + 1) 27 _ (0, 0) _ (by rfl) kz Tryz.underlying27 (by rfl) size27) (by rfl) ⟨_, _, _, ad, cp, done, rfl, ⟨?_, own_keep N5.u (h9 9 (by decide)), own_keep N5.a (h9 9 (by decide)), own_keep N5.r (h9 9 (by decide)), own_low (own_keep N5.own (h9 31 (by decide))) (by omega), hds2, fun s hs => (N5.ok s hs).step (h9 9 (by decide))⟩⟩
            exact (hb.trans ((Bel.trans hsc (N5.bel.mono hCX)).mono hwX)).trans ⟨gz.os, gz.output, gz.size, fun k hk => gz.block k (by have := N5.lt; omega) fun e => by cases e; omega⟩
end Go.Fbs

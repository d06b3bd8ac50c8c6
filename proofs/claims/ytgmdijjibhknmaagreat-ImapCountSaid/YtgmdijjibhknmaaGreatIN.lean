/- imap.Count, walked. -/
import Derived.Test.YtgmdijjibhknmaaGreatIM
import Derived.Test.YtgmdijjibhknmaaGreatIN0
set_option linter.unusedVariables false
set_option linter.unusedSimpArgs false
set_option maxRecDepth 100000
namespace Go.Fbs
open Go.Proofs Go.RowKit Go.Maps
variable {w w' : World}
theorem keep6 {X w' : World} {B : Nat} {E : TypeId} {a b c d e f : Value} (h : X.heap[B]? = some (.cells #[a, b, c, d, e, f] E (0, 0))) (hs : Sc X w') :
    w'.cell? ⟨B, 0, none⟩ = some a ∧ w'.cell? ⟨B, 1, none⟩ = some b ∧ w'.cell? ⟨B, 2, none⟩ = some c ∧ w'.cell? ⟨B, 3, none⟩ = some d ∧ w'.cell? ⟨B, 4, none⟩ = some e ∧ w'.cell? ⟨B, 5, none⟩ = some f ∧ Sc X w' := by
  have h2 : w'.heap[B]? = some (.cells #[a, b, c, d, e, f] E (0, 0)) := (hs.block B (Array.getElem?_eq_some_iff.1 h).1).trans h
  exact ⟨by rw [Lib.cell_of_heap h2]; rfl, by rw [Lib.cell_of_heap h2]; rfl, by rw [Lib.cell_of_heap h2]; rfl, by rw [Lib.cell_of_heap h2]; rfl, by rw [Lib.cell_of_heap h2]; rfl, by rw [Lib.cell_of_heap h2]; rfl, hs⟩
theorem keep12 {X w' : World} {B H : Nat} {E F : TypeId} {a b c d e f a2 b2 c2 d2 e2 f2 : Value} (h : X.heap[B]? = some (.cells #[a, b, c, d, e, f] E (0, 0))) (h2 : X.heap[H]? = some (.cells #[a2, b2, c2, d2, e2, f2] F (0, 0))) (hs : Sc X w') :
    w'.cell? ⟨B, 0, none⟩ = some a ∧ w'.cell? ⟨B, 1, none⟩ = some b ∧ w'.cell? ⟨B, 2, none⟩ = some c ∧ w'.cell? ⟨B, 3, none⟩ = some d ∧ w'.cell? ⟨B, 4, none⟩ = some e ∧ w'.cell? ⟨B, 5, none⟩ = some f ∧
    w'.cell? ⟨H, 0, none⟩ = some a2 ∧ w'.cell? ⟨H, 1, none⟩ = some b2 ∧ w'.cell? ⟨H, 2, none⟩ = some c2 ∧ w'.cell? ⟨H, 3, none⟩ = some d2 ∧ w'.cell? ⟨H, 4, none⟩ = some e2 ∧ w'.cell? ⟨H, 5, none⟩ = some f2 ∧ Sc X w' := by
  obtain ⟨q0, q1, q2, q3, q4, q5, _⟩ := keep6 h hs
  obtain ⟨r0, r1, r2, r3, r4, r5, _⟩ := keep6 h2 hs
  exact ⟨q0, q1, q2, q3, q4, q5, r0, r1, r2, r3, r4, r5, hs⟩
theorem own6 {W : World} {B : Nat} {a b c d e f : Value} (h : W.heap[B]? = some (.cells #[a, b, c, d, e, f] 27 (0, 0))) :
    W.cell? ⟨B, 0, none⟩ = some a ∧ W.cell? ⟨B, 1, none⟩ = some b ∧ W.cell? ⟨B, 2, none⟩ = some c ∧ W.cell? ⟨B, 3, none⟩ = some d ∧ W.cell? ⟨B, 4, none⟩ = some e ∧ W.cell? ⟨B, 5, none⟩ = some f ∧
    W.frozen? ⟨B, 0, none⟩ = false ∧ W.frozen? ⟨B, 1, none⟩ = false ∧ W.frozen? ⟨B, 2, none⟩ = false ∧ W.frozen? ⟨B, 3, none⟩ = false ∧ W.frozen? ⟨B, 4, none⟩ = false ∧ W.frozen? ⟨B, 5, none⟩ = false := by
  obtain ⟨q0, q1, q2, q3, q4, q5, _⟩ := keep6 (X := W) (w' := W) h Sc.refl
  exact ⟨q0, q1, q2, q3, q4, q5, (by unfold World.frozen?; rw [h]; rfl), (by unfold World.frozen?; rw [h]; rfl), (by unfold World.frozen?; rw [h]; rfl), (by unfold World.frozen?; rw [h]; rfl), (by unfold World.frozen?; rw [h]; rfl), (by unfold World.frozen?; rw [h]; rfl)⟩
theorem put6w {W : World} {b : Nat} {a0 a1 a2 a3 a4 a5 : Value} (x y z p q r : Value) (h : W.heap[b]? = some (.cells #[a0, a1, a2, a3, a4, a5] 27 (0, 0))) :
    ((((((W.setCell ⟨b, 0, none⟩ x).setCell ⟨b, 1, none⟩ y).setCell ⟨b, 2, none⟩ z).setCell ⟨b, 3, none⟩ p).setCell ⟨b, 4, none⟩ q).setCell ⟨b, 5, none⟩ r).heap[b]? = some (.cells #[x, y, z, p, q, r] 27 (0, 0)) ∧ W.grownBy ((((((W.setCell ⟨b, 0, none⟩ x).setCell ⟨b, 1, none⟩ y).setCell ⟨b, 2, none⟩ z).setCell ⟨b, 3, none⟩ p).setCell ⟨b, 4, none⟩ q).setCell ⟨b, 5, none⟩ r) (some b) := by
  refine ⟨?_, ((((((set_grown b 0 x).trans (set_grown b 1 y)).trans (set_grown b 2 z)).trans (set_grown b 3 p)).trans (set_grown b 4 q)).trans (set_grown b 5 r))⟩
  exact (set_here 5 _ (set_here 4 _ (set_here 3 _ (set_here 2 _ (set_here 1 _ (set_here 0 _ h))))))
theorem wrap64Z {z : Int} (h0 : 0 ≤ z) (h1 : z ≤ 9223372036854775807) : wrap64 z = z := by
  unfold wrap64; omega
theorem free_any {us : List B8} {vu va vr vg vs : Value} {ab : Option Addr} {cb : Nat} (h : TxAt w vu us) (hz : ∀ p ∈ us, p.length ≤ 100000) (hlen : us.length ≤ 100000) :
    Calls Tryz.prog 8 #[.agg #[vu, va, vr, vg, vs, .slice ab 0 cb]] w fun e w' => ∃ ad c, e = .returned (.slice ad us.length c) ∧ Bel w.heap.size w w' := by
  by_cases h0 : us = []
  · subst h0
    exact (free_none h).mono (by rintro e w1 ⟨⟨ad, c, rfl⟩, hb⟩; exact ⟨ad, c, rfl, hb⟩)
  · exact (free_walk h h0 hz hlen).mono (by rintro e w1 ⟨v, rfl, ho, hb⟩; obtain ⟨ad, c, rfl⟩ := own_form ho; exact ⟨ad, c, rfl, hb⟩)
set_option maxHeartbeats 1600000 in
theorem count_walk {us ls rs : List B8} {au al ak ag ar ab : Option Addr} {cu cl ck cg cr cb : Nat} {rows : List SM} (hu : TxAt w (.slice au us.length cu) us) (ha : TxAt w (.slice al ls.length cl) ls) (hr : TxAt w (.slice ak rs.length ck) rs) (hst : StAt w ar rows) (hR : Rise rows) (hn : rows.length ≤ 7)
    (h4 : ∀ s ∈ rows, TxAt w s.u [[117]] ∧ TxAt w s.g [] ∧ TxAt w s.a [[42]] ∧ TxAt w s.r [[42]]) (nu : us.length ≤ 1) (na : ls.length ≤ 511) (nr : rs.length ≤ 511) (ou : onceM us = us) (ol : onceM ls = ls) (ow : onceM rs = rs) (hz : ∀ p ∈ us, p.length ≤ 100000) :
    Calls Tryz.prog 5 #[.agg #[.slice au us.length cu, .slice al ls.length cl, .slice ak rs.length ck, .slice ag 0 cg, .slice ar rows.length cr, .slice ab 0 cb]] w fun e w' => e = .returned (.int .i64 ((us.length + ls.length + rs.length + us.length + ls.length * rs.length + rows.length * (4 + ls.length * rs.length) : Nat) : Int)) ∧ Bel w.heap.size w w' := by
  obtain ⟨X, hX⟩ : ∃ X, X = w.alloc (.cells #[.slice au us.length cu, .slice al ls.length cl, .slice ak rs.length ck, .slice ag 0 cg, .slice ar rows.length cr, .slice ab 0 cb] 27) := ⟨_, rfl⟩
  have k0 : X.heap[w.heap.size]? = some (.cells #[.slice au us.length cu, .slice al ls.length cl, .slice ak rs.length ck, .slice ag 0 cg, .slice ar rows.length cr, .slice ab 0 cb] 27 (0, 0)) := by rw [hX]; exact heap_alloc_new _ _
  have hb : Bel w.heap.size w X := by rw [hX]; exact bel_alloc _ _
  have hwX : w.heap.size < X.heap.size := (Array.getElem?_eq_some_iff.1 k0).1
  have hnw := normal_walk (w := X) (ag := ag) (cg := cg) (cr := cr) (ab := ab) (cb := cb) (hu.bel hb) (ha.bel hb) (hr.bel hb) (hst.bel hb) hR (Nat.le_trans hn (by decide)) (fun s hs => ⟨(h4 s hs).1.bel hb, (h4 s hs).2.1.bel hb, (h4 s hs).2.2.1.bel hb, (h4 s hs).2.2.2.bel hb⟩) (Nat.le_trans nu (by decide)) (Nat.le_trans na (by decide)) (Nat.le_trans nr (by decide))
  obtain ⟨m0, m1, m2, m3, m4, m5, _⟩ := own6 k0
  go_enter Tryz.func5, Tryz.ntmps5
  go_wp2_with (go_at_call 7; rw [← hX]; refine hnw.mono ?_; rintro e w1 ⟨x, y, z, ad, cp, done, rfl, hN⟩; obtain ⟨ax, cx, rfl⟩ := own_form hN.u; obtain ⟨ay, cy, rfl⟩ := own_form hN.a; obtain ⟨az, cz, rfl⟩ := own_form hN.r; have hNu := hN.u; have hNa := hN.a; have hNr := hN.r; rw [ou] at hNu ⊢; rw [ol] at hNa ⊢; rw [ow] at hNr ⊢; have kT := (hN.bel.block w.heap.size hwX).trans k0; obtain ⟨n0, n1, n2, n3, n4, n5, f0, f1, f2, f3, f4, f5⟩ := own6 kT)
  obtain ⟨Z, hZ⟩ : ∃ Z, Z = ((((((w1.setCell ⟨w.heap.size, 0, none⟩ (.slice ax us.length cx)).setCell ⟨w.heap.size, 1, none⟩ (.slice ay ls.length cy)).setCell ⟨w.heap.size, 2, none⟩ (.slice az rs.length cz)).setCell ⟨w.heap.size, 3, none⟩ (.slice none 0 0)).setCell ⟨w.heap.size, 4, none⟩ (.slice ad done.length cp)).setCell ⟨w.heap.size, 5, none⟩ (.slice none 0 0)) := ⟨_, rfl⟩
  obtain ⟨kZ, gZ⟩ := put6w (.slice ax us.length cx) (.slice ay ls.length cy) (.slice az rs.length cz) (.slice none 0 0) (.slice ad done.length cp) (.slice none 0 0) kT
  rw [← hZ] at kZ gZ ⊢
  have h9 : ∀ (E : TypeId), E ≠ 27 → ∀ (k : Nat) (cur : Array Value), w1.heap[k]? = some (Obj.cells cur E (0, 0)) → Z.heap[k]? = w1.heap[k]? := fun E hE k cur hk => gZ.block k (Array.getElem?_eq_some_iff.1 hk).1 fun e => by cases e; rw [kT] at hk; cases hk; exact hE rfl
  have t1 := TxOwn.at (base := X.heap.size) (w := Z) (zs := us) (own_keep hNu (h9 9 (by decide)))
  have t2 := TxOwn.at (base := X.heap.size) (w := Z) (zs := ls) (own_keep hNa (h9 9 (by decide)))
  have t3 := TxOwn.at (base := X.heap.size) (w := Z) (zs := rs) (own_keep hNr (h9 9 (by decide)))
  have t4 := StOwn.at (base := X.heap.size) (w := Z) (rows := done) (own_keep hN.st (h9 31 (by decide)))
  have t5 : ∀ s ∈ done, Ok4 X.heap.size Z s := fun s hs => (hN.ok s hs).step (h9 9 (by decide))
  have hdn : done.length = rows.length := by have := congrArg List.length hN.sids; simpa using this
  have hbZ : Bel w.heap.size w Z := (hb.trans (hN.bel.mono (Nat.le_of_lt hwX))).trans ⟨gZ.os, gZ.output, gZ.size, fun k hk => gZ.block k (by have := hN.bel.size; omega) fun e => by cases e; omega⟩
  have hfr := free_any (w := Z.drew) (vu := .slice ax us.length cx) (va := .slice ay ls.length cy) (vr := .slice az rs.length cz) (vg := .slice none 0 0) (vs := .slice ad done.length cp) (ab := none) (cb := 0) (t1.bel ⟨rfl, rfl, Nat.le_refl _, fun _ _ => rfl⟩) hz (Nat.le_trans nu (by decide))
  clear hZ h9 hN hNu hNa hNr kT n0 n1 n2 n3 n4 n5 f0 f1 f2 f3 f4 f5 k0 m0 m1 m2 m3 m4 m5 hnw hu ha hr hst h4 hR hb hwX
  have hAR : ls.length * rs.length ≤ 511 * 511 := Nat.mul_le_mul na nr
  have hcA : done.length * (4 + ls.length * rs.length) ≤ 7 * (4 + 511 * 511) := Nat.mul_le_mul (by omega) (by omega)
  have hdn1 : rows.length ≤ done.length := by omega
  have hdn2 : done.length ≤ rows.length := by omega
  have hn7 : done.length ≤ 7 := by omega
  clear hdn hn
  generalize hA : ls.length * rs.length = AR at hAR hcA ⊢
  have hAI : (ls.length : Int) * (rs.length : Int) = (AR : Int) := by rw [← hA]; exact (Int.natCast_mul _ _).symm
  have e1 : IntKind.i64.wrap ((us.length : Int) + (ls.length : Int)) = (us.length : Int) + (ls.length : Int) := wrapZ (by omega) (by omega)
  have e2 : IntKind.i64.wrap ((us.length : Int) + (ls.length : Int) + (rs.length : Int)) = (us.length : Int) + (ls.length : Int) + (rs.length : Int) := wrapZ (by omega) (by omega)
  have e3 : IntKind.i64.wrap ((us.length : Int) + (ls.length : Int) + (rs.length : Int) + (us.length : Int)) = (us.length : Int) + (ls.length : Int) + (rs.length : Int) + (us.length : Int) := wrapZ (by omega) (by omega)
  have e4 : IntKind.i64.wrap (AR : Int) = (AR : Int) := wrapZ (by omega) (by omega)
  have e5 : IntKind.i64.wrap ((us.length : Int) + (ls.length : Int) + (rs.length : Int) + (us.length : Int) + (AR : Int)) = (us.length : Int) + (ls.length : Int) + (rs.length : Int) + (us.length : Int) + (AR : Int) := wrapZ (by omega) (by omega)
  have kB := kZ
  obtain ⟨p0, p1, p2, p3, p4, p5, _⟩ := own6 kZ
  go_cut [3] (fun s3 wx => s3 = .int .i64 ((us.length + ls.length + rs.length + us.length + AR : Nat) : Int) ∧ Sc Z wx)
  case first =>
    go_region_held3 (fun w' => w'.cell? ⟨w.heap.size, 0, none⟩ = some (.slice ax us.length cx) ∧ w'.cell? ⟨w.heap.size, 1, none⟩ = some (.slice ay ls.length cy) ∧ w'.cell? ⟨w.heap.size, 2, none⟩ = some (.slice az rs.length cz) ∧ w'.cell? ⟨w.heap.size, 3, none⟩ = some (.slice none 0 0) ∧ w'.cell? ⟨w.heap.size, 4, none⟩ = some (.slice ad done.length cp) ∧ w'.cell? ⟨w.heap.size, 5, none⟩ = some (.slice none 0 0) ∧ Sc Z w')
      (first
        | (refine keep6 kZ ?_; (with_reducible (repeat first | assumption | exact Sc.refl | refine Sc.alloc ?_ | refine Sc.drew ?_ | (refine Sc.call (by assumption) ?_)))))
      (first
        | (go_at_call 8; refine hfr.mono ?_; rintro e w2 ⟨af, cf, rfl, hb2⟩))
    all_goals
      go_wp2_with fail
      go_meet
      exact ⟨rfl, by (with_reducible (repeat first | assumption | exact Sc.refl | refine Sc.alloc ?_ | refine Sc.drew ?_ | (refine Sc.call (by assumption) ?_)))⟩
  case rest =>
    obtain ⟨rfl, hsc⟩ := hcut
    generalize hN0 : us.length + ls.length + rs.length + us.length + AR = N0
    have hN0b : N0 ≤ 262700 := by omega
    have hN1 : us.length + ls.length + rs.length + us.length + AR ≤ N0 := by omega
    have hN2 : N0 ≤ us.length + ls.length + rs.length + us.length + AR := by omega
    clear hN0 e1 e2 e3 e4 e5 p0 p1 p2 p3 p4 p5 hfr hAI
    have kW := (hsc.block _ (Array.getElem?_eq_some_iff.1 kB).1).trans kB
    obtain ⟨p0, p1, p2, p3, p4, p5, _⟩ := own6 kW
    go_wp2
    go_loopw [3, 38] (fun n i wr => n = .int .i64 (N0 : Int) ∧ i = .int .i64 0 ∧ wr = wc) (fun _ _ _ => 0)
    case atStart => exact ⟨rfl, rfl, rfl⟩
    case round =>
      obtain ⟨rfl, rfl, rfl⟩ := hrel
      go_wp2
      go_loopw [3, 52] (fun n i wq => ∃ j : Nat, j ≤ done.length ∧ n = .int .i64 ((N0 + j * (4 + AR) : Nat) : Int) ∧ i = .int .i64 j ∧ Sc Z wq) (fun _ i _ => done.length - (iOf i).toNat)
      case atStart => exact ⟨0, Nat.zero_le _, by simp, rfl, hsc⟩
      case round =>
        obtain ⟨j, hj, rfl, rfl, hsq⟩ := hrel
        have hjA : j * (4 + AR) ≤ 7 * (4 + AR) := Nat.mul_le_mul_right _ (by omega)
        by_cases hjl : j < done.length
        · have hj1 : (j : Int) < (done.length : Int) := by omega
          have hjz : (0 : Int) ≤ (j : Int) := by omega
          obtain ⟨s, hx⟩ : ∃ s, done[j]? = some s := ⟨_, List.getElem?_eq_getElem hjl⟩
          obtain ⟨b, off, had, hg⟩ := (t4.bel hsq).get
          obtain rfl := had (fun e => by rw [e] at hjl; simp at hjl)
          obtain ⟨x0, x1, x2, x3, x4, x5⟩ := hg j _ hx
          have ho := (t5 s (List.mem_of_getElem? hx)).bel hsq
          obtain ⟨s1, u1, g1, a1, r1⟩ := s
          have o1 := ho.u.at
          have o2 := ho.g.at
          have o3 := ho.a.at
          have o4 := ho.r.at
          dsimp only at x0 x1 x2 x3 x4 x5 o1 o2 o3 o4
          obtain ⟨ua, uc, rfl⟩ := o1.form (n := 1) rfl
          obtain ⟨ga, gc, rfl⟩ := o2.form (n := 0) rfl
          obtain ⟨aa, ac, rfl⟩ := o3.form (n := 1) rfl
          obtain ⟨ra, rc, rfl⟩ := o4.form (n := 1) rfl
          clear hg ho hx o1 o2
          go_wp2
          obtain ⟨Y, hY⟩ : ∃ Y, Y = wr.alloc (.cells #[.string ⟨⟨s1⟩⟩, .bool false, .slice ua 1 uc, .slice ga 0 gc, .slice aa 1 ac, .slice ra 1 rc] 31) := ⟨_, rfl⟩
          have hYs : wr.heap.size < Y.heap.size := by rw [hY, alloc_sz rfl _]; omega
          have kH : Y.heap[wr.heap.size]? = some (.cells #[.string ⟨⟨s1⟩⟩, .bool false, .slice ua 1 uc, .slice ga 0 gc, .slice aa 1 ac, .slice ra 1 rc] 31 (0, 0)) := by rw [hY]; exact heap_alloc_new _ _
          have hbwY : Bel wr.heap.size wr Y := by rw [hY]; exact bel_alloc _ _
          have hsY : Sc Z Y := Bel.trans hsq (hbwY.mono hsq.size)
          have hdY : Bel Z.heap.size Z Y.drew := ⟨hsY.os, hsY.output, hsY.size, hsY.block⟩
          have hdQ : Bel wr.heap.size wr Y.drew := ⟨hbwY.os, hbwY.output, hbwY.size, hbwY.block⟩
          have kY := (hsY.block _ (Array.getElem?_eq_some_iff.1 kB).1).trans kB
          have hsp := spread_walk (w := Y.drew) (vu := .slice ax us.length cx) (vg := .slice none 0 0) (vs := .slice (some ⟨b, off, none⟩) done.length cp) (vb := .slice none 0 0) (t2.bel hdY) (t3.bel hdY) (o3.bel hdQ) (o4.bel hdQ) (by intro p hp; simp at hp; subst hp; decide) (by intro p hp; simp at hp; subst hp; decide) (by decide) (by decide) (Nat.le_trans na (by decide)) (Nat.le_trans nr (by decide))
          rw [over_star, over_star, ol, ow, hA] at hsp
          have e6 : IntKind.i64.wrap (4 + (AR : Int)) = 4 + (AR : Int) := wrapZ (by omega) (by omega)
          have e7 : IntKind.i64.wrap (((N0 + j * (4 + AR) : Nat) : Int) + (4 + (AR : Int))) = ((N0 + (j + 1) * (4 + AR) : Nat) : Int) := by
            rw [wrapZ (by omega) (by omega), Nat.add_mul, Nat.one_mul]; omega
          have hm1 : ((N0 + (j + 1) * (4 + AR) : Nat) : Int) ≤ 2147483647 := by rw [Nat.add_mul, Nat.one_mul]; omega
          rw [← hY]
          clear hY x0 x1 x2 x3 x4 x5
          go_region_held3 (fun w' => w'.cell? ⟨w.heap.size, 0, none⟩ = some (.slice ax us.length cx) ∧ w'.cell? ⟨w.heap.size, 1, none⟩ = some (.slice ay ls.length cy) ∧ w'.cell? ⟨w.heap.size, 2, none⟩ = some (.slice az rs.length cz) ∧ w'.cell? ⟨w.heap.size, 3, none⟩ = some (.slice none 0 0) ∧ w'.cell? ⟨w.heap.size, 4, none⟩ = some (.slice (some ⟨b, off, none⟩) done.length cp) ∧ w'.cell? ⟨w.heap.size, 5, none⟩ = some (.slice none 0 0) ∧ w'.cell? ⟨wr.heap.size, 0, none⟩ = some (.string ⟨⟨s1⟩⟩) ∧ w'.cell? ⟨wr.heap.size, 1, none⟩ = some (.bool false) ∧ w'.cell? ⟨wr.heap.size, 2, none⟩ = some (.slice ua 1 uc) ∧ w'.cell? ⟨wr.heap.size, 3, none⟩ = some (.slice ga 0 gc) ∧ w'.cell? ⟨wr.heap.size, 4, none⟩ = some (.slice aa 1 ac) ∧ w'.cell? ⟨wr.heap.size, 5, none⟩ = some (.slice ra 1 rc) ∧ Sc Y w')
            (first
              | (refine keep12 kY kH ?_; (with_reducible (repeat first | assumption | exact Sc.refl | refine Sc.alloc ?_ | refine Sc.drew ?_ | (refine Sc.call (by assumption) ?_)))))
            (first
              | (go_at_call 9; refine hsp.mono ?_; rintro e w2 ⟨rfl, hb2⟩))
          all_goals
            go_wp2
            refine ⟨⟨j + 1, hjl, ?_, by simp, Bel.trans hsY (Bel.mono (bel_of_drew hb2) hsY.size)⟩, by simp [iOf]; omega⟩
            congr 1
            have hq : (j : Int) * (4 + (AR : Int)) = ((j * (4 + AR) : Nat) : Int) := by rw [Int.natCast_mul, Int.natCast_add]; rfl
            rw [hq, wrap64Z (by omega) (by omega)]
            rw [Nat.add_mul, Nat.one_mul] at hm1 ⊢
            omega
        · have hj1 : ¬ (j : Int) < (done.length : Int) := by omega
          obtain rfl : j = done.length := by omega
          have kR := (hsq.block _ (Array.getElem?_eq_some_iff.1 kB).1).trans kB
          obtain ⟨_, _, _, _, _, r5, _⟩ := own6 kR
          have hm1 : ((N0 + done.length * (4 + AR) : Nat) : Int) ≤ 2147483647 := by omega
          go_wp2
          go_loopw [3, 87] (fun n i wv => n = .int .i64 ((N0 + done.length * (4 + AR) : Nat) : Int) ∧ i = .int .i64 0 ∧ wv = wr) (fun _ _ _ => 0)
          case atStart => exact ⟨rfl, rfl, rfl⟩
          case round =>
            obtain ⟨rfl, rfl, rfl⟩ := hrel
            go_wp2
            go_ret
            refine ⟨?_, hbZ.trans (Bel.mono hsq hbZ.size)⟩
            have hrd : rows.length = done.length := by omega
            have hq : (done.length : Int) * (4 + (AR : Int)) = ((done.length * (4 + AR) : Nat) : Int) := by rw [Int.natCast_mul, Int.natCast_add]; rfl
            show Ending.returned (.int .i64 (min ((N0 : Int) + (done.length : Int) * (4 + (AR : Int))) 2147483647)) = _
            have hN0 : us.length + ls.length + rs.length + us.length + AR = N0 := by omega
            rw [hrd, hA, hN0, hq]
            congr 2
            omega
end Go.Fbs

/- imap.spread, walked. -/
import Derived.Test.YtgmdijjibhknmaaGreatIF
set_option linter.unusedVariables false
set_option linter.unusedSimpArgs false
set_option maxRecDepth 100000
namespace Go.Fbs
open Go.Proofs Go.RowKit Go.Maps
variable {w w' : World}
theorem once_len (zs : List B8) : (onceM zs).length ≤ zs.length := by
  unfold onceM
  have := compact_len (zs.mergeSort fun x y => decide (x ≤ y))
  rw [List.length_mergeSort] at this
  exact this
theorem over_len (ps ns : List B8) : (overM ps ns).length ≤ ns.length := Nat.le_trans (once_len _) (List.length_filter_le _ _)
theorem wrapZ {z : Int} (h0 : 0 ≤ z) (h1 : z ≤ 9223372036854775807) : IntKind.i64.wrap z = z := by
  simp [IntKind.wrap, IntKind.signed, IntKind.bits]; omega
set_option maxHeartbeats 1600000 in
theorem spread_walk {vu va vr vg vs vb v1 v2 : Value} {la lr pa pr : List B8} (ha : TxAt w va la) (hr : TxAt w vr lr) (h1 : TxAt w v1 pa) (h2 : TxAt w v2 pr) (z1 : ∀ p ∈ pa, p.length ≤ 100000) (z2 : ∀ p ∈ pr, p.length ≤ 100000)
    (n1 : pa.length ≤ 100000) (n2 : pr.length ≤ 100000) (n3 : la.length ≤ 100000) (n4 : lr.length ≤ 100000) :
    Calls Tryz.prog 9 #[.agg #[vu, va, vr, vg, vs, vb], v1, v2] w fun e w' => e = .returned (.int .i64 ((((overM pa la).length * (overM pr lr).length : Nat)) : Int)) ∧ Bel w.heap.size w w' := by
  have hb0 := bel_alloc w (.cells #[vu, va, vr, vg, vs, vb] 27)
  have o1 := over_len pa la
  have o2 := over_len pr lr
  have hbd : Bel w.heap.size w (w.alloc (.cells #[vu, va, vr, vg, vs, vb] 27)).drew := ⟨hb0.os, hb0.output, hb0.size, hb0.block⟩
  have k0 : (w.alloc (.cells #[vu, va, vr, vg, vs, vb] 27)).drew.heap[w.heap.size]? = some (.cells #[vu, va, vr, vg, vs, vb] 27 (0, 0)) := heap_alloc_new _ _
  have y1 : (w.alloc (.cells #[vu, va, vr, vg, vs, vb] 27)).cell? ⟨w.heap.size, 1, none⟩ = some va := by rw [Lib.cell_of_heap (heap_alloc_new w (.cells #[vu, va, vr, vg, vs, vb] 27))]; rfl
  have y2 : (w.alloc (.cells #[vu, va, vr, vg, vs, vb] 27)).cell? ⟨w.heap.size, 2, none⟩ = some vr := by rw [Lib.cell_of_heap (heap_alloc_new w (.cells #[vu, va, vr, vg, vs, vb] 27))]; rfl
  have c1 := over_walk (w := (w.alloc (.cells #[vu, va, vr, vg, vs, vb] 27)).drew) (h1.bel hbd) (ha.bel hbd) z1 n1 n3
  have hsz0 : w.heap.size < (w.alloc (.cells #[vu, va, vr, vg, vs, vb] 27)).drew.heap.size := (Array.getElem?_eq_some_iff.1 k0).1
  have hm : (overM pa la).length * (overM pr lr).length ≤ 100000 * 100000 := Nat.mul_le_mul (by omega) (by omega)
  have hmI : ((overM pa la).length : Int) * ((overM pr lr).length : Int) ≤ 9223372036854775807 := by
    rw [← Int.natCast_mul]; omega
  have hmJ : (0 : Int) ≤ ((overM pa la).length : Int) * ((overM pr lr).length : Int) := by
    rw [← Int.natCast_mul]; omega
  have hw := wrapZ hmJ hmI
  go_enter Tryz.func9, Tryz.ntmps9
  go_wp2
  go_region_law (first
    | (go_simp; go_at_call 37; refine c2.mono ?_; rintro e w2 ⟨u2, rfl, ho2, hb2⟩; obtain ⟨ad2, cp2, rfl⟩ := own_form ho2)
    | (go_simp; go_at_call 37; refine c1.mono ?_; rintro e w1 ⟨u1, rfl, ho1, hb1⟩; obtain ⟨ad1, cp1, rfl⟩ := own_form ho1; have hbw1 := hbd.trans (hb1.mono hbd.size); have c2 := over_walk (w := w1) (h2.bel hbw1) (hr.bel hbw1) z2 n2 n4; have x2 : w1.cell? ⟨w.heap.size, 2, none⟩ = some vr := (by rw [Lib.cell_of_heap ((hb1.block _ hsz0).trans k0)]; rfl)))
  all_goals
    go_wp2
    go_ret
    exact ⟨by simp [Act.put, hw], hbw1.trans (hb2.mono hbw1.size)⟩
end Go.Fbs

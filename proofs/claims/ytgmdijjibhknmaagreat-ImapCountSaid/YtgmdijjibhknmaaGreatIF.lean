/- imap.free, walked where nothing is bounded. -/
import Derived.Test.YtgmdijjibhknmaaGreatIE
import Derived.Test.YtgmdijjibhknmaaGreatIMA
set_option linter.unusedVariables false
set_option linter.unusedSimpArgs false
set_option maxRecDepth 100000
namespace Go.Fbs
open Go.Proofs Go.RowKit Go.Maps
variable {w w' : World}
theorem eg36 : ∀ args w, (callFunc 36 args).run Tryz.prog w = .ok (.enter 36 args) w := enters_of Tryz.func36 (by kernel_rfl) rfl
theorem none_calls {B M : Nat} {E : TypeId} {s : B8} (hs : s.length ≤ 100000) (hB : w.heap[B]? = some (.cells #[.map (some M)] E (0, 0))) (hM : Go.Fbs.MapAt Tryz.prog 9 w M 0 fun _ => none) : Calls Tryz.prog 36 #[.string ⟨⟨s⟩⟩, .pointer (some ⟨B, 0, none⟩)] w fun e w' => e = .returned (.bool false) ∧ w' = w := by
  have hc : w.cell? ⟨B, 0, none⟩ = some (.map (some M)) := by rw [Lib.cell_of_heap hB]; rfl
  have hl := hM.look lawSw Tryz.underlying75 (zeroIw w) (key_str (a := s) (by unfold maxLen; omega)) trivial
  go_enter Tryz.func36, Tryz.ntmps36
  go_wp2
  go_ret
  exact ⟨rfl, rfl⟩
theorem sm_one : OneCell smV := fun _ => rfl
theorem put_other {α : Type} [Inhabited α] (enc : α → Value) {n g k : Nat} {d : Array α} {os : Array Obj} (hk : k < w.heap.size) (hne : g ≠ k) : (Sort.grow (Sort.putRow enc (Sort.ahead w n) g 0 d) os).heap[k]? = w.heap[k]? := by
  have hsz := put_size enc (Sort.ahead w n) g 0 d
  have hs2 : (Sort.ahead w n).heap.size = w.heap.size := rfl
  rw [Sort.heap_grow_old _ _ (by omega)]
  unfold Sort.putRow Sort.mapBlock
  simp [Array.getElem?_modify, hne]
theorem keep_all {base g cp B M : Nat} {E : TypeId} {us : List B8} (ho : TxOwn base w (.slice (some ⟨g, 0, none⟩) us.length cp) us) (hz : ∀ p ∈ us, p.length ≤ 100000) (hlen : us.length ≤ 100000) (hcp : us.length ≤ cp)
    (hB : w.heap[B]? = some (.cells #[.map (some M)] E (0, 0))) (hM : Go.Fbs.MapAt Tryz.prog 9 w M 0 fun _ => none) (hgB : g ≠ B) (hgM : g ≠ M) :
    Calls Tryz.prog 34 #[.slice (some ⟨g, 0, none⟩) us.length cp, .func (.func 36) #[] #[.pointer (some ⟨B, 0, none⟩)]] w fun e w' => e = .returned (.slice (some ⟨g, 0, none⟩) us.length cp) ∧ ∃ q, w' = Sort.ahead w q := by
  have hBl := (Array.getElem?_eq_some_iff.1 hB).1
  have hMl := hM.lt
  have hd : ((us.attach.map fun x => (⟨x.1, hz x.1 x.2⟩ : Sm)).toArray).size = us.length := by simp
  have hH : Sort.Holds smV w g 0 (us.attach.map fun x => (⟨x.1, hz x.1 x.2⟩ : Sm)).toArray := by
    intro j hj
    have hj : j < us.length := by simpa using hj
    refine ⟨?_, World.ownsRow.frozenAt ho _⟩
    rw [Nat.zero_add, World.ownsRow.cellAt ho j (by omega), List.getElem?_map, List.getElem?_eq_getElem hj]
    simp [hj, smV, txV]
  have h := Tryz.slices_DeleteFunc (α := Sm) smV sm_one (fun _ => false) 36 #[.pointer (some ⟨B, 0, none⟩)] eg36 ⟨[], by simp⟩ (fun w => by kernel_rfl) g 0 cp (us.attach.map fun x => (⟨x.1, hz x.1 x.2⟩ : Sm)).toArray w
    (fun W x hW => (none_calls (w := W) x.2 ((hW.block B hBl).trans hB) (hM.same (hW.block M hMl))).mono (by rintro e w' ⟨rfl, rfl⟩; exact ⟨rfl, 0, rfl⟩))
    (fun n os dk x _ => (none_calls (w := sortWorld smV w g 0 n dk os) x.2 ((put_other smV hBl hgB).trans hB) (hM.same (put_other smV hMl hgM))).mono (by rintro e w' ⟨rfl, rfl⟩; exact ⟨rfl, 0, rfl⟩))
    hH (by rw [hd]; omega) (by rw [hd]; exact hcp)
  rw [hd] at h
  refine h.mono ?_
  rintro e w' ⟨rfl, q, rfl⟩
  have e1 : ((us.attach.map fun x => (⟨x.1, hz x.1 x.2⟩ : Sm)).toArray.toList.filter fun _ => !false) = us.attach.map fun x => (⟨x.1, hz x.1 x.2⟩ : Sm) := by simp
  refine ⟨by rw [e1]; simp, q, ?_⟩
  rw [e1, List.length_map, List.length_attach, Nat.sub_self, List.replicate_zero, List.append_nil]
  rw [Sort.putRow_ahead, Sort.putRow_self smV w g 0 _ hH]
set_option maxHeartbeats 1600000 in
theorem free_walk {vu va vr vg vs : Value} {us : List B8} {ab : Option Addr} {cb : Nat} (h : TxAt w vu us) (h0 : us ≠ []) (hz : ∀ p ∈ us, p.length ≤ 100000) (hlen : us.length ≤ 100000) :
    Calls Tryz.prog 8 #[.agg #[vu, va, vr, vg, vs, .slice ab 0 cb]] w fun e w' => ∃ v', e = .returned v' ∧ TxOwn w.heap.size w' v' us ∧ Bel w.heap.size w w' := by
  have hpos : 0 < us.length := List.length_pos_iff.2 h0
  obtain ⟨b, off, c, rfl, hc⟩ : ∃ b off c, vu = .slice (some ⟨b, off, none⟩) us.length c ∧ ∀ j s, us[j]? = some s → w.cell? ⟨b, off + j, none⟩ = some (txV s) := by
    rcases h with ⟨c, _, e⟩ | h
    · exact absurd e h0
    · exact h
  have hmm := @run_makeMap Tryz.prog
  go_enter Tryz.func8, Tryz.ntmps8
  go_wp2
  obtain ⟨X, hX⟩ : ∃ X, X = (((w.alloc (.cells #[.slice (some ⟨b, off, none⟩) us.length c, va, vr, vg, vs, .slice ab 0 cb] 27)).alloc (.map #[] 0)).alloc (.cells #[.map (some (w.heap.size + 1))] 75)) := ⟨_, rfl⟩
  have z1 : (w.alloc (.cells #[.slice (some ⟨b, off, none⟩) us.length c, va, vr, vg, vs, .slice ab 0 cb] 27)).heap.size = w.heap.size + 1 := alloc_sz rfl _
  have z2 := alloc_sz z1 (.map #[] 0)
  have z3 := alloc_sz z2 (.cells #[.map (some (w.heap.size + 1))] 75)
  have k0 : X.heap[w.heap.size]? = some (.cells #[.slice (some ⟨b, off, none⟩) us.length c, va, vr, vg, vs, .slice ab 0 cb] 27 (0, 0)) := by
    rw [hX, heap_alloc_old _ _ (by omega), heap_alloc_old _ _ (by omega), heap_alloc_new]
  have k2 : X.heap[w.heap.size + 1 + 1]? = some (.cells #[.map (some (w.heap.size + 1))] 75 (0, 0)) := by
    rw [hX, ← z2, heap_alloc_new]
  have kM : Go.Fbs.MapAt Tryz.prog 9 X (w.heap.size + 1) 0 fun _ => none := by
    have := Go.Fbs.MapAt.made (P := Tryz.prog) (K := 9) (w.alloc (.cells #[.slice (some ⟨b, off, none⟩) us.length c, va, vr, vg, vs, .slice ab 0 cb] 27))
    rw [z1] at this
    rw [hX]
    exact this.same (heap_alloc_old _ _ (by omega))
  have hbX : Bel w.heap.size w X := by
    rw [hX]
    exact ⟨rfl, rfl, by omega, fun k hk => by rw [heap_alloc_old _ _ (by omega), heap_alloc_old _ _ (by omega), heap_alloc_old _ _ hk]⟩
  have hzX : X.heap.size = w.heap.size + 1 + 1 + 1 := by rw [hX]; exact z3
  rw [← hX]
  clear hX z1 z2 z3
  have y0 : X.cell? ⟨w.heap.size, 0, none⟩ = some (.slice (some ⟨b, off, none⟩) us.length c) := by rw [Lib.cell_of_heap k0]; rfl
  have y2 : X.cell? ⟨w.heap.size + 1 + 1, 0, none⟩ = some (.map (some (w.heap.size + 1))) := by rw [Lib.cell_of_heap k2]; rfl
  have hcl := Tryz.slices_Clone_string b off us.length c (us.map fun s => ⟨⟨s⟩⟩) X (by simp) (by omega) (fun j hj => by
    have hj : j < us.length := by simpa using hj
    have h1 := hc j _ (List.getElem?_eq_getElem hj)
    rw [World.cell?_of_block (hbX.block b (tx_lt h1)), h1]
    simp [txV, hj])
  go_loopw [10] (fun i wr => i = .int .i64 0 ∧ wr = X) (fun _ _ => 0)
  case atStart => exact ⟨rfl, rfl⟩
  case round =>
    obtain ⟨rfl, rfl⟩ := hrel
    go_wp2_with (first
      | (go_at_call 35; refine hcl.mono ?_; rintro e w1 ⟨v1, rfl, ho, _, hb⟩
         obtain ⟨g, cp, rfl, hg1, hg2, hcp⟩ := own_some ho (by omega)
         have ho : TxOwn wr.heap.size w1 (.slice (some ⟨g, 0, none⟩) us.length cp) us := by
           unfold TxOwn
           have e : (us.map fun s => (⟨⟨s⟩⟩ : ByteArray)).take us.length = us.map fun s => ⟨⟨s⟩⟩ := List.take_of_length_le (by simp)
           rw [e, List.map_map] at ho
           exact ho
         have hka := keep_all ho hz hlen hcp ((hb.block _ (by omega)).trans k2) (kM.same (hb.block _ (by omega))) (by omega) (by omega))
      | (go_at_call 34; refine hka.mono ?_; rintro e w2 ⟨rfl, q, rfl⟩))
    go_ret
    exact ⟨_, rfl, ⟨ho.1, ho.2.imp id fun ⟨g, cap, cur, h1, h2, h3⟩ => ⟨g, cap, cur, h1, by omega, h3⟩⟩, hbX.trans ⟨hb.os, hb.output, hb.size, fun k hk => hb.block k (by omega)⟩⟩
end Go.Fbs

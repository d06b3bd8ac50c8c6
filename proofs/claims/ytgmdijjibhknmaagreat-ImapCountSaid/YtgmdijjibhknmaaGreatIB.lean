/- norm.Once, walked. -/
import Derived.Test.YtgmdijjibhknmaaGreatIA
import Derived.Lib.RowBridge
set_option linter.unusedVariables false
set_option linter.unusedSimpArgs false
set_option maxRecDepth 100000
namespace Go.Fbs
open Go.Proofs Go.RowKit Go.Maps
variable {w w' : World} {zs : List B8} {v : Value}
theorem once_nil : onceM [] = [] := by simp [onceM, Lib.compact, Lib.compactUpTo]
theorem bel_below {B : Nat} {a b : World} (h : Below B a b) : Bel B a b := ⟨h.os, h.output, h.size, h.block⟩
theorem compact_len (zs : List B8) : (Lib.compact zs).length ≤ zs.length := Lib.compact_length_le zs
theorem own_grow {base : Nat} {v : Value} {zs : List B8} (h : TxOwn base w v zs) (os : Array Obj) : TxOwn base (Sort.grow w os) v zs := by
  obtain ⟨h1, h2⟩ := h
  refine ⟨h1, ?_⟩
  rcases h2 with h2 | ⟨g, cap, cur, rfl, h3, h4, h5⟩
  · exact .inl h2
  · exact .inr ⟨g, cap, cur, rfl, h3, (Sort.heap_grow_old w os (Array.getElem?_eq_some_iff.1 h4).1).trans h4, h5⟩
theorem put_size {α : Type} [Inhabited α] (enc : α → Value) (w : World) (g o : Nat) (d : Array α) : (Sort.putRow enc w g o d).heap.size = w.heap.size := by
  unfold Sort.putRow Sort.mapBlock
  simp
theorem bel_put {B n g : Nat} {d : Array B8} {os : Array Obj} (hB : B ≤ w.heap.size) (hg : B ≤ g) : Bel B w (Sort.grow (Sort.putRow encStr (Sort.ahead w n) g 0 d) os) := by
  have hsz := put_size encStr (Sort.ahead w n) g 0 d
  have hs2 : (Sort.ahead w n).heap.size = w.heap.size := rfl
  refine ⟨rfl, rfl, ?_, fun k hk => ?_⟩
  · show w.heap.size ≤ ((Sort.putRow encStr (Sort.ahead w n) g 0 d).heap ++ os).size
    rw [Array.size_append]
    omega
  · rw [Sort.heap_grow_old _ _ (by omega)]
    unfold Sort.putRow Sort.mapBlock
    have : g ≠ k := by omega
    simp [Array.getElem?_modify, this]
theorem bel_put0 {B n g : Nat} {d : Array B8} (hB : B ≤ w.heap.size) (hg : B ≤ g) : Bel B w (Sort.putRow encStr (Sort.ahead w n) g 0 d) := by
  refine ⟨rfl, rfl, by rw [put_size]; exact Nat.le_refl _, fun k hk => ?_⟩
  unfold Sort.putRow Sort.mapBlock
  have : g ≠ k := by omega
  simp [Array.getElem?_modify, this]
theorem once_walk (h : TxAt w v zs) (hlen : zs.length ≤ 100000) : Calls Tryz.prog 17 #[v] w fun e w' => ∃ v', e = .returned v' ∧ TxOwn w.heap.size w' v' (onceM zs) ∧ Bel w.heap.size w w' := by
  rcases h with ⟨c, rfl, rfl⟩ | ⟨b, off, c, rfl, hc⟩
  · rw [once_nil]
    go_enter Tryz.func17, Tryz.ntmps17
    go_wp2_with (first
      | (go_at_call 35; refine (Tryz.slices_Clone_string_nil 0 c w).mono ?_; rintro e w1 ⟨rfl, rfl⟩)
      | (go_at_call 66; refine (Tryz.slices_Sort_string_none none 0 _).mono ?_; rintro e w2 ⟨rfl, rfl⟩)
      | (go_at_call 67; refine (Tryz.slices_Compact_string_empty none 0 _).mono ?_; rintro e w3 ⟨rfl, rfl⟩))
    go_ret
    exact ⟨_, rfl, World.ownsRow_nil _ _ _ _, Bel.refl _ _⟩
  · by_cases h0 : zs = []
    · subst h0
      rw [once_nil]
      go_enter Tryz.func17, Tryz.ntmps17
      go_wp2_with (first
        | (go_at_call 35; refine (Tryz.slices_Clone_string_zero ⟨b, off, none⟩ c w).mono ?_; rintro e w1 ⟨v1, rfl, ho, _, hb⟩; obtain ⟨ad, cp, rfl⟩ := own_form ho)
        | (go_at_call 66; refine (Tryz.slices_Sort_string_none ad cp _).mono ?_; rintro e w2 ⟨rfl, rfl⟩)
        | (go_at_call 67; refine (Tryz.slices_Compact_string_empty ad cp _).mono ?_; rintro e w3 ⟨rfl, rfl⟩))
      go_ret
      exact ⟨_, rfl, ho, bel_below hb⟩
    · have hpos : 0 < zs.length := List.length_pos_iff.2 h0
      have hcl := Tryz.slices_Clone_string b off zs.length c (zs.map fun s => ⟨⟨s⟩⟩) w (by simp) (by omega) (fun j hj => by
        have hj : j < zs.length := by simpa using hj
        rw [hc j _ (List.getElem?_eq_getElem hj)]
        simp [txV, hj])
      go_enter Tryz.func17, Tryz.ntmps17
      go_wp2_with (first
        | (go_at_call 67; refine hcm.mono ?_; rintro e w3 ⟨rfl, q3, rfl⟩)
        | (go_at_call 66; refine hso.mono ?_; rintro e w2 ⟨rfl, n2, os2, rfl⟩
           have h2 := own_put (ys := zs.mergeSort fun x y => decide (x ≤ y)) (m := zs.length) ho (List.length_mergeSort _) (by rw [List.length_mergeSort]; exact Nat.le_refl _)
           rw [List.take_of_length_le (by rw [List.length_mergeSort]; exact Nat.le_refl _)] at h2
           have h3 : TxOwn w.heap.size (Sort.grow (Sort.putRow encStr (Sort.ahead w1 n2) g 0 (zs.mergeSort fun x y => decide (x ≤ y)).toArray) os2) (.slice (some ⟨g, 0, none⟩) (zs.mergeSort fun x y => decide (x ≤ y)).length cp) (zs.mergeSort fun x y => decide (x ≤ y)) := by
             exact own_grow h2.1 os2
           have hcm := Tryz.slices_Compact_string g 0 cp (zs.mergeSort fun x y => decide (x ≤ y)) _ h3.holds (by rw [List.length_mergeSort]; omega) (by rw [List.length_mergeSort]; omega)
           rw [List.length_mergeSort] at hcm)
        | (go_at_call 35; refine hcl.mono ?_; rintro e w1 ⟨v1, rfl, ho, _, hb⟩
           obtain ⟨g, cp, rfl, hg1, hg2, hcp⟩ := own_some ho (by omega)
           have ho : TxOwn w.heap.size w1 (.slice (some ⟨g, 0, none⟩) zs.length cp) zs := by
             unfold TxOwn
             have e : (zs.map fun s => (⟨⟨s⟩⟩ : ByteArray)).take zs.length = zs.map fun s => ⟨⟨s⟩⟩ := List.take_of_length_le (by simp)
             rw [e, List.map_map] at ho
             exact ho
           have hso := Tryz.slices_Sort_string g 0 cp zs w1 ho.holds hg2 (by omega)))
      go_ret
      have hlm := List.length_mergeSort (le := fun x y => decide (x ≤ y)) zs
      have hcl := compact_len (zs.mergeSort fun x y => decide (x ≤ y))
      have h4 := own_put (ys := Lib.compact (zs.mergeSort fun x y => decide (x ≤ y)) ++ List.replicate (zs.length - (Lib.compact (zs.mergeSort fun x y => decide (x ≤ y))).length) []) (m := (Lib.compact (zs.mergeSort fun x y => decide (x ≤ y))).length) h3 (by rw [List.length_append, List.length_replicate]; omega) (by rw [List.length_append]; omega)
      rw [List.take_left] at h4
      exact ⟨_, rfl, h4.1, (bel_below hb).trans ((bel_put (by omega) hg1).trans (bel_put0 (by have := (bel_put (w := w1) (n := n2) (d := (zs.mergeSort fun x y => decide (x ≤ y)).toArray) (os := os2) (B := w.heap.size) (by omega) hg1).size; omega) hg1))⟩
end Go.Fbs

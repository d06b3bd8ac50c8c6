/- glob.matches, Over, walked. -/
import Derived.Test.YtgmdijjibhknmaaGreatIC
set_option linter.unusedVariables false
set_option linter.unusedSimpArgs false
set_option maxRecDepth 100000
namespace Go.Fbs
open Go.Proofs Go.RowKit Go.Maps
variable {w w' : World}
theorem eg122 : ∀ args w, (callFunc 122 args).run Tryz.prog w = .ok (.enter 122 args) w := enters_of Tryz.func122 (by kernel_rfl) rfl
/-- The closure: a pattern matches the name that lies in block B. -/
theorem one_calls {B : Nat} {s p : B8} (hp : p.length ≤ 100000) (hB : w.cell? ⟨B, 0, none⟩ = some (txV s)) : Calls Tryz.prog 122 #[.string ⟨⟨p⟩⟩, .pointer (some ⟨B, 0, none⟩)] w fun e w' => e = .returned (.bool (matchB p s)) ∧ w' = w := by
  unfold txV at hB
  go_enter Tryz.func122, Tryz.ntmps122
  go_wp2_with (go_at_call 123; refine (match_calls p s hp w).mono ?_; rintro e w1 ⟨rfl, rfl⟩)
  go_ret
  exact ⟨rfl, rfl⟩
abbrev Sm := { x : B8 // x.length ≤ 100000 }
instance : Inhabited Sm := ⟨⟨[], by simp⟩⟩
def smV (x : Sm) : Value := .string ⟨⟨x.1⟩⟩
theorem bel_alloc (w : World) (o : Obj) : Bel w.heap.size w (w.alloc o) := ⟨rfl, rfl, by simp, fun k hk => heap_alloc_old _ _ hk⟩
theorem matches_calls {v : Value} {zs : List B8} {s : B8} (h : TxAt w v zs) (hz : ∀ p ∈ zs, p.length ≤ 100000) (hlen : zs.length ≤ 100000) :
    Calls Tryz.prog 75 #[v, .string ⟨⟨s⟩⟩] w fun e w' => e = .returned (.bool (zs.any fun p => matchB p s)) ∧ Bel w.heap.size w w' := by
  have hb0 := bel_alloc w (.cells #[.string ⟨⟨s⟩⟩] 9)
  have hnew := heap_alloc_new w (.cells #[.string ⟨⟨s⟩⟩] 9)
  by_cases h0 : zs = []
  · subst h0
    obtain ⟨a, c, rfl⟩ : ∃ a c, v = .slice a 0 c := by
      rcases h with ⟨c, rfl, _⟩ | ⟨b, off, c, rfl, _⟩
      · exact ⟨_, _, rfl⟩
      · exact ⟨_, _, rfl⟩
    go_enter Tryz.func75, Tryz.ntmps75
    go_wp2_with (go_at_call 121; refine (Tryz.slices_ContainsFunc_empty (α := Sm) a c _ _).mono ?_; rintro e w2 ⟨rfl, rfl⟩)
    go_ret
    exact ⟨rfl, hb0⟩
  · rcases h with ⟨c, rfl, hzs⟩ | ⟨b, off, c, rfl, hc⟩
    · exact absurd hzs h0
    · have hpos : 0 < zs.length := List.length_pos_iff.2 h0
      have hbw : b < w.heap.size := by
        have := hc 0 _ (List.getElem?_eq_getElem hpos)
        unfold World.cell? at this
        rcases Nat.lt_or_ge b w.heap.size with h | h
        · exact h
        · dsimp only at this
          rw [Array.getElem?_eq_none h] at this; cases this
      have hcf := Tryz.slices_ContainsFunc (α := Sm) smV (fun x => matchB x.1 s) 122 #[.pointer (some ⟨w.heap.size, 0, none⟩)] eg122 b off zs.length c (zs.attach.map fun x => ⟨x.1, hz x.1 x.2⟩) (w.alloc (.cells #[.string ⟨⟨s⟩⟩] 9))
        (fun W x hW => by
          have hcell : W.cell? ⟨w.heap.size, 0, none⟩ = some (txV s) := by
            have := (hW.block w.heap.size (by simp)).trans hnew
            rw [Lib.cell_of_heap this]; rfl
          exact (one_calls (w := W) x.2 hcell).mono (by rintro e w' ⟨rfl, rfl⟩; exact ⟨rfl, 0, rfl⟩))
        (by simp) (by omega) (fun j hj => by
          have hj : j < zs.length := by simpa using hj
          rw [World.cell?_of_block (heap_alloc_old _ _ hbw), hc j _ (List.getElem?_eq_getElem hj)]
          simp [smV, txV, hj])
      have e1 : ((zs.attach.map fun x => (⟨x.1, hz x.1 x.2⟩ : Sm)).take zs.length).any (fun x => matchB x.1 s) = zs.any fun p => matchB p s := by
        rw [List.take_of_length_le (by simp), List.any_map]
        conv => rhs; rw [← List.attach_map_subtype_val zs, List.any_map]
        rfl
      rw [e1] at hcf
      go_enter Tryz.func75, Tryz.ntmps75
      go_wp2_with (go_at_call 121; refine hcf.mono ?_; rintro e w2 ⟨rfl, q, rfl⟩)
      go_ret
      exact ⟨rfl, hb0.os, hb0.output, hb0.size, hb0.block⟩
end Go.Fbs

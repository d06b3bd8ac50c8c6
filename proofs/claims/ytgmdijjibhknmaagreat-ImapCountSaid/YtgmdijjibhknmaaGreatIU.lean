/- What the law leaves: as it was. -/
import Derived.Test.YtgmdijjibhknmaaGreatIR
set_option linter.unusedVariables false
set_option linter.unusedSimpArgs false
set_option maxRecDepth 100000
namespace Go.Fbs
open Go.Proofs Go.RowKit Go.Maps
theorem bel_stood {w w' : World} {e : Ending} (he : e = .returned (.bool true)) (hb : Bel w.heap.size w w') : Go.Rx.Stood w e w' := by
  have same : ∀ i, i < w.heap.size → w'.heap[i]? = w.heap[i]? := hb.block
  refine ⟨he, ⟨⟨hb.os, hb.output, fun i hi => ?_⟩, fun a ha => by unfold World.frozen?; rw [same _ ha], hb.size⟩, same⟩
  rw [same i hi]
  cases w.heap[i]? with
  | none => rfl
  | some o => cases o <;> simp
theorem law_stood (n0 n1 n2 : Int) (w : World) : Calls Tryz.prog 3 #[.int .i64 n0, .int .i64 n1, .int .i64 n2] w (Go.Rx.Stood w) :=
  (law_walk n0 n1 n2 w).mono fun _ _ ⟨he, hb⟩ => bel_stood he hb
end Go.Fbs

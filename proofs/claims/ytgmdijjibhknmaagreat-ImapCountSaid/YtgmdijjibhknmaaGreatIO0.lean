/- The law's names, walked. -/
import Derived.Test.YtgmdijjibhknmaaGreatIP
import Derived.Laws.BytesString
set_option linter.unusedVariables false
set_option linter.unusedSimpArgs false
set_option maxRecDepth 100000
namespace Go.Fbs
open Go.Proofs Go.RowKit Go.Maps
variable {w w' : World}
theorem name_calls {i : Nat} (hi : i < 676) (w : World) : Calls Tryz.prog 4 #[.int .i64 i] w fun e w' => e = .returned (.string ⟨⟨nmL i⟩⟩) ∧ Bel w.heap.size w w' := by
  have h1 : Int.tdiv (i : Int) 26 = ((i / 26 : Nat) : Int) := by
    rw [Int.tdiv_eq_ediv_of_nonneg (by omega)]; omega
  have h2 : Int.tmod (i : Int) 26 = ((i % 26 : Nat) : Int) := by
    rw [Int.tmod_eq_emod_of_nonneg (by omega)]; omega
  have hn : w.heap.size < (w.alloc (.cells #[.int .u8 (97 + (i : Int) / 26), .int .u8 (97 + (i : Int) % 26)] 5)).heap.size := by rw [alloc_sz rfl _]; omega
  have hH := heap_alloc_new w (.cells #[.int .u8 (97 + (i : Int) / 26), .int .u8 (97 + (i : Int) % 26)] 5)
  have hcv : Sem.run Tryz.prog (convert 28 9 (.slice (some ⟨w.heap.size, 0, none⟩) 2 2)) (w.alloc (.cells #[.int .u8 (97 + (i : Int) / 26), .int .u8 (97 + (i : Int) % 26)] 5)) = .ok (.string ⟨⟨nmL i⟩⟩) (w.alloc (.cells #[.int .u8 (97 + (i : Int) / 26), .int .u8 (97 + (i : Int) % 26)] 5)) := by
    rw [run_convert_bytes_string _ 28 9 5 _ 2 2 Tryz.underlying28 Tryz.underlying5 Tryz.underlying9, run_bytesToString _ _ 2 2 [97 + (i : Int) / 26, 97 + (i : Int) % 26] (by
      have c0 : (w.alloc (.cells #[.int .u8 (97 + (i : Int) / 26), .int .u8 (97 + (i : Int) % 26)] 5)).cell? ⟨w.heap.size, 0, none⟩ = some (.int .u8 (97 + (i : Int) / 26)) := by rw [Lib.cell_of_heap hH]; rfl
      have c1 : (w.alloc (.cells #[.int .u8 (97 + (i : Int) / 26), .int .u8 (97 + (i : Int) % 26)] 5)).cell? ⟨w.heap.size, 1, none⟩ = some (.int .u8 (97 + (i : Int) % 26)) := by rw [Lib.cell_of_heap hH]; rfl
      go_simp)]
    rfl
  go_enter Tryz.func4, Tryz.ntmps4
  go_wp2
  go_ret
  exact ⟨rfl, bel_alloc w _⟩
end Go.Fbs

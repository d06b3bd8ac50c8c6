import Derived.Test.YtkbfgogimhfglaaGreatR2
import Derived.Test.YtkbfgogimhfglaaGreatRows
set_option linter.unusedVariables false
set_option linter.unusedSimpArgs false
set_option linter.unusedSectionVars false
set_option maxRecDepth 100000
namespace Go.Rx
open Go.Proofs
theorem mixed : Tryz.prog.follows .mixedOrders = true := by kernel_rfl
theorem ty_3 : RTOk Tryz.prog ⟨3, (.int .i64), 1, false, 8, (some [(.int .i64 0)]), (some [.i])⟩ := RTOk.q Tryz.underlying3 (by kernel_rfl) (by kernel_rfl) (by kernel_rfl) (zS (by kernel_rfl) rfl rfl) (fun _ => rfl) (by kernel_rfl) (by kernel_rfl) rfl
theorem ty_4 : RTOk Tryz.prog ⟨4, .bool, 1, false, 1, (some [(.bool false)]), (some [.b])⟩ := RTOk.q Tryz.underlying4 (by kernel_rfl) (by kernel_rfl) (by kernel_rfl) (zS (by kernel_rfl) rfl rfl) (fun _ => rfl) (by kernel_rfl) (by kernel_rfl) rfl
theorem ty_5 : RTOk Tryz.prog ⟨5, (.int .u8), 1, false, 1, (some [(.int .u8 0)]), (some [.i])⟩ := RTOk.q Tryz.underlying5 (by kernel_rfl) (by kernel_rfl) (by kernel_rfl) (zS (by kernel_rfl) rfl rfl) (fun _ => rfl) (by kernel_rfl) (by kernel_rfl) rfl
theorem ty_9 : RTOk Tryz.prog ⟨9, .str, 1, false, 16, (some [(.str [])]), (some [.s])⟩ := RTOk.q Tryz.underlying9 (by kernel_rfl) (by kernel_rfl) (by kernel_rfl) (zS (by kernel_rfl) rfl rfl) (fun _ => rfl) (by kernel_rfl) (by kernel_rfl) rfl
theorem ty_22 : RTOk Tryz.prog ⟨22, (.sl 9), 1, false, 24, (some [.slnil]), (some [.sl])⟩ := RTOk.q Tryz.underlying22 (by kernel_rfl) (by kernel_rfl) (by kernel_rfl) (zS (by kernel_rfl) rfl rfl) (fun _ => rfl) (by kernel_rfl) (by kernel_rfl) rfl
theorem ty_24 : RTOk Tryz.prog ⟨24, (.st [(0, 9), (1, 4), (2, 22), (3, 22), (4, 22), (5, 22)]), 6, true, 120, (some [(.str []), (.bool false), .slnil, .slnil, .slnil, .slnil]), (some [.s, .b, .sl, .sl, .sl, .sl])⟩ := RTOk.q ⟨_, Tryz.underlying24, by kernel_rfl, by kernel_rfl⟩ (by kernel_rfl) (by kernel_rfl) (by kernel_rfl) (zA (by kernel_rfl) rfl rfl) (fun h => by simp at h) (by kernel_rfl) (by kernel_rfl) rfl
theorem ty_25 : RTOk Tryz.prog ⟨25, (.sl 33), 1, false, 24, (some [.slnil]), (some [.sl])⟩ := RTOk.q Tryz.underlying25 (by kernel_rfl) (by kernel_rfl) (by kernel_rfl) (zS (by kernel_rfl) rfl rfl) (fun _ => rfl) (by kernel_rfl) (by kernel_rfl) rfl
theorem ty_26 : RTOk Tryz.prog ⟨26, (.sl 24), 1, false, 24, (some [.slnil]), (some [.sl])⟩ := RTOk.q Tryz.underlying26 (by kernel_rfl) (by kernel_rfl) (by kernel_rfl) (zS (by kernel_rfl) rfl rfl) (fun _ => rfl) (by kernel_rfl) (by kernel_rfl) rfl
theorem ty_27 : RTOk Tryz.prog ⟨27, (.sl 35), 1, false, 24, (some [.slnil]), (some [.sl])⟩ := RTOk.q Tryz.underlying27 (by kernel_rfl) (by kernel_rfl) (by kernel_rfl) (zS (by kernel_rfl) rfl rfl) (fun _ => rfl) (by kernel_rfl) (by kernel_rfl) rfl
theorem ty_29 : RTOk Tryz.prog ⟨29, (.st [(0, 22), (1, 22), (2, 22), (3, 25), (4, 26), (5, 27)]), 6, true, 144, (some [.slnil, .slnil, .slnil, .slnil, .slnil, .slnil]), (some [.sl, .sl, .sl, .sl, .sl, .sl])⟩ := RTOk.q ⟨_, Tryz.underlying29, by kernel_rfl, by kernel_rfl⟩ (by kernel_rfl) (by kernel_rfl) (by kernel_rfl) (zA (by kernel_rfl) rfl rfl) (fun h => by simp at h) (by kernel_rfl) (by kernel_rfl) rfl
theorem ty_30 : RTOk Tryz.prog ⟨30, (.int .i64), 1, false, 8, (some [(.int .i64 0)]), (some [.i])⟩ := RTOk.q Tryz.underlying30 (by kernel_rfl) (by kernel_rfl) (by kernel_rfl) (zS (by kernel_rfl) rfl rfl) (fun _ => rfl) (by kernel_rfl) (by kernel_rfl) rfl
theorem ty_31 : RTOk Tryz.prog ⟨31, (.st [(0, 29), (6, 30)]), 7, true, 152, (some [.slnil, .slnil, .slnil, .slnil, .slnil, .slnil, (.int .i64 0)]), (some [.sl, .sl, .sl, .sl, .sl, .sl, .i])⟩ := RTOk.q ⟨_, Tryz.underlying31, by kernel_rfl, by kernel_rfl⟩ (by kernel_rfl) (by kernel_rfl) (by kernel_rfl) (zA (by kernel_rfl) rfl rfl) (fun h => by simp at h) (by kernel_rfl) (by kernel_rfl) rfl
theorem ty_33 : RTOk Tryz.prog ⟨33, (.st [(0, 9), (1, 22)]), 2, true, 40, (some [(.str []), .slnil]), (some [.s, .sl])⟩ := RTOk.q ⟨_, Tryz.underlying33, by kernel_rfl, by kernel_rfl⟩ (by kernel_rfl) (by kernel_rfl) (by kernel_rfl) (zA (by kernel_rfl) rfl rfl) (fun h => by simp at h) (by kernel_rfl) (by kernel_rfl) rfl
theorem ty_35 : RTOk Tryz.prog ⟨35, (.st [(0, 9), (1, 22), (2, 22)]), 3, true, 64, (some [(.str []), .slnil, .slnil]), (some [.s, .sl, .sl])⟩ := RTOk.q ⟨_, Tryz.underlying35, by kernel_rfl, by kernel_rfl⟩ (by kernel_rfl) (by kernel_rfl) (by kernel_rfl) (zA (by kernel_rfl) rfl rfl) (fun h => by simp at h) (by kernel_rfl) (by kernel_rfl) rfl
theorem ty_36 : RTOk Tryz.prog ⟨36, (.sl 31), 1, false, 24, (some [.slnil]), (some [.sl])⟩ := RTOk.q Tryz.underlying36 (by kernel_rfl) (by kernel_rfl) (by kernel_rfl) (zS (by kernel_rfl) rfl rfl) (fun _ => rfl) (by kernel_rfl) (by kernel_rfl) rfl
theorem ty_41 : RTOk Tryz.prog ⟨41, (.st [(0, 9), (1, 30)]), 2, true, 24, (some [(.str []), (.int .i64 0)]), (some [.s, .i])⟩ := RTOk.q ⟨_, Tryz.underlying41, by kernel_rfl, by kernel_rfl⟩ (by kernel_rfl) (by kernel_rfl) (by kernel_rfl) (zA (by kernel_rfl) rfl rfl) (fun h => by simp at h) (by kernel_rfl) (by kernel_rfl) rfl
theorem ty_42 : RTOk Tryz.prog ⟨42, (.sl 41), 1, false, 24, (some [.slnil]), (some [.sl])⟩ := RTOk.q Tryz.underlying42 (by kernel_rfl) (by kernel_rfl) (by kernel_rfl) (zS (by kernel_rfl) rfl rfl) (fun _ => rfl) (by kernel_rfl) (by kernel_rfl) rfl
theorem ty_43 : RTOk Tryz.prog ⟨43, (.sl 45), 1, false, 24, (some [.slnil]), (some [.sl])⟩ := RTOk.q Tryz.underlying43 (by kernel_rfl) (by kernel_rfl) (by kernel_rfl) (zS (by kernel_rfl) rfl rfl) (fun _ => rfl) (by kernel_rfl) (by kernel_rfl) rfl
theorem ty_45 : RTOk Tryz.prog ⟨45, (.st [(0, 3), (1, 9), (2, 22), (3, 43)]), 4, true, 72, (some [(.int .i64 0), (.str []), .slnil, .slnil]), (some [.i, .s, .sl, .sl])⟩ := RTOk.q ⟨_, Tryz.underlying45, by kernel_rfl, by kernel_rfl⟩ (by kernel_rfl) (by kernel_rfl) (by kernel_rfl) (zA (by kernel_rfl) rfl rfl) (fun h => by simp at h) (by kernel_rfl) (by kernel_rfl) rfl
theorem ty_72 : RTOk Tryz.prog ⟨72, (.st [(0, 9), (1, 3), (2, 3), (3, 3), (4, 3)]), 5, true, 48, (some [(.str []), (.int .i64 0), (.int .i64 0), (.int .i64 0), (.int .i64 0)]), (some [.s, .i, .i, .i, .i])⟩ := RTOk.q ⟨_, Tryz.underlying72, by kernel_rfl, by kernel_rfl⟩ (by kernel_rfl) (by kernel_rfl) (by kernel_rfl) (zA (by kernel_rfl) rfl rfl) (fun h => by simp at h) (by kernel_rfl) (by kernel_rfl) rfl
theorem ty_77 : RTOk Tryz.prog ⟨77, (.st [(0, 4)]), 1, true, 1, (some [(.bool false)]), (some [.b])⟩ := RTOk.q ⟨_, Tryz.underlying77, by kernel_rfl, by kernel_rfl⟩ (by kernel_rfl) (by kernel_rfl) (by kernel_rfl) (zA (by kernel_rfl) rfl rfl) (fun h => by simp at h) (by kernel_rfl) (by kernel_rfl) rfl
theorem ty_98 : RTOk Tryz.prog ⟨98, (.sl 3), 1, false, 24, (some [.slnil]), (some [.sl])⟩ := RTOk.q Tryz.underlying98 (by kernel_rfl) (by kernel_rfl) (by kernel_rfl) (zS (by kernel_rfl) rfl rfl) (fun _ => rfl) (by kernel_rfl) (by kernel_rfl) rfl
theorem ty_117 : RTOk Tryz.prog ⟨117, (.map 9 3), 1, false, 8, (some [.mapnil]), (some [.m])⟩ := RTOk.q Tryz.underlying117 (by kernel_rfl) (by kernel_rfl) (by kernel_rfl) (zS (by kernel_rfl) rfl rfl) (fun _ => rfl) (by kernel_rfl) (by kernel_rfl) rfl
theorem ty_194 : RTOk Tryz.prog ⟨194, (.sl 22), 1, false, 24, (some [.slnil]), (some [.sl])⟩ := RTOk.q Tryz.underlying194 (by kernel_rfl) (by kernel_rfl) (by kernel_rfl) (zS (by kernel_rfl) rfl rfl) (fun _ => rfl) (by kernel_rfl) (by kernel_rfl) rfl
theorem ty_201 : RTOk Tryz.prog ⟨201, (.sl 5), 1, false, 24, (some [.slnil]), (some [.sl])⟩ := RTOk.q Tryz.underlying201 (by kernel_rfl) (by kernel_rfl) (by kernel_rfl) (zS (by kernel_rfl) rfl rfl) (fun _ => rfl) (by kernel_rfl) (by kernel_rfl) rfl
theorem ty_234 : RTOk Tryz.prog ⟨234, (.int .u64), 1, false, 8, (some [(.int .u64 0)]), (some [.i])⟩ := RTOk.q Tryz.underlying234 (by kernel_rfl) (by kernel_rfl) (by kernel_rfl) (zS (by kernel_rfl) rfl rfl) (fun _ => rfl) (by kernel_rfl) (by kernel_rfl) rfl
theorem ty_249 : RTOk Tryz.prog ⟨249, (.int .i64), 1, false, 8, (some [(.int .i64 0)]), (some [.i])⟩ := RTOk.q Tryz.underlying249 (by kernel_rfl) (by kernel_rfl) (by kernel_rfl) (zS (by kernel_rfl) rfl rfl) (fun _ => rfl) (by kernel_rfl) (by kernel_rfl) rfl
theorem ty_257 : RTOk Tryz.prog ⟨257, (.int .u32), 1, false, 4, (some [(.int .u32 0)]), (some [.i])⟩ := RTOk.q Tryz.underlying257 (by kernel_rfl) (by kernel_rfl) (by kernel_rfl) (zS (by kernel_rfl) rfl rfl) (fun _ => rfl) (by kernel_rfl) (by kernel_rfl) rfl
theorem ty_259 : RTOk Tryz.prog ⟨259, (.int .u64), 1, false, 8, (some [(.int .u64 0)]), (some [.i])⟩ := RTOk.q Tryz.underlying259 (by kernel_rfl) (by kernel_rfl) (by kernel_rfl) (zS (by kernel_rfl) rfl rfl) (fun _ => rfl) (by kernel_rfl) (by kernel_rfl) rfl
theorem ty_278 : RTOk Tryz.prog ⟨278, (.int .u64), 1, false, 8, (some [(.int .u64 0)]), (some [.i])⟩ := RTOk.q Tryz.underlying278 (by kernel_rfl) (by kernel_rfl) (by kernel_rfl) (zS (by kernel_rfl) rfl rfl) (fun _ => rfl) (by kernel_rfl) (by kernel_rfl) rfl
def tyL : List RTI := [⟨3, (.int .i64), 1, false, 8, (some [(.int .i64 0)]), (some [.i])⟩,
  ⟨4, .bool, 1, false, 1, (some [(.bool false)]), (some [.b])⟩,
  ⟨5, (.int .u8), 1, false, 1, (some [(.int .u8 0)]), (some [.i])⟩,
  ⟨9, .str, 1, false, 16, (some [(.str [])]), (some [.s])⟩,
  ⟨22, (.sl 9), 1, false, 24, (some [.slnil]), (some [.sl])⟩,
  ⟨24, (.st [(0, 9), (1, 4), (2, 22), (3, 22), (4, 22), (5, 22)]), 6, true, 120, (some [(.str []), (.bool false), .slnil, .slnil, .slnil, .slnil]), (some [.s, .b, .sl, .sl, .sl, .sl])⟩,
  ⟨25, (.sl 33), 1, false, 24, (some [.slnil]), (some [.sl])⟩,
  ⟨26, (.sl 24), 1, false, 24, (some [.slnil]), (some [.sl])⟩,
  ⟨27, (.sl 35), 1, false, 24, (some [.slnil]), (some [.sl])⟩,
  ⟨29, (.st [(0, 22), (1, 22), (2, 22), (3, 25), (4, 26), (5, 27)]), 6, true, 144, (some [.slnil, .slnil, .slnil, .slnil, .slnil, .slnil]), (some [.sl, .sl, .sl, .sl, .sl, .sl])⟩,
  ⟨30, (.int .i64), 1, false, 8, (some [(.int .i64 0)]), (some [.i])⟩,
  ⟨31, (.st [(0, 29), (6, 30)]), 7, true, 152, (some [.slnil, .slnil, .slnil, .slnil, .slnil, .slnil, (.int .i64 0)]), (some [.sl, .sl, .sl, .sl, .sl, .sl, .i])⟩,
  ⟨33, (.st [(0, 9), (1, 22)]), 2, true, 40, (some [(.str []), .slnil]), (some [.s, .sl])⟩,
  ⟨35, (.st [(0, 9), (1, 22), (2, 22)]), 3, true, 64, (some [(.str []), .slnil, .slnil]), (some [.s, .sl, .sl])⟩,
  ⟨36, (.sl 31), 1, false, 24, (some [.slnil]), (some [.sl])⟩,
  ⟨41, (.st [(0, 9), (1, 30)]), 2, true, 24, (some [(.str []), (.int .i64 0)]), (some [.s, .i])⟩,
  ⟨42, (.sl 41), 1, false, 24, (some [.slnil]), (some [.sl])⟩,
  ⟨43, (.sl 45), 1, false, 24, (some [.slnil]), (some [.sl])⟩,
  ⟨45, (.st [(0, 3), (1, 9), (2, 22), (3, 43)]), 4, true, 72, (some [(.int .i64 0), (.str []), .slnil, .slnil]), (some [.i, .s, .sl, .sl])⟩,
  ⟨72, (.st [(0, 9), (1, 3), (2, 3), (3, 3), (4, 3)]), 5, true, 48, (some [(.str []), (.int .i64 0), (.int .i64 0), (.int .i64 0), (.int .i64 0)]), (some [.s, .i, .i, .i, .i])⟩,
  ⟨77, (.st [(0, 4)]), 1, true, 1, (some [(.bool false)]), (some [.b])⟩,
  ⟨98, (.sl 3), 1, false, 24, (some [.slnil]), (some [.sl])⟩,
  ⟨117, (.map 9 3), 1, false, 8, (some [.mapnil]), (some [.m])⟩,
  ⟨194, (.sl 22), 1, false, 24, (some [.slnil]), (some [.sl])⟩,
  ⟨201, (.sl 5), 1, false, 24, (some [.slnil]), (some [.sl])⟩,
  ⟨234, (.int .u64), 1, false, 8, (some [(.int .u64 0)]), (some [.i])⟩,
  ⟨249, (.int .i64), 1, false, 8, (some [(.int .i64 0)]), (some [.i])⟩,
  ⟨257, (.int .u32), 1, false, 4, (some [(.int .u32 0)]), (some [.i])⟩,
  ⟨259, (.int .u64), 1, false, 8, (some [(.int .u64 0)]), (some [.i])⟩,
  ⟨278, (.int .u64), 1, false, 8, (some [(.int .u64 0)]), (some [.i])⟩]
theorem tyLOk : ∀ ti ∈ tyL, RTOk Tryz.prog ti := all_cons ty_3 (all_cons ty_4 (all_cons ty_5 (all_cons ty_9 (all_cons ty_22 (all_cons ty_24 (all_cons ty_25 (all_cons ty_26 (all_cons ty_27 (all_cons ty_29 (all_cons ty_30 (all_cons ty_31 (all_cons ty_33 (all_cons ty_35 (all_cons ty_36 (all_cons ty_41 (all_cons ty_42 (all_cons ty_43 (all_cons ty_45 (all_cons ty_72 (all_cons ty_77 (all_cons ty_98 (all_cons ty_117 (all_cons ty_194 (all_cons ty_201 (all_cons ty_234 (all_cons ty_249 (all_cons ty_257 (all_cons ty_259 (all_cons ty_278 (all_nil))))))))))))))))))))))))))))))
noncomputable def tyT : T RTI := ofList (tyL.map fun ti => (ti.t, ti))
theorem tyOk : TtOk Tryz.prog tyT := ttOk_of tyLOk
theorem fe_3 : FeOk Tryz.prog 3 (FE.code 113 [.tmp 2] (bodyOf Tryz.f3)) := ⟨_, Tryz.func3, by kernel_rfl, Tryz.ntmps3, by rw [Tryz.results3], by kernel_rfl⟩
theorem fe_4 : FeOk Tryz.prog 4 (FE.code 105 [.tmp 2] (bodyOf Tryz.f4)) := ⟨_, Tryz.func4, by kernel_rfl, Tryz.ntmps4, by rw [Tryz.results4], by kernel_rfl⟩
theorem fe_6 : FeOk Tryz.prog 6 (FE.code 14 [.tmp 2] (bodyOf Tryz.f6)) := ⟨_, Tryz.func6, by kernel_rfl, Tryz.ntmps6, by rw [Tryz.results6], by kernel_rfl⟩
theorem fe_7 : FeOk Tryz.prog 7 (FE.code 86 [.tmp 0] (bodyOf Tryz.f7)) := ⟨_, Tryz.func7, by kernel_rfl, Tryz.ntmps7, by rw [Tryz.results7], by kernel_rfl⟩
theorem fe_8 : FeOk Tryz.prog 8 (FE.code 6 [.tmp 2] (bodyOf Tryz.f8)) := ⟨_, Tryz.func8, by kernel_rfl, Tryz.ntmps8, by rw [Tryz.results8], by kernel_rfl⟩
theorem fe_9 : FeOk Tryz.prog 9 (FE.code 48 [.cell 2 45, .tmp 3, .tmp 4] (bodyOf Tryz.f9)) := ⟨_, Tryz.func9, by kernel_rfl, Tryz.ntmps9, by rw [Tryz.results9], by kernel_rfl⟩
theorem fe_10 : FeOk Tryz.prog 10 (FE.code 48 [.cell 2 29, .tmp 3] (bodyOf Tryz.f10)) := ⟨_, Tryz.func10, by kernel_rfl, Tryz.ntmps10, by rw [Tryz.results10], by kernel_rfl⟩
theorem fe_11 : FeOk Tryz.prog 11 (FE.code 47 [.tmp 2] (bodyOf Tryz.f11)) := ⟨_, Tryz.func11, by kernel_rfl, Tryz.ntmps11, by rw [Tryz.results11], by kernel_rfl⟩
theorem fe_21 : FeOk Tryz.prog 21 (FE.code 87 [.tmp 2] (bodyOf Tryz.f21)) := ⟨_, Tryz.func21, by kernel_rfl, Tryz.ntmps21, by rw [Tryz.results21], by kernel_rfl⟩
theorem fe_22 : FeOk Tryz.prog 22 (FE.code 111 [.tmp 2] (bodyOf Tryz.f22)) := ⟨_, Tryz.func22, by kernel_rfl, Tryz.ntmps22, by rw [Tryz.results22], by kernel_rfl⟩
theorem fe_23 : FeOk Tryz.prog 23 (FE.code 96 [.tmp 2] (bodyOf Tryz.f23)) := ⟨_, Tryz.func23, by kernel_rfl, Tryz.ntmps23, by rw [Tryz.results23], by kernel_rfl⟩
theorem fe_24 : FeOk Tryz.prog 24 (FE.code 10 [.tmp 2] (bodyOf Tryz.f24)) := ⟨_, Tryz.func24, by kernel_rfl, Tryz.ntmps24, by rw [Tryz.results24], by kernel_rfl⟩
theorem fe_25 : FeOk Tryz.prog 25 (FE.code 45 [.tmp 4] (bodyOf Tryz.f25)) := ⟨_, Tryz.func25, by kernel_rfl, Tryz.ntmps25, by rw [Tryz.results25], by kernel_rfl⟩
theorem fe_26 : FeOk Tryz.prog 26 (FE.code 113 [.cell 2 29] (bodyOf Tryz.f26)) := ⟨_, Tryz.func26, by kernel_rfl, Tryz.ntmps26, by rw [Tryz.results26], by kernel_rfl⟩
theorem fe_27 : FeOk Tryz.prog 27 (FE.code 32 [] (bodyOf Tryz.f27)) := ⟨_, Tryz.func27, by kernel_rfl, Tryz.ntmps27, by rw [Tryz.results27], by kernel_rfl⟩
theorem fe_28 : FeOk Tryz.prog 28 (FE.code 45 [.cell 2 45] (bodyOf Tryz.f28)) := ⟨_, Tryz.func28, by kernel_rfl, Tryz.ntmps28, by rw [Tryz.results28], by kernel_rfl⟩
theorem fe_29 : FeOk Tryz.prog 29 (FE.code 19 [] (bodyOf Tryz.f29)) := ⟨_, Tryz.func29, by kernel_rfl, Tryz.ntmps29, by rw [Tryz.results29], by kernel_rfl⟩
theorem fe_30 : FeOk Tryz.prog 30 (FE.code 52 [] (bodyOf Tryz.f30)) := ⟨_, Tryz.func30, by kernel_rfl, Tryz.ntmps30, by rw [Tryz.results30], by kernel_rfl⟩
theorem fe_31 : FeOk Tryz.prog 31 (FE.code 20 [.tmp 6] (bodyOf Tryz.f31)) := ⟨_, Tryz.func31, by kernel_rfl, Tryz.ntmps31, by rw [Tryz.results31], by kernel_rfl⟩
theorem fe_32 : FeOk Tryz.prog 32 (FE.code 47 [.tmp 4] (bodyOf Tryz.f32)) := ⟨_, Tryz.func32, by kernel_rfl, Tryz.ntmps32, by rw [Tryz.results32], by kernel_rfl⟩
theorem fe_33 : FeOk Tryz.prog 33 (FE.code 44 [.tmp 4] (bodyOf Tryz.f33)) := ⟨_, Tryz.func33, by kernel_rfl, Tryz.ntmps33, by rw [Tryz.results33], by kernel_rfl⟩
theorem fe_34 : FeOk Tryz.prog 34 (FE.code 64 [.tmp 4] (bodyOf Tryz.f34)) := ⟨_, Tryz.func34, by kernel_rfl, Tryz.ntmps34, by rw [Tryz.results34], by kernel_rfl⟩
theorem fe_35 : FeOk Tryz.prog 35 (FE.code 17 [.tmp 2] (bodyOf Tryz.f35)) := ⟨_, Tryz.func35, by kernel_rfl, Tryz.ntmps35, by rw [Tryz.results35], by kernel_rfl⟩
theorem fe_51 : FeOk Tryz.prog 51 (FE.code 7 [.tmp 2] (bodyOf Tryz.f51)) := ⟨_, Tryz.func51, by kernel_rfl, Tryz.ntmps51, by rw [Tryz.results51], by kernel_rfl⟩
theorem fe_52 : FeOk Tryz.prog 52 (FE.code 7 [.tmp 2] (bodyOf Tryz.f52)) := ⟨_, Tryz.func52, by kernel_rfl, Tryz.ntmps52, by rw [Tryz.results52], by kernel_rfl⟩
theorem fe_53 : FeOk Tryz.prog 53 (FE.code 28 [.tmp 2] (bodyOf Tryz.f53)) := ⟨_, Tryz.func53, by kernel_rfl, Tryz.ntmps53, by rw [Tryz.results53], by kernel_rfl⟩
theorem fe_54 : FeOk Tryz.prog 54 (FE.code 18 [.tmp 4] (bodyOf Tryz.f54)) := ⟨_, Tryz.func54, by kernel_rfl, Tryz.ntmps54, by rw [Tryz.results54], by kernel_rfl⟩
theorem fe_55 : FeOk Tryz.prog 55 (FE.code 37 [.tmp 4] (bodyOf Tryz.f55)) := ⟨_, Tryz.func55, by kernel_rfl, Tryz.ntmps55, by rw [Tryz.results55], by kernel_rfl⟩
theorem fe_56 : FeOk Tryz.prog 56 (FE.code 22 [.tmp 4] (bodyOf Tryz.f56)) := ⟨_, Tryz.func56, by kernel_rfl, Tryz.ntmps56, by rw [Tryz.results56], by kernel_rfl⟩
theorem fe_57 : FeOk Tryz.prog 57 (FE.code 9 [.tmp 4] (bodyOf Tryz.f57)) := ⟨_, Tryz.func57, by kernel_rfl, Tryz.ntmps57, by rw [Tryz.results57], by kernel_rfl⟩
theorem fe_58 : FeOk Tryz.prog 58 (FE.code 9 [.tmp 4] (bodyOf Tryz.f58)) := ⟨_, Tryz.func58, by kernel_rfl, Tryz.ntmps58, by rw [Tryz.results58], by kernel_rfl⟩
theorem fe_59 : FeOk Tryz.prog 59 (FE.code 8 [.tmp 3] (bodyOf Tryz.f59)) := ⟨_, Tryz.func59, by kernel_rfl, Tryz.ntmps59, by rw [Tryz.results59], by kernel_rfl⟩
theorem fe_60 : FeOk Tryz.prog 60 (FE.code 8 [.tmp 4] (bodyOf Tryz.f60)) := ⟨_, Tryz.func60, by kernel_rfl, Tryz.ntmps60, by rw [Tryz.results60], by kernel_rfl⟩
theorem fe_61 : FeOk Tryz.prog 61 (FE.code 26 [.tmp 4] (bodyOf Tryz.f61)) := ⟨_, Tryz.func61, by kernel_rfl, Tryz.ntmps61, by rw [Tryz.results61], by kernel_rfl⟩
theorem fe_62 : FeOk Tryz.prog 62 (FE.code 32 [.tmp 6] (bodyOf Tryz.f62)) := ⟨_, Tryz.func62, by kernel_rfl, Tryz.ntmps62, by rw [Tryz.results62], by kernel_rfl⟩
theorem fe_63 : FeOk Tryz.prog 63 (FE.code 17 [.tmp 4] (bodyOf Tryz.f63)) := ⟨_, Tryz.func63, by kernel_rfl, Tryz.ntmps63, by rw [Tryz.results63], by kernel_rfl⟩
theorem fe_64 : FeOk Tryz.prog 64 (FE.code 32 [.tmp 6] (bodyOf Tryz.f64)) := ⟨_, Tryz.func64, by kernel_rfl, Tryz.ntmps64, by rw [Tryz.results64], by kernel_rfl⟩
theorem fe_65 : FeOk Tryz.prog 65 (FE.code 45 [.tmp 4] (bodyOf Tryz.f65)) := ⟨_, Tryz.func65, by kernel_rfl, Tryz.ntmps65, by rw [Tryz.results65], by kernel_rfl⟩
theorem fe_66 : FeOk Tryz.prog 66 (FE.code 32 [.tmp 6] (bodyOf Tryz.f66)) := ⟨_, Tryz.func66, by kernel_rfl, Tryz.ntmps66, by rw [Tryz.results66], by kernel_rfl⟩
theorem fe_67 : FeOk Tryz.prog 67 (FE.code 24 [.tmp 4] (bodyOf Tryz.f67)) := ⟨_, Tryz.func67, by kernel_rfl, Tryz.ntmps67, by rw [Tryz.results67], by kernel_rfl⟩
theorem fe_68 : FeOk Tryz.prog 68 (FE.code 10 [.tmp 2] (bodyOf Tryz.f68)) := ⟨_, Tryz.func68, by kernel_rfl, Tryz.ntmps68, by rw [Tryz.results68], by kernel_rfl⟩
theorem fe_69 : FeOk Tryz.prog 69 (FE.code 9 [] (bodyOf Tryz.f69)) := ⟨_, Tryz.func69, by kernel_rfl, Tryz.ntmps69, by rw [Tryz.results69], by kernel_rfl⟩
theorem fe_70 : FeOk Tryz.prog 70 (FE.code 10 [.tmp 4] (bodyOf Tryz.f70)) := ⟨_, Tryz.func70, by kernel_rfl, Tryz.ntmps70, by rw [Tryz.results70], by kernel_rfl⟩
theorem fe_71 : FeOk Tryz.prog 71 (FE.code 8 [.tmp 4] (bodyOf Tryz.f71)) := ⟨_, Tryz.func71, by kernel_rfl, Tryz.ntmps71, by rw [Tryz.results71], by kernel_rfl⟩
theorem fe_72 : FeOk Tryz.prog 72 (FE.code 9 [] (bodyOf Tryz.f72)) := ⟨_, Tryz.func72, by kernel_rfl, Tryz.ntmps72, by rw [Tryz.results72], by kernel_rfl⟩
theorem fe_73 : FeOk Tryz.prog 73 (FE.code 19 [.tmp 4] (bodyOf Tryz.f73)) := ⟨_, Tryz.func73, by kernel_rfl, Tryz.ntmps73, by rw [Tryz.results73], by kernel_rfl⟩
theorem fe_74 : FeOk Tryz.prog 74 (FE.code 18 [.tmp 2] (bodyOf Tryz.f74)) := ⟨_, Tryz.func74, by kernel_rfl, Tryz.ntmps74, by rw [Tryz.results74], by kernel_rfl⟩
theorem fe_75 : FeOk Tryz.prog 75 (FE.code 20 [.tmp 4] (bodyOf Tryz.f75)) := ⟨_, Tryz.func75, by kernel_rfl, Tryz.ntmps75, by rw [Tryz.results75], by kernel_rfl⟩
theorem fe_76 : FeOk Tryz.prog 76 (FE.code 4 [.tmp 2] (bodyOf Tryz.f76)) := ⟨_, Tryz.func76, by kernel_rfl, Tryz.ntmps76, by rw [Tryz.results76], by kernel_rfl⟩
theorem fe_77 : FeOk Tryz.prog 77 (FE.code 9 [] (bodyOf Tryz.f77)) := ⟨_, Tryz.func77, by kernel_rfl, Tryz.ntmps77, by rw [Tryz.results77], by kernel_rfl⟩
theorem fe_78 : FeOk Tryz.prog 78 (FE.code 10 [.tmp 4] (bodyOf Tryz.f78)) := ⟨_, Tryz.func78, by kernel_rfl, Tryz.ntmps78, by rw [Tryz.results78], by kernel_rfl⟩
theorem fe_79 : FeOk Tryz.prog 79 (FE.code 66 [.tmp 4] (bodyOf Tryz.f79)) := ⟨_, Tryz.func79, by kernel_rfl, Tryz.ntmps79, by rw [Tryz.results79], by kernel_rfl⟩
theorem fe_80 : FeOk Tryz.prog 80 (FE.code 66 [.tmp 4] (bodyOf Tryz.f80)) := ⟨_, Tryz.func80, by kernel_rfl, Tryz.ntmps80, by rw [Tryz.results80], by kernel_rfl⟩
theorem fe_81 : FeOk Tryz.prog 81 (FE.code 66 [.tmp 4] (bodyOf Tryz.f81)) := ⟨_, Tryz.func81, by kernel_rfl, Tryz.ntmps81, by rw [Tryz.results81], by kernel_rfl⟩
theorem fe_82 : FeOk Tryz.prog 82 (FE.code 21 [.tmp 6] (bodyOf Tryz.f82)) := ⟨_, Tryz.func82, by kernel_rfl, Tryz.ntmps82, by rw [Tryz.results82], by kernel_rfl⟩
theorem fe_83 : FeOk Tryz.prog 83 (FE.code 28 [.tmp 4] (bodyOf Tryz.f83)) := ⟨_, Tryz.func83, by kernel_rfl, Tryz.ntmps83, by rw [Tryz.results83], by kernel_rfl⟩
theorem fe_84 : FeOk Tryz.prog 84 (FE.code 37 [] (bodyOf Tryz.f84)) := ⟨_, Tryz.func84, by kernel_rfl, Tryz.ntmps84, by rw [Tryz.results84], by kernel_rfl⟩
theorem fe_85 : FeOk Tryz.prog 85 (FE.code 113 [.tmp 2] (bodyOf Tryz.f85)) := ⟨_, Tryz.func85, by kernel_rfl, Tryz.ntmps85, by rw [Tryz.results85], by kernel_rfl⟩
theorem fe_86 : FeOk Tryz.prog 86 (FE.code 144 [.cell 4 45] (bodyOf Tryz.f86)) := ⟨_, Tryz.func86, by kernel_rfl, Tryz.ntmps86, by rw [Tryz.results86], by kernel_rfl⟩
theorem fe_87 : FeOk Tryz.prog 87 (FE.code 98 [.cell 2 45] (bodyOf Tryz.f87)) := ⟨_, Tryz.func87, by kernel_rfl, Tryz.ntmps87, by rw [Tryz.results87], by kernel_rfl⟩
theorem fe_88 : FeOk Tryz.prog 88 (FE.code 35 [] (bodyOf Tryz.f88)) := ⟨_, Tryz.func88, by kernel_rfl, Tryz.ntmps88, by rw [Tryz.results88], by kernel_rfl⟩
theorem fe_89 : FeOk Tryz.prog 89 (FE.code 9 [.tmp 4] (bodyOf Tryz.f89)) := ⟨_, Tryz.func89, by kernel_rfl, Tryz.ntmps89, by rw [Tryz.results89], by kernel_rfl⟩
theorem fe_90 : FeOk Tryz.prog 90 (FE.code 38 [.cell 4 45, .tmp 5] (bodyOf Tryz.f90)) := ⟨_, Tryz.func90, by kernel_rfl, Tryz.ntmps90, by rw [Tryz.results90], by kernel_rfl⟩
theorem fe_91 : FeOk Tryz.prog 91 (FE.code 35 [.tmp 4] (bodyOf Tryz.f91)) := ⟨_, Tryz.func91, by kernel_rfl, Tryz.ntmps91, by rw [Tryz.results91], by kernel_rfl⟩
theorem fe_92 : FeOk Tryz.prog 92 (FE.code 52 [.cell 4 24] (bodyOf Tryz.f92)) := ⟨_, Tryz.func92, by kernel_rfl, Tryz.ntmps92, by rw [Tryz.results92], by kernel_rfl⟩
theorem fe_93 : FeOk Tryz.prog 93 (FE.code 14 [.cell 4 45] (bodyOf Tryz.f93)) := ⟨_, Tryz.func93, by kernel_rfl, Tryz.ntmps93, by rw [Tryz.results93], by kernel_rfl⟩
theorem fe_120 : FeOk Tryz.prog 120 (FE.code 36 [.tmp 2] (bodyOf Tryz.f120)) := ⟨_, Tryz.func120, by kernel_rfl, Tryz.ntmps120, by rw [Tryz.results120], by kernel_rfl⟩
theorem fe_121 : FeOk Tryz.prog 121 (FE.code 6 [.tmp 2] (bodyOf Tryz.f121)) := ⟨_, Tryz.func121, by kernel_rfl, Tryz.ntmps121, by rw [Tryz.results121], by kernel_rfl⟩
theorem fe_122 : FeOk Tryz.prog 122 (FE.code 6 [.tmp 2] (bodyOf Tryz.f122)) := ⟨_, Tryz.func122, by kernel_rfl, Tryz.ntmps122, by rw [Tryz.results122], by kernel_rfl⟩
theorem fe_123 : FeOk Tryz.prog 123 (FE.code 17 [.tmp 2] (bodyOf Tryz.f123)) := ⟨_, Tryz.func123, by kernel_rfl, Tryz.ntmps123, by rw [Tryz.results123], by kernel_rfl⟩
theorem fe_124 : FeOk Tryz.prog 124 (FE.code 17 [.tmp 2] (bodyOf Tryz.f124)) := ⟨_, Tryz.func124, by kernel_rfl, Tryz.ntmps124, by rw [Tryz.results124], by kernel_rfl⟩
theorem fe_125 : FeOk Tryz.prog 125 (FE.code 24 [.tmp 2] (bodyOf Tryz.f125)) := ⟨_, Tryz.func125, by kernel_rfl, Tryz.ntmps125, by rw [Tryz.results125], by kernel_rfl⟩
theorem fe_126 : FeOk Tryz.prog 126 (FE.code 19 [.tmp 4] (bodyOf Tryz.f126)) := ⟨_, Tryz.func126, by kernel_rfl, Tryz.ntmps126, by rw [Tryz.results126], by kernel_rfl⟩
theorem fe_127 : FeOk Tryz.prog 127 (FE.code 16 [.tmp 4] (bodyOf Tryz.f127)) := ⟨_, Tryz.func127, by kernel_rfl, Tryz.ntmps127, by rw [Tryz.results127], by kernel_rfl⟩
theorem fe_128 : FeOk Tryz.prog 128 (FE.code 8 [.tmp 2] (bodyOf Tryz.f128)) := ⟨_, Tryz.func128, by kernel_rfl, Tryz.ntmps128, by rw [Tryz.results128], by kernel_rfl⟩
theorem fe_129 : FeOk Tryz.prog 129 (FE.code 11 [] (bodyOf Tryz.f129)) := ⟨_, Tryz.func129, by kernel_rfl, Tryz.ntmps129, by rw [Tryz.results129], by kernel_rfl⟩
theorem fe_130 : FeOk Tryz.prog 130 (FE.code 61 [.tmp 2] (bodyOf Tryz.f130)) := ⟨_, Tryz.func130, by kernel_rfl, Tryz.ntmps130, by rw [Tryz.results130], by kernel_rfl⟩
theorem fe_131 : FeOk Tryz.prog 131 (FE.code 63 [] (bodyOf Tryz.f131)) := ⟨_, Tryz.func131, by kernel_rfl, Tryz.ntmps131, by rw [Tryz.results131], by kernel_rfl⟩
theorem fe_132 : FeOk Tryz.prog 132 (FE.code 8 [.tmp 4] (bodyOf Tryz.f132)) := ⟨_, Tryz.func132, by kernel_rfl, Tryz.ntmps132, by rw [Tryz.results132], by kernel_rfl⟩
theorem fe_133 : FeOk Tryz.prog 133 (FE.code 63 [] (bodyOf Tryz.f133)) := ⟨_, Tryz.func133, by kernel_rfl, Tryz.ntmps133, by rw [Tryz.results133], by kernel_rfl⟩
theorem fe_134 : FeOk Tryz.prog 134 (FE.code 6 [.tmp 2] (bodyOf Tryz.f134)) := ⟨_, Tryz.func134, by kernel_rfl, Tryz.ntmps134, by rw [Tryz.results134], by kernel_rfl⟩
theorem fe_135 : FeOk Tryz.prog 135 (FE.code 63 [] (bodyOf Tryz.f135)) := ⟨_, Tryz.func135, by kernel_rfl, Tryz.ntmps135, by rw [Tryz.results135], by kernel_rfl⟩
theorem fe_136 : FeOk Tryz.prog 136 (FE.code 92 [.tmp 2] (bodyOf Tryz.f136)) := ⟨_, Tryz.func136, by kernel_rfl, Tryz.ntmps136, by rw [Tryz.results136], by kernel_rfl⟩
theorem fe_137 : FeOk Tryz.prog 137 (FE.code 54 [] (bodyOf Tryz.f137)) := ⟨_, Tryz.func137, by kernel_rfl, Tryz.ntmps137, by rw [Tryz.results137], by kernel_rfl⟩
theorem fe_138 : FeOk Tryz.prog 138 (FE.code 19 [.tmp 4] (bodyOf Tryz.f138)) := ⟨_, Tryz.func138, by kernel_rfl, Tryz.ntmps138, by rw [Tryz.results138], by kernel_rfl⟩
theorem fe_139 : FeOk Tryz.prog 139 (FE.code 19 [.tmp 4] (bodyOf Tryz.f139)) := ⟨_, Tryz.func139, by kernel_rfl, Tryz.ntmps139, by rw [Tryz.results139], by kernel_rfl⟩
theorem fe_169 : FeOk Tryz.prog 169 (FE.code 27 [.tmp 4] (bodyOf Tryz.f169)) := ⟨_, Tryz.func169, by kernel_rfl, Tryz.ntmps169, by rw [Tryz.results169], by kernel_rfl⟩
theorem fe_170 : FeOk Tryz.prog 170 (FE.code 21 [.tmp 4] (bodyOf Tryz.f170)) := ⟨_, Tryz.func170, by kernel_rfl, Tryz.ntmps170, by rw [Tryz.results170], by kernel_rfl⟩
theorem fe_171 : FeOk Tryz.prog 171 (FE.code 134 [] (bodyOf Tryz.f171)) := ⟨_, Tryz.func171, by kernel_rfl, Tryz.ntmps171, by rw [Tryz.results171], by kernel_rfl⟩
theorem fe_172 : FeOk Tryz.prog 172 (FE.code 8 [.tmp 2] (bodyOf Tryz.f172)) := ⟨_, Tryz.func172, by kernel_rfl, Tryz.ntmps172, by rw [Tryz.results172], by kernel_rfl⟩
theorem fe_173 : FeOk Tryz.prog 173 (FE.code 53 [] (bodyOf Tryz.f173)) := ⟨_, Tryz.func173, by kernel_rfl, Tryz.ntmps173, by rw [Tryz.results173], by kernel_rfl⟩
theorem fe_174 : FeOk Tryz.prog 174 (FE.code 220 [] (bodyOf Tryz.f174)) := ⟨_, Tryz.func174, by kernel_rfl, Tryz.ntmps174, by rw [Tryz.results174], by kernel_rfl⟩
theorem fe_175 : FeOk Tryz.prog 175 (FE.pure cmpX) := cmp_ok Tryz.func175 (by kernel_rfl) (by kernel_rfl) (by kernel_rfl) (by kernel_rfl)
theorem fe_176 : FeOk Tryz.prog 176 (FE.code 53 [] (bodyOf Tryz.f176)) := ⟨_, Tryz.func176, by kernel_rfl, Tryz.ntmps176, by rw [Tryz.results176], by kernel_rfl⟩
theorem fe_177 : FeOk Tryz.prog 177 (FE.code 220 [] (bodyOf Tryz.f177)) := ⟨_, Tryz.func177, by kernel_rfl, Tryz.ntmps177, by rw [Tryz.results177], by kernel_rfl⟩
theorem fe_178 : FeOk Tryz.prog 178 (FE.code 53 [] (bodyOf Tryz.f178)) := ⟨_, Tryz.func178, by kernel_rfl, Tryz.ntmps178, by rw [Tryz.results178], by kernel_rfl⟩
theorem fe_179 : FeOk Tryz.prog 179 (FE.code 220 [] (bodyOf Tryz.f179)) := ⟨_, Tryz.func179, by kernel_rfl, Tryz.ntmps179, by rw [Tryz.results179], by kernel_rfl⟩
theorem fe_180 : FeOk Tryz.prog 180 (FE.code 16 [.tmp 2] (bodyOf Tryz.f180)) := ⟨_, Tryz.func180, by kernel_rfl, Tryz.ntmps180, by rw [Tryz.results180], by kernel_rfl⟩
theorem fe_190 : FeOk Tryz.prog 190 (FE.code 49 [] (bodyOf Tryz.f190)) := ⟨_, Tryz.func190, by kernel_rfl, Tryz.ntmps190, by rw [Tryz.results190], by kernel_rfl⟩
theorem fe_191 : FeOk Tryz.prog 191 (FE.code 56 [] (bodyOf Tryz.f191)) := ⟨_, Tryz.func191, by kernel_rfl, Tryz.ntmps191, by rw [Tryz.results191], by kernel_rfl⟩
theorem fe_192 : FeOk Tryz.prog 192 (FE.code 65 [] (bodyOf Tryz.f192)) := ⟨_, Tryz.func192, by kernel_rfl, Tryz.ntmps192, by rw [Tryz.results192], by kernel_rfl⟩
theorem fe_193 : FeOk Tryz.prog 193 (FE.code 57 [.tmp 6, .tmp 7] (bodyOf Tryz.f193)) := ⟨_, Tryz.func193, by kernel_rfl, Tryz.ntmps193, by rw [Tryz.results193], by kernel_rfl⟩
theorem fe_194 : FeOk Tryz.prog 194 (FE.code 32 [] (bodyOf Tryz.f194)) := ⟨_, Tryz.func194, by kernel_rfl, Tryz.ntmps194, by rw [Tryz.results194], by kernel_rfl⟩
theorem fe_195 : FeOk Tryz.prog 195 (FE.code 133 [.tmp 6] (bodyOf Tryz.f195)) := ⟨_, Tryz.func195, by kernel_rfl, Tryz.ntmps195, by rw [Tryz.results195], by kernel_rfl⟩
theorem fe_196 : FeOk Tryz.prog 196 (FE.code 17 [.tmp 4] (bodyOf Tryz.f196)) := ⟨_, Tryz.func196, by kernel_rfl, Tryz.ntmps196, by rw [Tryz.results196], by kernel_rfl⟩
theorem fe_197 : FeOk Tryz.prog 197 (FE.code 84 [.tmp 8] (bodyOf Tryz.f197)) := ⟨_, Tryz.func197, by kernel_rfl, Tryz.ntmps197, by rw [Tryz.results197], by kernel_rfl⟩
theorem fe_198 : FeOk Tryz.prog 198 (FE.code 168 [.tmp 8, .tmp 9] (bodyOf Tryz.f198)) := ⟨_, Tryz.func198, by kernel_rfl, Tryz.ntmps198, by rw [Tryz.results198], by kernel_rfl⟩
theorem fe_199 : FeOk Tryz.prog 199 (FE.code 19 [.tmp 2] (bodyOf Tryz.f199)) := ⟨_, Tryz.func199, by kernel_rfl, Tryz.ntmps199, by rw [Tryz.results199], by kernel_rfl⟩
theorem fe_200 : FeOk Tryz.prog 200 (FE.code 25 [.tmp 2] (bodyOf Tryz.f200)) := ⟨_, Tryz.func200, by kernel_rfl, Tryz.ntmps200, by rw [Tryz.results200], by kernel_rfl⟩
theorem fe_201 : FeOk Tryz.prog 201 (FE.code 58 [] (bodyOf Tryz.f201)) := ⟨_, Tryz.func201, by kernel_rfl, Tryz.ntmps201, by rw [Tryz.results201], by kernel_rfl⟩
theorem fe_202 : FeOk Tryz.prog 202 (FE.code 58 [] (bodyOf Tryz.f202)) := ⟨_, Tryz.func202, by kernel_rfl, Tryz.ntmps202, by rw [Tryz.results202], by kernel_rfl⟩
theorem fe_203 : FeOk Tryz.prog 203 (FE.code 58 [] (bodyOf Tryz.f203)) := ⟨_, Tryz.func203, by kernel_rfl, Tryz.ntmps203, by rw [Tryz.results203], by kernel_rfl⟩
theorem fe_227 : FeOk Tryz.prog 227 (FE.code 76 [] (bodyOf Tryz.f227)) := ⟨_, Tryz.func227, by kernel_rfl, Tryz.ntmps227, by rw [Tryz.results227], by kernel_rfl⟩
theorem fe_228 : FeOk Tryz.prog 228 (FE.code 7 [.tmp 2] (bodyOf Tryz.f228)) := ⟨_, Tryz.func228, by kernel_rfl, Tryz.ntmps228, by rw [Tryz.results228], by kernel_rfl⟩
theorem fe_229 : FeOk Tryz.prog 229 (FE.code 33 [.tmp 2] (bodyOf Tryz.f229)) := ⟨_, Tryz.func229, by kernel_rfl, Tryz.ntmps229, by rw [Tryz.results229], by kernel_rfl⟩
theorem fe_230 : FeOk Tryz.prog 230 (FE.code 15 [.tmp 6] (bodyOf Tryz.f230)) := ⟨_, Tryz.func230, by kernel_rfl, Tryz.ntmps230, by rw [Tryz.results230], by kernel_rfl⟩
theorem fe_231 : FeOk Tryz.prog 231 (FE.code 36 [.tmp 10] (bodyOf Tryz.f231)) := ⟨_, Tryz.func231, by kernel_rfl, Tryz.ntmps231, by rw [Tryz.results231], by kernel_rfl⟩
theorem fe_232 : FeOk Tryz.prog 232 (FE.code 6 [.tmp 2] (bodyOf Tryz.f232)) := ⟨_, Tryz.func232, by kernel_rfl, Tryz.ntmps232, by rw [Tryz.results232], by kernel_rfl⟩
theorem fe_233 : FeOk Tryz.prog 233 (FE.code 38 [] (bodyOf Tryz.f233)) := ⟨_, Tryz.func233, by kernel_rfl, Tryz.ntmps233, by rw [Tryz.results233], by kernel_rfl⟩
theorem fe_234 : FeOk Tryz.prog 234 (FE.code 38 [] (bodyOf Tryz.f234)) := ⟨_, Tryz.func234, by kernel_rfl, Tryz.ntmps234, by rw [Tryz.results234], by kernel_rfl⟩
theorem fe_235 : FeOk Tryz.prog 235 (FE.code 38 [] (bodyOf Tryz.f235)) := ⟨_, Tryz.func235, by kernel_rfl, Tryz.ntmps235, by rw [Tryz.results235], by kernel_rfl⟩
theorem fe_248 : FeOk Tryz.prog 248 (FE.code 28 [.tmp 8, .tmp 9] (bodyOf Tryz.f248)) := ⟨_, Tryz.func248, by kernel_rfl, Tryz.ntmps248, by rw [Tryz.results248], by kernel_rfl⟩
noncomputable def ftL : List (Nat × FE) := [(3, FE.code 113 [.tmp 2] (bodyOf Tryz.f3)),
  (4, FE.code 105 [.tmp 2] (bodyOf Tryz.f4)),
  (6, FE.code 14 [.tmp 2] (bodyOf Tryz.f6)),
  (7, FE.code 86 [.tmp 0] (bodyOf Tryz.f7)),
  (8, FE.code 6 [.tmp 2] (bodyOf Tryz.f8)),
  (9, FE.code 48 [.cell 2 45, .tmp 3, .tmp 4] (bodyOf Tryz.f9)),
  (10, FE.code 48 [.cell 2 29, .tmp 3] (bodyOf Tryz.f10)),
  (11, FE.code 47 [.tmp 2] (bodyOf Tryz.f11)),
  (21, FE.code 87 [.tmp 2] (bodyOf Tryz.f21)),
  (22, FE.code 111 [.tmp 2] (bodyOf Tryz.f22)),
  (23, FE.code 96 [.tmp 2] (bodyOf Tryz.f23)),
  (24, FE.code 10 [.tmp 2] (bodyOf Tryz.f24)),
  (25, FE.code 45 [.tmp 4] (bodyOf Tryz.f25)),
  (26, FE.code 113 [.cell 2 29] (bodyOf Tryz.f26)),
  (27, FE.code 32 [] (bodyOf Tryz.f27)),
  (28, FE.code 45 [.cell 2 45] (bodyOf Tryz.f28)),
  (29, FE.code 19 [] (bodyOf Tryz.f29)),
  (30, FE.code 52 [] (bodyOf Tryz.f30)),
  (31, FE.code 20 [.tmp 6] (bodyOf Tryz.f31)),
  (32, FE.code 47 [.tmp 4] (bodyOf Tryz.f32)),
  (33, FE.code 44 [.tmp 4] (bodyOf Tryz.f33)),
  (34, FE.code 64 [.tmp 4] (bodyOf Tryz.f34)),
  (35, FE.code 17 [.tmp 2] (bodyOf Tryz.f35)),
  (51, FE.code 7 [.tmp 2] (bodyOf Tryz.f51)),
  (52, FE.code 7 [.tmp 2] (bodyOf Tryz.f52)),
  (53, FE.code 28 [.tmp 2] (bodyOf Tryz.f53)),
  (54, FE.code 18 [.tmp 4] (bodyOf Tryz.f54)),
  (55, FE.code 37 [.tmp 4] (bodyOf Tryz.f55)),
  (56, FE.code 22 [.tmp 4] (bodyOf Tryz.f56)),
  (57, FE.code 9 [.tmp 4] (bodyOf Tryz.f57)),
  (58, FE.code 9 [.tmp 4] (bodyOf Tryz.f58)),
  (59, FE.code 8 [.tmp 3] (bodyOf Tryz.f59)),
  (60, FE.code 8 [.tmp 4] (bodyOf Tryz.f60)),
  (61, FE.code 26 [.tmp 4] (bodyOf Tryz.f61)),
  (62, FE.code 32 [.tmp 6] (bodyOf Tryz.f62)),
  (63, FE.code 17 [.tmp 4] (bodyOf Tryz.f63)),
  (64, FE.code 32 [.tmp 6] (bodyOf Tryz.f64)),
  (65, FE.code 45 [.tmp 4] (bodyOf Tryz.f65)),
  (66, FE.code 32 [.tmp 6] (bodyOf Tryz.f66)),
  (67, FE.code 24 [.tmp 4] (bodyOf Tryz.f67)),
  (68, FE.code 10 [.tmp 2] (bodyOf Tryz.f68)),
  (69, FE.code 9 [] (bodyOf Tryz.f69)),
  (70, FE.code 10 [.tmp 4] (bodyOf Tryz.f70)),
  (71, FE.code 8 [.tmp 4] (bodyOf Tryz.f71)),
  (72, FE.code 9 [] (bodyOf Tryz.f72)),
  (73, FE.code 19 [.tmp 4] (bodyOf Tryz.f73)),
  (74, FE.code 18 [.tmp 2] (bodyOf Tryz.f74)),
  (75, FE.code 20 [.tmp 4] (bodyOf Tryz.f75)),
  (76, FE.code 4 [.tmp 2] (bodyOf Tryz.f76)),
  (77, FE.code 9 [] (bodyOf Tryz.f77)),
  (78, FE.code 10 [.tmp 4] (bodyOf Tryz.f78)),
  (79, FE.code 66 [.tmp 4] (bodyOf Tryz.f79)),
  (80, FE.code 66 [.tmp 4] (bodyOf Tryz.f80)),
  (81, FE.code 66 [.tmp 4] (bodyOf Tryz.f81)),
  (82, FE.code 21 [.tmp 6] (bodyOf Tryz.f82)),
  (83, FE.code 28 [.tmp 4] (bodyOf Tryz.f83)),
  (84, FE.code 37 [] (bodyOf Tryz.f84)),
  (85, FE.code 113 [.tmp 2] (bodyOf Tryz.f85)),
  (86, FE.code 144 [.cell 4 45] (bodyOf Tryz.f86)),
  (87, FE.code 98 [.cell 2 45] (bodyOf Tryz.f87)),
  (88, FE.code 35 [] (bodyOf Tryz.f88)),
  (89, FE.code 9 [.tmp 4] (bodyOf Tryz.f89)),
  (90, FE.code 38 [.cell 4 45, .tmp 5] (bodyOf Tryz.f90)),
  (91, FE.code 35 [.tmp 4] (bodyOf Tryz.f91)),
  (92, FE.code 52 [.cell 4 24] (bodyOf Tryz.f92)),
  (93, FE.code 14 [.cell 4 45] (bodyOf Tryz.f93)),
  (120, FE.code 36 [.tmp 2] (bodyOf Tryz.f120)),
  (121, FE.code 6 [.tmp 2] (bodyOf Tryz.f121)),
  (122, FE.code 6 [.tmp 2] (bodyOf Tryz.f122)),
  (123, FE.code 17 [.tmp 2] (bodyOf Tryz.f123)),
  (124, FE.code 17 [.tmp 2] (bodyOf Tryz.f124)),
  (125, FE.code 24 [.tmp 2] (bodyOf Tryz.f125)),
  (126, FE.code 19 [.tmp 4] (bodyOf Tryz.f126)),
  (127, FE.code 16 [.tmp 4] (bodyOf Tryz.f127)),
  (128, FE.code 8 [.tmp 2] (bodyOf Tryz.f128)),
  (129, FE.code 11 [] (bodyOf Tryz.f129)),
  (130, FE.code 61 [.tmp 2] (bodyOf Tryz.f130)),
  (131, FE.code 63 [] (bodyOf Tryz.f131)),
  (132, FE.code 8 [.tmp 4] (bodyOf Tryz.f132)),
  (133, FE.code 63 [] (bodyOf Tryz.f133)),
  (134, FE.code 6 [.tmp 2] (bodyOf Tryz.f134)),
  (135, FE.code 63 [] (bodyOf Tryz.f135)),
  (136, FE.code 92 [.tmp 2] (bodyOf Tryz.f136)),
  (137, FE.code 54 [] (bodyOf Tryz.f137)),
  (138, FE.code 19 [.tmp 4] (bodyOf Tryz.f138)),
  (139, FE.code 19 [.tmp 4] (bodyOf Tryz.f139)),
  (169, FE.code 27 [.tmp 4] (bodyOf Tryz.f169)),
  (170, FE.code 21 [.tmp 4] (bodyOf Tryz.f170)),
  (171, FE.code 134 [] (bodyOf Tryz.f171)),
  (172, FE.code 8 [.tmp 2] (bodyOf Tryz.f172)),
  (173, FE.code 53 [] (bodyOf Tryz.f173)),
  (174, FE.code 220 [] (bodyOf Tryz.f174)),
  (175, FE.pure cmpX),
  (176, FE.code 53 [] (bodyOf Tryz.f176)),
  (177, FE.code 220 [] (bodyOf Tryz.f177)),
  (178, FE.code 53 [] (bodyOf Tryz.f178)),
  (179, FE.code 220 [] (bodyOf Tryz.f179)),
  (180, FE.code 16 [.tmp 2] (bodyOf Tryz.f180)),
  (190, FE.code 49 [] (bodyOf Tryz.f190)),
  (191, FE.code 56 [] (bodyOf Tryz.f191)),
  (192, FE.code 65 [] (bodyOf Tryz.f192)),
  (193, FE.code 57 [.tmp 6, .tmp 7] (bodyOf Tryz.f193)),
  (194, FE.code 32 [] (bodyOf Tryz.f194)),
  (195, FE.code 133 [.tmp 6] (bodyOf Tryz.f195)),
  (196, FE.code 17 [.tmp 4] (bodyOf Tryz.f196)),
  (197, FE.code 84 [.tmp 8] (bodyOf Tryz.f197)),
  (198, FE.code 168 [.tmp 8, .tmp 9] (bodyOf Tryz.f198)),
  (199, FE.code 19 [.tmp 2] (bodyOf Tryz.f199)),
  (200, FE.code 25 [.tmp 2] (bodyOf Tryz.f200)),
  (201, FE.code 58 [] (bodyOf Tryz.f201)),
  (202, FE.code 58 [] (bodyOf Tryz.f202)),
  (203, FE.code 58 [] (bodyOf Tryz.f203)),
  (227, FE.code 76 [] (bodyOf Tryz.f227)),
  (228, FE.code 7 [.tmp 2] (bodyOf Tryz.f228)),
  (229, FE.code 33 [.tmp 2] (bodyOf Tryz.f229)),
  (230, FE.code 15 [.tmp 6] (bodyOf Tryz.f230)),
  (231, FE.code 36 [.tmp 10] (bodyOf Tryz.f231)),
  (232, FE.code 6 [.tmp 2] (bodyOf Tryz.f232)),
  (233, FE.code 38 [] (bodyOf Tryz.f233)),
  (234, FE.code 38 [] (bodyOf Tryz.f234)),
  (235, FE.code 38 [] (bodyOf Tryz.f235)),
  (248, FE.code 28 [.tmp 8, .tmp 9] (bodyOf Tryz.f248))]
theorem ftLOk : ∀ p ∈ ftL, FeOk Tryz.prog p.1 p.2 := all_cons fe_3 (all_cons fe_4 (all_cons fe_6 (all_cons fe_7 (all_cons fe_8 (all_cons fe_9 (all_cons fe_10 (all_cons fe_11 (all_cons fe_21 (all_cons fe_22 (all_cons fe_23 (all_cons fe_24 (all_cons fe_25 (all_cons fe_26 (all_cons fe_27 (all_cons fe_28 (all_cons fe_29 (all_cons fe_30 (all_cons fe_31 (all_cons fe_32 (all_cons fe_33 (all_cons fe_34 (all_cons fe_35 (all_cons fe_51 (all_cons fe_52 (all_cons fe_53 (all_cons fe_54 (all_cons fe_55 (all_cons fe_56 (all_cons fe_57 (all_cons fe_58 (all_cons fe_59 (all_cons fe_60 (all_cons fe_61 (all_cons fe_62 (all_cons fe_63 (all_cons fe_64 (all_cons fe_65 (all_cons fe_66 (all_cons fe_67 (all_cons fe_68 (all_cons fe_69 (all_cons fe_70 (all_cons fe_71 (all_cons fe_72 (all_cons fe_73 (all_cons fe_74 (all_cons fe_75 (all_cons fe_76 (all_cons fe_77 (all_cons fe_78 (all_cons fe_79 (all_cons fe_80 (all_cons fe_81 (all_cons fe_82 (all_cons fe_83 (all_cons fe_84 (all_cons fe_85 (all_cons fe_86 (all_cons fe_87 (all_cons fe_88 (all_cons fe_89 (all_cons fe_90 (all_cons fe_91 (all_cons fe_92 (all_cons fe_93 (all_cons fe_120 (all_cons fe_121 (all_cons fe_122 (all_cons fe_123 (all_cons fe_124 (all_cons fe_125 (all_cons fe_126 (all_cons fe_127 (all_cons fe_128 (all_cons fe_129 (all_cons fe_130 (all_cons fe_131 (all_cons fe_132 (all_cons fe_133 (all_cons fe_134 (all_cons fe_135 (all_cons fe_136 (all_cons fe_137 (all_cons fe_138 (all_cons fe_139 (all_cons fe_169 (all_cons fe_170 (all_cons fe_171 (all_cons fe_172 (all_cons fe_173 (all_cons fe_174 (all_cons fe_175 (all_cons fe_176 (all_cons fe_177 (all_cons fe_178 (all_cons fe_179 (all_cons fe_180 (all_cons fe_190 (all_cons fe_191 (all_cons fe_192 (all_cons fe_193 (all_cons fe_194 (all_cons fe_195 (all_cons fe_196 (all_cons fe_197 (all_cons fe_198 (all_cons fe_199 (all_cons fe_200 (all_cons fe_201 (all_cons fe_202 (all_cons fe_203 (all_cons fe_227 (all_cons fe_228 (all_cons fe_229 (all_cons fe_230 (all_cons fe_231 (all_cons fe_232 (all_cons fe_233 (all_cons fe_234 (all_cons fe_235 (all_cons fe_248 (all_nil))))))))))))))))))))))))))))))))))))))))))))))))))))))))))))))))))))))))))))))))))))))))))))))))))))))))))))))))))))))))))
noncomputable def ftT : T FE := ofList ftL
theorem ftOk : FtOk Tryz.prog ftT := ftOk_of ftLOk
end Go.Rx

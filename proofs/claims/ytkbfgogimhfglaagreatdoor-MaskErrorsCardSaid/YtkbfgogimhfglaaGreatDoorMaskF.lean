import Derived.Test.YtkbfgogimhfglaaGreatDoorR2
import Derived.Test.YtkbfgogimhfglaaGreatDoorRows
set_option linter.unusedVariables false
set_option linter.unusedSimpArgs false
set_option linter.unusedSectionVars false
set_option maxRecDepth 100000
namespace Go.Rx
open Go.Proofs
theorem mixed : Tryz.prog.follows .mixedOrders = true := by kernel_rfl
theorem ty_3 : RTOk Tryz.prog ⟨3, (.int .i64), 1, false, 8, (some [(.int .i64 0)]), (some [.i])⟩ := RTOk.q Tryz.underlying3 (by kernel_rfl) (by kernel_rfl) (by kernel_rfl) (zS (by kernel_rfl) rfl rfl) (fun _ => rfl) (by kernel_rfl) (by kernel_rfl) rfl
theorem ty_4 : RTOk Tryz.prog ⟨4, .bool, 1, false, 1, (some [(.bool false)]), (some [.b])⟩ := RTOk.q Tryz.underlying4 (by kernel_rfl) (by kernel_rfl) (by kernel_rfl) (zS (by kernel_rfl) rfl rfl) (fun _ => rfl) (by kernel_rfl) (by kernel_rfl) rfl
theorem ty_5 : RTOk Tryz.prog ⟨5, (.int .u8), 1, false, 1, (some [(.int .u8 0)]), (some [.i])⟩ := RTOk.q Tryz.underlying5 (by kernel_rfl) (by kernel_rfl) (by kernel_rfl) (zS (by kernel_rfl) rfl rfl) (fun _ => rfl) (by kernel_rfl) (by kernel_rfl) rfl
theorem ty_9 : RTOk Tryz.prog ⟨9, .str, 1, false, 16, (some [(.str [])]), (some [.s])⟩ := RTOk.q Tryz.underlying9 (by kernel_rfl) (by kernel_rfl) (by kernel_rfl) (zS (by kernel_rfl) rfl rfl) (fun _ => rfl) (by kernel_rfl) (by kernel_rfl) rfl
theorem ty_21 : RTOk Tryz.prog ⟨21, (.int .i32), 1, false, 4, (some [(.int .i32 0)]), (some [.i])⟩ := RTOk.q Tryz.underlying21 (by kernel_rfl) (by kernel_rfl) (by kernel_rfl) (zS (by kernel_rfl) rfl rfl) (fun _ => rfl) (by kernel_rfl) (by kernel_rfl) rfl
theorem ty_22 : RTOk Tryz.prog ⟨22, (.int .i64), 1, false, 8, (some [(.int .i64 0)]), (some [.i])⟩ := RTOk.q Tryz.underlying22 (by kernel_rfl) (by kernel_rfl) (by kernel_rfl) (zS (by kernel_rfl) rfl rfl) (fun _ => rfl) (by kernel_rfl) (by kernel_rfl) rfl
theorem ty_25 : RTOk Tryz.prog ⟨25, (.sl 9), 1, false, 24, (some [.slnil]), (some [.sl])⟩ := RTOk.q Tryz.underlying25 (by kernel_rfl) (by kernel_rfl) (by kernel_rfl) (zS (by kernel_rfl) rfl rfl) (fun _ => rfl) (by kernel_rfl) (by kernel_rfl) rfl
theorem ty_33 : RTOk Tryz.prog ⟨33, (.st [(0, 9), (1, 3), (2, 22)]), 3, true, 32, (some [(.str []), (.int .i64 0), (.int .i64 0)]), (some [.s, .i, .i])⟩ := RTOk.q ⟨_, Tryz.underlying33, by kernel_rfl, by kernel_rfl⟩ (by kernel_rfl) (by kernel_rfl) (by kernel_rfl) (zA (by kernel_rfl) rfl rfl) (fun h => by simp at h) (by kernel_rfl) (by kernel_rfl) rfl
theorem ty_34 : RTOk Tryz.prog ⟨34, (.sl 33), 1, false, 24, (some [.slnil]), (some [.sl])⟩ := RTOk.q Tryz.underlying34 (by kernel_rfl) (by kernel_rfl) (by kernel_rfl) (zS (by kernel_rfl) rfl rfl) (fun _ => rfl) (by kernel_rfl) (by kernel_rfl) rfl
theorem ty_35 : RTOk Tryz.prog ⟨35, (.sl 87), 1, false, 24, (some [.slnil]), (some [.sl])⟩ := RTOk.q Tryz.underlying35 (by kernel_rfl) (by kernel_rfl) (by kernel_rfl) (zS (by kernel_rfl) rfl rfl) (fun _ => rfl) (by kernel_rfl) (by kernel_rfl) rfl
theorem ty_79 : RTOk Tryz.prog ⟨79, (.sl 84), 1, false, 24, (some [.slnil]), (some [.sl])⟩ := RTOk.q Tryz.underlying79 (by kernel_rfl) (by kernel_rfl) (by kernel_rfl) (zS (by kernel_rfl) rfl rfl) (fun _ => rfl) (by kernel_rfl) (by kernel_rfl) rfl
theorem ty_82 : RTOk Tryz.prog ⟨82, (.sl 151), 1, false, 24, (some [.slnil]), (some [.sl])⟩ := RTOk.q Tryz.underlying82 (by kernel_rfl) (by kernel_rfl) (by kernel_rfl) (zS (by kernel_rfl) rfl rfl) (fun _ => rfl) (by kernel_rfl) (by kernel_rfl) rfl
theorem ty_84 : RTOk Tryz.prog ⟨84, (.st [(0, 3), (1, 82)]), 2, true, 32, (some [(.int .i64 0), .slnil]), (some [.i, .sl])⟩ := RTOk.q ⟨_, Tryz.underlying84, by kernel_rfl, by kernel_rfl⟩ (by kernel_rfl) (by kernel_rfl) (by kernel_rfl) (zA (by kernel_rfl) rfl rfl) (fun h => by simp at h) (by kernel_rfl) (by kernel_rfl) rfl
theorem ty_85 : RTOk Tryz.prog ⟨85, (.sl 100), 1, false, 24, (some [.slnil]), (some [.sl])⟩ := RTOk.q Tryz.underlying85 (by kernel_rfl) (by kernel_rfl) (by kernel_rfl) (zS (by kernel_rfl) rfl rfl) (fun _ => rfl) (by kernel_rfl) (by kernel_rfl) rfl
theorem ty_87 : RTOk Tryz.prog ⟨87, (.st [(0, 3), (1, 9), (2, 25), (3, 9), (4, 9), (5, 85), (6, 3)]), 7, true, 112, (some [(.int .i64 0), (.str []), .slnil, (.str []), (.str []), .slnil, (.int .i64 0)]), (some [.i, .s, .sl, .s, .s, .sl, .i])⟩ := RTOk.q ⟨_, Tryz.underlying87, by kernel_rfl, by kernel_rfl⟩ (by kernel_rfl) (by kernel_rfl) (by kernel_rfl) (zA (by kernel_rfl) rfl rfl) (fun h => by simp at h) (by kernel_rfl) (by kernel_rfl) rfl
theorem ty_90 : RTOk Tryz.prog ⟨90, (.map 9 3), 1, false, 8, (some [.mapnil]), (some [.m])⟩ := RTOk.q Tryz.underlying90 (by kernel_rfl) (by kernel_rfl) (by kernel_rfl) (zS (by kernel_rfl) rfl rfl) (fun _ => rfl) (by kernel_rfl) (by kernel_rfl) rfl
theorem ty_92 : RTOk Tryz.prog ⟨92, (.st [(0, 90), (1, 90), (2, 90)]), 3, true, 24, (some [.mapnil, .mapnil, .mapnil]), (some [.m, .m, .m])⟩ := RTOk.q ⟨_, Tryz.underlying92, by kernel_rfl, by kernel_rfl⟩ (by kernel_rfl) (by kernel_rfl) (by kernel_rfl) (zA (by kernel_rfl) rfl rfl) (fun h => by simp at h) (by kernel_rfl) (by kernel_rfl) rfl
theorem ty_100 : RTOk Tryz.prog ⟨100, (.st [(0, 3), (1, 4), (2, 9), (3, 3)]), 4, true, 40, (some [(.int .i64 0), (.bool false), (.str []), (.int .i64 0)]), (some [.i, .b, .s, .i])⟩ := RTOk.q ⟨_, Tryz.underlying100, by kernel_rfl, by kernel_rfl⟩ (by kernel_rfl) (by kernel_rfl) (by kernel_rfl) (zA (by kernel_rfl) rfl rfl) (fun h => by simp at h) (by kernel_rfl) (by kernel_rfl) rfl
theorem ty_133 : RTOk Tryz.prog ⟨133, (.sl 3), 1, false, 24, (some [.slnil]), (some [.sl])⟩ := RTOk.q Tryz.underlying133 (by kernel_rfl) (by kernel_rfl) (by kernel_rfl) (zS (by kernel_rfl) rfl rfl) (fun _ => rfl) (by kernel_rfl) (by kernel_rfl) rfl
theorem ty_151 : RTOk Tryz.prog ⟨151, (.st [(0, 9), (1, 3)]), 2, true, 24, (some [(.str []), (.int .i64 0)]), (some [.s, .i])⟩ := RTOk.q ⟨_, Tryz.underlying151, by kernel_rfl, by kernel_rfl⟩ (by kernel_rfl) (by kernel_rfl) (by kernel_rfl) (zA (by kernel_rfl) rfl rfl) (fun h => by simp at h) (by kernel_rfl) (by kernel_rfl) rfl
theorem ty_234 : RTOk Tryz.prog ⟨234, (.int .u64), 1, false, 8, (some [(.int .u64 0)]), (some [.i])⟩ := RTOk.q Tryz.underlying234 (by kernel_rfl) (by kernel_rfl) (by kernel_rfl) (zS (by kernel_rfl) rfl rfl) (fun _ => rfl) (by kernel_rfl) (by kernel_rfl) rfl
theorem ty_259 : RTOk Tryz.prog ⟨259, (.int .u32), 1, false, 4, (some [(.int .u32 0)]), (some [.i])⟩ := RTOk.q Tryz.underlying259 (by kernel_rfl) (by kernel_rfl) (by kernel_rfl) (zS (by kernel_rfl) rfl rfl) (fun _ => rfl) (by kernel_rfl) (by kernel_rfl) rfl
theorem ty_286 : RTOk Tryz.prog ⟨286, (.int .i64), 1, false, 8, (some [(.int .i64 0)]), (some [.i])⟩ := RTOk.q Tryz.underlying286 (by kernel_rfl) (by kernel_rfl) (by kernel_rfl) (zS (by kernel_rfl) rfl rfl) (fun _ => rfl) (by kernel_rfl) (by kernel_rfl) rfl
theorem ty_295 : RTOk Tryz.prog ⟨295, (.int .u64), 1, false, 8, (some [(.int .u64 0)]), (some [.i])⟩ := RTOk.q Tryz.underlying295 (by kernel_rfl) (by kernel_rfl) (by kernel_rfl) (zS (by kernel_rfl) rfl rfl) (fun _ => rfl) (by kernel_rfl) (by kernel_rfl) rfl
theorem ty_320 : RTOk Tryz.prog ⟨320, (.int .u64), 1, false, 8, (some [(.int .u64 0)]), (some [.i])⟩ := RTOk.q Tryz.underlying320 (by kernel_rfl) (by kernel_rfl) (by kernel_rfl) (zS (by kernel_rfl) rfl rfl) (fun _ => rfl) (by kernel_rfl) (by kernel_rfl) rfl
theorem ty_343 : RTOk Tryz.prog ⟨343, (.arr 256 5), 256, true, 256, (some [(.int .u8 0), (.int .u8 0), (.int .u8 0), (.int .u8 0), (.int .u8 0), (.int .u8 0), (.int .u8 0), (.int .u8 0), (.int .u8 0), (.int .u8 0), (.int .u8 0), (.int .u8 0), (.int .u8 0), (.int .u8 0), (.int .u8 0), (.int .u8 0), (.int .u8 0), (.int .u8 0), (.int .u8 0), (.int .u8 0), (.int .u8 0), (.int .u8 0), (.int .u8 0), (.int .u8 0), (.int .u8 0), (.int .u8 0), (.int .u8 0), (.int .u8 0), (.int .u8 0), (.int .u8 0), (.int .u8 0), (.int .u8 0), (.int .u8 0), (.int .u8 0), (.int .u8 0), (.int .u8 0), (.int .u8 0), (.int .u8 0), (.int .u8 0), (.int .u8 0), (.int .u8 0), (.int .u8 0), (.int .u8 0), (.int .u8 0), (.int .u8 0), (.int .u8 0), (.int .u8 0), (.int .u8 0), (.int .u8 0), (.int .u8 0), (.int .u8 0), (.int .u8 0), (.int .u8 0), (.int .u8 0), (.int .u8 0), (.int .u8 0), (.int .u8 0), (.int .u8 0), (.int .u8 0), (.int .u8 0), (.int .u8 0), (.int .u8 0), (.int .u8 0), (.int .u8 0), (.int .u8 0), (.int .u8 0), (.int .u8 0), (.int .u8 0), (.int .u8 0), (.int .u8 0), (.int .u8 0), (.int .u8 0), (.int .u8 0), (.int .u8 0), (.int .u8 0), (.int .u8 0), (.int .u8 0), (.int .u8 0), (.int .u8 0), (.int .u8 0), (.int .u8 0), (.int .u8 0), (.int .u8 0), (.int .u8 0), (.int .u8 0), (.int .u8 0), (.int .u8 0), (.int .u8 0), (.int .u8 0), (.int .u8 0), (.int .u8 0), (.int .u8 0), (.int .u8 0), (.int .u8 0), (.int .u8 0), (.int .u8 0), (.int .u8 0), (.int .u8 0), (.int .u8 0), (.int .u8 0), (.int .u8 0), (.int .u8 0), (.int .u8 0), (.int .u8 0), (.int .u8 0), (.int .u8 0), (.int .u8 0), (.int .u8 0), (.int .u8 0), (.int .u8 0), (.int .u8 0), (.int .u8 0), (.int .u8 0), (.int .u8 0), (.int .u8 0), (.int .u8 0), (.int .u8 0), (.int .u8 0), (.int .u8 0), (.int .u8 0), (.int .u8 0), (.int .u8 0), (.int .u8 0), (.int .u8 0), (.int .u8 0), (.int .u8 0), (.int .u8 0), (.int .u8 0), (.int .u8 0), (.int .u8 0), (.int .u8 0), (.int .u8 0), (.int .u8 0), (.int .u8 0), (.int .u8 0), (.int .u8 0), (.int .u8 0), (.int .u8 0), (.int .u8 0), (.int .u8 0), (.int .u8 0), (.int .u8 0), (.int .u8 0), (.int .u8 0), (.int .u8 0), (.int .u8 0), (.int .u8 0), (.int .u8 0), (.int .u8 0), (.int .u8 0), (.int .u8 0), (.int .u8 0), (.int .u8 0), (.int .u8 0), (.int .u8 0), (.int .u8 0), (.int .u8 0), (.int .u8 0), (.int .u8 0), (.int .u8 0), (.int .u8 0), (.int .u8 0), (.int .u8 0), (.int .u8 0), (.int .u8 0), (.int .u8 0), (.int .u8 0), (.int .u8 0), (.int .u8 0), (.int .u8 0), (.int .u8 0), (.int .u8 0), (.int .u8 0), (.int .u8 0), (.int .u8 0), (.int .u8 0), (.int .u8 0), (.int .u8 0), (.int .u8 0), (.int .u8 0), (.int .u8 0), (.int .u8 0), (.int .u8 0), (.int .u8 0), (.int .u8 0), (.int .u8 0), (.int .u8 0), (.int .u8 0), (.int .u8 0), (.int .u8 0), (.int .u8 0), (.int .u8 0), (.int .u8 0), (.int .u8 0), (.int .u8 0), (.int .u8 0), (.int .u8 0), (.int .u8 0), (.int .u8 0), (.int .u8 0), (.int .u8 0), (.int .u8 0), (.int .u8 0), (.int .u8 0), (.int .u8 0), (.int .u8 0), (.int .u8 0), (.int .u8 0), (.int .u8 0), (.int .u8 0), (.int .u8 0), (.int .u8 0), (.int .u8 0), (.int .u8 0), (.int .u8 0), (.int .u8 0), (.int .u8 0), (.int .u8 0), (.int .u8 0), (.int .u8 0), (.int .u8 0), (.int .u8 0), (.int .u8 0), (.int .u8 0), (.int .u8 0), (.int .u8 0), (.int .u8 0), (.int .u8 0), (.int .u8 0), (.int .u8 0), (.int .u8 0), (.int .u8 0), (.int .u8 0), (.int .u8 0), (.int .u8 0), (.int .u8 0), (.int .u8 0), (.int .u8 0), (.int .u8 0), (.int .u8 0), (.int .u8 0), (.int .u8 0), (.int .u8 0), (.int .u8 0), (.int .u8 0), (.int .u8 0), (.int .u8 0), (.int .u8 0), (.int .u8 0), (.int .u8 0), (.int .u8 0), (.int .u8 0), (.int .u8 0), (.int .u8 0), (.int .u8 0), (.int .u8 0)]), none⟩ := RTOk.n Tryz.underlying343 (by kernel_rfl) (by kernel_rfl) (by kernel_rfl) (zA (by kernel_rfl) rfl rfl) (fun h => by simp at h)
theorem ty_351 : RTOk Tryz.prog ⟨351, (.st [(0, 5), (1, 5)]), 2, true, 2, (some [(.int .u8 0), (.int .u8 0)]), (some [.i, .i])⟩ := RTOk.q ⟨_, Tryz.underlying351, by kernel_rfl, by kernel_rfl⟩ (by kernel_rfl) (by kernel_rfl) (by kernel_rfl) (zA (by kernel_rfl) rfl rfl) (fun h => by simp at h) (by kernel_rfl) (by kernel_rfl) rfl
theorem ty_352 : RTOk Tryz.prog ⟨352, (.arr 16 351), 32, true, 32, (some [(.int .u8 0), (.int .u8 0), (.int .u8 0), (.int .u8 0), (.int .u8 0), (.int .u8 0), (.int .u8 0), (.int .u8 0), (.int .u8 0), (.int .u8 0), (.int .u8 0), (.int .u8 0), (.int .u8 0), (.int .u8 0), (.int .u8 0), (.int .u8 0), (.int .u8 0), (.int .u8 0), (.int .u8 0), (.int .u8 0), (.int .u8 0), (.int .u8 0), (.int .u8 0), (.int .u8 0), (.int .u8 0), (.int .u8 0), (.int .u8 0), (.int .u8 0), (.int .u8 0), (.int .u8 0), (.int .u8 0), (.int .u8 0)]), none⟩ := RTOk.n Tryz.underlying352 (by kernel_rfl) (by kernel_rfl) (by kernel_rfl) (zA (by kernel_rfl) rfl rfl) (fun h => by simp at h)
def tyL : List RTI := [⟨3, (.int .i64), 1, false, 8, (some [(.int .i64 0)]), (some [.i])⟩,
  ⟨4, .bool, 1, false, 1, (some [(.bool false)]), (some [.b])⟩,
  ⟨5, (.int .u8), 1, false, 1, (some [(.int .u8 0)]), (some [.i])⟩,
  ⟨9, .str, 1, false, 16, (some [(.str [])]), (some [.s])⟩,
  ⟨21, (.int .i32), 1, false, 4, (some [(.int .i32 0)]), (some [.i])⟩,
  ⟨22, (.int .i64), 1, false, 8, (some [(.int .i64 0)]), (some [.i])⟩,
  ⟨25, (.sl 9), 1, false, 24, (some [.slnil]), (some [.sl])⟩,
  ⟨33, (.st [(0, 9), (1, 3), (2, 22)]), 3, true, 32, (some [(.str []), (.int .i64 0), (.int .i64 0)]), (some [.s, .i, .i])⟩,
  ⟨34, (.sl 33), 1, false, 24, (some [.slnil]), (some [.sl])⟩,
  ⟨35, (.sl 87), 1, false, 24, (some [.slnil]), (some [.sl])⟩,
  ⟨79, (.sl 84), 1, false, 24, (some [.slnil]), (some [.sl])⟩,
  ⟨82, (.sl 151), 1, false, 24, (some [.slnil]), (some [.sl])⟩,
  ⟨84, (.st [(0, 3), (1, 82)]), 2, true, 32, (some [(.int .i64 0), .slnil]), (some [.i, .sl])⟩,
  ⟨85, (.sl 100), 1, false, 24, (some [.slnil]), (some [.sl])⟩,
  ⟨87, (.st [(0, 3), (1, 9), (2, 25), (3, 9), (4, 9), (5, 85), (6, 3)]), 7, true, 112, (some [(.int .i64 0), (.str []), .slnil, (.str []), (.str []), .slnil, (.int .i64 0)]), (some [.i, .s, .sl, .s, .s, .sl, .i])⟩,
  ⟨90, (.map 9 3), 1, false, 8, (some [.mapnil]), (some [.m])⟩,
  ⟨92, (.st [(0, 90), (1, 90), (2, 90)]), 3, true, 24, (some [.mapnil, .mapnil, .mapnil]), (some [.m, .m, .m])⟩,
  ⟨100, (.st [(0, 3), (1, 4), (2, 9), (3, 3)]), 4, true, 40, (some [(.int .i64 0), (.bool false), (.str []), (.int .i64 0)]), (some [.i, .b, .s, .i])⟩,
  ⟨133, (.sl 3), 1, false, 24, (some [.slnil]), (some [.sl])⟩,
  ⟨151, (.st [(0, 9), (1, 3)]), 2, true, 24, (some [(.str []), (.int .i64 0)]), (some [.s, .i])⟩,
  ⟨234, (.int .u64), 1, false, 8, (some [(.int .u64 0)]), (some [.i])⟩,
  ⟨259, (.int .u32), 1, false, 4, (some [(.int .u32 0)]), (some [.i])⟩,
  ⟨286, (.int .i64), 1, false, 8, (some [(.int .i64 0)]), (some [.i])⟩,
  ⟨295, (.int .u64), 1, false, 8, (some [(.int .u64 0)]), (some [.i])⟩,
  ⟨320, (.int .u64), 1, false, 8, (some [(.int .u64 0)]), (some [.i])⟩,
  ⟨343, (.arr 256 5), 256, true, 256, (some [(.int .u8 0), (.int .u8 0), (.int .u8 0), (.int .u8 0), (.int .u8 0), (.int .u8 0), (.int .u8 0), (.int .u8 0), (.int .u8 0), (.int .u8 0), (.int .u8 0), (.int .u8 0), (.int .u8 0), (.int .u8 0), (.int .u8 0), (.int .u8 0), (.int .u8 0), (.int .u8 0), (.int .u8 0), (.int .u8 0), (.int .u8 0), (.int .u8 0), (.int .u8 0), (.int .u8 0), (.int .u8 0), (.int .u8 0), (.int .u8 0), (.int .u8 0), (.int .u8 0), (.int .u8 0), (.int .u8 0), (.int .u8 0), (.int .u8 0), (.int .u8 0), (.int .u8 0), (.int .u8 0), (.int .u8 0), (.int .u8 0), (.int .u8 0), (.int .u8 0), (.int .u8 0), (.int .u8 0), (.int .u8 0), (.int .u8 0), (.int .u8 0), (.int .u8 0), (.int .u8 0), (.int .u8 0), (.int .u8 0), (.int .u8 0), (.int .u8 0), (.int .u8 0), (.int .u8 0), (.int .u8 0), (.int .u8 0), (.int .u8 0), (.int .u8 0), (.int .u8 0), (.int .u8 0), (.int .u8 0), (.int .u8 0), (.int .u8 0), (.int .u8 0), (.int .u8 0), (.int .u8 0), (.int .u8 0), (.int .u8 0), (.int .u8 0), (.int .u8 0), (.int .u8 0), (.int .u8 0), (.int .u8 0), (.int .u8 0), (.int .u8 0), (.int .u8 0), (.int .u8 0), (.int .u8 0), (.int .u8 0), (.int .u8 0), (.int .u8 0), (.int .u8 0), (.int .u8 0), (.int .u8 0), (.int .u8 0), (.int .u8 0), (.int .u8 0), (.int .u8 0), (.int .u8 0), (.int .u8 0), (.int .u8 0), (.int .u8 0), (.int .u8 0), (.int .u8 0), (.int .u8 0), (.int .u8 0), (.int .u8 0), (.int .u8 0), (.int .u8 0), (.int .u8 0), (.int .u8 0), (.int .u8 0), (.int .u8 0), (.int .u8 0), (.int .u8 0), (.int .u8 0), (.int .u8 0), (.int .u8 0), (.int .u8 0), (.int .u8 0), (.int .u8 0), (.int .u8 0), (.int .u8 0), (.int .u8 0), (.int .u8 0), (.int .u8 0), (.int .u8 0), (.int .u8 0), (.int .u8 0), (.int .u8 0), (.int .u8 0), (.int .u8 0), (.int .u8 0), (.int .u8 0), (.int .u8 0), (.int .u8 0), (.int .u8 0), (.int .u8 0), (.int .u8 0), (.int .u8 0), (.int .u8 0), (.int .u8 0), (.int .u8 0), (.int .u8 0), (.int .u8 0), (.int .u8 0), (.int .u8 0), (.int .u8 0), (.int .u8 0), (.int .u8 0), (.int .u8 0), (.int .u8 0), (.int .u8 0), (.int .u8 0), (.int .u8 0), (.int .u8 0), (.int .u8 0), (.int .u8 0), (.int .u8 0), (.int .u8 0), (.int .u8 0), (.int .u8 0), (.int .u8 0), (.int .u8 0), (.int .u8 0), (.int .u8 0), (.int .u8 0), (.int .u8 0), (.int .u8 0), (.int .u8 0), (.int .u8 0), (.int .u8 0), (.int .u8 0), (.int .u8 0), (.int .u8 0), (.int .u8 0), (.int .u8 0), (.int .u8 0), (.int .u8 0), (.int .u8 0), (.int .u8 0), (.int .u8 0), (.int .u8 0), (.int .u8 0), (.int .u8 0), (.int .u8 0), (.int .u8 0), (.int .u8 0), (.int .u8 0), (.int .u8 0), (.int .u8 0), (.int .u8 0), (.int .u8 0), (.int .u8 0), (.int .u8 0), (.int .u8 0), (.int .u8 0), (.int .u8 0), (.int .u8 0), (.int .u8 0), (.int .u8 0), (.int .u8 0), (.int .u8 0), (.int .u8 0), (.int .u8 0), (.int .u8 0), (.int .u8 0), (.int .u8 0), (.int .u8 0), (.int .u8 0), (.int .u8 0), (.int .u8 0), (.int .u8 0), (.int .u8 0), (.int .u8 0), (.int .u8 0), (.int .u8 0), (.int .u8 0), (.int .u8 0), (.int .u8 0), (.int .u8 0), (.int .u8 0), (.int .u8 0), (.int .u8 0), (.int .u8 0), (.int .u8 0), (.int .u8 0), (.int .u8 0), (.int .u8 0), (.int .u8 0), (.int .u8 0), (.int .u8 0), (.int .u8 0), (.int .u8 0), (.int .u8 0), (.int .u8 0), (.int .u8 0), (.int .u8 0), (.int .u8 0), (.int .u8 0), (.int .u8 0), (.int .u8 0), (.int .u8 0), (.int .u8 0), (.int .u8 0), (.int .u8 0), (.int .u8 0), (.int .u8 0), (.int .u8 0), (.int .u8 0), (.int .u8 0), (.int .u8 0), (.int .u8 0), (.int .u8 0), (.int .u8 0), (.int .u8 0), (.int .u8 0), (.int .u8 0), (.int .u8 0), (.int .u8 0), (.int .u8 0), (.int .u8 0), (.int .u8 0), (.int .u8 0), (.int .u8 0), (.int .u8 0), (.int .u8 0)]), none⟩,
  ⟨351, (.st [(0, 5), (1, 5)]), 2, true, 2, (some [(.int .u8 0), (.int .u8 0)]), (some [.i, .i])⟩,
  ⟨352, (.arr 16 351), 32, true, 32, (some [(.int .u8 0), (.int .u8 0), (.int .u8 0), (.int .u8 0), (.int .u8 0), (.int .u8 0), (.int .u8 0), (.int .u8 0), (.int .u8 0), (.int .u8 0), (.int .u8 0), (.int .u8 0), (.int .u8 0), (.int .u8 0), (.int .u8 0), (.int .u8 0), (.int .u8 0), (.int .u8 0), (.int .u8 0), (.int .u8 0), (.int .u8 0), (.int .u8 0), (.int .u8 0), (.int .u8 0), (.int .u8 0), (.int .u8 0), (.int .u8 0), (.int .u8 0), (.int .u8 0), (.int .u8 0), (.int .u8 0), (.int .u8 0)]), none⟩]
theorem tyLOk : ∀ ti ∈ tyL, RTOk Tryz.prog ti := all_cons ty_3 (all_cons ty_4 (all_cons ty_5 (all_cons ty_9 (all_cons ty_21 (all_cons ty_22 (all_cons ty_25 (all_cons ty_33 (all_cons ty_34 (all_cons ty_35 (all_cons ty_79 (all_cons ty_82 (all_cons ty_84 (all_cons ty_85 (all_cons ty_87 (all_cons ty_90 (all_cons ty_92 (all_cons ty_100 (all_cons ty_133 (all_cons ty_151 (all_cons ty_234 (all_cons ty_259 (all_cons ty_286 (all_cons ty_295 (all_cons ty_320 (all_cons ty_343 (all_cons ty_351 (all_cons ty_352 (all_nil))))))))))))))))))))))))))))
noncomputable def tyT : T RTI := ofList (tyL.map fun ti => (ti.t, ti))
theorem tyOk : TtOk Tryz.prog tyT := ttOk_of tyLOk
theorem fe_4 : FeOk Tryz.prog 4 (FE.code 126 [.tmp 2] (bodyOf Tryz.f4)) := ⟨_, Tryz.func4, by kernel_rfl, Tryz.ntmps4, by rw [Tryz.results4], by kernel_rfl⟩
theorem fe_9 : FeOk Tryz.prog 9 (FE.code 54 [.tmp 2, .tmp 3, .tmp 4] (bodyOf Tryz.f9)) := ⟨_, Tryz.func9, by kernel_rfl, Tryz.ntmps9, by rw [Tryz.results9], by kernel_rfl⟩
theorem fe_10 : FeOk Tryz.prog 10 (FE.code 65 [.tmp 2, .tmp 3] (bodyOf Tryz.f10)) := ⟨_, Tryz.func10, by kernel_rfl, Tryz.ntmps10, by rw [Tryz.results10], by kernel_rfl⟩
theorem fe_11 : FeOk Tryz.prog 11 (FE.code 84 [.tmp 0] (bodyOf Tryz.f11)) := ⟨_, Tryz.func11, by kernel_rfl, Tryz.ntmps11, by rw [Tryz.results11], by kernel_rfl⟩
theorem fe_31 : FeOk Tryz.prog 31 (FE.code 125 [.tmp 2, .tmp 3, .tmp 4] (bodyOf Tryz.f31)) := ⟨_, Tryz.func31, by kernel_rfl, Tryz.ntmps31, by rw [Tryz.results31], by kernel_rfl⟩
theorem fe_32 : FeOk Tryz.prog 32 (FE.code 145 [.cell 2 87, .tmp 3, .tmp 4] (bodyOf Tryz.f32)) := ⟨_, Tryz.func32, by kernel_rfl, Tryz.ntmps32, by rw [Tryz.results32], by kernel_rfl⟩
theorem fe_33 : FeOk Tryz.prog 33 (FE.code 38 [.cell 2 92] (bodyOf Tryz.f33)) := ⟨_, Tryz.func33, by kernel_rfl, Tryz.ntmps33, by rw [Tryz.results33], by kernel_rfl⟩
theorem fe_34 : FeOk Tryz.prog 34 (FE.code 43 [.tmp 6] (bodyOf Tryz.f34)) := ⟨_, Tryz.func34, by kernel_rfl, Tryz.ntmps34, by rw [Tryz.results34], by kernel_rfl⟩
theorem fe_35 : FeOk Tryz.prog 35 (FE.code 11 [.tmp 2] (bodyOf Tryz.f35)) := ⟨_, Tryz.func35, by kernel_rfl, Tryz.ntmps35, by rw [Tryz.results35], by kernel_rfl⟩
theorem fe_36 : FeOk Tryz.prog 36 (FE.code 15 [.tmp 2] (bodyOf Tryz.f36)) := ⟨_, Tryz.func36, by kernel_rfl, Tryz.ntmps36, by rw [Tryz.results36], by kernel_rfl⟩
theorem fe_37 : FeOk Tryz.prog 37 (FE.code 71 [.tmp 2, .tmp 3] (bodyOf Tryz.f37)) := ⟨_, Tryz.func37, by kernel_rfl, Tryz.ntmps37, by rw [Tryz.results37], by kernel_rfl⟩
theorem fe_38 : FeOk Tryz.prog 38 (FE.code 41 [.tmp 2] (bodyOf Tryz.f38)) := ⟨_, Tryz.func38, by kernel_rfl, Tryz.ntmps38, by rw [Tryz.results38], by kernel_rfl⟩
theorem fe_39 : FeOk Tryz.prog 39 (FE.code 8 [.tmp 4] (bodyOf Tryz.f39)) := ⟨_, Tryz.func39, by kernel_rfl, Tryz.ntmps39, by rw [Tryz.results39], by kernel_rfl⟩
theorem fe_46 : FeOk Tryz.prog 46 (FE.code 21 [.tmp 6] (bodyOf Tryz.f46)) := ⟨_, Tryz.func46, by kernel_rfl, Tryz.ntmps46, by rw [Tryz.results46], by kernel_rfl⟩
theorem fe_76 : FeOk Tryz.prog 76 (FE.code 61 [.tmp 4] (bodyOf Tryz.f76)) := ⟨_, Tryz.func76, by kernel_rfl, Tryz.ntmps76, by rw [Tryz.results76], by kernel_rfl⟩
theorem fe_77 : FeOk Tryz.prog 77 (FE.code 47 [.tmp 2] (bodyOf Tryz.f77)) := ⟨_, Tryz.func77, by kernel_rfl, Tryz.ntmps77, by rw [Tryz.results77], by kernel_rfl⟩
theorem fe_78 : FeOk Tryz.prog 78 (FE.code 52 [.tmp 2] (bodyOf Tryz.f78)) := ⟨_, Tryz.func78, by kernel_rfl, Tryz.ntmps78, by rw [Tryz.results78], by kernel_rfl⟩
theorem fe_79 : FeOk Tryz.prog 79 (FE.code 42 [.tmp 2, .tmp 3] (bodyOf Tryz.f79)) := ⟨_, Tryz.func79, by kernel_rfl, Tryz.ntmps79, by rw [Tryz.results79], by kernel_rfl⟩
theorem fe_80 : FeOk Tryz.prog 80 (FE.code 9 [.tmp 4] (bodyOf Tryz.f80)) := ⟨_, Tryz.func80, by kernel_rfl, Tryz.ntmps80, by rw [Tryz.results80], by kernel_rfl⟩
theorem fe_81 : FeOk Tryz.prog 81 (FE.code 5 [.tmp 2] (bodyOf Tryz.f81)) := ⟨_, Tryz.func81, by kernel_rfl, Tryz.ntmps81, by rw [Tryz.results81], by kernel_rfl⟩
theorem fe_82 : FeOk Tryz.prog 82 (FE.code 9 [.tmp 4] (bodyOf Tryz.f82)) := ⟨_, Tryz.func82, by kernel_rfl, Tryz.ntmps82, by rw [Tryz.results82], by kernel_rfl⟩
theorem fe_83 : FeOk Tryz.prog 83 (FE.code 7 [.tmp 3] (bodyOf Tryz.f83)) := ⟨_, Tryz.func83, by kernel_rfl, Tryz.ntmps83, by rw [Tryz.results83], by kernel_rfl⟩
theorem fe_84 : FeOk Tryz.prog 84 (FE.code 67 [.tmp 4] (bodyOf Tryz.f84)) := ⟨_, Tryz.func84, by kernel_rfl, Tryz.ntmps84, by rw [Tryz.results84], by kernel_rfl⟩
theorem fe_85 : FeOk Tryz.prog 85 (FE.code 71 [.tmp 4] (bodyOf Tryz.f85)) := ⟨_, Tryz.func85, by kernel_rfl, Tryz.ntmps85, by rw [Tryz.results85], by kernel_rfl⟩
theorem fe_86 : FeOk Tryz.prog 86 (FE.code 31 [.tmp 2] (bodyOf Tryz.f86)) := ⟨_, Tryz.func86, by kernel_rfl, Tryz.ntmps86, by rw [Tryz.results86], by kernel_rfl⟩
theorem fe_87 : FeOk Tryz.prog 87 (FE.code 36 [.tmp 4] (bodyOf Tryz.f87)) := ⟨_, Tryz.func87, by kernel_rfl, Tryz.ntmps87, by rw [Tryz.results87], by kernel_rfl⟩
theorem fe_88 : FeOk Tryz.prog 88 (FE.code 8 [.tmp 2] (bodyOf Tryz.f88)) := ⟨_, Tryz.func88, by kernel_rfl, Tryz.ntmps88, by rw [Tryz.results88], by kernel_rfl⟩
theorem fe_89 : FeOk Tryz.prog 89 (FE.code 14 [] (bodyOf Tryz.f89)) := ⟨_, Tryz.func89, by kernel_rfl, Tryz.ntmps89, by rw [Tryz.results89], by kernel_rfl⟩
theorem fe_90 : FeOk Tryz.prog 90 (FE.code 24 [.tmp 4] (bodyOf Tryz.f90)) := ⟨_, Tryz.func90, by kernel_rfl, Tryz.ntmps90, by rw [Tryz.results90], by kernel_rfl⟩
theorem fe_91 : FeOk Tryz.prog 91 (FE.code 39 [.tmp 2] (bodyOf Tryz.f91)) := ⟨_, Tryz.func91, by kernel_rfl, Tryz.ntmps91, by rw [Tryz.results91], by kernel_rfl⟩
theorem fe_92 : FeOk Tryz.prog 92 (FE.code 25 [.tmp 4] (bodyOf Tryz.f92)) := ⟨_, Tryz.func92, by kernel_rfl, Tryz.ntmps92, by rw [Tryz.results92], by kernel_rfl⟩
theorem fe_93 : FeOk Tryz.prog 93 (FE.code 54 [.tmp 4] (bodyOf Tryz.f93)) := ⟨_, Tryz.func93, by kernel_rfl, Tryz.ntmps93, by rw [Tryz.results93], by kernel_rfl⟩
theorem fe_94 : FeOk Tryz.prog 94 (FE.code 10 [.tmp 2] (bodyOf Tryz.f94)) := ⟨_, Tryz.func94, by kernel_rfl, Tryz.ntmps94, by rw [Tryz.results94], by kernel_rfl⟩
theorem fe_95 : FeOk Tryz.prog 95 (FE.code 9 [] (bodyOf Tryz.f95)) := ⟨_, Tryz.func95, by kernel_rfl, Tryz.ntmps95, by rw [Tryz.results95], by kernel_rfl⟩
theorem fe_96 : FeOk Tryz.prog 96 (FE.code 17 [.tmp 4] (bodyOf Tryz.f96)) := ⟨_, Tryz.func96, by kernel_rfl, Tryz.ntmps96, by rw [Tryz.results96], by kernel_rfl⟩
theorem fe_97 : FeOk Tryz.prog 97 (FE.code 18 [.tmp 2] (bodyOf Tryz.f97)) := ⟨_, Tryz.func97, by kernel_rfl, Tryz.ntmps97, by rw [Tryz.results97], by kernel_rfl⟩
theorem fe_98 : FeOk Tryz.prog 98 (FE.code 20 [.tmp 4] (bodyOf Tryz.f98)) := ⟨_, Tryz.func98, by kernel_rfl, Tryz.ntmps98, by rw [Tryz.results98], by kernel_rfl⟩
theorem fe_99 : FeOk Tryz.prog 99 (FE.code 6 [.tmp 2] (bodyOf Tryz.f99)) := ⟨_, Tryz.func99, by kernel_rfl, Tryz.ntmps99, by rw [Tryz.results99], by kernel_rfl⟩
theorem fe_100 : FeOk Tryz.prog 100 (FE.code 8 [.tmp 4] (bodyOf Tryz.f100)) := ⟨_, Tryz.func100, by kernel_rfl, Tryz.ntmps100, by rw [Tryz.results100], by kernel_rfl⟩
theorem fe_101 : FeOk Tryz.prog 101 (FE.code 66 [.tmp 4] (bodyOf Tryz.f101)) := ⟨_, Tryz.func101, by kernel_rfl, Tryz.ntmps101, by rw [Tryz.results101], by kernel_rfl⟩
theorem fe_102 : FeOk Tryz.prog 102 (FE.code 17 [.tmp 4] (bodyOf Tryz.f102)) := ⟨_, Tryz.func102, by kernel_rfl, Tryz.ntmps102, by rw [Tryz.results102], by kernel_rfl⟩
theorem fe_103 : FeOk Tryz.prog 103 (FE.code 8 [.tmp 4] (bodyOf Tryz.f103)) := ⟨_, Tryz.func103, by kernel_rfl, Tryz.ntmps103, by rw [Tryz.results103], by kernel_rfl⟩
theorem fe_154 : FeOk Tryz.prog 154 (FE.code 17 [.tmp 2] (bodyOf Tryz.f154)) := ⟨_, Tryz.func154, by kernel_rfl, Tryz.ntmps154, by rw [Tryz.results154], by kernel_rfl⟩
theorem fe_155 : FeOk Tryz.prog 155 (FE.code 140 [.cell 2 100, .tmp 3] (bodyOf Tryz.f155)) := ⟨_, Tryz.func155, by kernel_rfl, Tryz.ntmps155, by rw [Tryz.results155], by kernel_rfl⟩
theorem fe_156 : FeOk Tryz.prog 156 (FE.code 19 [.tmp 4] (bodyOf Tryz.f156)) := ⟨_, Tryz.func156, by kernel_rfl, Tryz.ntmps156, by rw [Tryz.results156], by kernel_rfl⟩
theorem fe_157 : FeOk Tryz.prog 157 (FE.code 19 [.tmp 4] (bodyOf Tryz.f157)) := ⟨_, Tryz.func157, by kernel_rfl, Tryz.ntmps157, by rw [Tryz.results157], by kernel_rfl⟩
theorem fe_158 : FeOk Tryz.prog 158 (FE.code 26 [.tmp 4] (bodyOf Tryz.f158)) := ⟨_, Tryz.func158, by kernel_rfl, Tryz.ntmps158, by rw [Tryz.results158], by kernel_rfl⟩
theorem fe_159 : FeOk Tryz.prog 159 (FE.code 30 [.tmp 4] (bodyOf Tryz.f159)) := ⟨_, Tryz.func159, by kernel_rfl, Tryz.ntmps159, by rw [Tryz.results159], by kernel_rfl⟩
theorem fe_160 : FeOk Tryz.prog 160 (FE.code 8 [.tmp 4] (bodyOf Tryz.f160)) := ⟨_, Tryz.func160, by kernel_rfl, Tryz.ntmps160, by rw [Tryz.results160], by kernel_rfl⟩
theorem fe_161 : FeOk Tryz.prog 161 (FE.code 9 [.tmp 4] (bodyOf Tryz.f161)) := ⟨_, Tryz.func161, by kernel_rfl, Tryz.ntmps161, by rw [Tryz.results161], by kernel_rfl⟩
theorem fe_162 : FeOk Tryz.prog 162 (FE.code 6 [.tmp 2] (bodyOf Tryz.f162)) := ⟨_, Tryz.func162, by kernel_rfl, Tryz.ntmps162, by rw [Tryz.results162], by kernel_rfl⟩
theorem fe_163 : FeOk Tryz.prog 163 (FE.code 28 [.tmp 2] (bodyOf Tryz.f163)) := ⟨_, Tryz.func163, by kernel_rfl, Tryz.ntmps163, by rw [Tryz.results163], by kernel_rfl⟩
theorem fe_164 : FeOk Tryz.prog 164 (FE.code 19 [.tmp 4] (bodyOf Tryz.f164)) := ⟨_, Tryz.func164, by kernel_rfl, Tryz.ntmps164, by rw [Tryz.results164], by kernel_rfl⟩
theorem fe_165 : FeOk Tryz.prog 165 (FE.code 87 [.tmp 4] (bodyOf Tryz.f165)) := ⟨_, Tryz.func165, by kernel_rfl, Tryz.ntmps165, by rw [Tryz.results165], by kernel_rfl⟩
theorem fe_166 : FeOk Tryz.prog 166 (FE.code 148 [] (bodyOf Tryz.f166)) := ⟨_, Tryz.func166, by kernel_rfl, Tryz.ntmps166, by rw [Tryz.results166], by kernel_rfl⟩
theorem fe_167 : FeOk Tryz.prog 167 (FE.code 8 [.tmp 2] (bodyOf Tryz.f167)) := ⟨_, Tryz.func167, by kernel_rfl, Tryz.ntmps167, by rw [Tryz.results167], by kernel_rfl⟩
theorem fe_168 : FeOk Tryz.prog 168 (FE.code 4 [.tmp 2] (bodyOf Tryz.f168)) := ⟨_, Tryz.func168, by kernel_rfl, Tryz.ntmps168, by rw [Tryz.results168], by kernel_rfl⟩
theorem fe_169 : FeOk Tryz.prog 169 (FE.code 37 [.cell 8 100, .tmp 9] (bodyOf Tryz.f169)) := ⟨_, Tryz.func169, by kernel_rfl, Tryz.ntmps169, by rw [Tryz.results169], by kernel_rfl⟩
theorem fe_170 : FeOk Tryz.prog 170 (FE.code 8 [.tmp 2] (bodyOf Tryz.f170)) := ⟨_, Tryz.func170, by kernel_rfl, Tryz.ntmps170, by rw [Tryz.results170], by kernel_rfl⟩
theorem fe_171 : FeOk Tryz.prog 171 (FE.code 11 [] (bodyOf Tryz.f171)) := ⟨_, Tryz.func171, by kernel_rfl, Tryz.ntmps171, by rw [Tryz.results171], by kernel_rfl⟩
theorem fe_172 : FeOk Tryz.prog 172 (FE.code 61 [.tmp 2] (bodyOf Tryz.f172)) := ⟨_, Tryz.func172, by kernel_rfl, Tryz.ntmps172, by rw [Tryz.results172], by kernel_rfl⟩
theorem fe_173 : FeOk Tryz.prog 173 (FE.code 63 [] (bodyOf Tryz.f173)) := ⟨_, Tryz.func173, by kernel_rfl, Tryz.ntmps173, by rw [Tryz.results173], by kernel_rfl⟩
theorem fe_174 : FeOk Tryz.prog 174 (FE.code 6 [.tmp 2] (bodyOf Tryz.f174)) := ⟨_, Tryz.func174, by kernel_rfl, Tryz.ntmps174, by rw [Tryz.results174], by kernel_rfl⟩
theorem fe_175 : FeOk Tryz.prog 175 (FE.code 8 [.tmp 4] (bodyOf Tryz.f175)) := ⟨_, Tryz.func175, by kernel_rfl, Tryz.ntmps175, by rw [Tryz.results175], by kernel_rfl⟩
theorem fe_176 : FeOk Tryz.prog 176 (FE.code 32 [.tmp 6] (bodyOf Tryz.f176)) := ⟨_, Tryz.func176, by kernel_rfl, Tryz.ntmps176, by rw [Tryz.results176], by kernel_rfl⟩
theorem fe_177 : FeOk Tryz.prog 177 (FE.code 45 [.tmp 4] (bodyOf Tryz.f177)) := ⟨_, Tryz.func177, by kernel_rfl, Tryz.ntmps177, by rw [Tryz.results177], by kernel_rfl⟩
theorem fe_198 : FeOk Tryz.prog 198 (FE.code 19 [.tmp 2, .tmp 3] (bodyOf Tryz.f198)) := ⟨_, Tryz.func198, by kernel_rfl, Tryz.ntmps198, by rw [Tryz.results198], by kernel_rfl⟩
theorem fe_206 : FeOk Tryz.prog 206 (FE.code 26 [.tmp 4] (bodyOf Tryz.f206)) := ⟨_, Tryz.func206, by kernel_rfl, Tryz.ntmps206, by rw [Tryz.results206], by kernel_rfl⟩
theorem fe_207 : FeOk Tryz.prog 207 (FE.code 66 [.tmp 8] (bodyOf Tryz.f207)) := ⟨_, Tryz.func207, by kernel_rfl, Tryz.ntmps207, by rw [Tryz.results207], by kernel_rfl⟩
theorem fe_208 : FeOk Tryz.prog 208 (FE.code 19 [.tmp 4] (bodyOf Tryz.f208)) := ⟨_, Tryz.func208, by kernel_rfl, Tryz.ntmps208, by rw [Tryz.results208], by kernel_rfl⟩
theorem fe_209 : FeOk Tryz.prog 209 (FE.code 17 [.tmp 2] (bodyOf Tryz.f209)) := ⟨_, Tryz.func209, by kernel_rfl, Tryz.ntmps209, by rw [Tryz.results209], by kernel_rfl⟩
theorem fe_210 : FeOk Tryz.prog 210 (FE.code 17 [.tmp 2] (bodyOf Tryz.f210)) := ⟨_, Tryz.func210, by kernel_rfl, Tryz.ntmps210, by rw [Tryz.results210], by kernel_rfl⟩
theorem fe_211 : FeOk Tryz.prog 211 (FE.code 40 [.tmp 2, .tmp 3] (bodyOf Tryz.f211)) := ⟨_, Tryz.func211, by kernel_rfl, Tryz.ntmps211, by rw [Tryz.results211], by kernel_rfl⟩
theorem fe_212 : FeOk Tryz.prog 212 (FE.code 53 [] (bodyOf Tryz.f212)) := ⟨_, Tryz.func212, by kernel_rfl, Tryz.ntmps212, by rw [Tryz.results212], by kernel_rfl⟩
theorem fe_213 : FeOk Tryz.prog 213 (FE.code 60 [] (bodyOf Tryz.f213)) := ⟨_, Tryz.func213, by kernel_rfl, Tryz.ntmps213, by rw [Tryz.results213], by kernel_rfl⟩
theorem fe_214 : FeOk Tryz.prog 214 (FE.code 67 [] (bodyOf Tryz.f214)) := ⟨_, Tryz.func214, by kernel_rfl, Tryz.ntmps214, by rw [Tryz.results214], by kernel_rfl⟩
theorem fe_215 : FeOk Tryz.prog 215 (FE.code 63 [.tmp 8, .tmp 9] (bodyOf Tryz.f215)) := ⟨_, Tryz.func215, by kernel_rfl, Tryz.ntmps215, by rw [Tryz.results215], by kernel_rfl⟩
theorem fe_216 : FeOk Tryz.prog 216 (FE.code 34 [] (bodyOf Tryz.f216)) := ⟨_, Tryz.func216, by kernel_rfl, Tryz.ntmps216, by rw [Tryz.results216], by kernel_rfl⟩
theorem fe_217 : FeOk Tryz.prog 217 (FE.code 141 [.tmp 8] (bodyOf Tryz.f217)) := ⟨_, Tryz.func217, by kernel_rfl, Tryz.ntmps217, by rw [Tryz.results217], by kernel_rfl⟩
theorem fe_218 : FeOk Tryz.prog 218 (FE.code 90 [.tmp 10] (bodyOf Tryz.f218)) := ⟨_, Tryz.func218, by kernel_rfl, Tryz.ntmps218, by rw [Tryz.results218], by kernel_rfl⟩
theorem fe_219 : FeOk Tryz.prog 219 (FE.code 178 [.tmp 10, .tmp 11] (bodyOf Tryz.f219)) := ⟨_, Tryz.func219, by kernel_rfl, Tryz.ntmps219, by rw [Tryz.results219], by kernel_rfl⟩
theorem fe_220 : FeOk Tryz.prog 220 (FE.code 19 [.tmp 2] (bodyOf Tryz.f220)) := ⟨_, Tryz.func220, by kernel_rfl, Tryz.ntmps220, by rw [Tryz.results220], by kernel_rfl⟩
theorem fe_221 : FeOk Tryz.prog 221 (FE.code 25 [.tmp 2] (bodyOf Tryz.f221)) := ⟨_, Tryz.func221, by kernel_rfl, Tryz.ntmps221, by rw [Tryz.results221], by kernel_rfl⟩
theorem fe_222 : FeOk Tryz.prog 222 (FE.code 134 [] (bodyOf Tryz.f222)) := ⟨_, Tryz.func222, by kernel_rfl, Tryz.ntmps222, by rw [Tryz.results222], by kernel_rfl⟩
theorem fe_223 : FeOk Tryz.prog 223 (FE.code 53 [] (bodyOf Tryz.f223)) := ⟨_, Tryz.func223, by kernel_rfl, Tryz.ntmps223, by rw [Tryz.results223], by kernel_rfl⟩
theorem fe_224 : FeOk Tryz.prog 224 (FE.code 220 [] (bodyOf Tryz.f224)) := ⟨_, Tryz.func224, by kernel_rfl, Tryz.ntmps224, by rw [Tryz.results224], by kernel_rfl⟩
theorem fe_225 : FeOk Tryz.prog 225 (FE.pure cmpX) := cmp_ok Tryz.func225 (by kernel_rfl) (by kernel_rfl) (by kernel_rfl) (by kernel_rfl)
theorem fe_247 : FeOk Tryz.prog 247 (FE.code 117 [.tmp 2, .tmp 3] (bodyOf Tryz.f247)) := ⟨_, Tryz.func247, by kernel_rfl, Tryz.ntmps247, by rw [Tryz.results247], by kernel_rfl⟩
theorem fe_258 : FeOk Tryz.prog 258 (FE.code 50 [.tmp 4] (bodyOf Tryz.f258)) := ⟨_, Tryz.func258, by kernel_rfl, Tryz.ntmps258, by rw [Tryz.results258], by kernel_rfl⟩
theorem fe_259 : FeOk Tryz.prog 259 (FE.code 34 [.tmp 4] (bodyOf Tryz.f259)) := ⟨_, Tryz.func259, by kernel_rfl, Tryz.ntmps259, by rw [Tryz.results259], by kernel_rfl⟩
theorem fe_260 : FeOk Tryz.prog 260 (FE.code 8 [.tmp 4] (bodyOf Tryz.f260)) := ⟨_, Tryz.func260, by kernel_rfl, Tryz.ntmps260, by rw [Tryz.results260], by kernel_rfl⟩
theorem fe_261 : FeOk Tryz.prog 261 (FE.code 82 [] (bodyOf Tryz.f261)) := ⟨_, Tryz.func261, by kernel_rfl, Tryz.ntmps261, by rw [Tryz.results261], by kernel_rfl⟩
theorem fe_262 : FeOk Tryz.prog 262 (FE.code 7 [.tmp 2] (bodyOf Tryz.f262)) := ⟨_, Tryz.func262, by kernel_rfl, Tryz.ntmps262, by rw [Tryz.results262], by kernel_rfl⟩
theorem fe_263 : FeOk Tryz.prog 263 (FE.code 33 [.tmp 2] (bodyOf Tryz.f263)) := ⟨_, Tryz.func263, by kernel_rfl, Tryz.ntmps263, by rw [Tryz.results263], by kernel_rfl⟩
theorem fe_264 : FeOk Tryz.prog 264 (FE.code 18 [.tmp 8] (bodyOf Tryz.f264)) := ⟨_, Tryz.func264, by kernel_rfl, Tryz.ntmps264, by rw [Tryz.results264], by kernel_rfl⟩
theorem fe_265 : FeOk Tryz.prog 265 (FE.code 41 [.tmp 12] (bodyOf Tryz.f265)) := ⟨_, Tryz.func265, by kernel_rfl, Tryz.ntmps265, by rw [Tryz.results265], by kernel_rfl⟩
theorem fe_266 : FeOk Tryz.prog 266 (FE.code 49 [] (bodyOf Tryz.f266)) := ⟨_, Tryz.func266, by kernel_rfl, Tryz.ntmps266, by rw [Tryz.results266], by kernel_rfl⟩
theorem fe_267 : FeOk Tryz.prog 267 (FE.code 56 [] (bodyOf Tryz.f267)) := ⟨_, Tryz.func267, by kernel_rfl, Tryz.ntmps267, by rw [Tryz.results267], by kernel_rfl⟩
theorem fe_268 : FeOk Tryz.prog 268 (FE.code 65 [] (bodyOf Tryz.f268)) := ⟨_, Tryz.func268, by kernel_rfl, Tryz.ntmps268, by rw [Tryz.results268], by kernel_rfl⟩
theorem fe_269 : FeOk Tryz.prog 269 (FE.code 57 [.tmp 6, .tmp 7] (bodyOf Tryz.f269)) := ⟨_, Tryz.func269, by kernel_rfl, Tryz.ntmps269, by rw [Tryz.results269], by kernel_rfl⟩
theorem fe_270 : FeOk Tryz.prog 270 (FE.code 32 [] (bodyOf Tryz.f270)) := ⟨_, Tryz.func270, by kernel_rfl, Tryz.ntmps270, by rw [Tryz.results270], by kernel_rfl⟩
theorem fe_271 : FeOk Tryz.prog 271 (FE.code 133 [.tmp 6] (bodyOf Tryz.f271)) := ⟨_, Tryz.func271, by kernel_rfl, Tryz.ntmps271, by rw [Tryz.results271], by kernel_rfl⟩
theorem fe_272 : FeOk Tryz.prog 272 (FE.code 17 [.tmp 4] (bodyOf Tryz.f272)) := ⟨_, Tryz.func272, by kernel_rfl, Tryz.ntmps272, by rw [Tryz.results272], by kernel_rfl⟩
theorem fe_273 : FeOk Tryz.prog 273 (FE.code 84 [.tmp 8] (bodyOf Tryz.f273)) := ⟨_, Tryz.func273, by kernel_rfl, Tryz.ntmps273, by rw [Tryz.results273], by kernel_rfl⟩
theorem fe_274 : FeOk Tryz.prog 274 (FE.code 168 [.tmp 8, .tmp 9] (bodyOf Tryz.f274)) := ⟨_, Tryz.func274, by kernel_rfl, Tryz.ntmps274, by rw [Tryz.results274], by kernel_rfl⟩
theorem fe_275 : FeOk Tryz.prog 275 (FE.code 58 [] (bodyOf Tryz.f275)) := ⟨_, Tryz.func275, by kernel_rfl, Tryz.ntmps275, by rw [Tryz.results275], by kernel_rfl⟩
theorem fe_291 : FeOk Tryz.prog 291 (FE.code 6 [.tmp 2] (bodyOf Tryz.f291)) := ⟨_, Tryz.func291, by kernel_rfl, Tryz.ntmps291, by rw [Tryz.results291], by kernel_rfl⟩
theorem fe_293 : FeOk Tryz.prog 293 (FE.code 8 [.tmp 4] (bodyOf Tryz.f293)) := ⟨_, Tryz.func293, by kernel_rfl, Tryz.ntmps293, by rw [Tryz.results293], by kernel_rfl⟩
theorem fe_304 : FeOk Tryz.prog 304 (FE.code 10 [.tmp 2] (bodyOf Tryz.f304)) := ⟨_, Tryz.func304, by kernel_rfl, Tryz.ntmps304, by rw [Tryz.results304], by kernel_rfl⟩
theorem fe_305 : FeOk Tryz.prog 305 (FE.pure countX) := count_ok Tryz.func305 (by kernel_rfl) (by kernel_rfl) (by kernel_rfl) (by kernel_rfl)
theorem fe_306 : FeOk Tryz.prog 306 (FE.code 143 [.tmp 4] (bodyOf Tryz.f306)) := ⟨_, Tryz.func306, by kernel_rfl, Tryz.ntmps306, by rw [Tryz.results306], by kernel_rfl⟩
theorem fe_307 : FeOk Tryz.prog 307 (FE.code 32 [.tmp 10, .tmp 11] (bodyOf Tryz.f307)) := ⟨_, Tryz.func307, by kernel_rfl, Tryz.ntmps307, by rw [Tryz.results307], by kernel_rfl⟩
theorem fe_308 : FeOk Tryz.prog 308 (FE.code 76 [] (bodyOf Tryz.f308)) := ⟨_, Tryz.func308, by kernel_rfl, Tryz.ntmps308, by rw [Tryz.results308], by kernel_rfl⟩
theorem fe_309 : FeOk Tryz.prog 309 (FE.code 15 [.tmp 6] (bodyOf Tryz.f309)) := ⟨_, Tryz.func309, by kernel_rfl, Tryz.ntmps309, by rw [Tryz.results309], by kernel_rfl⟩
theorem fe_310 : FeOk Tryz.prog 310 (FE.code 36 [.tmp 10] (bodyOf Tryz.f310)) := ⟨_, Tryz.func310, by kernel_rfl, Tryz.ntmps310, by rw [Tryz.results310], by kernel_rfl⟩
theorem fe_311 : FeOk Tryz.prog 311 (FE.code 6 [.tmp 2] (bodyOf Tryz.f311)) := ⟨_, Tryz.func311, by kernel_rfl, Tryz.ntmps311, by rw [Tryz.results311], by kernel_rfl⟩
theorem fe_312 : FeOk Tryz.prog 312 (FE.code 38 [] (bodyOf Tryz.f312)) := ⟨_, Tryz.func312, by kernel_rfl, Tryz.ntmps312, by rw [Tryz.results312], by kernel_rfl⟩
theorem fe_321 : FeOk Tryz.prog 321 (FE.pure idxX) := idx_ok Tryz.func321 (by kernel_rfl) (by kernel_rfl) (by kernel_rfl) (by kernel_rfl)
theorem fe_330 : FeOk Tryz.prog 330 (FE.code 81 [.tmp 4] (bodyOf Tryz.f330)) := ⟨_, Tryz.func330, by kernel_rfl, Tryz.ntmps330, by rw [Tryz.results330], by kernel_rfl⟩
theorem fe_331 : FeOk Tryz.prog 331 (FE.code 28 [.tmp 8, .tmp 9] (bodyOf Tryz.f331)) := ⟨_, Tryz.func331, by kernel_rfl, Tryz.ntmps331, by rw [Tryz.results331], by kernel_rfl⟩
theorem fe_345 : FeOk Tryz.prog 345 (FE.code 39 [.tmp 2, .tmp 3] (bodyOf Tryz.f345)) := ⟨_, Tryz.func345, by kernel_rfl, Tryz.ntmps345, by rw [Tryz.results345], by kernel_rfl⟩
noncomputable def ftL : List (Nat × FE) := [(4, FE.code 126 [.tmp 2] (bodyOf Tryz.f4)),
  (9, FE.code 54 [.tmp 2, .tmp 3, .tmp 4] (bodyOf Tryz.f9)),
  (10, FE.code 65 [.tmp 2, .tmp 3] (bodyOf Tryz.f10)),
  (11, FE.code 84 [.tmp 0] (bodyOf Tryz.f11)),
  (31, FE.code 125 [.tmp 2, .tmp 3, .tmp 4] (bodyOf Tryz.f31)),
  (32, FE.code 145 [.cell 2 87, .tmp 3, .tmp 4] (bodyOf Tryz.f32)),
  (33, FE.code 38 [.cell 2 92] (bodyOf Tryz.f33)),
  (34, FE.code 43 [.tmp 6] (bodyOf Tryz.f34)),
  (35, FE.code 11 [.tmp 2] (bodyOf Tryz.f35)),
  (36, FE.code 15 [.tmp 2] (bodyOf Tryz.f36)),
  (37, FE.code 71 [.tmp 2, .tmp 3] (bodyOf Tryz.f37)),
  (38, FE.code 41 [.tmp 2] (bodyOf Tryz.f38)),
  (39, FE.code 8 [.tmp 4] (bodyOf Tryz.f39)),
  (46, FE.code 21 [.tmp 6] (bodyOf Tryz.f46)),
  (76, FE.code 61 [.tmp 4] (bodyOf Tryz.f76)),
  (77, FE.code 47 [.tmp 2] (bodyOf Tryz.f77)),
  (78, FE.code 52 [.tmp 2] (bodyOf Tryz.f78)),
  (79, FE.code 42 [.tmp 2, .tmp 3] (bodyOf Tryz.f79)),
  (80, FE.code 9 [.tmp 4] (bodyOf Tryz.f80)),
  (81, FE.code 5 [.tmp 2] (bodyOf Tryz.f81)),
  (82, FE.code 9 [.tmp 4] (bodyOf Tryz.f82)),
  (83, FE.code 7 [.tmp 3] (bodyOf Tryz.f83)),
  (84, FE.code 67 [.tmp 4] (bodyOf Tryz.f84)),
  (85, FE.code 71 [.tmp 4] (bodyOf Tryz.f85)),
  (86, FE.code 31 [.tmp 2] (bodyOf Tryz.f86)),
  (87, FE.code 36 [.tmp 4] (bodyOf Tryz.f87)),
  (88, FE.code 8 [.tmp 2] (bodyOf Tryz.f88)),
  (89, FE.code 14 [] (bodyOf Tryz.f89)),
  (90, FE.code 24 [.tmp 4] (bodyOf Tryz.f90)),
  (91, FE.code 39 [.tmp 2] (bodyOf Tryz.f91)),
  (92, FE.code 25 [.tmp 4] (bodyOf Tryz.f92)),
  (93, FE.code 54 [.tmp 4] (bodyOf Tryz.f93)),
  (94, FE.code 10 [.tmp 2] (bodyOf Tryz.f94)),
  (95, FE.code 9 [] (bodyOf Tryz.f95)),
  (96, FE.code 17 [.tmp 4] (bodyOf Tryz.f96)),
  (97, FE.code 18 [.tmp 2] (bodyOf Tryz.f97)),
  (98, FE.code 20 [.tmp 4] (bodyOf Tryz.f98)),
  (99, FE.code 6 [.tmp 2] (bodyOf Tryz.f99)),
  (100, FE.code 8 [.tmp 4] (bodyOf Tryz.f100)),
  (101, FE.code 66 [.tmp 4] (bodyOf Tryz.f101)),
  (102, FE.code 17 [.tmp 4] (bodyOf Tryz.f102)),
  (103, FE.code 8 [.tmp 4] (bodyOf Tryz.f103)),
  (154, FE.code 17 [.tmp 2] (bodyOf Tryz.f154)),
  (155, FE.code 140 [.cell 2 100, .tmp 3] (bodyOf Tryz.f155)),
  (156, FE.code 19 [.tmp 4] (bodyOf Tryz.f156)),
  (157, FE.code 19 [.tmp 4] (bodyOf Tryz.f157)),
  (158, FE.code 26 [.tmp 4] (bodyOf Tryz.f158)),
  (159, FE.code 30 [.tmp 4] (bodyOf Tryz.f159)),
  (160, FE.code 8 [.tmp 4] (bodyOf Tryz.f160)),
  (161, FE.code 9 [.tmp 4] (bodyOf Tryz.f161)),
  (162, FE.code 6 [.tmp 2] (bodyOf Tryz.f162)),
  (163, FE.code 28 [.tmp 2] (bodyOf Tryz.f163)),
  (164, FE.code 19 [.tmp 4] (bodyOf Tryz.f164)),
  (165, FE.code 87 [.tmp 4] (bodyOf Tryz.f165)),
  (166, FE.code 148 [] (bodyOf Tryz.f166)),
  (167, FE.code 8 [.tmp 2] (bodyOf Tryz.f167)),
  (168, FE.code 4 [.tmp 2] (bodyOf Tryz.f168)),
  (169, FE.code 37 [.cell 8 100, .tmp 9] (bodyOf Tryz.f169)),
  (170, FE.code 8 [.tmp 2] (bodyOf Tryz.f170)),
  (171, FE.code 11 [] (bodyOf Tryz.f171)),
  (172, FE.code 61 [.tmp 2] (bodyOf Tryz.f172)),
  (173, FE.code 63 [] (bodyOf Tryz.f173)),
  (174, FE.code 6 [.tmp 2] (bodyOf Tryz.f174)),
  (175, FE.code 8 [.tmp 4] (bodyOf Tryz.f175)),
  (176, FE.code 32 [.tmp 6] (bodyOf Tryz.f176)),
  (177, FE.code 45 [.tmp 4] (bodyOf Tryz.f177)),
  (198, FE.code 19 [.tmp 2, .tmp 3] (bodyOf Tryz.f198)),
  (206, FE.code 26 [.tmp 4] (bodyOf Tryz.f206)),
  (207, FE.code 66 [.tmp 8] (bodyOf Tryz.f207)),
  (208, FE.code 19 [.tmp 4] (bodyOf Tryz.f208)),
  (209, FE.code 17 [.tmp 2] (bodyOf Tryz.f209)),
  (210, FE.code 17 [.tmp 2] (bodyOf Tryz.f210)),
  (211, FE.code 40 [.tmp 2, .tmp 3] (bodyOf Tryz.f211)),
  (212, FE.code 53 [] (bodyOf Tryz.f212)),
  (213, FE.code 60 [] (bodyOf Tryz.f213)),
  (214, FE.code 67 [] (bodyOf Tryz.f214)),
  (215, FE.code 63 [.tmp 8, .tmp 9] (bodyOf Tryz.f215)),
  (216, FE.code 34 [] (bodyOf Tryz.f216)),
  (217, FE.code 141 [.tmp 8] (bodyOf Tryz.f217)),
  (218, FE.code 90 [.tmp 10] (bodyOf Tryz.f218)),
  (219, FE.code 178 [.tmp 10, .tmp 11] (bodyOf Tryz.f219)),
  (220, FE.code 19 [.tmp 2] (bodyOf Tryz.f220)),
  (221, FE.code 25 [.tmp 2] (bodyOf Tryz.f221)),
  (222, FE.code 134 [] (bodyOf Tryz.f222)),
  (223, FE.code 53 [] (bodyOf Tryz.f223)),
  (224, FE.code 220 [] (bodyOf Tryz.f224)),
  (225, FE.pure cmpX),
  (247, FE.code 117 [.tmp 2, .tmp 3] (bodyOf Tryz.f247)),
  (258, FE.code 50 [.tmp 4] (bodyOf Tryz.f258)),
  (259, FE.code 34 [.tmp 4] (bodyOf Tryz.f259)),
  (260, FE.code 8 [.tmp 4] (bodyOf Tryz.f260)),
  (261, FE.code 82 [] (bodyOf Tryz.f261)),
  (262, FE.code 7 [.tmp 2] (bodyOf Tryz.f262)),
  (263, FE.code 33 [.tmp 2] (bodyOf Tryz.f263)),
  (264, FE.code 18 [.tmp 8] (bodyOf Tryz.f264)),
  (265, FE.code 41 [.tmp 12] (bodyOf Tryz.f265)),
  (266, FE.code 49 [] (bodyOf Tryz.f266)),
  (267, FE.code 56 [] (bodyOf Tryz.f267)),
  (268, FE.code 65 [] (bodyOf Tryz.f268)),
  (269, FE.code 57 [.tmp 6, .tmp 7] (bodyOf Tryz.f269)),
  (270, FE.code 32 [] (bodyOf Tryz.f270)),
  (271, FE.code 133 [.tmp 6] (bodyOf Tryz.f271)),
  (272, FE.code 17 [.tmp 4] (bodyOf Tryz.f272)),
  (273, FE.code 84 [.tmp 8] (bodyOf Tryz.f273)),
  (274, FE.code 168 [.tmp 8, .tmp 9] (bodyOf Tryz.f274)),
  (275, FE.code 58 [] (bodyOf Tryz.f275)),
  (291, FE.code 6 [.tmp 2] (bodyOf Tryz.f291)),
  (293, FE.code 8 [.tmp 4] (bodyOf Tryz.f293)),
  (304, FE.code 10 [.tmp 2] (bodyOf Tryz.f304)),
  (305, FE.pure countX),
  (306, FE.code 143 [.tmp 4] (bodyOf Tryz.f306)),
  (307, FE.code 32 [.tmp 10, .tmp 11] (bodyOf Tryz.f307)),
  (308, FE.code 76 [] (bodyOf Tryz.f308)),
  (309, FE.code 15 [.tmp 6] (bodyOf Tryz.f309)),
  (310, FE.code 36 [.tmp 10] (bodyOf Tryz.f310)),
  (311, FE.code 6 [.tmp 2] (bodyOf Tryz.f311)),
  (312, FE.code 38 [] (bodyOf Tryz.f312)),
  (321, FE.pure idxX),
  (330, FE.code 81 [.tmp 4] (bodyOf Tryz.f330)),
  (331, FE.code 28 [.tmp 8, .tmp 9] (bodyOf Tryz.f331)),
  (345, FE.code 39 [.tmp 2, .tmp 3] (bodyOf Tryz.f345))]
theorem ftLOk : ∀ p ∈ ftL, FeOk Tryz.prog p.1 p.2 := all_cons fe_4 (all_cons fe_9 (all_cons fe_10 (all_cons fe_11 (all_cons fe_31 (all_cons fe_32 (all_cons fe_33 (all_cons fe_34 (all_cons fe_35 (all_cons fe_36 (all_cons fe_37 (all_cons fe_38 (all_cons fe_39 (all_cons fe_46 (all_cons fe_76 (all_cons fe_77 (all_cons fe_78 (all_cons fe_79 (all_cons fe_80 (all_cons fe_81 (all_cons fe_82 (all_cons fe_83 (all_cons fe_84 (all_cons fe_85 (all_cons fe_86 (all_cons fe_87 (all_cons fe_88 (all_cons fe_89 (all_cons fe_90 (all_cons fe_91 (all_cons fe_92 (all_cons fe_93 (all_cons fe_94 (all_cons fe_95 (all_cons fe_96 (all_cons fe_97 (all_cons fe_98 (all_cons fe_99 (all_cons fe_100 (all_cons fe_101 (all_cons fe_102 (all_cons fe_103 (all_cons fe_154 (all_cons fe_155 (all_cons fe_156 (all_cons fe_157 (all_cons fe_158 (all_cons fe_159 (all_cons fe_160 (all_cons fe_161 (all_cons fe_162 (all_cons fe_163 (all_cons fe_164 (all_cons fe_165 (all_cons fe_166 (all_cons fe_167 (all_cons fe_168 (all_cons fe_169 (all_cons fe_170 (all_cons fe_171 (all_cons fe_172 (all_cons fe_173 (all_cons fe_174 (all_cons fe_175 (all_cons fe_176 (all_cons fe_177 (all_cons fe_198 (all_cons fe_206 (all_cons fe_207 (all_cons fe_208 (all_cons fe_209 (all_cons fe_210 (all_cons fe_211 (all_cons fe_212 (all_cons fe_213 (all_cons fe_214 (all_cons fe_215 (all_cons fe_216 (all_cons fe_217 (all_cons fe_218 (all_cons fe_219 (all_cons fe_220 (all_cons fe_221 (all_cons fe_222 (all_cons fe_223 (all_cons fe_224 (all_cons fe_225 (all_cons fe_247 (all_cons fe_258 (all_cons fe_259 (all_cons fe_260 (all_cons fe_261 (all_cons fe_262 (all_cons fe_263 (all_cons fe_264 (all_cons fe_265 (all_cons fe_266 (all_cons fe_267 (all_cons fe_268 (all_cons fe_269 (all_cons fe_270 (all_cons fe_271 (all_cons fe_272 (all_cons fe_273 (all_cons fe_274 (all_cons fe_275 (all_cons fe_291 (all_cons fe_293 (all_cons fe_304 (all_cons fe_305 (all_cons fe_306 (all_cons fe_307 (all_cons fe_308 (all_cons fe_309 (all_cons fe_310 (all_cons fe_311 (all_cons fe_312 (all_cons fe_321 (all_cons fe_330 (all_cons fe_331 (all_cons fe_345 (all_nil)))))))))))))))))))))))))))))))))))))))))))))))))))))))))))))))))))))))))))))))))))))))))))))))))))))))))))))))))))))))))
noncomputable def ftT : T FE := ofList ftL
theorem ftOk : FtOk Tryz.prog ftT := ftOk_of ftLOk
end Go.Rx

import Derived.Test.YtkbfgogimhfglaaR2
import Derived.Test.YtkbfgogimhfglaaRows
set_option linter.unusedVariables false
set_option linter.unusedSimpArgs false
set_option linter.unusedSectionVars false
namespace Go.Rx
open Go.Proofs
theorem mixed : Try.prog.follows .mixedOrders = true := by kernel_rfl
theorem ty_3 : RTOk Try.prog ⟨3, (.int .i64), 1, false, 8, (some [(.int .i64 0)]), (some [.i])⟩ := RTOk.q Try.underlying3 (by kernel_rfl) (by kernel_rfl) (by kernel_rfl) (zS (by kernel_rfl) rfl rfl) (fun _ => rfl) (by kernel_rfl) (by kernel_rfl) rfl
theorem ty_4 : RTOk Try.prog ⟨4, .bool, 1, false, 1, (some [(.bool false)]), (some [.b])⟩ := RTOk.q Try.underlying4 (by kernel_rfl) (by kernel_rfl) (by kernel_rfl) (zS (by kernel_rfl) rfl rfl) (fun _ => rfl) (by kernel_rfl) (by kernel_rfl) rfl
theorem ty_5 : RTOk Try.prog ⟨5, (.int .u8), 1, false, 1, (some [(.int .u8 0)]), (some [.i])⟩ := RTOk.q Try.underlying5 (by kernel_rfl) (by kernel_rfl) (by kernel_rfl) (zS (by kernel_rfl) rfl rfl) (fun _ => rfl) (by kernel_rfl) (by kernel_rfl) rfl
theorem ty_9 : RTOk Try.prog ⟨9, .str, 1, false, 16, (some [(.str [])]), (some [.s])⟩ := RTOk.q Try.underlying9 (by kernel_rfl) (by kernel_rfl) (by kernel_rfl) (zS (by kernel_rfl) rfl rfl) (fun _ => rfl) (by kernel_rfl) (by kernel_rfl) rfl
theorem ty_22 : RTOk Try.prog ⟨22, (.int .i64), 1, false, 8, (some [(.int .i64 0)]), (some [.i])⟩ := RTOk.q Try.underlying22 (by kernel_rfl) (by kernel_rfl) (by kernel_rfl) (zS (by kernel_rfl) rfl rfl) (fun _ => rfl) (by kernel_rfl) (by kernel_rfl) rfl
theorem ty_23 : RTOk Try.prog ⟨23, (.st [(0, 9), (1, 22)]), 2, true, 24, (some [(.str []), (.int .i64 0)]), (some [.s, .i])⟩ := RTOk.q ⟨_, Try.underlying23, by kernel_rfl, by kernel_rfl⟩ (by kernel_rfl) (by kernel_rfl) (by kernel_rfl) (zA (by kernel_rfl) rfl rfl) (fun h => by simp at h) (by kernel_rfl) (by kernel_rfl) rfl
theorem ty_24 : RTOk Try.prog ⟨24, (.sl 23), 1, false, 24, (some [.slnil]), (some [.sl])⟩ := RTOk.q Try.underlying24 (by kernel_rfl) (by kernel_rfl) (by kernel_rfl) (zS (by kernel_rfl) rfl rfl) (fun _ => rfl) (by kernel_rfl) (by kernel_rfl) rfl
theorem ty_25 : RTOk Try.prog ⟨25, (.sl 63), 1, false, 24, (some [.slnil]), (some [.sl])⟩ := RTOk.q Try.underlying25 (by kernel_rfl) (by kernel_rfl) (by kernel_rfl) (zS (by kernel_rfl) rfl rfl) (fun _ => rfl) (by kernel_rfl) (by kernel_rfl) rfl
theorem ty_49 : RTOk Try.prog ⟨49, (.st [(0, 9), (1, 9)]), 2, true, 32, (some [(.str []), (.str [])]), (some [.s, .s])⟩ := RTOk.q ⟨_, Try.underlying49, by kernel_rfl, by kernel_rfl⟩ (by kernel_rfl) (by kernel_rfl) (by kernel_rfl) (zA (by kernel_rfl) rfl rfl) (fun h => by simp at h) (by kernel_rfl) (by kernel_rfl) rfl
theorem ty_51 : RTOk Try.prog ⟨51, (.st [(0, 9), (1, 9), (2, 9)]), 3, true, 48, (some [(.str []), (.str []), (.str [])]), (some [.s, .s, .s])⟩ := RTOk.q ⟨_, Try.underlying51, by kernel_rfl, by kernel_rfl⟩ (by kernel_rfl) (by kernel_rfl) (by kernel_rfl) (zA (by kernel_rfl) rfl rfl) (fun h => by simp at h) (by kernel_rfl) (by kernel_rfl) rfl
theorem ty_53 : RTOk Try.prog ⟨53, (.st [(0, 49), (2, 9), (3, 51)]), 6, true, 96, (some [(.str []), (.str []), (.str []), (.str []), (.str []), (.str [])]), (some [.s, .s, .s, .s, .s, .s])⟩ := RTOk.q ⟨_, Try.underlying53, by kernel_rfl, by kernel_rfl⟩ (by kernel_rfl) (by kernel_rfl) (by kernel_rfl) (zA (by kernel_rfl) rfl rfl) (fun h => by simp at h) (by kernel_rfl) (by kernel_rfl) rfl
theorem ty_54 : RTOk Try.prog ⟨54, (.sl 80), 1, false, 24, (some [.slnil]), (some [.sl])⟩ := RTOk.q Try.underlying54 (by kernel_rfl) (by kernel_rfl) (by kernel_rfl) (zS (by kernel_rfl) rfl rfl) (fun _ => rfl) (by kernel_rfl) (by kernel_rfl) rfl
theorem ty_58 : RTOk Try.prog ⟨58, (.sl 127), 1, false, 24, (some [.slnil]), (some [.sl])⟩ := RTOk.q Try.underlying58 (by kernel_rfl) (by kernel_rfl) (by kernel_rfl) (zS (by kernel_rfl) rfl rfl) (fun _ => rfl) (by kernel_rfl) (by kernel_rfl) rfl
theorem ty_61 : RTOk Try.prog ⟨61, (.sl 70), 1, false, 24, (some [.slnil]), (some [.sl])⟩ := RTOk.q Try.underlying61 (by kernel_rfl) (by kernel_rfl) (by kernel_rfl) (zS (by kernel_rfl) rfl rfl) (fun _ => rfl) (by kernel_rfl) (by kernel_rfl) rfl
theorem ty_63 : RTOk Try.prog ⟨63, (.st [(0, 9), (1, 61)]), 2, true, 40, (some [(.str []), .slnil]), (some [.s, .sl])⟩ := RTOk.q ⟨_, Try.underlying63, by kernel_rfl, by kernel_rfl⟩ (by kernel_rfl) (by kernel_rfl) (by kernel_rfl) (zA (by kernel_rfl) rfl rfl) (fun h => by simp at h) (by kernel_rfl) (by kernel_rfl) rfl
theorem ty_68 : RTOk Try.prog ⟨68, (.sl 51), 1, false, 24, (some [.slnil]), (some [.sl])⟩ := RTOk.q Try.underlying68 (by kernel_rfl) (by kernel_rfl) (by kernel_rfl) (zS (by kernel_rfl) rfl rfl) (fun _ => rfl) (by kernel_rfl) (by kernel_rfl) rfl
theorem ty_70 : RTOk Try.prog ⟨70, (.st [(0, 9), (1, 68), (2, 58)]), 3, true, 64, (some [(.str []), .slnil, .slnil]), (some [.s, .sl, .sl])⟩ := RTOk.q ⟨_, Try.underlying70, by kernel_rfl, by kernel_rfl⟩ (by kernel_rfl) (by kernel_rfl) (by kernel_rfl) (zA (by kernel_rfl) rfl rfl) (fun h => by simp at h) (by kernel_rfl) (by kernel_rfl) rfl
theorem ty_77 : RTOk Try.prog ⟨77, (.st [(0, 54), (1, 3), (2, 3), (3, 3), (4, 3), (5, 3), (6, 58), (7, 3)]), 8, true, 96, (some [.slnil, (.int .i64 0), (.int .i64 0), (.int .i64 0), (.int .i64 0), (.int .i64 0), .slnil, (.int .i64 0)]), (some [.sl, .i, .i, .i, .i, .i, .sl, .i])⟩ := RTOk.q ⟨_, Try.underlying77, by kernel_rfl, by kernel_rfl⟩ (by kernel_rfl) (by kernel_rfl) (by kernel_rfl) (zA (by kernel_rfl) rfl rfl) (fun h => by simp at h) (by kernel_rfl) (by kernel_rfl) rfl
theorem ty_80 : RTOk Try.prog ⟨80, (.st [(0, 3), (1, 3), (2, 9)]), 3, true, 32, (some [(.int .i64 0), (.int .i64 0), (.str [])]), (some [.i, .i, .s])⟩ := RTOk.q ⟨_, Try.underlying80, by kernel_rfl, by kernel_rfl⟩ (by kernel_rfl) (by kernel_rfl) (by kernel_rfl) (zA (by kernel_rfl) rfl rfl) (fun h => by simp at h) (by kernel_rfl) (by kernel_rfl) rfl
theorem ty_85 : RTOk Try.prog ⟨85, (.map 9 3), 1, false, 8, (some [.mapnil]), (some [.m])⟩ := RTOk.q Try.underlying85 (by kernel_rfl) (by kernel_rfl) (by kernel_rfl) (zS (by kernel_rfl) rfl rfl) (fun _ => rfl) (by kernel_rfl) (by kernel_rfl) rfl
theorem ty_86 : RTOk Try.prog ⟨86, (.map 93 70), 1, false, 8, (some [.mapnil]), (some [.m])⟩ := RTOk.q Try.underlying86 (by kernel_rfl) (by kernel_rfl) (by kernel_rfl) (zS (by kernel_rfl) rfl rfl) (fun _ => rfl) (by kernel_rfl) (by kernel_rfl) rfl
theorem ty_87 : RTOk Try.prog ⟨87, (.map 93 3), 1, false, 8, (some [.mapnil]), (some [.m])⟩ := RTOk.q Try.underlying87 (by kernel_rfl) (by kernel_rfl) (by kernel_rfl) (zS (by kernel_rfl) rfl rfl) (fun _ => rfl) (by kernel_rfl) (by kernel_rfl) rfl
theorem ty_89 : RTOk Try.prog ⟨89, (.st [(0, 85), (1, 86), (2, 87)]), 3, true, 24, (some [.mapnil, .mapnil, .mapnil]), (some [.m, .m, .m])⟩ := RTOk.q ⟨_, Try.underlying89, by kernel_rfl, by kernel_rfl⟩ (by kernel_rfl) (by kernel_rfl) (by kernel_rfl) (zA (by kernel_rfl) rfl rfl) (fun h => by simp at h) (by kernel_rfl) (by kernel_rfl) rfl
theorem ty_90 : RTOk Try.prog ⟨90, (.sl 93), 1, false, 24, (some [.slnil]), (some [.sl])⟩ := RTOk.q Try.underlying90 (by kernel_rfl) (by kernel_rfl) (by kernel_rfl) (zS (by kernel_rfl) rfl rfl) (fun _ => rfl) (by kernel_rfl) (by kernel_rfl) rfl
theorem ty_93 : RTOk Try.prog ⟨93, (.st [(0, 9), (1, 9)]), 2, true, 32, (some [(.str []), (.str [])]), (some [.s, .s])⟩ := RTOk.q ⟨_, Try.underlying93, by kernel_rfl, by kernel_rfl⟩ (by kernel_rfl) (by kernel_rfl) (by kernel_rfl) (zA (by kernel_rfl) rfl rfl) (fun h => by simp at h) (by kernel_rfl) (by kernel_rfl) rfl
theorem ty_127 : RTOk Try.prog ⟨127, (.st [(0, 3), (1, 9), (2, 9)]), 3, true, 40, (some [(.int .i64 0), (.str []), (.str [])]), (some [.i, .s, .s])⟩ := RTOk.q ⟨_, Try.underlying127, by kernel_rfl, by kernel_rfl⟩ (by kernel_rfl) (by kernel_rfl) (by kernel_rfl) (zA (by kernel_rfl) rfl rfl) (fun h => by simp at h) (by kernel_rfl) (by kernel_rfl) rfl
theorem ty_131 : RTOk Try.prog ⟨131, (.map 93 132), 1, false, 8, (some [.mapnil]), (some [.m])⟩ := RTOk.q Try.underlying131 (by kernel_rfl) (by kernel_rfl) (by kernel_rfl) (zS (by kernel_rfl) rfl rfl) (fun _ => rfl) (by kernel_rfl) (by kernel_rfl) rfl
theorem ty_132 : RTOk Try.prog ⟨132, (.sl 135), 1, false, 24, (some [.slnil]), (some [.sl])⟩ := RTOk.q Try.underlying132 (by kernel_rfl) (by kernel_rfl) (by kernel_rfl) (zS (by kernel_rfl) rfl rfl) (fun _ => rfl) (by kernel_rfl) (by kernel_rfl) rfl
theorem ty_135 : RTOk Try.prog ⟨135, (.st [(0, 93), (2, 3)]), 3, true, 40, (some [(.str []), (.str []), (.int .i64 0)]), (some [.s, .s, .i])⟩ := RTOk.q ⟨_, Try.underlying135, by kernel_rfl, by kernel_rfl⟩ (by kernel_rfl) (by kernel_rfl) (by kernel_rfl) (zA (by kernel_rfl) rfl rfl) (fun h => by simp at h) (by kernel_rfl) (by kernel_rfl) rfl
theorem ty_154 : RTOk Try.prog ⟨154, (.sl 132), 1, false, 24, (some [.slnil]), (some [.sl])⟩ := RTOk.q Try.underlying154 (by kernel_rfl) (by kernel_rfl) (by kernel_rfl) (zS (by kernel_rfl) rfl rfl) (fun _ => rfl) (by kernel_rfl) (by kernel_rfl) rfl
def tyL : List RTI := [⟨3, (.int .i64), 1, false, 8, (some [(.int .i64 0)]), (some [.i])⟩,
  ⟨4, .bool, 1, false, 1, (some [(.bool false)]), (some [.b])⟩,
  ⟨5, (.int .u8), 1, false, 1, (some [(.int .u8 0)]), (some [.i])⟩,
  ⟨9, .str, 1, false, 16, (some [(.str [])]), (some [.s])⟩,
  ⟨22, (.int .i64), 1, false, 8, (some [(.int .i64 0)]), (some [.i])⟩,
  ⟨23, (.st [(0, 9), (1, 22)]), 2, true, 24, (some [(.str []), (.int .i64 0)]), (some [.s, .i])⟩,
  ⟨24, (.sl 23), 1, false, 24, (some [.slnil]), (some [.sl])⟩,
  ⟨25, (.sl 63), 1, false, 24, (some [.slnil]), (some [.sl])⟩,
  ⟨49, (.st [(0, 9), (1, 9)]), 2, true, 32, (some [(.str []), (.str [])]), (some [.s, .s])⟩,
  ⟨51, (.st [(0, 9), (1, 9), (2, 9)]), 3, true, 48, (some [(.str []), (.str []), (.str [])]), (some [.s, .s, .s])⟩,
  ⟨53, (.st [(0, 49), (2, 9), (3, 51)]), 6, true, 96, (some [(.str []), (.str []), (.str []), (.str []), (.str []), (.str [])]), (some [.s, .s, .s, .s, .s, .s])⟩,
  ⟨54, (.sl 80), 1, false, 24, (some [.slnil]), (some [.sl])⟩,
  ⟨58, (.sl 127), 1, false, 24, (some [.slnil]), (some [.sl])⟩,
  ⟨61, (.sl 70), 1, false, 24, (some [.slnil]), (some [.sl])⟩,
  ⟨63, (.st [(0, 9), (1, 61)]), 2, true, 40, (some [(.str []), .slnil]), (some [.s, .sl])⟩,
  ⟨68, (.sl 51), 1, false, 24, (some [.slnil]), (some [.sl])⟩,
  ⟨70, (.st [(0, 9), (1, 68), (2, 58)]), 3, true, 64, (some [(.str []), .slnil, .slnil]), (some [.s, .sl, .sl])⟩,
  ⟨77, (.st [(0, 54), (1, 3), (2, 3), (3, 3), (4, 3), (5, 3), (6, 58), (7, 3)]), 8, true, 96, (some [.slnil, (.int .i64 0), (.int .i64 0), (.int .i64 0), (.int .i64 0), (.int .i64 0), .slnil, (.int .i64 0)]), (some [.sl, .i, .i, .i, .i, .i, .sl, .i])⟩,
  ⟨80, (.st [(0, 3), (1, 3), (2, 9)]), 3, true, 32, (some [(.int .i64 0), (.int .i64 0), (.str [])]), (some [.i, .i, .s])⟩,
  ⟨85, (.map 9 3), 1, false, 8, (some [.mapnil]), (some [.m])⟩,
  ⟨86, (.map 93 70), 1, false, 8, (some [.mapnil]), (some [.m])⟩,
  ⟨87, (.map 93 3), 1, false, 8, (some [.mapnil]), (some [.m])⟩,
  ⟨89, (.st [(0, 85), (1, 86), (2, 87)]), 3, true, 24, (some [.mapnil, .mapnil, .mapnil]), (some [.m, .m, .m])⟩,
  ⟨90, (.sl 93), 1, false, 24, (some [.slnil]), (some [.sl])⟩,
  ⟨93, (.st [(0, 9), (1, 9)]), 2, true, 32, (some [(.str []), (.str [])]), (some [.s, .s])⟩,
  ⟨127, (.st [(0, 3), (1, 9), (2, 9)]), 3, true, 40, (some [(.int .i64 0), (.str []), (.str [])]), (some [.i, .s, .s])⟩,
  ⟨131, (.map 93 132), 1, false, 8, (some [.mapnil]), (some [.m])⟩,
  ⟨132, (.sl 135), 1, false, 24, (some [.slnil]), (some [.sl])⟩,
  ⟨135, (.st [(0, 93), (2, 3)]), 3, true, 40, (some [(.str []), (.str []), (.int .i64 0)]), (some [.s, .s, .i])⟩,
  ⟨154, (.sl 132), 1, false, 24, (some [.slnil]), (some [.sl])⟩]
theorem tyLOk : ∀ ti ∈ tyL, RTOk Try.prog ti := all_cons ty_3 (all_cons ty_4 (all_cons ty_5 (all_cons ty_9 (all_cons ty_22 (all_cons ty_23 (all_cons ty_24 (all_cons ty_25 (all_cons ty_49 (all_cons ty_51 (all_cons ty_53 (all_cons ty_54 (all_cons ty_58 (all_cons ty_61 (all_cons ty_63 (all_cons ty_68 (all_cons ty_70 (all_cons ty_77 (all_cons ty_80 (all_cons ty_85 (all_cons ty_86 (all_cons ty_87 (all_cons ty_89 (all_cons ty_90 (all_cons ty_93 (all_cons ty_127 (all_cons ty_131 (all_cons ty_132 (all_cons ty_135 (all_cons ty_154 (all_nil))))))))))))))))))))))))))))))
noncomputable def tyT : T RTI := ofList (tyL.map fun ti => (ti.t, ti))
theorem tyOk : TtOk Try.prog tyT := ttOk_of tyLOk
theorem fe_3 : FeOk Try.prog 3 (FE.code 58 [.tmp 2] (bodyOf Try.f3)) := ⟨_, Try.func3, by kernel_rfl, Try.ntmps3, by rw [Try.results3], by kernel_rfl⟩
theorem fe_7 : FeOk Try.prog 7 (FE.code 13 [.tmp 2] (bodyOf Try.f7)) := ⟨_, Try.func7, by kernel_rfl, Try.ntmps7, by rw [Try.results7], by kernel_rfl⟩
theorem fe_8 : FeOk Try.prog 8 (FE.code 11 [.tmp 2] (bodyOf Try.f8)) := ⟨_, Try.func8, by kernel_rfl, Try.ntmps8, by rw [Try.results8], by kernel_rfl⟩
theorem fe_9 : FeOk Try.prog 9 (FE.code 64 [.tmp 0] (bodyOf Try.f9)) := ⟨_, Try.func9, by kernel_rfl, Try.ntmps9, by rw [Try.results9], by kernel_rfl⟩
theorem fe_14 : FeOk Try.prog 14 (FE.code 148 [.tmp 2, .tmp 3, .tmp 4] (bodyOf Try.f14)) := ⟨_, Try.func14, by kernel_rfl, Try.ntmps14, by rw [Try.results14], by kernel_rfl⟩
theorem fe_15 : FeOk Try.prog 15 (FE.code 61 [.tmp 2, .tmp 3] (bodyOf Try.f15)) := ⟨_, Try.func15, by kernel_rfl, Try.ntmps15, by rw [Try.results15], by kernel_rfl⟩
theorem fe_16 : FeOk Try.prog 16 (FE.code 31 [.tmp 6, .tmp 7] (bodyOf Try.f16)) := ⟨_, Try.func16, by kernel_rfl, Try.ntmps16, by rw [Try.results16], by kernel_rfl⟩
theorem fe_17 : FeOk Try.prog 17 (FE.code 45 [.tmp 4] (bodyOf Try.f17)) := ⟨_, Try.func17, by kernel_rfl, Try.ntmps17, by rw [Try.results17], by kernel_rfl⟩
theorem fe_24 : FeOk Try.prog 24 (FE.code 115 [.tmp 2, .tmp 3, .tmp 4] (bodyOf Try.f24)) := ⟨_, Try.func24, by kernel_rfl, Try.ntmps24, by rw [Try.results24], by kernel_rfl⟩
theorem fe_25 : FeOk Try.prog 25 (FE.code 18 [] (bodyOf Try.f25)) := ⟨_, Try.func25, by kernel_rfl, Try.ntmps25, by rw [Try.results25], by kernel_rfl⟩
theorem fe_26 : FeOk Try.prog 26 (FE.code 68 [.tmp 2] (bodyOf Try.f26)) := ⟨_, Try.func26, by kernel_rfl, Try.ntmps26, by rw [Try.results26], by kernel_rfl⟩
theorem fe_27 : FeOk Try.prog 27 (FE.code 44 [.tmp 4] (bodyOf Try.f27)) := ⟨_, Try.func27, by kernel_rfl, Try.ntmps27, by rw [Try.results27], by kernel_rfl⟩
theorem fe_28 : FeOk Try.prog 28 (FE.code 98 [.cell 2 70] (bodyOf Try.f28)) := ⟨_, Try.func28, by kernel_rfl, Try.ntmps28, by rw [Try.results28], by kernel_rfl⟩
theorem fe_29 : FeOk Try.prog 29 (FE.code 22 [] (bodyOf Try.f29)) := ⟨_, Try.func29, by kernel_rfl, Try.ntmps29, by rw [Try.results29], by kernel_rfl⟩
theorem fe_30 : FeOk Try.prog 30 (FE.code 60 [.tmp 4] (bodyOf Try.f30)) := ⟨_, Try.func30, by kernel_rfl, Try.ntmps30, by rw [Try.results30], by kernel_rfl⟩
theorem fe_31 : FeOk Try.prog 31 (FE.code 83 [.tmp 6] (bodyOf Try.f31)) := ⟨_, Try.func31, by kernel_rfl, Try.ntmps31, by rw [Try.results31], by kernel_rfl⟩
theorem fe_32 : FeOk Try.prog 32 (FE.code 28 [] (bodyOf Try.f32)) := ⟨_, Try.func32, by kernel_rfl, Try.ntmps32, by rw [Try.results32], by kernel_rfl⟩
theorem fe_33 : FeOk Try.prog 33 (FE.code 79 [.tmp 4] (bodyOf Try.f33)) := ⟨_, Try.func33, by kernel_rfl, Try.ntmps33, by rw [Try.results33], by kernel_rfl⟩
theorem fe_34 : FeOk Try.prog 34 (FE.code 23 [.cell 6 70, .tmp 7] (bodyOf Try.f34)) := ⟨_, Try.func34, by kernel_rfl, Try.ntmps34, by rw [Try.results34], by kernel_rfl⟩
theorem fe_35 : FeOk Try.prog 35 (FE.code 15 [.tmp 6] (bodyOf Try.f35)) := ⟨_, Try.func35, by kernel_rfl, Try.ntmps35, by rw [Try.results35], by kernel_rfl⟩
theorem fe_36 : FeOk Try.prog 36 (FE.code 19 [.tmp 4] (bodyOf Try.f36)) := ⟨_, Try.func36, by kernel_rfl, Try.ntmps36, by rw [Try.results36], by kernel_rfl⟩
theorem fe_37 : FeOk Try.prog 37 (FE.code 10 [.tmp 3] (bodyOf Try.f37)) := ⟨_, Try.func37, by kernel_rfl, Try.ntmps37, by rw [Try.results37], by kernel_rfl⟩
theorem fe_38 : FeOk Try.prog 38 (FE.code 42 [.tmp 2] (bodyOf Try.f38)) := ⟨_, Try.func38, by kernel_rfl, Try.ntmps38, by rw [Try.results38], by kernel_rfl⟩
theorem fe_39 : FeOk Try.prog 39 (FE.code 19 [.tmp 4] (bodyOf Try.f39)) := ⟨_, Try.func39, by kernel_rfl, Try.ntmps39, by rw [Try.results39], by kernel_rfl⟩
theorem fe_40 : FeOk Try.prog 40 (FE.code 9 [.tmp 3] (bodyOf Try.f40)) := ⟨_, Try.func40, by kernel_rfl, Try.ntmps40, by rw [Try.results40], by kernel_rfl⟩
theorem fe_41 : FeOk Try.prog 41 (FE.code 9 [.tmp 4] (bodyOf Try.f41)) := ⟨_, Try.func41, by kernel_rfl, Try.ntmps41, by rw [Try.results41], by kernel_rfl⟩
theorem fe_58 : FeOk Try.prog 58 (FE.code 21 [.tmp 2] (bodyOf Try.f58)) := ⟨_, Try.func58, by kernel_rfl, Try.ntmps58, by rw [Try.results58], by kernel_rfl⟩
theorem fe_59 : FeOk Try.prog 59 (FE.code 21 [.tmp 6] (bodyOf Try.f59)) := ⟨_, Try.func59, by kernel_rfl, Try.ntmps59, by rw [Try.results59], by kernel_rfl⟩
theorem fe_60 : FeOk Try.prog 60 (FE.code 28 [.tmp 2] (bodyOf Try.f60)) := ⟨_, Try.func60, by kernel_rfl, Try.ntmps60, by rw [Try.results60], by kernel_rfl⟩
theorem fe_61 : FeOk Try.prog 61 (FE.code 32 [.tmp 2] (bodyOf Try.f61)) := ⟨_, Try.func61, by kernel_rfl, Try.ntmps61, by rw [Try.results61], by kernel_rfl⟩
theorem fe_62 : FeOk Try.prog 62 (FE.code 37 [] (bodyOf Try.f62)) := ⟨_, Try.func62, by kernel_rfl, Try.ntmps62, by rw [Try.results62], by kernel_rfl⟩
theorem fe_63 : FeOk Try.prog 63 (FE.code 51 [.tmp 6] (bodyOf Try.f63)) := ⟨_, Try.func63, by kernel_rfl, Try.ntmps63, by rw [Try.results63], by kernel_rfl⟩
theorem fe_64 : FeOk Try.prog 64 (FE.code 42 [.tmp 4] (bodyOf Try.f64)) := ⟨_, Try.func64, by kernel_rfl, Try.ntmps64, by rw [Try.results64], by kernel_rfl⟩
theorem fe_65 : FeOk Try.prog 65 (FE.code 28 [.tmp 2] (bodyOf Try.f65)) := ⟨_, Try.func65, by kernel_rfl, Try.ntmps65, by rw [Try.results65], by kernel_rfl⟩
theorem fe_66 : FeOk Try.prog 66 (FE.code 36 [.tmp 2] (bodyOf Try.f66)) := ⟨_, Try.func66, by kernel_rfl, Try.ntmps66, by rw [Try.results66], by kernel_rfl⟩
theorem fe_67 : FeOk Try.prog 67 (FE.code 19 [.tmp 4] (bodyOf Try.f67)) := ⟨_, Try.func67, by kernel_rfl, Try.ntmps67, by rw [Try.results67], by kernel_rfl⟩
theorem fe_83 : FeOk Try.prog 83 (FE.code 29 [] (bodyOf Try.f83)) := ⟨_, Try.func83, by kernel_rfl, Try.ntmps83, by rw [Try.results83], by kernel_rfl⟩
theorem fe_84 : FeOk Try.prog 84 (FE.code 41 [] (bodyOf Try.f84)) := ⟨_, Try.func84, by kernel_rfl, Try.ntmps84, by rw [Try.results84], by kernel_rfl⟩
theorem fe_85 : FeOk Try.prog 85 (FE.code 76 [.tmp 6] (bodyOf Try.f85)) := ⟨_, Try.func85, by kernel_rfl, Try.ntmps85, by rw [Try.results85], by kernel_rfl⟩
theorem fe_86 : FeOk Try.prog 86 (FE.code 17 [.tmp 2] (bodyOf Try.f86)) := ⟨_, Try.func86, by kernel_rfl, Try.ntmps86, by rw [Try.results86], by kernel_rfl⟩
theorem fe_87 : FeOk Try.prog 87 (FE.code 17 [.tmp 2] (bodyOf Try.f87)) := ⟨_, Try.func87, by kernel_rfl, Try.ntmps87, by rw [Try.results87], by kernel_rfl⟩
theorem fe_96 : FeOk Try.prog 96 (FE.code 79 [] (bodyOf Try.f96)) := ⟨_, Try.func96, by kernel_rfl, Try.ntmps96, by rw [Try.results96], by kernel_rfl⟩
theorem fe_97 : FeOk Try.prog 97 (FE.code 47 [.tmp 6] (bodyOf Try.f97)) := ⟨_, Try.func97, by kernel_rfl, Try.ntmps97, by rw [Try.results97], by kernel_rfl⟩
theorem fe_98 : FeOk Try.prog 98 (FE.code 8 [.tmp 2] (bodyOf Try.f98)) := ⟨_, Try.func98, by kernel_rfl, Try.ntmps98, by rw [Try.results98], by kernel_rfl⟩
theorem fe_99 : FeOk Try.prog 99 (FE.code 36 [.tmp 2] (bodyOf Try.f99)) := ⟨_, Try.func99, by kernel_rfl, Try.ntmps99, by rw [Try.results99], by kernel_rfl⟩
theorem fe_107 : FeOk Try.prog 107 (FE.code 27 [.tmp 4] (bodyOf Try.f107)) := ⟨_, Try.func107, by kernel_rfl, Try.ntmps107, by rw [Try.results107], by kernel_rfl⟩
noncomputable def ftL : List (Nat × FE) := [(3, FE.code 58 [.tmp 2] (bodyOf Try.f3)),
  (7, FE.code 13 [.tmp 2] (bodyOf Try.f7)),
  (8, FE.code 11 [.tmp 2] (bodyOf Try.f8)),
  (9, FE.code 64 [.tmp 0] (bodyOf Try.f9)),
  (14, FE.code 148 [.tmp 2, .tmp 3, .tmp 4] (bodyOf Try.f14)),
  (15, FE.code 61 [.tmp 2, .tmp 3] (bodyOf Try.f15)),
  (16, FE.code 31 [.tmp 6, .tmp 7] (bodyOf Try.f16)),
  (17, FE.code 45 [.tmp 4] (bodyOf Try.f17)),
  (24, FE.code 115 [.tmp 2, .tmp 3, .tmp 4] (bodyOf Try.f24)),
  (25, FE.code 18 [] (bodyOf Try.f25)),
  (26, FE.code 68 [.tmp 2] (bodyOf Try.f26)),
  (27, FE.code 44 [.tmp 4] (bodyOf Try.f27)),
  (28, FE.code 98 [.cell 2 70] (bodyOf Try.f28)),
  (29, FE.code 22 [] (bodyOf Try.f29)),
  (30, FE.code 60 [.tmp 4] (bodyOf Try.f30)),
  (31, FE.code 83 [.tmp 6] (bodyOf Try.f31)),
  (32, FE.code 28 [] (bodyOf Try.f32)),
  (33, FE.code 79 [.tmp 4] (bodyOf Try.f33)),
  (34, FE.code 23 [.cell 6 70, .tmp 7] (bodyOf Try.f34)),
  (35, FE.code 15 [.tmp 6] (bodyOf Try.f35)),
  (36, FE.code 19 [.tmp 4] (bodyOf Try.f36)),
  (37, FE.code 10 [.tmp 3] (bodyOf Try.f37)),
  (38, FE.code 42 [.tmp 2] (bodyOf Try.f38)),
  (39, FE.code 19 [.tmp 4] (bodyOf Try.f39)),
  (40, FE.code 9 [.tmp 3] (bodyOf Try.f40)),
  (41, FE.code 9 [.tmp 4] (bodyOf Try.f41)),
  (58, FE.code 21 [.tmp 2] (bodyOf Try.f58)),
  (59, FE.code 21 [.tmp 6] (bodyOf Try.f59)),
  (60, FE.code 28 [.tmp 2] (bodyOf Try.f60)),
  (61, FE.code 32 [.tmp 2] (bodyOf Try.f61)),
  (62, FE.code 37 [] (bodyOf Try.f62)),
  (63, FE.code 51 [.tmp 6] (bodyOf Try.f63)),
  (64, FE.code 42 [.tmp 4] (bodyOf Try.f64)),
  (65, FE.code 28 [.tmp 2] (bodyOf Try.f65)),
  (66, FE.code 36 [.tmp 2] (bodyOf Try.f66)),
  (67, FE.code 19 [.tmp 4] (bodyOf Try.f67)),
  (83, FE.code 29 [] (bodyOf Try.f83)),
  (84, FE.code 41 [] (bodyOf Try.f84)),
  (85, FE.code 76 [.tmp 6] (bodyOf Try.f85)),
  (86, FE.code 17 [.tmp 2] (bodyOf Try.f86)),
  (87, FE.code 17 [.tmp 2] (bodyOf Try.f87)),
  (96, FE.code 79 [] (bodyOf Try.f96)),
  (97, FE.code 47 [.tmp 6] (bodyOf Try.f97)),
  (98, FE.code 8 [.tmp 2] (bodyOf Try.f98)),
  (99, FE.code 36 [.tmp 2] (bodyOf Try.f99)),
  (107, FE.code 27 [.tmp 4] (bodyOf Try.f107))]
theorem ftLOk : ∀ p ∈ ftL, FeOk Try.prog p.1 p.2 := all_cons fe_3 (all_cons fe_7 (all_cons fe_8 (all_cons fe_9 (all_cons fe_14 (all_cons fe_15 (all_cons fe_16 (all_cons fe_17 (all_cons fe_24 (all_cons fe_25 (all_cons fe_26 (all_cons fe_27 (all_cons fe_28 (all_cons fe_29 (all_cons fe_30 (all_cons fe_31 (all_cons fe_32 (all_cons fe_33 (all_cons fe_34 (all_cons fe_35 (all_cons fe_36 (all_cons fe_37 (all_cons fe_38 (all_cons fe_39 (all_cons fe_40 (all_cons fe_41 (all_cons fe_58 (all_cons fe_59 (all_cons fe_60 (all_cons fe_61 (all_cons fe_62 (all_cons fe_63 (all_cons fe_64 (all_cons fe_65 (all_cons fe_66 (all_cons fe_67 (all_cons fe_83 (all_cons fe_84 (all_cons fe_85 (all_cons fe_86 (all_cons fe_87 (all_cons fe_96 (all_cons fe_97 (all_cons fe_98 (all_cons fe_99 (all_cons fe_107 (all_nil))))))))))))))))))))))))))))))))))))))))))))))
noncomputable def ftT : T FE := ofList ftL
theorem ftOk : FtOk Try.prog ftT := ftOk_of ftLOk
end Go.Rx

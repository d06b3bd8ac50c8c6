/- Closed runs: the types, the functions. -/
import Derived.Test.YtnfnkdhanohaiaaR3
import Derived.Test.YtnfnkdhanohaiaaRows
set_option linter.unusedVariables false
set_option linter.unusedSimpArgs false
set_option linter.unusedSectionVars false
set_option maxRecDepth 100000
namespace Go.Rx
open Go.Proofs
theorem mixed : Try.prog.follows .mixedOrders = true := by kernel_rfl
theorem ty_3 : RTOk Try.prog ⟨3, (.int .i64), 1, false, 8, (some [(.int .i64 0)]), (some [.i])⟩ := RTOk.q Try.underlying3 (by kernel_rfl) (by kernel_rfl) (by kernel_rfl) (zS (by kernel_rfl) rfl rfl) (fun _ => rfl) (by kernel_rfl) (by kernel_rfl) rfl
theorem ty_4 : RTOk Try.prog ⟨4, .bool, 1, false, 1, (some [(.bool false)]), (some [.b])⟩ := RTOk.q Try.underlying4 (by kernel_rfl) (by kernel_rfl) (by kernel_rfl) (zS (by kernel_rfl) rfl rfl) (fun _ => rfl) (by kernel_rfl) (by kernel_rfl) rfl
theorem ty_5 : RTOk Try.prog ⟨5, (.int .u8), 1, false, 1, (some [(.int .u8 0)]), (some [.i])⟩ := RTOk.q Try.underlying5 (by kernel_rfl) (by kernel_rfl) (by kernel_rfl) (zS (by kernel_rfl) rfl rfl) (fun _ => rfl) (by kernel_rfl) (by kernel_rfl) rfl
theorem ty_9 : RTOk Try.prog ⟨9, .str, 1, false, 16, (some [(.str ⟨0, 0⟩)]), (some [.s])⟩ := RTOk.q Try.underlying9 (by kernel_rfl) (by kernel_rfl) (by kernel_rfl) (zS (by kernel_rfl) rfl rfl) (fun _ => rfl) (by kernel_rfl) (by kernel_rfl) rfl
theorem ty_22 : RTOk Try.prog ⟨22, (.sl 5), 1, false, 24, (some [.slnil]), (some [.sl])⟩ := RTOk.q Try.underlying22 (by kernel_rfl) (by kernel_rfl) (by kernel_rfl) (zS (by kernel_rfl) rfl rfl) (fun _ => rfl) (by kernel_rfl) (by kernel_rfl) rfl
theorem ty_24 : RTOk Try.prog ⟨24, (.sl 39), 1, false, 24, (some [.slnil]), (some [.sl])⟩ := RTOk.q Try.underlying24 (by kernel_rfl) (by kernel_rfl) (by kernel_rfl) (zS (by kernel_rfl) rfl rfl) (fun _ => rfl) (by kernel_rfl) (by kernel_rfl) rfl
theorem ty_25 : RTOk Try.prog ⟨25, (.int .i64), 1, false, 8, (some [(.int .i64 0)]), (some [.i])⟩ := RTOk.q Try.underlying25 (by kernel_rfl) (by kernel_rfl) (by kernel_rfl) (zS (by kernel_rfl) rfl rfl) (fun _ => rfl) (by kernel_rfl) (by kernel_rfl) rfl
theorem ty_30 : RTOk Try.prog ⟨30, (.sl 50), 1, false, 24, (some [.slnil]), (some [.sl])⟩ := RTOk.q Try.underlying30 (by kernel_rfl) (by kernel_rfl) (by kernel_rfl) (zS (by kernel_rfl) rfl rfl) (fun _ => rfl) (by kernel_rfl) (by kernel_rfl) rfl
theorem ty_34 : RTOk Try.prog ⟨34, (.sl 89), 1, false, 24, (some [.slnil]), (some [.sl])⟩ := RTOk.q Try.underlying34 (by kernel_rfl) (by kernel_rfl) (by kernel_rfl) (zS (by kernel_rfl) rfl rfl) (fun _ => rfl) (by kernel_rfl) (by kernel_rfl) rfl
theorem ty_36 : RTOk Try.prog ⟨36, (.st [(0, 30), (1, 3), (2, 3), (3, 25), (4, 3), (5, 34)]), 6, true, 80, (some [.slnil, (.int .i64 0), (.int .i64 0), (.int .i64 0), (.int .i64 0), .slnil]), (some [.sl, .i, .i, .i, .i, .sl])⟩ := RTOk.q ⟨_, Try.underlying36, by kernel_rfl, by kernel_rfl⟩ (by kernel_rfl) (by kernel_rfl) (by kernel_rfl) (zA (by kernel_rfl) rfl rfl) (fun h => by simp at h) (by kernel_rfl) (by kernel_rfl) rfl
theorem ty_37 : RTOk Try.prog ⟨37, (.sl 46), 1, false, 24, (some [.slnil]), (some [.sl])⟩ := RTOk.q Try.underlying37 (by kernel_rfl) (by kernel_rfl) (by kernel_rfl) (zS (by kernel_rfl) rfl rfl) (fun _ => rfl) (by kernel_rfl) (by kernel_rfl) rfl
theorem ty_39 : RTOk Try.prog ⟨39, (.st [(0, 9), (1, 37)]), 2, true, 40, (some [(.str ⟨0, 0⟩), .slnil]), (some [.s, .sl])⟩ := RTOk.q ⟨_, Try.underlying39, by kernel_rfl, by kernel_rfl⟩ (by kernel_rfl) (by kernel_rfl) (by kernel_rfl) (zA (by kernel_rfl) rfl rfl) (fun h => by simp at h) (by kernel_rfl) (by kernel_rfl) rfl
theorem ty_44 : RTOk Try.prog ⟨44, (.sl 83), 1, false, 24, (some [.slnil]), (some [.sl])⟩ := RTOk.q Try.underlying44 (by kernel_rfl) (by kernel_rfl) (by kernel_rfl) (zS (by kernel_rfl) rfl rfl) (fun _ => rfl) (by kernel_rfl) (by kernel_rfl) rfl
theorem ty_46 : RTOk Try.prog ⟨46, (.st [(0, 9), (1, 44), (2, 34)]), 3, true, 64, (some [(.str ⟨0, 0⟩), .slnil, .slnil]), (some [.s, .sl, .sl])⟩ := RTOk.q ⟨_, Try.underlying46, by kernel_rfl, by kernel_rfl⟩ (by kernel_rfl) (by kernel_rfl) (by kernel_rfl) (zA (by kernel_rfl) rfl rfl) (fun h => by simp at h) (by kernel_rfl) (by kernel_rfl) rfl
theorem ty_50 : RTOk Try.prog ⟨50, (.st [(0, 3), (1, 3), (2, 9)]), 3, true, 32, (some [(.int .i64 0), (.int .i64 0), (.str ⟨0, 0⟩)]), (some [.i, .i, .s])⟩ := RTOk.q ⟨_, Try.underlying50, by kernel_rfl, by kernel_rfl⟩ (by kernel_rfl) (by kernel_rfl) (by kernel_rfl) (zA (by kernel_rfl) rfl rfl) (fun h => by simp at h) (by kernel_rfl) (by kernel_rfl) rfl
theorem ty_60 : RTOk Try.prog ⟨60, (.ptr 62), 1, false, 8, (some [.nilp]), (some [.p])⟩ := RTOk.q Try.underlying60 (by kernel_rfl) (by kernel_rfl) (by kernel_rfl) (zS (by kernel_rfl) rfl rfl) (fun _ => rfl) (by kernel_rfl) (by kernel_rfl) rfl
theorem ty_62 : RTOk Try.prog ⟨62, (.st [(0, 60), (1, 22)]), 2, true, 32, (some [.nilp, .slnil]), (some [.p, .sl])⟩ := RTOk.q ⟨_, Try.underlying62, by kernel_rfl, by kernel_rfl⟩ (by kernel_rfl) (by kernel_rfl) (by kernel_rfl) (zA (by kernel_rfl) rfl rfl) (fun h => by simp at h) (by kernel_rfl) (by kernel_rfl) rfl
theorem ty_81 : RTOk Try.prog ⟨81, (.sl 9), 1, false, 24, (some [.slnil]), (some [.sl])⟩ := RTOk.q Try.underlying81 (by kernel_rfl) (by kernel_rfl) (by kernel_rfl) (zS (by kernel_rfl) rfl rfl) (fun _ => rfl) (by kernel_rfl) (by kernel_rfl) rfl
theorem ty_83 : RTOk Try.prog ⟨83, (.st [(0, 9), (1, 9), (2, 9)]), 3, true, 48, (some [(.str ⟨0, 0⟩), (.str ⟨0, 0⟩), (.str ⟨0, 0⟩)]), (some [.s, .s, .s])⟩ := RTOk.q ⟨_, Try.underlying83, by kernel_rfl, by kernel_rfl⟩ (by kernel_rfl) (by kernel_rfl) (by kernel_rfl) (zA (by kernel_rfl) rfl rfl) (fun h => by simp at h) (by kernel_rfl) (by kernel_rfl) rfl
theorem ty_85 : RTOk Try.prog ⟨85, (.ptr 5), 1, false, 8, (some [.nilp]), (some [.p])⟩ := RTOk.q Try.underlying85 (by kernel_rfl) (by kernel_rfl) (by kernel_rfl) (zS (by kernel_rfl) rfl rfl) (fun _ => rfl) (by kernel_rfl) (by kernel_rfl) rfl
theorem ty_89 : RTOk Try.prog ⟨89, (.st [(0, 3), (1, 9), (2, 9)]), 3, true, 40, (some [(.int .i64 0), (.str ⟨0, 0⟩), (.str ⟨0, 0⟩)]), (some [.i, .s, .s])⟩ := RTOk.q ⟨_, Try.underlying89, by kernel_rfl, by kernel_rfl⟩ (by kernel_rfl) (by kernel_rfl) (by kernel_rfl) (zA (by kernel_rfl) rfl rfl) (fun h => by simp at h) (by kernel_rfl) (by kernel_rfl) rfl
theorem ty_92 : RTOk Try.prog ⟨92, .uptr, 1, false, 8, (some [.nilp]), none⟩ := RTOk.n Try.underlying92 (by kernel_rfl) (by kernel_rfl) (by kernel_rfl) (zS (by kernel_rfl) rfl rfl) (fun _ => rfl)
theorem ty_94 : RTOk Try.prog ⟨94, (.sl 96), 1, false, 24, (some [.slnil]), (some [.sl])⟩ := RTOk.q Try.underlying94 (by kernel_rfl) (by kernel_rfl) (by kernel_rfl) (zS (by kernel_rfl) rfl rfl) (fun _ => rfl) (by kernel_rfl) (by kernel_rfl) rfl
theorem ty_96 : RTOk Try.prog ⟨96, (.st [(0, 9), (1, 3)]), 2, true, 24, (some [(.str ⟨0, 0⟩), (.int .i64 0)]), (some [.s, .i])⟩ := RTOk.q ⟨_, Try.underlying96, by kernel_rfl, by kernel_rfl⟩ (by kernel_rfl) (by kernel_rfl) (by kernel_rfl) (zA (by kernel_rfl) rfl rfl) (fun h => by simp at h) (by kernel_rfl) (by kernel_rfl) rfl
theorem ty_101 : RTOk Try.prog ⟨101, (.int .u64), 1, false, 8, (some [(.int .u64 0)]), (some [.i])⟩ := RTOk.q Try.underlying101 (by kernel_rfl) (by kernel_rfl) (by kernel_rfl) (zS (by kernel_rfl) rfl rfl) (fun _ => rfl) (by kernel_rfl) (by kernel_rfl) rfl
theorem ty_102 : RTOk Try.prog ⟨102, (.int .u32), 1, false, 4, (some [(.int .u32 0)]), (some [.i])⟩ := RTOk.q Try.underlying102 (by kernel_rfl) (by kernel_rfl) (by kernel_rfl) (zS (by kernel_rfl) rfl rfl) (fun _ => rfl) (by kernel_rfl) (by kernel_rfl) rfl
def tyL : List RTI := [⟨3, (.int .i64), 1, false, 8, (some [(.int .i64 0)]), (some [.i])⟩,
  ⟨4, .bool, 1, false, 1, (some [(.bool false)]), (some [.b])⟩,
  ⟨5, (.int .u8), 1, false, 1, (some [(.int .u8 0)]), (some [.i])⟩,
  ⟨9, .str, 1, false, 16, (some [(.str ⟨0, 0⟩)]), (some [.s])⟩,
  ⟨22, (.sl 5), 1, false, 24, (some [.slnil]), (some [.sl])⟩,
  ⟨24, (.sl 39), 1, false, 24, (some [.slnil]), (some [.sl])⟩,
  ⟨25, (.int .i64), 1, false, 8, (some [(.int .i64 0)]), (some [.i])⟩,
  ⟨30, (.sl 50), 1, false, 24, (some [.slnil]), (some [.sl])⟩,
  ⟨34, (.sl 89), 1, false, 24, (some [.slnil]), (some [.sl])⟩,
  ⟨36, (.st [(0, 30), (1, 3), (2, 3), (3, 25), (4, 3), (5, 34)]), 6, true, 80, (some [.slnil, (.int .i64 0), (.int .i64 0), (.int .i64 0), (.int .i64 0), .slnil]), (some [.sl, .i, .i, .i, .i, .sl])⟩,
  ⟨37, (.sl 46), 1, false, 24, (some [.slnil]), (some [.sl])⟩,
  ⟨39, (.st [(0, 9), (1, 37)]), 2, true, 40, (some [(.str ⟨0, 0⟩), .slnil]), (some [.s, .sl])⟩,
  ⟨44, (.sl 83), 1, false, 24, (some [.slnil]), (some [.sl])⟩,
  ⟨46, (.st [(0, 9), (1, 44), (2, 34)]), 3, true, 64, (some [(.str ⟨0, 0⟩), .slnil, .slnil]), (some [.s, .sl, .sl])⟩,
  ⟨50, (.st [(0, 3), (1, 3), (2, 9)]), 3, true, 32, (some [(.int .i64 0), (.int .i64 0), (.str ⟨0, 0⟩)]), (some [.i, .i, .s])⟩,
  ⟨60, (.ptr 62), 1, false, 8, (some [.nilp]), (some [.p])⟩,
  ⟨62, (.st [(0, 60), (1, 22)]), 2, true, 32, (some [.nilp, .slnil]), (some [.p, .sl])⟩,
  ⟨81, (.sl 9), 1, false, 24, (some [.slnil]), (some [.sl])⟩,
  ⟨83, (.st [(0, 9), (1, 9), (2, 9)]), 3, true, 48, (some [(.str ⟨0, 0⟩), (.str ⟨0, 0⟩), (.str ⟨0, 0⟩)]), (some [.s, .s, .s])⟩,
  ⟨85, (.ptr 5), 1, false, 8, (some [.nilp]), (some [.p])⟩,
  ⟨89, (.st [(0, 3), (1, 9), (2, 9)]), 3, true, 40, (some [(.int .i64 0), (.str ⟨0, 0⟩), (.str ⟨0, 0⟩)]), (some [.i, .s, .s])⟩,
  ⟨92, .uptr, 1, false, 8, (some [.nilp]), none⟩,
  ⟨94, (.sl 96), 1, false, 24, (some [.slnil]), (some [.sl])⟩,
  ⟨96, (.st [(0, 9), (1, 3)]), 2, true, 24, (some [(.str ⟨0, 0⟩), (.int .i64 0)]), (some [.s, .i])⟩,
  ⟨101, (.int .u64), 1, false, 8, (some [(.int .u64 0)]), (some [.i])⟩,
  ⟨102, (.int .u32), 1, false, 4, (some [(.int .u32 0)]), (some [.i])⟩]
theorem tyLOk : ∀ ti ∈ tyL, RTOk Try.prog ti := all_cons ty_3 (all_cons ty_4 (all_cons ty_5 (all_cons ty_9 (all_cons ty_22 (all_cons ty_24 (all_cons ty_25 (all_cons ty_30 (all_cons ty_34 (all_cons ty_36 (all_cons ty_37 (all_cons ty_39 (all_cons ty_44 (all_cons ty_46 (all_cons ty_50 (all_cons ty_60 (all_cons ty_62 (all_cons ty_81 (all_cons ty_83 (all_cons ty_85 (all_cons ty_89 (all_cons ty_92 (all_cons ty_94 (all_cons ty_96 (all_cons ty_101 (all_cons ty_102 (all_nil))))))))))))))))))))))))))
noncomputable def tyT : T RTI := ofList (tyL.map fun ti => (ti.t, ti))
theorem tyOk : TtOk Try.prog tyT := ttOk_of tyLOk
theorem fe_5 : FeOk Try.prog 5 (FE.code 55 [.tmp 2, .tmp 3, .tmp 4] (bodyOf Try.f5)) := ⟨_, Try.func5, by kernel_rfl, Try.ntmps5, by rw [Try.results5], by kernel_rfl⟩
theorem fe_6 : FeOk Try.prog 6 (FE.code 82 [.tmp 0] (bodyOf Try.f6)) := ⟨_, Try.func6, by kernel_rfl, Try.ntmps6, by rw [Try.results6], by kernel_rfl⟩
theorem fe_7 : FeOk Try.prog 7 (FE.code 46 [.tmp 2, .tmp 3, .tmp 4] (bodyOf Try.f7)) := ⟨_, Try.func7, by kernel_rfl, Try.ntmps7, by rw [Try.results7], by kernel_rfl⟩
theorem fe_8 : FeOk Try.prog 8 (FE.code 43 [.cell 4 39, .tmp 5] (bodyOf Try.f8)) := ⟨_, Try.func8, by kernel_rfl, Try.ntmps8, by rw [Try.results8], by kernel_rfl⟩
theorem fe_9 : FeOk Try.prog 9 (FE.code 70 [.tmp 2, .tmp 3] (bodyOf Try.f9)) := ⟨_, Try.func9, by kernel_rfl, Try.ntmps9, by rw [Try.results9], by kernel_rfl⟩
theorem fe_10 : FeOk Try.prog 10 (FE.code 8 [.tmp 4] (bodyOf Try.f10)) := ⟨_, Try.func10, by kernel_rfl, Try.ntmps10, by rw [Try.results10], by kernel_rfl⟩
theorem fe_11 : FeOk Try.prog 11 (FE.code 32 [.tmp 2] (bodyOf Try.f11)) := ⟨_, Try.func11, by kernel_rfl, Try.ntmps11, by rw [Try.results11], by kernel_rfl⟩
theorem fe_12 : FeOk Try.prog 12 (FE.code 22 [.cell 2 50, .tmp 3] (bodyOf Try.f12)) := ⟨_, Try.func12, by kernel_rfl, Try.ntmps12, by rw [Try.results12], by kernel_rfl⟩
theorem fe_13 : FeOk Try.prog 13 (FE.code 14 [.tmp 6] (bodyOf Try.f13)) := ⟨_, Try.func13, by kernel_rfl, Try.ntmps13, by rw [Try.results13], by kernel_rfl⟩
theorem fe_14 : FeOk Try.prog 14 (FE.code 14 [.tmp 2] (bodyOf Try.f14)) := ⟨_, Try.func14, by kernel_rfl, Try.ntmps14, by rw [Try.results14], by kernel_rfl⟩
theorem fe_15 : FeOk Try.prog 15 (FE.code 20 [.tmp 4] (bodyOf Try.f15)) := ⟨_, Try.func15, by kernel_rfl, Try.ntmps15, by rw [Try.results15], by kernel_rfl⟩
theorem fe_16 : FeOk Try.prog 16 (FE.code 24 [.tmp 4] (bodyOf Try.f16)) := ⟨_, Try.func16, by kernel_rfl, Try.ntmps16, by rw [Try.results16], by kernel_rfl⟩
theorem fe_17 : FeOk Try.prog 17 (FE.code 13 [.tmp 4] (bodyOf Try.f17)) := ⟨_, Try.func17, by kernel_rfl, Try.ntmps17, by rw [Try.results17], by kernel_rfl⟩
theorem fe_18 : FeOk Try.prog 18 (FE.code 53 [.tmp 4] (bodyOf Try.f18)) := ⟨_, Try.func18, by kernel_rfl, Try.ntmps18, by rw [Try.results18], by kernel_rfl⟩
theorem fe_19 : FeOk Try.prog 19 (FE.code 19 [.tmp 4, .tmp 5] (bodyOf Try.f19)) := ⟨_, Try.func19, by kernel_rfl, Try.ntmps19, by rw [Try.results19], by kernel_rfl⟩
theorem fe_20 : FeOk Try.prog 20 (FE.code 56 [.tmp 2, .tmp 3] (bodyOf Try.f20)) := ⟨_, Try.func20, by kernel_rfl, Try.ntmps20, by rw [Try.results20], by kernel_rfl⟩
theorem fe_21 : FeOk Try.prog 21 (FE.code 8 [.tmp 2] (bodyOf Try.f21)) := ⟨_, Try.func21, by kernel_rfl, Try.ntmps21, by rw [Try.results21], by kernel_rfl⟩
theorem fe_22 : FeOk Try.prog 22 (FE.code 14 [.tmp 2] (bodyOf Try.f22)) := ⟨_, Try.func22, by kernel_rfl, Try.ntmps22, by rw [Try.results22], by kernel_rfl⟩
theorem fe_23 : FeOk Try.prog 23 (FE.code 32 [.tmp 6] (bodyOf Try.f23)) := ⟨_, Try.func23, by kernel_rfl, Try.ntmps23, by rw [Try.results23], by kernel_rfl⟩
theorem fe_24 : FeOk Try.prog 24 (FE.code 17 [.tmp 4] (bodyOf Try.f24)) := ⟨_, Try.func24, by kernel_rfl, Try.ntmps24, by rw [Try.results24], by kernel_rfl⟩
theorem fe_25 : FeOk Try.prog 25 (FE.code 32 [.tmp 6] (bodyOf Try.f25)) := ⟨_, Try.func25, by kernel_rfl, Try.ntmps25, by rw [Try.results25], by kernel_rfl⟩
theorem fe_26 : FeOk Try.prog 26 (FE.code 24 [.tmp 4] (bodyOf Try.f26)) := ⟨_, Try.func26, by kernel_rfl, Try.ntmps26, by rw [Try.results26], by kernel_rfl⟩
theorem fe_27 : FeOk Try.prog 27 (FE.code 8 [.tmp 4] (bodyOf Try.f27)) := ⟨_, Try.func27, by kernel_rfl, Try.ntmps27, by rw [Try.results27], by kernel_rfl⟩
theorem fe_28 : FeOk Try.prog 28 (FE.code 8 [.tmp 4] (bodyOf Try.f28)) := ⟨_, Try.func28, by kernel_rfl, Try.ntmps28, by rw [Try.results28], by kernel_rfl⟩
theorem fe_29 : FeOk Try.prog 29 (FE.code 9 [.tmp 4] (bodyOf Try.f29)) := ⟨_, Try.func29, by kernel_rfl, Try.ntmps29, by rw [Try.results29], by kernel_rfl⟩
theorem fe_30 : FeOk Try.prog 30 (FE.code 17 [.tmp 2] (bodyOf Try.f30)) := ⟨_, Try.func30, by kernel_rfl, Try.ntmps30, by rw [Try.results30], by kernel_rfl⟩
theorem fe_31 : FeOk Try.prog 31 (FE.code 20 [.cell 2 50] (bodyOf Try.f31)) := ⟨_, Try.func31, by kernel_rfl, Try.ntmps31, by rw [Try.results31], by kernel_rfl⟩
theorem fe_32 : FeOk Try.prog 32 (FE.code 23 [.tmp 2] (bodyOf Try.f32)) := ⟨_, Try.func32, by kernel_rfl, Try.ntmps32, by rw [Try.results32], by kernel_rfl⟩
theorem fe_33 : FeOk Try.prog 33 (FE.code 17 [.tmp 4] (bodyOf Try.f33)) := ⟨_, Try.func33, by kernel_rfl, Try.ntmps33, by rw [Try.results33], by kernel_rfl⟩
theorem fe_34 : FeOk Try.prog 34 (FE.code 19 [.tmp 4] (bodyOf Try.f34)) := ⟨_, Try.func34, by kernel_rfl, Try.ntmps34, by rw [Try.results34], by kernel_rfl⟩
theorem fe_35 : FeOk Try.prog 35 (FE.code 33 [.tmp 2] (bodyOf Try.f35)) := ⟨_, Try.func35, by kernel_rfl, Try.ntmps35, by rw [Try.results35], by kernel_rfl⟩
theorem fe_36 : FeOk Try.prog 36 (FE.code 44 [.tmp 4] (bodyOf Try.f36)) := ⟨_, Try.func36, by kernel_rfl, Try.ntmps36, by rw [Try.results36], by kernel_rfl⟩
theorem fe_37 : FeOk Try.prog 37 (FE.code 20 [] (bodyOf Try.f37)) := ⟨_, Try.func37, by kernel_rfl, Try.ntmps37, by rw [Try.results37], by kernel_rfl⟩
theorem fe_38 : FeOk Try.prog 38 (FE.code 84 [.tmp 2, .tmp 3] (bodyOf Try.f38)) := ⟨_, Try.func38, by kernel_rfl, Try.ntmps38, by rw [Try.results38], by kernel_rfl⟩
theorem fe_39 : FeOk Try.prog 39 (FE.code 75 [.tmp 4] (bodyOf Try.f39)) := ⟨_, Try.func39, by kernel_rfl, Try.ntmps39, by rw [Try.results39], by kernel_rfl⟩
theorem fe_40 : FeOk Try.prog 40 (FE.code 26 [.tmp 4] (bodyOf Try.f40)) := ⟨_, Try.func40, by kernel_rfl, Try.ntmps40, by rw [Try.results40], by kernel_rfl⟩
theorem fe_41 : FeOk Try.prog 41 (FE.code 26 [.tmp 4] (bodyOf Try.f41)) := ⟨_, Try.func41, by kernel_rfl, Try.ntmps41, by rw [Try.results41], by kernel_rfl⟩
theorem fe_42 : FeOk Try.prog 42 (FE.code 18 [.tmp 4] (bodyOf Try.f42)) := ⟨_, Try.func42, by kernel_rfl, Try.ntmps42, by rw [Try.results42], by kernel_rfl⟩
theorem fe_43 : FeOk Try.prog 43 (FE.code 143 [.tmp 4] (bodyOf Try.f43)) := ⟨_, Try.func43, by kernel_rfl, Try.ntmps43, by rw [Try.results43], by kernel_rfl⟩
theorem fe_44 : FeOk Try.prog 44 (FE.code 21 [.tmp 2] (bodyOf Try.f44)) := ⟨_, Try.func44, by kernel_rfl, Try.ntmps44, by rw [Try.results44], by kernel_rfl⟩
theorem fe_45 : FeOk Try.prog 45 (FE.code 25 [.tmp 2] (bodyOf Try.f45)) := ⟨_, Try.func45, by kernel_rfl, Try.ntmps45, by rw [Try.results45], by kernel_rfl⟩
theorem fe_46 : FeOk Try.prog 46 (FE.code 30 [.tmp 6] (bodyOf Try.f46)) := ⟨_, Try.func46, by kernel_rfl, Try.ntmps46, by rw [Try.results46], by kernel_rfl⟩
theorem fe_47 : FeOk Try.prog 47 (FE.pure sameX) := same_ok Try.func47 (by kernel_rfl) (by kernel_rfl) (by kernel_rfl) (by kernel_rfl)
theorem fe_48 : FeOk Try.prog 48 (FE.code 33 [.cell 6 96] (bodyOf Try.f48)) := ⟨_, Try.func48, by kernel_rfl, Try.ntmps48, by rw [Try.results48], by kernel_rfl⟩
theorem fe_49 : FeOk Try.prog 49 (FE.code 25 [] (bodyOf Try.f49)) := ⟨_, Try.func49, by kernel_rfl, Try.ntmps49, by rw [Try.results49], by kernel_rfl⟩
theorem fe_50 : FeOk Try.prog 50 (FE.code 8 [.tmp 4] (bodyOf Try.f50)) := ⟨_, Try.func50, by kernel_rfl, Try.ntmps50, by rw [Try.results50], by kernel_rfl⟩
theorem fe_52 : FeOk Try.prog 52 (FE.code 6 [.tmp 2] (bodyOf Try.f52)) := ⟨_, Try.func52, by kernel_rfl, Try.ntmps52, by rw [Try.results52], by kernel_rfl⟩
theorem fe_53 : FeOk Try.prog 53 (FE.code 81 [.tmp 4] (bodyOf Try.f53)) := ⟨_, Try.func53, by kernel_rfl, Try.ntmps53, by rw [Try.results53], by kernel_rfl⟩
theorem fe_54 : FeOk Try.prog 54 (FE.code 60 [.tmp 2] (bodyOf Try.f54)) := ⟨_, Try.func54, by kernel_rfl, Try.ntmps54, by rw [Try.results54], by kernel_rfl⟩
theorem fe_55 : FeOk Try.prog 55 (FE.code 15 [.tmp 4] (bodyOf Try.f55)) := ⟨_, Try.func55, by kernel_rfl, Try.ntmps55, by rw [Try.results55], by kernel_rfl⟩
theorem fe_56 : FeOk Try.prog 56 (FE.code 30 [] (bodyOf Try.f56)) := ⟨_, Try.func56, by kernel_rfl, Try.ntmps56, by rw [Try.results56], by kernel_rfl⟩
theorem fe_57 : FeOk Try.prog 57 (FE.pure idxX) := idx_ok Try.func57 (by kernel_rfl) (by kernel_rfl) (by kernel_rfl) (by kernel_rfl)
theorem fe_58 : FeOk Try.prog 58 (FE.code 39 [.tmp 2, .tmp 3] (bodyOf Try.f58)) := ⟨_, Try.func58, by kernel_rfl, Try.ntmps58, by rw [Try.results58], by kernel_rfl⟩
theorem fe_59 : FeOk Try.prog 59 (FE.room 5) := room_ok (t := 22) (e := 5) (ps := Try.f59.params) Try.func59 (by kernel_rfl) (by kernel_rfl) (by kernel_rfl) (by kernel_rfl) Try.underlying22
noncomputable def ftL : List (Nat × FE) := [(5, FE.code 55 [.tmp 2, .tmp 3, .tmp 4] (bodyOf Try.f5)),
  (6, FE.code 82 [.tmp 0] (bodyOf Try.f6)),
  (7, FE.code 46 [.tmp 2, .tmp 3, .tmp 4] (bodyOf Try.f7)),
  (8, FE.code 43 [.cell 4 39, .tmp 5] (bodyOf Try.f8)),
  (9, FE.code 70 [.tmp 2, .tmp 3] (bodyOf Try.f9)),
  (10, FE.code 8 [.tmp 4] (bodyOf Try.f10)),
  (11, FE.code 32 [.tmp 2] (bodyOf Try.f11)),
  (12, FE.code 22 [.cell 2 50, .tmp 3] (bodyOf Try.f12)),
  (13, FE.code 14 [.tmp 6] (bodyOf Try.f13)),
  (14, FE.code 14 [.tmp 2] (bodyOf Try.f14)),
  (15, FE.code 20 [.tmp 4] (bodyOf Try.f15)),
  (16, FE.code 24 [.tmp 4] (bodyOf Try.f16)),
  (17, FE.code 13 [.tmp 4] (bodyOf Try.f17)),
  (18, FE.code 53 [.tmp 4] (bodyOf Try.f18)),
  (19, FE.code 19 [.tmp 4, .tmp 5] (bodyOf Try.f19)),
  (20, FE.code 56 [.tmp 2, .tmp 3] (bodyOf Try.f20)),
  (21, FE.code 8 [.tmp 2] (bodyOf Try.f21)),
  (22, FE.code 14 [.tmp 2] (bodyOf Try.f22)),
  (23, FE.code 32 [.tmp 6] (bodyOf Try.f23)),
  (24, FE.code 17 [.tmp 4] (bodyOf Try.f24)),
  (25, FE.code 32 [.tmp 6] (bodyOf Try.f25)),
  (26, FE.code 24 [.tmp 4] (bodyOf Try.f26)),
  (27, FE.code 8 [.tmp 4] (bodyOf Try.f27)),
  (28, FE.code 8 [.tmp 4] (bodyOf Try.f28)),
  (29, FE.code 9 [.tmp 4] (bodyOf Try.f29)),
  (30, FE.code 17 [.tmp 2] (bodyOf Try.f30)),
  (31, FE.code 20 [.cell 2 50] (bodyOf Try.f31)),
  (32, FE.code 23 [.tmp 2] (bodyOf Try.f32)),
  (33, FE.code 17 [.tmp 4] (bodyOf Try.f33)),
  (34, FE.code 19 [.tmp 4] (bodyOf Try.f34)),
  (35, FE.code 33 [.tmp 2] (bodyOf Try.f35)),
  (36, FE.code 44 [.tmp 4] (bodyOf Try.f36)),
  (37, FE.code 20 [] (bodyOf Try.f37)),
  (38, FE.code 84 [.tmp 2, .tmp 3] (bodyOf Try.f38)),
  (39, FE.code 75 [.tmp 4] (bodyOf Try.f39)),
  (40, FE.code 26 [.tmp 4] (bodyOf Try.f40)),
  (41, FE.code 26 [.tmp 4] (bodyOf Try.f41)),
  (42, FE.code 18 [.tmp 4] (bodyOf Try.f42)),
  (43, FE.code 143 [.tmp 4] (bodyOf Try.f43)),
  (44, FE.code 21 [.tmp 2] (bodyOf Try.f44)),
  (45, FE.code 25 [.tmp 2] (bodyOf Try.f45)),
  (46, FE.code 30 [.tmp 6] (bodyOf Try.f46)),
  (47, FE.pure sameX),
  (48, FE.code 33 [.cell 6 96] (bodyOf Try.f48)),
  (49, FE.code 25 [] (bodyOf Try.f49)),
  (50, FE.code 8 [.tmp 4] (bodyOf Try.f50)),
  (52, FE.code 6 [.tmp 2] (bodyOf Try.f52)),
  (53, FE.code 81 [.tmp 4] (bodyOf Try.f53)),
  (54, FE.code 60 [.tmp 2] (bodyOf Try.f54)),
  (55, FE.code 15 [.tmp 4] (bodyOf Try.f55)),
  (56, FE.code 30 [] (bodyOf Try.f56)),
  (57, FE.pure idxX),
  (58, FE.code 39 [.tmp 2, .tmp 3] (bodyOf Try.f58)),
  (59, FE.room 5)]
theorem ftLOk : ∀ p ∈ ftL, FeOk Try.prog p.1 p.2 := all_cons fe_5 (all_cons fe_6 (all_cons fe_7 (all_cons fe_8 (all_cons fe_9 (all_cons fe_10 (all_cons fe_11 (all_cons fe_12 (all_cons fe_13 (all_cons fe_14 (all_cons fe_15 (all_cons fe_16 (all_cons fe_17 (all_cons fe_18 (all_cons fe_19 (all_cons fe_20 (all_cons fe_21 (all_cons fe_22 (all_cons fe_23 (all_cons fe_24 (all_cons fe_25 (all_cons fe_26 (all_cons fe_27 (all_cons fe_28 (all_cons fe_29 (all_cons fe_30 (all_cons fe_31 (all_cons fe_32 (all_cons fe_33 (all_cons fe_34 (all_cons fe_35 (all_cons fe_36 (all_cons fe_37 (all_cons fe_38 (all_cons fe_39 (all_cons fe_40 (all_cons fe_41 (all_cons fe_42 (all_cons fe_43 (all_cons fe_44 (all_cons fe_45 (all_cons fe_46 (all_cons fe_47 (all_cons fe_48 (all_cons fe_49 (all_cons fe_50 (all_cons fe_52 (all_cons fe_53 (all_cons fe_54 (all_cons fe_55 (all_cons fe_56 (all_cons fe_57 (all_cons fe_58 (all_cons fe_59 (all_nil))))))))))))))))))))))))))))))))))))))))))))))))))))))
noncomputable def ftT : T FE := ofList ftL
theorem ftOk : FtOk Try.prog ftT := ftOk_of ftLOk
end Go.Rx

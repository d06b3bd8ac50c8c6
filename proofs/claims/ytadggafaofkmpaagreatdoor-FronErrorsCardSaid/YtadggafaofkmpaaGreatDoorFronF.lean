/- Closed runs: the types, the functions. -/
import Derived.Test.YtadggafaofkmpaaGreatDoorR3
import Derived.Test.YtadggafaofkmpaaGreatDoorRows
set_option linter.unusedVariables false
set_option linter.unusedSimpArgs false
set_option linter.unusedSectionVars false
set_option maxRecDepth 100000
namespace Go.Rx
open Go.Proofs
theorem mixed : Tryz.prog.follows .mixedOrders = true := by kernel_rfl
theorem ty_2 : RTOk Tryz.prog ⟨2, (.int .i64), 1, false, 8, (some [(.int .i64 0)]), (some [.i])⟩ := RTOk.q Tryz.underlying2 (by kernel_rfl) (by kernel_rfl) (by kernel_rfl) (zS (by kernel_rfl) rfl rfl) (fun _ => rfl) (by kernel_rfl) (by kernel_rfl) rfl
theorem ty_3 : RTOk Tryz.prog ⟨3, (.int .i64), 1, false, 8, (some [(.int .i64 0)]), (some [.i])⟩ := RTOk.q Tryz.underlying3 (by kernel_rfl) (by kernel_rfl) (by kernel_rfl) (zS (by kernel_rfl) rfl rfl) (fun _ => rfl) (by kernel_rfl) (by kernel_rfl) rfl
theorem ty_4 : RTOk Tryz.prog ⟨4, .bool, 1, false, 1, (some [(.bool false)]), (some [.b])⟩ := RTOk.q Tryz.underlying4 (by kernel_rfl) (by kernel_rfl) (by kernel_rfl) (zS (by kernel_rfl) rfl rfl) (fun _ => rfl) (by kernel_rfl) (by kernel_rfl) rfl
theorem ty_5 : RTOk Tryz.prog ⟨5, (.int .u8), 1, false, 1, (some [(.int .u8 0)]), (some [.i])⟩ := RTOk.q Tryz.underlying5 (by kernel_rfl) (by kernel_rfl) (by kernel_rfl) (zS (by kernel_rfl) rfl rfl) (fun _ => rfl) (by kernel_rfl) (by kernel_rfl) rfl
theorem ty_9 : RTOk Tryz.prog ⟨9, .str, 1, false, 16, (some [(.str ⟨0, 0⟩)]), (some [.s])⟩ := RTOk.q Tryz.underlying9 (by kernel_rfl) (by kernel_rfl) (by kernel_rfl) (zS (by kernel_rfl) rfl rfl) (fun _ => rfl) (by kernel_rfl) (by kernel_rfl) rfl
theorem ty_21 : RTOk Tryz.prog ⟨21, (.int .i32), 1, false, 4, (some [(.int .i32 0)]), (some [.i])⟩ := RTOk.q Tryz.underlying21 (by kernel_rfl) (by kernel_rfl) (by kernel_rfl) (zS (by kernel_rfl) rfl rfl) (fun _ => rfl) (by kernel_rfl) (by kernel_rfl) rfl
theorem ty_23 : RTOk Tryz.prog ⟨23, (.st [(0, 3), (1, 9)]), 2, true, 24, (some [(.int .i64 0), (.str ⟨0, 0⟩)]), (some [.i, .s])⟩ := RTOk.q ⟨_, Tryz.underlying23, by kernel_rfl, by kernel_rfl⟩ (by kernel_rfl) (by kernel_rfl) (by kernel_rfl) (zA (by kernel_rfl) rfl rfl) (fun h => by simp at h) (by kernel_rfl) (by kernel_rfl) rfl
theorem ty_24 : RTOk Tryz.prog ⟨24, (.int .i64), 1, false, 8, (some [(.int .i64 0)]), (some [.i])⟩ := RTOk.q Tryz.underlying24 (by kernel_rfl) (by kernel_rfl) (by kernel_rfl) (zS (by kernel_rfl) rfl rfl) (fun _ => rfl) (by kernel_rfl) (by kernel_rfl) rfl
theorem ty_25 : RTOk Tryz.prog ⟨25, (.st [(0, 3), (1, 9), (2, 23), (4, 3), (5, 24)]), 6, true, 64, (some [(.int .i64 0), (.str ⟨0, 0⟩), (.int .i64 0), (.str ⟨0, 0⟩), (.int .i64 0), (.int .i64 0)]), (some [.i, .s, .i, .s, .i, .i])⟩ := RTOk.q ⟨_, Tryz.underlying25, by kernel_rfl, by kernel_rfl⟩ (by kernel_rfl) (by kernel_rfl) (by kernel_rfl) (zA (by kernel_rfl) rfl rfl) (fun h => by simp at h) (by kernel_rfl) (by kernel_rfl) rfl
theorem ty_26 : RTOk Tryz.prog ⟨26, (.sl 25), 1, false, 24, (some [.slnil]), (some [.sl])⟩ := RTOk.q Tryz.underlying26 (by kernel_rfl) (by kernel_rfl) (by kernel_rfl) (zS (by kernel_rfl) rfl rfl) (fun _ => rfl) (by kernel_rfl) (by kernel_rfl) rfl
theorem ty_27 : RTOk Tryz.prog ⟨27, (.ptr 52), 1, false, 8, (some [.nilp]), (some [.p])⟩ := RTOk.q Tryz.underlying27 (by kernel_rfl) (by kernel_rfl) (by kernel_rfl) (zS (by kernel_rfl) rfl rfl) (fun _ => rfl) (by kernel_rfl) (by kernel_rfl) rfl
theorem ty_37 : RTOk Tryz.prog ⟨37, (.st [(0, 3)]), 1, true, 8, (some [(.int .i64 0)]), (some [.i])⟩ := RTOk.q ⟨_, Tryz.underlying37, by kernel_rfl, by kernel_rfl⟩ (by kernel_rfl) (by kernel_rfl) (by kernel_rfl) (zA (by kernel_rfl) rfl rfl) (fun h => by simp at h) (by kernel_rfl) (by kernel_rfl) rfl
theorem ty_38 : RTOk Tryz.prog ⟨38, (.sl 9), 1, false, 24, (some [.slnil]), (some [.sl])⟩ := RTOk.q Tryz.underlying38 (by kernel_rfl) (by kernel_rfl) (by kernel_rfl) (zS (by kernel_rfl) rfl rfl) (fun _ => rfl) (by kernel_rfl) (by kernel_rfl) rfl
theorem ty_39 : RTOk Tryz.prog ⟨39, (.sl 114), 1, false, 24, (some [.slnil]), (some [.sl])⟩ := RTOk.q Tryz.underlying39 (by kernel_rfl) (by kernel_rfl) (by kernel_rfl) (zS (by kernel_rfl) rfl rfl) (fun _ => rfl) (by kernel_rfl) (by kernel_rfl) rfl
theorem ty_40 : RTOk Tryz.prog ⟨40, (.sl 116), 1, false, 24, (some [.slnil]), (some [.sl])⟩ := RTOk.q Tryz.underlying40 (by kernel_rfl) (by kernel_rfl) (by kernel_rfl) (zS (by kernel_rfl) rfl rfl) (fun _ => rfl) (by kernel_rfl) (by kernel_rfl) rfl
theorem ty_41 : RTOk Tryz.prog ⟨41, (.sl 118), 1, false, 24, (some [.slnil]), (some [.sl])⟩ := RTOk.q Tryz.underlying41 (by kernel_rfl) (by kernel_rfl) (by kernel_rfl) (zS (by kernel_rfl) rfl rfl) (fun _ => rfl) (by kernel_rfl) (by kernel_rfl) rfl
theorem ty_42 : RTOk Tryz.prog ⟨42, (.sl 121), 1, false, 24, (some [.slnil]), (some [.sl])⟩ := RTOk.q Tryz.underlying42 (by kernel_rfl) (by kernel_rfl) (by kernel_rfl) (zS (by kernel_rfl) rfl rfl) (fun _ => rfl) (by kernel_rfl) (by kernel_rfl) rfl
theorem ty_44 : RTOk Tryz.prog ⟨44, (.st [(0, 38), (1, 38), (2, 39), (3, 39), (4, 40), (5, 41), (6, 41), (7, 42)]), 8, true, 192, (some [.slnil, .slnil, .slnil, .slnil, .slnil, .slnil, .slnil, .slnil]), (some [.sl, .sl, .sl, .sl, .sl, .sl, .sl, .sl])⟩ := RTOk.q ⟨_, Tryz.underlying44, by kernel_rfl, by kernel_rfl⟩ (by kernel_rfl) (by kernel_rfl) (by kernel_rfl) (zA (by kernel_rfl) rfl rfl) (fun h => by simp at h) (by kernel_rfl) (by kernel_rfl) rfl
theorem ty_45 : RTOk Tryz.prog ⟨45, (.sl 93), 1, false, 24, (some [.slnil]), (some [.sl])⟩ := RTOk.q Tryz.underlying45 (by kernel_rfl) (by kernel_rfl) (by kernel_rfl) (zS (by kernel_rfl) rfl rfl) (fun _ => rfl) (by kernel_rfl) (by kernel_rfl) rfl
theorem ty_46 : RTOk Tryz.prog ⟨46, (.sl 138), 1, false, 24, (some [.slnil]), (some [.sl])⟩ := RTOk.q Tryz.underlying46 (by kernel_rfl) (by kernel_rfl) (by kernel_rfl) (zS (by kernel_rfl) rfl rfl) (fun _ => rfl) (by kernel_rfl) (by kernel_rfl) rfl
theorem ty_47 : RTOk Tryz.prog ⟨47, (.sl 130), 1, false, 24, (some [.slnil]), (some [.sl])⟩ := RTOk.q Tryz.underlying47 (by kernel_rfl) (by kernel_rfl) (by kernel_rfl) (zS (by kernel_rfl) rfl rfl) (fun _ => rfl) (by kernel_rfl) (by kernel_rfl) rfl
theorem ty_48 : RTOk Tryz.prog ⟨48, (.sl 134), 1, false, 24, (some [.slnil]), (some [.sl])⟩ := RTOk.q Tryz.underlying48 (by kernel_rfl) (by kernel_rfl) (by kernel_rfl) (zS (by kernel_rfl) rfl rfl) (fun _ => rfl) (by kernel_rfl) (by kernel_rfl) rfl
theorem ty_50 : RTOk Tryz.prog ⟨50, (.st [(0, 38), (1, 38), (2, 38), (3, 46), (4, 47), (5, 48)]), 6, true, 144, (some [.slnil, .slnil, .slnil, .slnil, .slnil, .slnil]), (some [.sl, .sl, .sl, .sl, .sl, .sl])⟩ := RTOk.q ⟨_, Tryz.underlying50, by kernel_rfl, by kernel_rfl⟩ (by kernel_rfl) (by kernel_rfl) (by kernel_rfl) (zA (by kernel_rfl) rfl rfl) (fun h => by simp at h) (by kernel_rfl) (by kernel_rfl) rfl
theorem ty_52 : RTOk Tryz.prog ⟨52, (.st [(0, 37), (1, 44), (9, 45), (10, 50)]), 16, true, 368, (some [(.int .i64 0), .slnil, .slnil, .slnil, .slnil, .slnil, .slnil, .slnil, .slnil, .slnil, .slnil, .slnil, .slnil, .slnil, .slnil, .slnil]), (some [.i, .sl, .sl, .sl, .sl, .sl, .sl, .sl, .sl, .sl, .sl, .sl, .sl, .sl, .sl, .sl])⟩ := RTOk.q ⟨_, Tryz.underlying52, by kernel_rfl, by kernel_rfl⟩ (by kernel_rfl) (by kernel_rfl) (by kernel_rfl) (zA (by kernel_rfl) rfl rfl) (fun h => by simp at h) (by kernel_rfl) (by kernel_rfl) rfl
theorem ty_53 : RTOk Tryz.prog ⟨53, (.sl 85), 1, false, 24, (some [.slnil]), (some [.sl])⟩ := RTOk.q Tryz.underlying53 (by kernel_rfl) (by kernel_rfl) (by kernel_rfl) (zS (by kernel_rfl) rfl rfl) (fun _ => rfl) (by kernel_rfl) (by kernel_rfl) rfl
theorem ty_69 : RTOk Tryz.prog ⟨69, (.st [(0, 9), (1, 9)]), 2, true, 32, (some [(.str ⟨0, 0⟩), (.str ⟨0, 0⟩)]), (some [.s, .s])⟩ := RTOk.q ⟨_, Tryz.underlying69, by kernel_rfl, by kernel_rfl⟩ (by kernel_rfl) (by kernel_rfl) (by kernel_rfl) (zA (by kernel_rfl) rfl rfl) (fun h => by simp at h) (by kernel_rfl) (by kernel_rfl) rfl
theorem ty_71 : RTOk Tryz.prog ⟨71, (.st [(0, 9), (1, 9), (2, 9)]), 3, true, 48, (some [(.str ⟨0, 0⟩), (.str ⟨0, 0⟩), (.str ⟨0, 0⟩)]), (some [.s, .s, .s])⟩ := RTOk.q ⟨_, Tryz.underlying71, by kernel_rfl, by kernel_rfl⟩ (by kernel_rfl) (by kernel_rfl) (by kernel_rfl) (zA (by kernel_rfl) rfl rfl) (fun h => by simp at h) (by kernel_rfl) (by kernel_rfl) rfl
theorem ty_75 : RTOk Tryz.prog ⟨75, (.st [(0, 4), (1, 9), (2, 9), (3, 9)]), 4, true, 56, (some [(.bool false), (.str ⟨0, 0⟩), (.str ⟨0, 0⟩), (.str ⟨0, 0⟩)]), (some [.b, .s, .s, .s])⟩ := RTOk.q ⟨_, Tryz.underlying75, by kernel_rfl, by kernel_rfl⟩ (by kernel_rfl) (by kernel_rfl) (by kernel_rfl) (zA (by kernel_rfl) rfl rfl) (fun h => by simp at h) (by kernel_rfl) (by kernel_rfl) rfl
theorem ty_78 : RTOk Tryz.prog ⟨78, (.sl 83), 1, false, 24, (some [.slnil]), (some [.sl])⟩ := RTOk.q Tryz.underlying78 (by kernel_rfl) (by kernel_rfl) (by kernel_rfl) (zS (by kernel_rfl) rfl rfl) (fun _ => rfl) (by kernel_rfl) (by kernel_rfl) rfl
theorem ty_81 : RTOk Tryz.prog ⟨81, (.sl 155), 1, false, 24, (some [.slnil]), (some [.sl])⟩ := RTOk.q Tryz.underlying81 (by kernel_rfl) (by kernel_rfl) (by kernel_rfl) (zS (by kernel_rfl) rfl rfl) (fun _ => rfl) (by kernel_rfl) (by kernel_rfl) rfl
theorem ty_83 : RTOk Tryz.prog ⟨83, (.st [(0, 3), (1, 81)]), 2, true, 32, (some [(.int .i64 0), .slnil]), (some [.i, .sl])⟩ := RTOk.q ⟨_, Tryz.underlying83, by kernel_rfl, by kernel_rfl⟩ (by kernel_rfl) (by kernel_rfl) (by kernel_rfl) (zA (by kernel_rfl) rfl rfl) (fun h => by simp at h) (by kernel_rfl) (by kernel_rfl) rfl
theorem ty_85 : RTOk Tryz.prog ⟨85, (.st [(0, 3), (1, 9), (2, 9), (3, 9), (4, 3), (5, 38), (6, 3)]), 7, true, 96, (some [(.int .i64 0), (.str ⟨0, 0⟩), (.str ⟨0, 0⟩), (.str ⟨0, 0⟩), (.int .i64 0), .slnil, (.int .i64 0)]), (some [.i, .s, .s, .s, .i, .sl, .i])⟩ := RTOk.q ⟨_, Tryz.underlying85, by kernel_rfl, by kernel_rfl⟩ (by kernel_rfl) (by kernel_rfl) (by kernel_rfl) (zA (by kernel_rfl) rfl rfl) (fun h => by simp at h) (by kernel_rfl) (by kernel_rfl) rfl
theorem ty_91 : RTOk Tryz.prog ⟨91, (.sl 303), 1, false, 24, (some [.slnil]), (some [.sl])⟩ := RTOk.q Tryz.underlying91 (by kernel_rfl) (by kernel_rfl) (by kernel_rfl) (zS (by kernel_rfl) rfl rfl) (fun _ => rfl) (by kernel_rfl) (by kernel_rfl) rfl
theorem ty_93 : RTOk Tryz.prog ⟨93, (.st [(0, 3), (1, 9), (2, 38), (3, 9), (4, 9), (5, 91), (6, 3)]), 7, true, 112, (some [(.int .i64 0), (.str ⟨0, 0⟩), .slnil, (.str ⟨0, 0⟩), (.str ⟨0, 0⟩), .slnil, (.int .i64 0)]), (some [.i, .s, .sl, .s, .s, .sl, .i])⟩ := RTOk.q ⟨_, Tryz.underlying93, by kernel_rfl, by kernel_rfl⟩ (by kernel_rfl) (by kernel_rfl) (by kernel_rfl) (zA (by kernel_rfl) rfl rfl) (fun h => by simp at h) (by kernel_rfl) (by kernel_rfl) rfl
theorem ty_97 : RTOk Tryz.prog ⟨97, (.sl 99), 1, false, 24, (some [.slnil]), (some [.sl])⟩ := RTOk.q Tryz.underlying97 (by kernel_rfl) (by kernel_rfl) (by kernel_rfl) (zS (by kernel_rfl) rfl rfl) (fun _ => rfl) (by kernel_rfl) (by kernel_rfl) rfl
theorem ty_99 : RTOk Tryz.prog ⟨99, (.st [(0, 3), (1, 9), (2, 38), (3, 97)]), 4, true, 72, (some [(.int .i64 0), (.str ⟨0, 0⟩), .slnil, .slnil]), (some [.i, .s, .sl, .sl])⟩ := RTOk.q ⟨_, Tryz.underlying99, by kernel_rfl, by kernel_rfl⟩ (by kernel_rfl) (by kernel_rfl) (by kernel_rfl) (zA (by kernel_rfl) rfl rfl) (fun h => by simp at h) (by kernel_rfl) (by kernel_rfl) rfl
theorem ty_111 : RTOk Tryz.prog ⟨111, .fn, 1, false, 8, (some [.nilf]), (some [.f])⟩ := RTOk.q ⟨_, _, _, Tryz.underlying111⟩ (by kernel_rfl) (by kernel_rfl) (by kernel_rfl) (zS (by kernel_rfl) rfl rfl) (fun _ => rfl) (by kernel_rfl) (by kernel_rfl) rfl
theorem ty_114 : RTOk Tryz.prog ⟨114, (.st [(0, 9), (1, 9)]), 2, true, 32, (some [(.str ⟨0, 0⟩), (.str ⟨0, 0⟩)]), (some [.s, .s])⟩ := RTOk.q ⟨_, Tryz.underlying114, by kernel_rfl, by kernel_rfl⟩ (by kernel_rfl) (by kernel_rfl) (by kernel_rfl) (zA (by kernel_rfl) rfl rfl) (fun h => by simp at h) (by kernel_rfl) (by kernel_rfl) rfl
theorem ty_116 : RTOk Tryz.prog ⟨116, (.st [(0, 9), (1, 9), (2, 9)]), 3, true, 48, (some [(.str ⟨0, 0⟩), (.str ⟨0, 0⟩), (.str ⟨0, 0⟩)]), (some [.s, .s, .s])⟩ := RTOk.q ⟨_, Tryz.underlying116, by kernel_rfl, by kernel_rfl⟩ (by kernel_rfl) (by kernel_rfl) (by kernel_rfl) (zA (by kernel_rfl) rfl rfl) (fun h => by simp at h) (by kernel_rfl) (by kernel_rfl) rfl
theorem ty_118 : RTOk Tryz.prog ⟨118, (.st [(0, 9), (1, 3), (2, 38)]), 3, true, 48, (some [(.str ⟨0, 0⟩), (.int .i64 0), .slnil]), (some [.s, .i, .sl])⟩ := RTOk.q ⟨_, Tryz.underlying118, by kernel_rfl, by kernel_rfl⟩ (by kernel_rfl) (by kernel_rfl) (by kernel_rfl) (zA (by kernel_rfl) rfl rfl) (fun h => by simp at h) (by kernel_rfl) (by kernel_rfl) rfl
theorem ty_121 : RTOk Tryz.prog ⟨121, (.st [(0, 9), (1, 9), (2, 38)]), 3, true, 56, (some [(.str ⟨0, 0⟩), (.str ⟨0, 0⟩), .slnil]), (some [.s, .s, .sl])⟩ := RTOk.q ⟨_, Tryz.underlying121, by kernel_rfl, by kernel_rfl⟩ (by kernel_rfl) (by kernel_rfl) (by kernel_rfl) (zA (by kernel_rfl) rfl rfl) (fun h => by simp at h) (by kernel_rfl) (by kernel_rfl) rfl
theorem ty_123 : RTOk Tryz.prog ⟨123, .fn, 1, false, 8, (some [.nilf]), (some [.f])⟩ := RTOk.q ⟨_, _, _, Tryz.underlying123⟩ (by kernel_rfl) (by kernel_rfl) (by kernel_rfl) (zS (by kernel_rfl) rfl rfl) (fun _ => rfl) (by kernel_rfl) (by kernel_rfl) rfl
theorem ty_126 : RTOk Tryz.prog ⟨126, .fn, 1, false, 8, (some [.nilf]), (some [.f])⟩ := RTOk.q ⟨_, _, _, Tryz.underlying126⟩ (by kernel_rfl) (by kernel_rfl) (by kernel_rfl) (zS (by kernel_rfl) rfl rfl) (fun _ => rfl) (by kernel_rfl) (by kernel_rfl) rfl
theorem ty_130 : RTOk Tryz.prog ⟨130, (.st [(0, 9), (1, 4), (2, 38), (3, 38), (4, 38), (5, 38)]), 6, true, 120, (some [(.str ⟨0, 0⟩), (.bool false), .slnil, .slnil, .slnil, .slnil]), (some [.s, .b, .sl, .sl, .sl, .sl])⟩ := RTOk.q ⟨_, Tryz.underlying130, by kernel_rfl, by kernel_rfl⟩ (by kernel_rfl) (by kernel_rfl) (by kernel_rfl) (zA (by kernel_rfl) rfl rfl) (fun h => by simp at h) (by kernel_rfl) (by kernel_rfl) rfl
theorem ty_131 : RTOk Tryz.prog ⟨131, .fn, 1, false, 8, (some [.nilf]), (some [.f])⟩ := RTOk.q ⟨_, _, _, Tryz.underlying131⟩ (by kernel_rfl) (by kernel_rfl) (by kernel_rfl) (zS (by kernel_rfl) rfl rfl) (fun _ => rfl) (by kernel_rfl) (by kernel_rfl) rfl
theorem ty_134 : RTOk Tryz.prog ⟨134, (.st [(0, 9), (1, 38), (2, 38)]), 3, true, 64, (some [(.str ⟨0, 0⟩), .slnil, .slnil]), (some [.s, .sl, .sl])⟩ := RTOk.q ⟨_, Tryz.underlying134, by kernel_rfl, by kernel_rfl⟩ (by kernel_rfl) (by kernel_rfl) (by kernel_rfl) (zA (by kernel_rfl) rfl rfl) (fun h => by simp at h) (by kernel_rfl) (by kernel_rfl) rfl
theorem ty_135 : RTOk Tryz.prog ⟨135, .fn, 1, false, 8, (some [.nilf]), (some [.f])⟩ := RTOk.q ⟨_, _, _, Tryz.underlying135⟩ (by kernel_rfl) (by kernel_rfl) (by kernel_rfl) (zS (by kernel_rfl) rfl rfl) (fun _ => rfl) (by kernel_rfl) (by kernel_rfl) rfl
theorem ty_138 : RTOk Tryz.prog ⟨138, (.st [(0, 9), (1, 38)]), 2, true, 40, (some [(.str ⟨0, 0⟩), .slnil]), (some [.s, .sl])⟩ := RTOk.q ⟨_, Tryz.underlying138, by kernel_rfl, by kernel_rfl⟩ (by kernel_rfl) (by kernel_rfl) (by kernel_rfl) (zA (by kernel_rfl) rfl rfl) (fun h => by simp at h) (by kernel_rfl) (by kernel_rfl) rfl
theorem ty_139 : RTOk Tryz.prog ⟨139, .fn, 1, false, 8, (some [.nilf]), (some [.f])⟩ := RTOk.q ⟨_, _, _, Tryz.underlying139⟩ (by kernel_rfl) (by kernel_rfl) (by kernel_rfl) (zS (by kernel_rfl) rfl rfl) (fun _ => rfl) (by kernel_rfl) (by kernel_rfl) rfl
theorem ty_155 : RTOk Tryz.prog ⟨155, (.st [(0, 9), (1, 3)]), 2, true, 24, (some [(.str ⟨0, 0⟩), (.int .i64 0)]), (some [.s, .i])⟩ := RTOk.q ⟨_, Tryz.underlying155, by kernel_rfl, by kernel_rfl⟩ (by kernel_rfl) (by kernel_rfl) (by kernel_rfl) (zA (by kernel_rfl) rfl rfl) (fun h => by simp at h) (by kernel_rfl) (by kernel_rfl) rfl
theorem ty_157 : RTOk Tryz.prog ⟨157, (.st [(0, 3), (1, 3), (2, 4), (3, 3), (4, 3)]), 5, true, 40, (some [(.int .i64 0), (.int .i64 0), (.bool false), (.int .i64 0), (.int .i64 0)]), (some [.i, .i, .b, .i, .i])⟩ := RTOk.q ⟨_, Tryz.underlying157, by kernel_rfl, by kernel_rfl⟩ (by kernel_rfl) (by kernel_rfl) (by kernel_rfl) (zA (by kernel_rfl) rfl rfl) (fun h => by simp at h) (by kernel_rfl) (by kernel_rfl) rfl
theorem ty_162 : RTOk Tryz.prog ⟨162, (.map 9 3), 1, false, 8, (some [.mapnil]), (some [.m])⟩ := RTOk.q Tryz.underlying162 (by kernel_rfl) (by kernel_rfl) (by kernel_rfl) (zS (by kernel_rfl) rfl rfl) (fun _ => rfl) (by kernel_rfl) (by kernel_rfl) rfl
theorem ty_164 : RTOk Tryz.prog ⟨164, (.st [(0, 162), (1, 162)]), 2, true, 16, (some [.mapnil, .mapnil]), (some [.m, .m])⟩ := RTOk.q ⟨_, Tryz.underlying164, by kernel_rfl, by kernel_rfl⟩ (by kernel_rfl) (by kernel_rfl) (by kernel_rfl) (zA (by kernel_rfl) rfl rfl) (fun h => by simp at h) (by kernel_rfl) (by kernel_rfl) rfl
theorem ty_179 : RTOk Tryz.prog ⟨179, (.st [(0, 162), (1, 162), (2, 162)]), 3, true, 24, (some [.mapnil, .mapnil, .mapnil]), (some [.m, .m, .m])⟩ := RTOk.q ⟨_, Tryz.underlying179, by kernel_rfl, by kernel_rfl⟩ (by kernel_rfl) (by kernel_rfl) (by kernel_rfl) (zA (by kernel_rfl) rfl rfl) (fun h => by simp at h) (by kernel_rfl) (by kernel_rfl) rfl
theorem ty_191 : RTOk Tryz.prog ⟨191, (.ptr 193), 1, false, 8, (some [.nilp]), (some [.p])⟩ := RTOk.q Tryz.underlying191 (by kernel_rfl) (by kernel_rfl) (by kernel_rfl) (zS (by kernel_rfl) rfl rfl) (fun _ => rfl) (by kernel_rfl) (by kernel_rfl) rfl
theorem ty_193 : RTOk Tryz.prog ⟨193, (.st [(0, 9), (1, 3), (2, 3), (3, 24), (4, 3)]), 5, true, 48, (some [(.str ⟨0, 0⟩), (.int .i64 0), (.int .i64 0), (.int .i64 0), (.int .i64 0)]), (some [.s, .i, .i, .i, .i])⟩ := RTOk.q ⟨_, Tryz.underlying193, by kernel_rfl, by kernel_rfl⟩ (by kernel_rfl) (by kernel_rfl) (by kernel_rfl) (zA (by kernel_rfl) rfl rfl) (fun h => by simp at h) (by kernel_rfl) (by kernel_rfl) rfl
theorem ty_198 : RTOk Tryz.prog ⟨198, (.st [(0, 4)]), 1, true, 1, (some [(.bool false)]), (some [.b])⟩ := RTOk.q ⟨_, Tryz.underlying198, by kernel_rfl, by kernel_rfl⟩ (by kernel_rfl) (by kernel_rfl) (by kernel_rfl) (zA (by kernel_rfl) rfl rfl) (fun h => by simp at h) (by kernel_rfl) (by kernel_rfl) rfl
theorem ty_215 : RTOk Tryz.prog ⟨215, (.ptr 218), 1, false, 8, (some [.nilp]), (some [.p])⟩ := RTOk.q Tryz.underlying215 (by kernel_rfl) (by kernel_rfl) (by kernel_rfl) (zS (by kernel_rfl) rfl rfl) (fun _ => rfl) (by kernel_rfl) (by kernel_rfl) rfl
theorem ty_216 : RTOk Tryz.prog ⟨216, (.sl 5), 1, false, 24, (some [.slnil]), (some [.sl])⟩ := RTOk.q Tryz.underlying216 (by kernel_rfl) (by kernel_rfl) (by kernel_rfl) (zS (by kernel_rfl) rfl rfl) (fun _ => rfl) (by kernel_rfl) (by kernel_rfl) rfl
theorem ty_218 : RTOk Tryz.prog ⟨218, (.st [(0, 215), (1, 216)]), 2, true, 32, (some [.nilp, .slnil]), (some [.p, .sl])⟩ := RTOk.q ⟨_, Tryz.underlying218, by kernel_rfl, by kernel_rfl⟩ (by kernel_rfl) (by kernel_rfl) (by kernel_rfl) (zA (by kernel_rfl) rfl rfl) (fun h => by simp at h) (by kernel_rfl) (by kernel_rfl) rfl
theorem ty_220 : RTOk Tryz.prog ⟨220, .iface, 1, false, 16, (some [.nili]), none⟩ := RTOk.n ⟨_, Tryz.underlying220⟩ (by kernel_rfl) (by kernel_rfl) (by kernel_rfl) (zS (by kernel_rfl) rfl rfl) (fun _ => rfl)
theorem ty_236 : RTOk Tryz.prog ⟨236, (.sl 53), 1, false, 24, (some [.slnil]), (some [.sl])⟩ := RTOk.q Tryz.underlying236 (by kernel_rfl) (by kernel_rfl) (by kernel_rfl) (zS (by kernel_rfl) rfl rfl) (fun _ => rfl) (by kernel_rfl) (by kernel_rfl) rfl
theorem ty_244 : RTOk Tryz.prog ⟨244, (.sl 45), 1, false, 24, (some [.slnil]), (some [.sl])⟩ := RTOk.q Tryz.underlying244 (by kernel_rfl) (by kernel_rfl) (by kernel_rfl) (zS (by kernel_rfl) rfl rfl) (fun _ => rfl) (by kernel_rfl) (by kernel_rfl) rfl
theorem ty_279 : RTOk Tryz.prog ⟨279, (.sl 38), 1, false, 24, (some [.slnil]), (some [.sl])⟩ := RTOk.q Tryz.underlying279 (by kernel_rfl) (by kernel_rfl) (by kernel_rfl) (zS (by kernel_rfl) rfl rfl) (fun _ => rfl) (by kernel_rfl) (by kernel_rfl) rfl
theorem ty_285 : RTOk Tryz.prog ⟨285, (.map 9 38), 1, false, 8, (some [.mapnil]), (some [.m])⟩ := RTOk.q Tryz.underlying285 (by kernel_rfl) (by kernel_rfl) (by kernel_rfl) (zS (by kernel_rfl) rfl rfl) (fun _ => rfl) (by kernel_rfl) (by kernel_rfl) rfl
theorem ty_303 : RTOk Tryz.prog ⟨303, (.st [(0, 3), (1, 4), (2, 9), (3, 3)]), 4, true, 40, (some [(.int .i64 0), (.bool false), (.str ⟨0, 0⟩), (.int .i64 0)]), (some [.i, .b, .s, .i])⟩ := RTOk.q ⟨_, Tryz.underlying303, by kernel_rfl, by kernel_rfl⟩ (by kernel_rfl) (by kernel_rfl) (by kernel_rfl) (zA (by kernel_rfl) rfl rfl) (fun h => by simp at h) (by kernel_rfl) (by kernel_rfl) rfl
theorem ty_311 : RTOk Tryz.prog ⟨311, (.sl 3), 1, false, 24, (some [.slnil]), (some [.sl])⟩ := RTOk.q Tryz.underlying311 (by kernel_rfl) (by kernel_rfl) (by kernel_rfl) (zS (by kernel_rfl) rfl rfl) (fun _ => rfl) (by kernel_rfl) (by kernel_rfl) rfl
theorem ty_325 : RTOk Tryz.prog ⟨325, (.ptr 5), 1, false, 8, (some [.nilp]), (some [.p])⟩ := RTOk.q Tryz.underlying325 (by kernel_rfl) (by kernel_rfl) (by kernel_rfl) (zS (by kernel_rfl) rfl rfl) (fun _ => rfl) (by kernel_rfl) (by kernel_rfl) rfl
theorem ty_333 : RTOk Tryz.prog ⟨333, (.sl 4), 1, false, 24, (some [.slnil]), (some [.sl])⟩ := RTOk.q Tryz.underlying333 (by kernel_rfl) (by kernel_rfl) (by kernel_rfl) (zS (by kernel_rfl) rfl rfl) (fun _ => rfl) (by kernel_rfl) (by kernel_rfl) rfl
theorem ty_341 : RTOk Tryz.prog ⟨341, (.sl 47), 1, false, 24, (some [.slnil]), (some [.sl])⟩ := RTOk.q Tryz.underlying341 (by kernel_rfl) (by kernel_rfl) (by kernel_rfl) (zS (by kernel_rfl) rfl rfl) (fun _ => rfl) (by kernel_rfl) (by kernel_rfl) rfl
theorem ty_343 : RTOk Tryz.prog ⟨343, (.sl 48), 1, false, 24, (some [.slnil]), (some [.sl])⟩ := RTOk.q Tryz.underlying343 (by kernel_rfl) (by kernel_rfl) (by kernel_rfl) (zS (by kernel_rfl) rfl rfl) (fun _ => rfl) (by kernel_rfl) (by kernel_rfl) rfl
theorem ty_362 : RTOk Tryz.prog ⟨362, (.int .u64), 1, false, 8, (some [(.int .u64 0)]), (some [.i])⟩ := RTOk.q Tryz.underlying362 (by kernel_rfl) (by kernel_rfl) (by kernel_rfl) (zS (by kernel_rfl) rfl rfl) (fun _ => rfl) (by kernel_rfl) (by kernel_rfl) rfl
theorem ty_376 : RTOk Tryz.prog ⟨376, (.arr 256 4), 256, true, 256, (some [(.bool false), (.bool false), (.bool false), (.bool false), (.bool false), (.bool false), (.bool false), (.bool false), (.bool false), (.bool false), (.bool false), (.bool false), (.bool false), (.bool false), (.bool false), (.bool false), (.bool false), (.bool false), (.bool false), (.bool false), (.bool false), (.bool false), (.bool false), (.bool false), (.bool false), (.bool false), (.bool false), (.bool false), (.bool false), (.bool false), (.bool false), (.bool false), (.bool false), (.bool false), (.bool false), (.bool false), (.bool false), (.bool false), (.bool false), (.bool false), (.bool false), (.bool false), (.bool false), (.bool false), (.bool false), (.bool false), (.bool false), (.bool false), (.bool false), (.bool false), (.bool false), (.bool false), (.bool false), (.bool false), (.bool false), (.bool false), (.bool false), (.bool false), (.bool false), (.bool false), (.bool false), (.bool false), (.bool false), (.bool false), (.bool false), (.bool false), (.bool false), (.bool false), (.bool false), (.bool false), (.bool false), (.bool false), (.bool false), (.bool false), (.bool false), (.bool false), (.bool false), (.bool false), (.bool false), (.bool false), (.bool false), (.bool false), (.bool false), (.bool false), (.bool false), (.bool false), (.bool false), (.bool false), (.bool false), (.bool false), (.bool false), (.bool false), (.bool false), (.bool false), (.bool false), (.bool false), (.bool false), (.bool false), (.bool false), (.bool false), (.bool false), (.bool false), (.bool false), (.bool false), (.bool false), (.bool false), (.bool false), (.bool false), (.bool false), (.bool false), (.bool false), (.bool false), (.bool false), (.bool false), (.bool false), (.bool false), (.bool false), (.bool false), (.bool false), (.bool false), (.bool false), (.bool false), (.bool false), (.bool false), (.bool false), (.bool false), (.bool false), (.bool false), (.bool false), (.bool false), (.bool false), (.bool false), (.bool false), (.bool false), (.bool false), (.bool false), (.bool false), (.bool false), (.bool false), (.bool false), (.bool false), (.bool false), (.bool false), (.bool false), (.bool false), (.bool false), (.bool false), (.bool false), (.bool false), (.bool false), (.bool false), (.bool false), (.bool false), (.bool false), (.bool false), (.bool false), (.bool false), (.bool false), (.bool false), (.bool false), (.bool false), (.bool false), (.bool false), (.bool false), (.bool false), (.bool false), (.bool false), (.bool false), (.bool false), (.bool false), (.bool false), (.bool false), (.bool false), (.bool false), (.bool false), (.bool false), (.bool false), (.bool false), (.bool false), (.bool false), (.bool false), (.bool false), (.bool false), (.bool false), (.bool false), (.bool false), (.bool false), (.bool false), (.bool false), (.bool false), (.bool false), (.bool false), (.bool false), (.bool false), (.bool false), (.bool false), (.bool false), (.bool false), (.bool false), (.bool false), (.bool false), (.bool false), (.bool false), (.bool false), (.bool false), (.bool false), (.bool false), (.bool false), (.bool false), (.bool false), (.bool false), (.bool false), (.bool false), (.bool false), (.bool false), (.bool false), (.bool false), (.bool false), (.bool false), (.bool false), (.bool false), (.bool false), (.bool false), (.bool false), (.bool false), (.bool false), (.bool false), (.bool false), (.bool false), (.bool false), (.bool false), (.bool false), (.bool false), (.bool false), (.bool false), (.bool false), (.bool false), (.bool false), (.bool false), (.bool false), (.bool false), (.bool false), (.bool false), (.bool false), (.bool false), (.bool false), (.bool false), (.bool false), (.bool false), (.bool false), (.bool false), (.bool false), (.bool false), (.bool false), (.bool false), (.bool false)]), none⟩ := RTOk.n Tryz.underlying376 (by kernel_rfl) (by kernel_rfl) (by kernel_rfl) (zA (by kernel_rfl) rfl rfl) (fun h => by simp at h)
theorem ty_391 : RTOk Tryz.prog ⟨391, .uptr, 1, false, 8, (some [.nilp]), none⟩ := RTOk.n Tryz.underlying391 (by kernel_rfl) (by kernel_rfl) (by kernel_rfl) (zS (by kernel_rfl) rfl rfl) (fun _ => rfl)
theorem ty_393 : RTOk Tryz.prog ⟨393, (.arr 9 9), 9, true, 144, (some [(.str ⟨0, 0⟩), (.str ⟨0, 0⟩), (.str ⟨0, 0⟩), (.str ⟨0, 0⟩), (.str ⟨0, 0⟩), (.str ⟨0, 0⟩), (.str ⟨0, 0⟩), (.str ⟨0, 0⟩), (.str ⟨0, 0⟩)]), none⟩ := RTOk.n Tryz.underlying393 (by kernel_rfl) (by kernel_rfl) (by kernel_rfl) (zA (by kernel_rfl) rfl rfl) (fun h => by simp at h)
theorem ty_400 : RTOk Tryz.prog ⟨400, (.int .i64), 1, false, 8, (some [(.int .i64 0)]), (some [.i])⟩ := RTOk.q Tryz.underlying400 (by kernel_rfl) (by kernel_rfl) (by kernel_rfl) (zS (by kernel_rfl) rfl rfl) (fun _ => rfl) (by kernel_rfl) (by kernel_rfl) rfl
theorem ty_407 : RTOk Tryz.prog ⟨407, (.int .u32), 1, false, 4, (some [(.int .u32 0)]), (some [.i])⟩ := RTOk.q Tryz.underlying407 (by kernel_rfl) (by kernel_rfl) (by kernel_rfl) (zS (by kernel_rfl) rfl rfl) (fun _ => rfl) (by kernel_rfl) (by kernel_rfl) rfl
theorem ty_409 : RTOk Tryz.prog ⟨409, (.int .u64), 1, false, 8, (some [(.int .u64 0)]), (some [.i])⟩ := RTOk.q Tryz.underlying409 (by kernel_rfl) (by kernel_rfl) (by kernel_rfl) (zS (by kernel_rfl) rfl rfl) (fun _ => rfl) (by kernel_rfl) (by kernel_rfl) rfl
theorem ty_446 : RTOk Tryz.prog ⟨446, (.arr 7 9), 7, true, 112, (some [(.str ⟨0, 0⟩), (.str ⟨0, 0⟩), (.str ⟨0, 0⟩), (.str ⟨0, 0⟩), (.str ⟨0, 0⟩), (.str ⟨0, 0⟩), (.str ⟨0, 0⟩)]), none⟩ := RTOk.n Tryz.underlying446 (by kernel_rfl) (by kernel_rfl) (by kernel_rfl) (zA (by kernel_rfl) rfl rfl) (fun h => by simp at h)
theorem ty_447 : RTOk Tryz.prog ⟨447, (.arr 256 5), 256, true, 256, (some [(.int .u8 0), (.int .u8 0), (.int .u8 0), (.int .u8 0), (.int .u8 0), (.int .u8 0), (.int .u8 0), (.int .u8 0), (.int .u8 0), (.int .u8 0), (.int .u8 0), (.int .u8 0), (.int .u8 0), (.int .u8 0), (.int .u8 0), (.int .u8 0), (.int .u8 0), (.int .u8 0), (.int .u8 0), (.int .u8 0), (.int .u8 0), (.int .u8 0), (.int .u8 0), (.int .u8 0), (.int .u8 0), (.int .u8 0), (.int .u8 0), (.int .u8 0), (.int .u8 0), (.int .u8 0), (.int .u8 0), (.int .u8 0), (.int .u8 0), (.int .u8 0), (.int .u8 0), (.int .u8 0), (.int .u8 0), (.int .u8 0), (.int .u8 0), (.int .u8 0), (.int .u8 0), (.int .u8 0), (.int .u8 0), (.int .u8 0), (.int .u8 0), (.int .u8 0), (.int .u8 0), (.int .u8 0), (.int .u8 0), (.int .u8 0), (.int .u8 0), (.int .u8 0), (.int .u8 0), (.int .u8 0), (.int .u8 0), (.int .u8 0), (.int .u8 0), (.int .u8 0), (.int .u8 0), (.int .u8 0), (.int .u8 0), (.int .u8 0), (.int .u8 0), (.int .u8 0), (.int .u8 0), (.int .u8 0), (.int .u8 0), (.int .u8 0), (.int .u8 0), (.int .u8 0), (.int .u8 0), (.int .u8 0), (.int .u8 0), (.int .u8 0), (.int .u8 0), (.int .u8 0), (.int .u8 0), (.int .u8 0), (.int .u8 0), (.int .u8 0), (.int .u8 0), (.int .u8 0), (.int .u8 0), (.int .u8 0), (.int .u8 0), (.int .u8 0), (.int .u8 0), (.int .u8 0), (.int .u8 0), (.int .u8 0), (.int .u8 0), (.int .u8 0), (.int .u8 0), (.int .u8 0), (.int .u8 0), (.int .u8 0), (.int .u8 0), (.int .u8 0), (.int .u8 0), (.int .u8 0), (.int .u8 0), (.int .u8 0), (.int .u8 0), (.int .u8 0), (.int .u8 0), (.int .u8 0), (.int .u8 0), (.int .u8 0), (.int .u8 0), (.int .u8 0), (.int .u8 0), (.int .u8 0), (.int .u8 0), (.int .u8 0), (.int .u8 0), (.int .u8 0), (.int .u8 0), (.int .u8 0), (.int .u8 0), (.int .u8 0), (.int .u8 0), (.int .u8 0), (.int .u8 0), (.int .u8 0), (.int .u8 0), (.int .u8 0), (.int .u8 0), (.int .u8 0), (.int .u8 0), (.int .u8 0), (.int .u8 0), (.int .u8 0), (.int .u8 0), (.int .u8 0), (.int .u8 0), (.int .u8 0), (.int .u8 0), (.int .u8 0), (.int .u8 0), (.int .u8 0), (.int .u8 0), (.int .u8 0), (.int .u8 0), (.int .u8 0), (.int .u8 0), (.int .u8 0), (.int .u8 0), (.int .u8 0), (.int .u8 0), (.int .u8 0), (.int .u8 0), (.int .u8 0), (.int .u8 0), (.int .u8 0), (.int .u8 0), (.int .u8 0), (.int .u8 0), (.int .u8 0), (.int .u8 0), (.int .u8 0), (.int .u8 0), (.int .u8 0), (.int .u8 0), (.int .u8 0), (.int .u8 0), (.int .u8 0), (.int .u8 0), (.int .u8 0), (.int .u8 0), (.int .u8 0), (.int .u8 0), (.int .u8 0), (.int .u8 0), (.int .u8 0), (.int .u8 0), (.int .u8 0), (.int .u8 0), (.int .u8 0), (.int .u8 0), (.int .u8 0), (.int .u8 0), (.int .u8 0), (.int .u8 0), (.int .u8 0), (.int .u8 0), (.int .u8 0), (.int .u8 0), (.int .u8 0), (.int .u8 0), (.int .u8 0), (.int .u8 0), (.int .u8 0), (.int .u8 0), (.int .u8 0), (.int .u8 0), (.int .u8 0), (.int .u8 0), (.int .u8 0), (.int .u8 0), (.int .u8 0), (.int .u8 0), (.int .u8 0), (.int .u8 0), (.int .u8 0), (.int .u8 0), (.int .u8 0), (.int .u8 0), (.int .u8 0), (.int .u8 0), (.int .u8 0), (.int .u8 0), (.int .u8 0), (.int .u8 0), (.int .u8 0), (.int .u8 0), (.int .u8 0), (.int .u8 0), (.int .u8 0), (.int .u8 0), (.int .u8 0), (.int .u8 0), (.int .u8 0), (.int .u8 0), (.int .u8 0), (.int .u8 0), (.int .u8 0), (.int .u8 0), (.int .u8 0), (.int .u8 0), (.int .u8 0), (.int .u8 0), (.int .u8 0), (.int .u8 0), (.int .u8 0), (.int .u8 0), (.int .u8 0), (.int .u8 0), (.int .u8 0), (.int .u8 0), (.int .u8 0), (.int .u8 0), (.int .u8 0), (.int .u8 0), (.int .u8 0), (.int .u8 0), (.int .u8 0), (.int .u8 0), (.int .u8 0), (.int .u8 0), (.int .u8 0), (.int .u8 0), (.int .u8 0), (.int .u8 0), (.int .u8 0), (.int .u8 0), (.int .u8 0)]), none⟩ := RTOk.n Tryz.underlying447 (by kernel_rfl) (by kernel_rfl) (by kernel_rfl) (zA (by kernel_rfl) rfl rfl) (fun h => by simp at h)
theorem ty_449 : RTOk Tryz.prog ⟨449, (.st [(0, 5), (1, 5)]), 2, true, 2, (some [(.int .u8 0), (.int .u8 0)]), (some [.i, .i])⟩ := RTOk.q ⟨_, Tryz.underlying449, by kernel_rfl, by kernel_rfl⟩ (by kernel_rfl) (by kernel_rfl) (by kernel_rfl) (zA (by kernel_rfl) rfl rfl) (fun h => by simp at h) (by kernel_rfl) (by kernel_rfl) rfl
theorem ty_450 : RTOk Tryz.prog ⟨450, (.arr 16 449), 32, true, 32, (some [(.int .u8 0), (.int .u8 0), (.int .u8 0), (.int .u8 0), (.int .u8 0), (.int .u8 0), (.int .u8 0), (.int .u8 0), (.int .u8 0), (.int .u8 0), (.int .u8 0), (.int .u8 0), (.int .u8 0), (.int .u8 0), (.int .u8 0), (.int .u8 0), (.int .u8 0), (.int .u8 0), (.int .u8 0), (.int .u8 0), (.int .u8 0), (.int .u8 0), (.int .u8 0), (.int .u8 0), (.int .u8 0), (.int .u8 0), (.int .u8 0), (.int .u8 0), (.int .u8 0), (.int .u8 0), (.int .u8 0), (.int .u8 0)]), none⟩ := RTOk.n Tryz.underlying450 (by kernel_rfl) (by kernel_rfl) (by kernel_rfl) (zA (by kernel_rfl) rfl rfl) (fun h => by simp at h)
theorem ty_455 : RTOk Tryz.prog ⟨455, (.int .u64), 1, false, 8, (some [(.int .u64 0)]), (some [.i])⟩ := RTOk.q Tryz.underlying455 (by kernel_rfl) (by kernel_rfl) (by kernel_rfl) (zS (by kernel_rfl) rfl rfl) (fun _ => rfl) (by kernel_rfl) (by kernel_rfl) rfl
theorem ty_475 : RTOk Tryz.prog ⟨475, (.arr 24 5), 24, true, 24, (some [(.int .u8 0), (.int .u8 0), (.int .u8 0), (.int .u8 0), (.int .u8 0), (.int .u8 0), (.int .u8 0), (.int .u8 0), (.int .u8 0), (.int .u8 0), (.int .u8 0), (.int .u8 0), (.int .u8 0), (.int .u8 0), (.int .u8 0), (.int .u8 0), (.int .u8 0), (.int .u8 0), (.int .u8 0), (.int .u8 0), (.int .u8 0), (.int .u8 0), (.int .u8 0), (.int .u8 0)]), none⟩ := RTOk.n Tryz.underlying475 (by kernel_rfl) (by kernel_rfl) (by kernel_rfl) (zA (by kernel_rfl) rfl rfl) (fun h => by simp at h)
theorem ty_483 : RTOk Tryz.prog ⟨483, (.st [(0, 9), (1, 9), (2, 220)]), 3, true, 48, (some [(.str ⟨0, 0⟩), (.str ⟨0, 0⟩), .nili]), none⟩ := RTOk.n ⟨_, Tryz.underlying483, by kernel_rfl, by kernel_rfl⟩ (by kernel_rfl) (by kernel_rfl) (by kernel_rfl) (zA (by kernel_rfl) rfl rfl) (fun h => by simp at h)
theorem ty_497 : RTOk Tryz.prog ⟨497, (.arr 20 409), 20, true, 160, (some [(.int .u64 0), (.int .u64 0), (.int .u64 0), (.int .u64 0), (.int .u64 0), (.int .u64 0), (.int .u64 0), (.int .u64 0), (.int .u64 0), (.int .u64 0), (.int .u64 0), (.int .u64 0), (.int .u64 0), (.int .u64 0), (.int .u64 0), (.int .u64 0), (.int .u64 0), (.int .u64 0), (.int .u64 0), (.int .u64 0)]), none⟩ := RTOk.n Tryz.underlying497 (by kernel_rfl) (by kernel_rfl) (by kernel_rfl) (zA (by kernel_rfl) rfl rfl) (fun h => by simp at h)
theorem ty_498 : RTOk Tryz.prog ⟨498, (.arr 65 5), 65, true, 65, (some [(.int .u8 0), (.int .u8 0), (.int .u8 0), (.int .u8 0), (.int .u8 0), (.int .u8 0), (.int .u8 0), (.int .u8 0), (.int .u8 0), (.int .u8 0), (.int .u8 0), (.int .u8 0), (.int .u8 0), (.int .u8 0), (.int .u8 0), (.int .u8 0), (.int .u8 0), (.int .u8 0), (.int .u8 0), (.int .u8 0), (.int .u8 0), (.int .u8 0), (.int .u8 0), (.int .u8 0), (.int .u8 0), (.int .u8 0), (.int .u8 0), (.int .u8 0), (.int .u8 0), (.int .u8 0), (.int .u8 0), (.int .u8 0), (.int .u8 0), (.int .u8 0), (.int .u8 0), (.int .u8 0), (.int .u8 0), (.int .u8 0), (.int .u8 0), (.int .u8 0), (.int .u8 0), (.int .u8 0), (.int .u8 0), (.int .u8 0), (.int .u8 0), (.int .u8 0), (.int .u8 0), (.int .u8 0), (.int .u8 0), (.int .u8 0), (.int .u8 0), (.int .u8 0), (.int .u8 0), (.int .u8 0), (.int .u8 0), (.int .u8 0), (.int .u8 0), (.int .u8 0), (.int .u8 0), (.int .u8 0), (.int .u8 0), (.int .u8 0), (.int .u8 0), (.int .u8 0), (.int .u8 0)]), none⟩ := RTOk.n Tryz.underlying498 (by kernel_rfl) (by kernel_rfl) (by kernel_rfl) (zA (by kernel_rfl) rfl rfl) (fun h => by simp at h)
theorem ty_502 : RTOk Tryz.prog ⟨502, (.st [(0, 9)]), 1, true, 16, (some [(.str ⟨0, 0⟩)]), (some [.s])⟩ := RTOk.q ⟨_, Tryz.underlying502, by kernel_rfl, by kernel_rfl⟩ (by kernel_rfl) (by kernel_rfl) (by kernel_rfl) (zA (by kernel_rfl) rfl rfl) (fun h => by simp at h) (by kernel_rfl) (by kernel_rfl) rfl
theorem ty_506 : RTOk Tryz.prog ⟨506, (.sl 515), 1, false, 24, (some [.slnil]), (some [.sl])⟩ := RTOk.q Tryz.underlying506 (by kernel_rfl) (by kernel_rfl) (by kernel_rfl) (zS (by kernel_rfl) rfl rfl) (fun _ => rfl) (by kernel_rfl) (by kernel_rfl) rfl
theorem ty_507 : RTOk Tryz.prog ⟨507, (.ptr 515), 1, false, 8, (some [.nilp]), (some [.p])⟩ := RTOk.q Tryz.underlying507 (by kernel_rfl) (by kernel_rfl) (by kernel_rfl) (zS (by kernel_rfl) rfl rfl) (fun _ => rfl) (by kernel_rfl) (by kernel_rfl) rfl
theorem ty_510 : RTOk Tryz.prog ⟨510, (.arr 32 5), 32, true, 32, (some [(.int .u8 0), (.int .u8 0), (.int .u8 0), (.int .u8 0), (.int .u8 0), (.int .u8 0), (.int .u8 0), (.int .u8 0), (.int .u8 0), (.int .u8 0), (.int .u8 0), (.int .u8 0), (.int .u8 0), (.int .u8 0), (.int .u8 0), (.int .u8 0), (.int .u8 0), (.int .u8 0), (.int .u8 0), (.int .u8 0), (.int .u8 0), (.int .u8 0), (.int .u8 0), (.int .u8 0), (.int .u8 0), (.int .u8 0), (.int .u8 0), (.int .u8 0), (.int .u8 0), (.int .u8 0), (.int .u8 0), (.int .u8 0)]), none⟩ := RTOk.n Tryz.underlying510 (by kernel_rfl) (by kernel_rfl) (by kernel_rfl) (zA (by kernel_rfl) rfl rfl) (fun h => by simp at h)
theorem ty_511 : RTOk Tryz.prog ⟨511, (.arr 64 5), 64, true, 64, (some [(.int .u8 0), (.int .u8 0), (.int .u8 0), (.int .u8 0), (.int .u8 0), (.int .u8 0), (.int .u8 0), (.int .u8 0), (.int .u8 0), (.int .u8 0), (.int .u8 0), (.int .u8 0), (.int .u8 0), (.int .u8 0), (.int .u8 0), (.int .u8 0), (.int .u8 0), (.int .u8 0), (.int .u8 0), (.int .u8 0), (.int .u8 0), (.int .u8 0), (.int .u8 0), (.int .u8 0), (.int .u8 0), (.int .u8 0), (.int .u8 0), (.int .u8 0), (.int .u8 0), (.int .u8 0), (.int .u8 0), (.int .u8 0), (.int .u8 0), (.int .u8 0), (.int .u8 0), (.int .u8 0), (.int .u8 0), (.int .u8 0), (.int .u8 0), (.int .u8 0), (.int .u8 0), (.int .u8 0), (.int .u8 0), (.int .u8 0), (.int .u8 0), (.int .u8 0), (.int .u8 0), (.int .u8 0), (.int .u8 0), (.int .u8 0), (.int .u8 0), (.int .u8 0), (.int .u8 0), (.int .u8 0), (.int .u8 0), (.int .u8 0), (.int .u8 0), (.int .u8 0), (.int .u8 0), (.int .u8 0), (.int .u8 0), (.int .u8 0), (.int .u8 0), (.int .u8 0)]), none⟩ := RTOk.n Tryz.underlying511 (by kernel_rfl) (by kernel_rfl) (by kernel_rfl) (zA (by kernel_rfl) rfl rfl) (fun h => by simp at h)
theorem ty_513 : RTOk Tryz.prog ⟨513, (.arr 3 21), 3, true, 12, (some [(.int .i32 0), (.int .i32 0), (.int .i32 0)]), none⟩ := RTOk.n Tryz.underlying513 (by kernel_rfl) (by kernel_rfl) (by kernel_rfl) (zA (by kernel_rfl) rfl rfl) (fun h => by simp at h)
theorem ty_515 : RTOk Tryz.prog ⟨515, (.st [(0, 407), (1, 407), (2, 513)]), 5, true, 20, (some [(.int .u32 0), (.int .u32 0), (.int .i32 0), (.int .i32 0), (.int .i32 0)]), none⟩ := RTOk.n ⟨_, Tryz.underlying515, by kernel_rfl, by kernel_rfl⟩ (by kernel_rfl) (by kernel_rfl) (by kernel_rfl) (zA (by kernel_rfl) rfl rfl) (fun h => by simp at h)
def tyL : List RTI := [⟨2, (.int .i64), 1, false, 8, (some [(.int .i64 0)]), (some [.i])⟩,
  ⟨3, (.int .i64), 1, false, 8, (some [(.int .i64 0)]), (some [.i])⟩,
  ⟨4, .bool, 1, false, 1, (some [(.bool false)]), (some [.b])⟩,
  ⟨5, (.int .u8), 1, false, 1, (some [(.int .u8 0)]), (some [.i])⟩,
  ⟨9, .str, 1, false, 16, (some [(.str ⟨0, 0⟩)]), (some [.s])⟩,
  ⟨21, (.int .i32), 1, false, 4, (some [(.int .i32 0)]), (some [.i])⟩,
  ⟨23, (.st [(0, 3), (1, 9)]), 2, true, 24, (some [(.int .i64 0), (.str ⟨0, 0⟩)]), (some [.i, .s])⟩,
  ⟨24, (.int .i64), 1, false, 8, (some [(.int .i64 0)]), (some [.i])⟩,
  ⟨25, (.st [(0, 3), (1, 9), (2, 23), (4, 3), (5, 24)]), 6, true, 64, (some [(.int .i64 0), (.str ⟨0, 0⟩), (.int .i64 0), (.str ⟨0, 0⟩), (.int .i64 0), (.int .i64 0)]), (some [.i, .s, .i, .s, .i, .i])⟩,
  ⟨26, (.sl 25), 1, false, 24, (some [.slnil]), (some [.sl])⟩,
  ⟨27, (.ptr 52), 1, false, 8, (some [.nilp]), (some [.p])⟩,
  ⟨37, (.st [(0, 3)]), 1, true, 8, (some [(.int .i64 0)]), (some [.i])⟩,
  ⟨38, (.sl 9), 1, false, 24, (some [.slnil]), (some [.sl])⟩,
  ⟨39, (.sl 114), 1, false, 24, (some [.slnil]), (some [.sl])⟩,
  ⟨40, (.sl 116), 1, false, 24, (some [.slnil]), (some [.sl])⟩,
  ⟨41, (.sl 118), 1, false, 24, (some [.slnil]), (some [.sl])⟩,
  ⟨42, (.sl 121), 1, false, 24, (some [.slnil]), (some [.sl])⟩,
  ⟨44, (.st [(0, 38), (1, 38), (2, 39), (3, 39), (4, 40), (5, 41), (6, 41), (7, 42)]), 8, true, 192, (some [.slnil, .slnil, .slnil, .slnil, .slnil, .slnil, .slnil, .slnil]), (some [.sl, .sl, .sl, .sl, .sl, .sl, .sl, .sl])⟩,
  ⟨45, (.sl 93), 1, false, 24, (some [.slnil]), (some [.sl])⟩,
  ⟨46, (.sl 138), 1, false, 24, (some [.slnil]), (some [.sl])⟩,
  ⟨47, (.sl 130), 1, false, 24, (some [.slnil]), (some [.sl])⟩,
  ⟨48, (.sl 134), 1, false, 24, (some [.slnil]), (some [.sl])⟩,
  ⟨50, (.st [(0, 38), (1, 38), (2, 38), (3, 46), (4, 47), (5, 48)]), 6, true, 144, (some [.slnil, .slnil, .slnil, .slnil, .slnil, .slnil]), (some [.sl, .sl, .sl, .sl, .sl, .sl])⟩,
  ⟨52, (.st [(0, 37), (1, 44), (9, 45), (10, 50)]), 16, true, 368, (some [(.int .i64 0), .slnil, .slnil, .slnil, .slnil, .slnil, .slnil, .slnil, .slnil, .slnil, .slnil, .slnil, .slnil, .slnil, .slnil, .slnil]), (some [.i, .sl, .sl, .sl, .sl, .sl, .sl, .sl, .sl, .sl, .sl, .sl, .sl, .sl, .sl, .sl])⟩,
  ⟨53, (.sl 85), 1, false, 24, (some [.slnil]), (some [.sl])⟩,
  ⟨69, (.st [(0, 9), (1, 9)]), 2, true, 32, (some [(.str ⟨0, 0⟩), (.str ⟨0, 0⟩)]), (some [.s, .s])⟩,
  ⟨71, (.st [(0, 9), (1, 9), (2, 9)]), 3, true, 48, (some [(.str ⟨0, 0⟩), (.str ⟨0, 0⟩), (.str ⟨0, 0⟩)]), (some [.s, .s, .s])⟩,
  ⟨75, (.st [(0, 4), (1, 9), (2, 9), (3, 9)]), 4, true, 56, (some [(.bool false), (.str ⟨0, 0⟩), (.str ⟨0, 0⟩), (.str ⟨0, 0⟩)]), (some [.b, .s, .s, .s])⟩,
  ⟨78, (.sl 83), 1, false, 24, (some [.slnil]), (some [.sl])⟩,
  ⟨81, (.sl 155), 1, false, 24, (some [.slnil]), (some [.sl])⟩,
  ⟨83, (.st [(0, 3), (1, 81)]), 2, true, 32, (some [(.int .i64 0), .slnil]), (some [.i, .sl])⟩,
  ⟨85, (.st [(0, 3), (1, 9), (2, 9), (3, 9), (4, 3), (5, 38), (6, 3)]), 7, true, 96, (some [(.int .i64 0), (.str ⟨0, 0⟩), (.str ⟨0, 0⟩), (.str ⟨0, 0⟩), (.int .i64 0), .slnil, (.int .i64 0)]), (some [.i, .s, .s, .s, .i, .sl, .i])⟩,
  ⟨91, (.sl 303), 1, false, 24, (some [.slnil]), (some [.sl])⟩,
  ⟨93, (.st [(0, 3), (1, 9), (2, 38), (3, 9), (4, 9), (5, 91), (6, 3)]), 7, true, 112, (some [(.int .i64 0), (.str ⟨0, 0⟩), .slnil, (.str ⟨0, 0⟩), (.str ⟨0, 0⟩), .slnil, (.int .i64 0)]), (some [.i, .s, .sl, .s, .s, .sl, .i])⟩,
  ⟨97, (.sl 99), 1, false, 24, (some [.slnil]), (some [.sl])⟩,
  ⟨99, (.st [(0, 3), (1, 9), (2, 38), (3, 97)]), 4, true, 72, (some [(.int .i64 0), (.str ⟨0, 0⟩), .slnil, .slnil]), (some [.i, .s, .sl, .sl])⟩,
  ⟨111, .fn, 1, false, 8, (some [.nilf]), (some [.f])⟩,
  ⟨114, (.st [(0, 9), (1, 9)]), 2, true, 32, (some [(.str ⟨0, 0⟩), (.str ⟨0, 0⟩)]), (some [.s, .s])⟩,
  ⟨116, (.st [(0, 9), (1, 9), (2, 9)]), 3, true, 48, (some [(.str ⟨0, 0⟩), (.str ⟨0, 0⟩), (.str ⟨0, 0⟩)]), (some [.s, .s, .s])⟩,
  ⟨118, (.st [(0, 9), (1, 3), (2, 38)]), 3, true, 48, (some [(.str ⟨0, 0⟩), (.int .i64 0), .slnil]), (some [.s, .i, .sl])⟩,
  ⟨121, (.st [(0, 9), (1, 9), (2, 38)]), 3, true, 56, (some [(.str ⟨0, 0⟩), (.str ⟨0, 0⟩), .slnil]), (some [.s, .s, .sl])⟩,
  ⟨123, .fn, 1, false, 8, (some [.nilf]), (some [.f])⟩,
  ⟨126, .fn, 1, false, 8, (some [.nilf]), (some [.f])⟩,
  ⟨130, (.st [(0, 9), (1, 4), (2, 38), (3, 38), (4, 38), (5, 38)]), 6, true, 120, (some [(.str ⟨0, 0⟩), (.bool false), .slnil, .slnil, .slnil, .slnil]), (some [.s, .b, .sl, .sl, .sl, .sl])⟩,
  ⟨131, .fn, 1, false, 8, (some [.nilf]), (some [.f])⟩,
  ⟨134, (.st [(0, 9), (1, 38), (2, 38)]), 3, true, 64, (some [(.str ⟨0, 0⟩), .slnil, .slnil]), (some [.s, .sl, .sl])⟩,
  ⟨135, .fn, 1, false, 8, (some [.nilf]), (some [.f])⟩,
  ⟨138, (.st [(0, 9), (1, 38)]), 2, true, 40, (some [(.str ⟨0, 0⟩), .slnil]), (some [.s, .sl])⟩,
  ⟨139, .fn, 1, false, 8, (some [.nilf]), (some [.f])⟩,
  ⟨155, (.st [(0, 9), (1, 3)]), 2, true, 24, (some [(.str ⟨0, 0⟩), (.int .i64 0)]), (some [.s, .i])⟩,
  ⟨157, (.st [(0, 3), (1, 3), (2, 4), (3, 3), (4, 3)]), 5, true, 40, (some [(.int .i64 0), (.int .i64 0), (.bool false), (.int .i64 0), (.int .i64 0)]), (some [.i, .i, .b, .i, .i])⟩,
  ⟨162, (.map 9 3), 1, false, 8, (some [.mapnil]), (some [.m])⟩,
  ⟨164, (.st [(0, 162), (1, 162)]), 2, true, 16, (some [.mapnil, .mapnil]), (some [.m, .m])⟩,
  ⟨179, (.st [(0, 162), (1, 162), (2, 162)]), 3, true, 24, (some [.mapnil, .mapnil, .mapnil]), (some [.m, .m, .m])⟩,
  ⟨191, (.ptr 193), 1, false, 8, (some [.nilp]), (some [.p])⟩,
  ⟨193, (.st [(0, 9), (1, 3), (2, 3), (3, 24), (4, 3)]), 5, true, 48, (some [(.str ⟨0, 0⟩), (.int .i64 0), (.int .i64 0), (.int .i64 0), (.int .i64 0)]), (some [.s, .i, .i, .i, .i])⟩,
  ⟨198, (.st [(0, 4)]), 1, true, 1, (some [(.bool false)]), (some [.b])⟩,
  ⟨215, (.ptr 218), 1, false, 8, (some [.nilp]), (some [.p])⟩,
  ⟨216, (.sl 5), 1, false, 24, (some [.slnil]), (some [.sl])⟩,
  ⟨218, (.st [(0, 215), (1, 216)]), 2, true, 32, (some [.nilp, .slnil]), (some [.p, .sl])⟩,
  ⟨220, .iface, 1, false, 16, (some [.nili]), none⟩,
  ⟨236, (.sl 53), 1, false, 24, (some [.slnil]), (some [.sl])⟩,
  ⟨244, (.sl 45), 1, false, 24, (some [.slnil]), (some [.sl])⟩,
  ⟨279, (.sl 38), 1, false, 24, (some [.slnil]), (some [.sl])⟩,
  ⟨285, (.map 9 38), 1, false, 8, (some [.mapnil]), (some [.m])⟩,
  ⟨303, (.st [(0, 3), (1, 4), (2, 9), (3, 3)]), 4, true, 40, (some [(.int .i64 0), (.bool false), (.str ⟨0, 0⟩), (.int .i64 0)]), (some [.i, .b, .s, .i])⟩,
  ⟨311, (.sl 3), 1, false, 24, (some [.slnil]), (some [.sl])⟩,
  ⟨325, (.ptr 5), 1, false, 8, (some [.nilp]), (some [.p])⟩,
  ⟨333, (.sl 4), 1, false, 24, (some [.slnil]), (some [.sl])⟩,
  ⟨341, (.sl 47), 1, false, 24, (some [.slnil]), (some [.sl])⟩,
  ⟨343, (.sl 48), 1, false, 24, (some [.slnil]), (some [.sl])⟩,
  ⟨362, (.int .u64), 1, false, 8, (some [(.int .u64 0)]), (some [.i])⟩,
  ⟨376, (.arr 256 4), 256, true, 256, (some [(.bool false), (.bool false), (.bool false), (.bool false), (.bool false), (.bool false), (.bool false), (.bool false), (.bool false), (.bool false), (.bool false), (.bool false), (.bool false), (.bool false), (.bool false), (.bool false), (.bool false), (.bool false), (.bool false), (.bool false), (.bool false), (.bool false), (.bool false), (.bool false), (.bool false), (.bool false), (.bool false), (.bool false), (.bool false), (.bool false), (.bool false), (.bool false), (.bool false), (.bool false), (.bool false), (.bool false), (.bool false), (.bool false), (.bool false), (.bool false), (.bool false), (.bool false), (.bool false), (.bool false), (.bool false), (.bool false), (.bool false), (.bool false), (.bool false), (.bool false), (.bool false), (.bool false), (.bool false), (.bool false), (.bool false), (.bool false), (.bool false), (.bool false), (.bool false), (.bool false), (.bool false), (.bool false), (.bool false), (.bool false), (.bool false), (.bool false), (.bool false), (.bool false), (.bool false), (.bool false), (.bool false), (.bool false), (.bool false), (.bool false), (.bool false), (.bool false), (.bool false), (.bool false), (.bool false), (.bool false), (.bool false), (.bool false), (.bool false), (.bool false), (.bool false), (.bool false), (.bool false), (.bool false), (.bool false), (.bool false), (.bool false), (.bool false), (.bool false), (.bool false), (.bool false), (.bool false), (.bool false), (.bool false), (.bool false), (.bool false), (.bool false), (.bool false), (.bool false), (.bool false), (.bool false), (.bool false), (.bool false), (.bool false), (.bool false), (.bool false), (.bool false), (.bool false), (.bool false), (.bool false), (.bool false), (.bool false), (.bool false), (.bool false), (.bool false), (.bool false), (.bool false), (.bool false), (.bool false), (.bool false), (.bool false), (.bool false), (.bool false), (.bool false), (.bool false), (.bool false), (.bool false), (.bool false), (.bool false), (.bool false), (.bool false), (.bool false), (.bool false), (.bool false), (.bool false), (.bool false), (.bool false), (.bool false), (.bool false), (.bool false), (.bool false), (.bool false), (.bool false), (.bool false), (.bool false), (.bool false), (.bool false), (.bool false), (.bool false), (.bool false), (.bool false), (.bool false), (.bool false), (.bool false), (.bool false), (.bool false), (.bool false), (.bool false), (.bool false), (.bool false), (.bool false), (.bool false), (.bool false), (.bool false), (.bool false), (.bool false), (.bool false), (.bool false), (.bool false), (.bool false), (.bool false), (.bool false), (.bool false), (.bool false), (.bool false), (.bool false), (.bool false), (.bool false), (.bool false), (.bool false), (.bool false), (.bool false), (.bool false), (.bool false), (.bool false), (.bool false), (.bool false), (.bool false), (.bool false), (.bool false), (.bool false), (.bool false), (.bool false), (.bool false), (.bool false), (.bool false), (.bool false), (.bool false), (.bool false), (.bool false), (.bool false), (.bool false), (.bool false), (.bool false), (.bool false), (.bool false), (.bool false), (.bool false), (.bool false), (.bool false), (.bool false), (.bool false), (.bool false), (.bool false), (.bool false), (.bool false), (.bool false), (.bool false), (.bool false), (.bool false), (.bool false), (.bool false), (.bool false), (.bool false), (.bool false), (.bool false), (.bool false), (.bool false), (.bool false), (.bool false), (.bool false), (.bool false), (.bool false), (.bool false), (.bool false), (.bool false), (.bool false), (.bool false), (.bool false), (.bool false), (.bool false), (.bool false), (.bool false), (.bool false), (.bool false), (.bool false), (.bool false), (.bool false), (.bool false), (.bool false), (.bool false), (.bool false)]), none⟩,
  ⟨391, .uptr, 1, false, 8, (some [.nilp]), none⟩,
  ⟨393, (.arr 9 9), 9, true, 144, (some [(.str ⟨0, 0⟩), (.str ⟨0, 0⟩), (.str ⟨0, 0⟩), (.str ⟨0, 0⟩), (.str ⟨0, 0⟩), (.str ⟨0, 0⟩), (.str ⟨0, 0⟩), (.str ⟨0, 0⟩), (.str ⟨0, 0⟩)]), none⟩,
  ⟨400, (.int .i64), 1, false, 8, (some [(.int .i64 0)]), (some [.i])⟩,
  ⟨407, (.int .u32), 1, false, 4, (some [(.int .u32 0)]), (some [.i])⟩,
  ⟨409, (.int .u64), 1, false, 8, (some [(.int .u64 0)]), (some [.i])⟩,
  ⟨446, (.arr 7 9), 7, true, 112, (some [(.str ⟨0, 0⟩), (.str ⟨0, 0⟩), (.str ⟨0, 0⟩), (.str ⟨0, 0⟩), (.str ⟨0, 0⟩), (.str ⟨0, 0⟩), (.str ⟨0, 0⟩)]), none⟩,
  ⟨447, (.arr 256 5), 256, true, 256, (some [(.int .u8 0), (.int .u8 0), (.int .u8 0), (.int .u8 0), (.int .u8 0), (.int .u8 0), (.int .u8 0), (.int .u8 0), (.int .u8 0), (.int .u8 0), (.int .u8 0), (.int .u8 0), (.int .u8 0), (.int .u8 0), (.int .u8 0), (.int .u8 0), (.int .u8 0), (.int .u8 0), (.int .u8 0), (.int .u8 0), (.int .u8 0), (.int .u8 0), (.int .u8 0), (.int .u8 0), (.int .u8 0), (.int .u8 0), (.int .u8 0), (.int .u8 0), (.int .u8 0), (.int .u8 0), (.int .u8 0), (.int .u8 0), (.int .u8 0), (.int .u8 0), (.int .u8 0), (.int .u8 0), (.int .u8 0), (.int .u8 0), (.int .u8 0), (.int .u8 0), (.int .u8 0), (.int .u8 0), (.int .u8 0), (.int .u8 0), (.int .u8 0), (.int .u8 0), (.int .u8 0), (.int .u8 0), (.int .u8 0), (.int .u8 0), (.int .u8 0), (.int .u8 0), (.int .u8 0), (.int .u8 0), (.int .u8 0), (.int .u8 0), (.int .u8 0), (.int .u8 0), (.int .u8 0), (.int .u8 0), (.int .u8 0), (.int .u8 0), (.int .u8 0), (.int .u8 0), (.int .u8 0), (.int .u8 0), (.int .u8 0), (.int .u8 0), (.int .u8 0), (.int .u8 0), (.int .u8 0), (.int .u8 0), (.int .u8 0), (.int .u8 0), (.int .u8 0), (.int .u8 0), (.int .u8 0), (.int .u8 0), (.int .u8 0), (.int .u8 0), (.int .u8 0), (.int .u8 0), (.int .u8 0), (.int .u8 0), (.int .u8 0), (.int .u8 0), (.int .u8 0), (.int .u8 0), (.int .u8 0), (.int .u8 0), (.int .u8 0), (.int .u8 0), (.int .u8 0), (.int .u8 0), (.int .u8 0), (.int .u8 0), (.int .u8 0), (.int .u8 0), (.int .u8 0), (.int .u8 0), (.int .u8 0), (.int .u8 0), (.int .u8 0), (.int .u8 0), (.int .u8 0), (.int .u8 0), (.int .u8 0), (.int .u8 0), (.int .u8 0), (.int .u8 0), (.int .u8 0), (.int .u8 0), (.int .u8 0), (.int .u8 0), (.int .u8 0), (.int .u8 0), (.int .u8 0), (.int .u8 0), (.int .u8 0), (.int .u8 0), (.int .u8 0), (.int .u8 0), (.int .u8 0), (.int .u8 0), (.int .u8 0), (.int .u8 0), (.int .u8 0), (.int .u8 0), (.int .u8 0), (.int .u8 0), (.int .u8 0), (.int .u8 0), (.int .u8 0), (.int .u8 0), (.int .u8 0), (.int .u8 0), (.int .u8 0), (.int .u8 0), (.int .u8 0), (.int .u8 0), (.int .u8 0), (.int .u8 0), (.int .u8 0), (.int .u8 0), (.int .u8 0), (.int .u8 0), (.int .u8 0), (.int .u8 0), (.int .u8 0), (.int .u8 0), (.int .u8 0), (.int .u8 0), (.int .u8 0), (.int .u8 0), (.int .u8 0), (.int .u8 0), (.int .u8 0), (.int .u8 0), (.int .u8 0), (.int .u8 0), (.int .u8 0), (.int .u8 0), (.int .u8 0), (.int .u8 0), (.int .u8 0), (.int .u8 0), (.int .u8 0), (.int .u8 0), (.int .u8 0), (.int .u8 0), (.int .u8 0), (.int .u8 0), (.int .u8 0), (.int .u8 0), (.int .u8 0), (.int .u8 0), (.int .u8 0), (.int .u8 0), (.int .u8 0), (.int .u8 0), (.int .u8 0), (.int .u8 0), (.int .u8 0), (.int .u8 0), (.int .u8 0), (.int .u8 0), (.int .u8 0), (.int .u8 0), (.int .u8 0), (.int .u8 0), (.int .u8 0), (.int .u8 0), (.int .u8 0), (.int .u8 0), (.int .u8 0), (.int .u8 0), (.int .u8 0), (.int .u8 0), (.int .u8 0), (.int .u8 0), (.int .u8 0), (.int .u8 0), (.int .u8 0), (.int .u8 0), (.int .u8 0), (.int .u8 0), (.int .u8 0), (.int .u8 0), (.int .u8 0), (.int .u8 0), (.int .u8 0), (.int .u8 0), (.int .u8 0), (.int .u8 0), (.int .u8 0), (.int .u8 0), (.int .u8 0), (.int .u8 0), (.int .u8 0), (.int .u8 0), (.int .u8 0), (.int .u8 0), (.int .u8 0), (.int .u8 0), (.int .u8 0), (.int .u8 0), (.int .u8 0), (.int .u8 0), (.int .u8 0), (.int .u8 0), (.int .u8 0), (.int .u8 0), (.int .u8 0), (.int .u8 0), (.int .u8 0), (.int .u8 0), (.int .u8 0), (.int .u8 0), (.int .u8 0), (.int .u8 0), (.int .u8 0), (.int .u8 0), (.int .u8 0), (.int .u8 0), (.int .u8 0), (.int .u8 0), (.int .u8 0), (.int .u8 0), (.int .u8 0), (.int .u8 0), (.int .u8 0), (.int .u8 0), (.int .u8 0), (.int .u8 0), (.int .u8 0), (.int .u8 0)]), none⟩,
  ⟨449, (.st [(0, 5), (1, 5)]), 2, true, 2, (some [(.int .u8 0), (.int .u8 0)]), (some [.i, .i])⟩,
  ⟨450, (.arr 16 449), 32, true, 32, (some [(.int .u8 0), (.int .u8 0), (.int .u8 0), (.int .u8 0), (.int .u8 0), (.int .u8 0), (.int .u8 0), (.int .u8 0), (.int .u8 0), (.int .u8 0), (.int .u8 0), (.int .u8 0), (.int .u8 0), (.int .u8 0), (.int .u8 0), (.int .u8 0), (.int .u8 0), (.int .u8 0), (.int .u8 0), (.int .u8 0), (.int .u8 0), (.int .u8 0), (.int .u8 0), (.int .u8 0), (.int .u8 0), (.int .u8 0), (.int .u8 0), (.int .u8 0), (.int .u8 0), (.int .u8 0), (.int .u8 0), (.int .u8 0)]), none⟩,
  ⟨455, (.int .u64), 1, false, 8, (some [(.int .u64 0)]), (some [.i])⟩,
  ⟨475, (.arr 24 5), 24, true, 24, (some [(.int .u8 0), (.int .u8 0), (.int .u8 0), (.int .u8 0), (.int .u8 0), (.int .u8 0), (.int .u8 0), (.int .u8 0), (.int .u8 0), (.int .u8 0), (.int .u8 0), (.int .u8 0), (.int .u8 0), (.int .u8 0), (.int .u8 0), (.int .u8 0), (.int .u8 0), (.int .u8 0), (.int .u8 0), (.int .u8 0), (.int .u8 0), (.int .u8 0), (.int .u8 0), (.int .u8 0)]), none⟩,
  ⟨483, (.st [(0, 9), (1, 9), (2, 220)]), 3, true, 48, (some [(.str ⟨0, 0⟩), (.str ⟨0, 0⟩), .nili]), none⟩,
  ⟨497, (.arr 20 409), 20, true, 160, (some [(.int .u64 0), (.int .u64 0), (.int .u64 0), (.int .u64 0), (.int .u64 0), (.int .u64 0), (.int .u64 0), (.int .u64 0), (.int .u64 0), (.int .u64 0), (.int .u64 0), (.int .u64 0), (.int .u64 0), (.int .u64 0), (.int .u64 0), (.int .u64 0), (.int .u64 0), (.int .u64 0), (.int .u64 0), (.int .u64 0)]), none⟩,
  ⟨498, (.arr 65 5), 65, true, 65, (some [(.int .u8 0), (.int .u8 0), (.int .u8 0), (.int .u8 0), (.int .u8 0), (.int .u8 0), (.int .u8 0), (.int .u8 0), (.int .u8 0), (.int .u8 0), (.int .u8 0), (.int .u8 0), (.int .u8 0), (.int .u8 0), (.int .u8 0), (.int .u8 0), (.int .u8 0), (.int .u8 0), (.int .u8 0), (.int .u8 0), (.int .u8 0), (.int .u8 0), (.int .u8 0), (.int .u8 0), (.int .u8 0), (.int .u8 0), (.int .u8 0), (.int .u8 0), (.int .u8 0), (.int .u8 0), (.int .u8 0), (.int .u8 0), (.int .u8 0), (.int .u8 0), (.int .u8 0), (.int .u8 0), (.int .u8 0), (.int .u8 0), (.int .u8 0), (.int .u8 0), (.int .u8 0), (.int .u8 0), (.int .u8 0), (.int .u8 0), (.int .u8 0), (.int .u8 0), (.int .u8 0), (.int .u8 0), (.int .u8 0), (.int .u8 0), (.int .u8 0), (.int .u8 0), (.int .u8 0), (.int .u8 0), (.int .u8 0), (.int .u8 0), (.int .u8 0), (.int .u8 0), (.int .u8 0), (.int .u8 0), (.int .u8 0), (.int .u8 0), (.int .u8 0), (.int .u8 0), (.int .u8 0)]), none⟩,
  ⟨502, (.st [(0, 9)]), 1, true, 16, (some [(.str ⟨0, 0⟩)]), (some [.s])⟩,
  ⟨506, (.sl 515), 1, false, 24, (some [.slnil]), (some [.sl])⟩,
  ⟨507, (.ptr 515), 1, false, 8, (some [.nilp]), (some [.p])⟩,
  ⟨510, (.arr 32 5), 32, true, 32, (some [(.int .u8 0), (.int .u8 0), (.int .u8 0), (.int .u8 0), (.int .u8 0), (.int .u8 0), (.int .u8 0), (.int .u8 0), (.int .u8 0), (.int .u8 0), (.int .u8 0), (.int .u8 0), (.int .u8 0), (.int .u8 0), (.int .u8 0), (.int .u8 0), (.int .u8 0), (.int .u8 0), (.int .u8 0), (.int .u8 0), (.int .u8 0), (.int .u8 0), (.int .u8 0), (.int .u8 0), (.int .u8 0), (.int .u8 0), (.int .u8 0), (.int .u8 0), (.int .u8 0), (.int .u8 0), (.int .u8 0), (.int .u8 0)]), none⟩,
  ⟨511, (.arr 64 5), 64, true, 64, (some [(.int .u8 0), (.int .u8 0), (.int .u8 0), (.int .u8 0), (.int .u8 0), (.int .u8 0), (.int .u8 0), (.int .u8 0), (.int .u8 0), (.int .u8 0), (.int .u8 0), (.int .u8 0), (.int .u8 0), (.int .u8 0), (.int .u8 0), (.int .u8 0), (.int .u8 0), (.int .u8 0), (.int .u8 0), (.int .u8 0), (.int .u8 0), (.int .u8 0), (.int .u8 0), (.int .u8 0), (.int .u8 0), (.int .u8 0), (.int .u8 0), (.int .u8 0), (.int .u8 0), (.int .u8 0), (.int .u8 0), (.int .u8 0), (.int .u8 0), (.int .u8 0), (.int .u8 0), (.int .u8 0), (.int .u8 0), (.int .u8 0), (.int .u8 0), (.int .u8 0), (.int .u8 0), (.int .u8 0), (.int .u8 0), (.int .u8 0), (.int .u8 0), (.int .u8 0), (.int .u8 0), (.int .u8 0), (.int .u8 0), (.int .u8 0), (.int .u8 0), (.int .u8 0), (.int .u8 0), (.int .u8 0), (.int .u8 0), (.int .u8 0), (.int .u8 0), (.int .u8 0), (.int .u8 0), (.int .u8 0), (.int .u8 0), (.int .u8 0), (.int .u8 0), (.int .u8 0)]), none⟩,
  ⟨513, (.arr 3 21), 3, true, 12, (some [(.int .i32 0), (.int .i32 0), (.int .i32 0)]), none⟩,
  ⟨515, (.st [(0, 407), (1, 407), (2, 513)]), 5, true, 20, (some [(.int .u32 0), (.int .u32 0), (.int .i32 0), (.int .i32 0), (.int .i32 0)]), none⟩]
theorem tyLOk : ∀ ti ∈ tyL, RTOk Tryz.prog ti := all_cons ty_2 (all_cons ty_3 (all_cons ty_4 (all_cons ty_5 (all_cons ty_9 (all_cons ty_21 (all_cons ty_23 (all_cons ty_24 (all_cons ty_25 (all_cons ty_26 (all_cons ty_27 (all_cons ty_37 (all_cons ty_38 (all_cons ty_39 (all_cons ty_40 (all_cons ty_41 (all_cons ty_42 (all_cons ty_44 (all_cons ty_45 (all_cons ty_46 (all_cons ty_47 (all_cons ty_48 (all_cons ty_50 (all_cons ty_52 (all_cons ty_53 (all_cons ty_69 (all_cons ty_71 (all_cons ty_75 (all_cons ty_78 (all_cons ty_81 (all_cons ty_83 (all_cons ty_85 (all_cons ty_91 (all_cons ty_93 (all_cons ty_97 (all_cons ty_99 (all_cons ty_111 (all_cons ty_114 (all_cons ty_116 (all_cons ty_118 (all_cons ty_121 (all_cons ty_123 (all_cons ty_126 (all_cons ty_130 (all_cons ty_131 (all_cons ty_134 (all_cons ty_135 (all_cons ty_138 (all_cons ty_139 (all_cons ty_155 (all_cons ty_157 (all_cons ty_162 (all_cons ty_164 (all_cons ty_179 (all_cons ty_191 (all_cons ty_193 (all_cons ty_198 (all_cons ty_215 (all_cons ty_216 (all_cons ty_218 (all_cons ty_220 (all_cons ty_236 (all_cons ty_244 (all_cons ty_279 (all_cons ty_285 (all_cons ty_303 (all_cons ty_311 (all_cons ty_325 (all_cons ty_333 (all_cons ty_341 (all_cons ty_343 (all_cons ty_362 (all_cons ty_376 (all_cons ty_391 (all_cons ty_393 (all_cons ty_400 (all_cons ty_407 (all_cons ty_409 (all_cons ty_446 (all_cons ty_447 (all_cons ty_449 (all_cons ty_450 (all_cons ty_455 (all_cons ty_475 (all_cons ty_483 (all_cons ty_497 (all_cons ty_498 (all_cons ty_502 (all_cons ty_506 (all_cons ty_507 (all_cons ty_510 (all_cons ty_511 (all_cons ty_513 (all_cons ty_515 (all_nil))))))))))))))))))))))))))))))))))))))))))))))))))))))))))))))))))))))))))))))))))))))))))))))
noncomputable def tyT : T RTI := ofList (tyL.map fun ti => (ti.t, ti))
theorem tyOk : TtOk Tryz.prog tyT := ttOk_of tyLOk
theorem fe_3 : FeOk Tryz.prog 3 (FE.code 107 [.tmp 2] (bodyOf Tryz.f3)) := ⟨_, Tryz.func3, by kernel_rfl, Tryz.ntmps3, by rw [Tryz.results3], by kernel_rfl⟩
theorem fe_4 : FeOk Tryz.prog 4 (FE.code 14 [.tmp 2, .tmp 3] (bodyOf Tryz.f4)) := ⟨_, Tryz.func4, by kernel_rfl, Tryz.ntmps4, by rw [Tryz.results4], by kernel_rfl⟩
theorem fe_5 : FeOk Tryz.prog 5 (FE.code 69 [.tmp 4, .tmp 5] (bodyOf Tryz.f5)) := ⟨_, Tryz.func5, by kernel_rfl, Tryz.ntmps5, by rw [Tryz.results5], by kernel_rfl⟩
theorem fe_6 : FeOk Tryz.prog 6 (FE.code 11 [.tmp 2] (bodyOf Tryz.f6)) := ⟨_, Tryz.func6, by kernel_rfl, Tryz.ntmps6, by rw [Tryz.results6], by kernel_rfl⟩
theorem fe_7 : FeOk Tryz.prog 7 (FE.code 94 [.tmp 4, .tmp 5] (bodyOf Tryz.f7)) := ⟨_, Tryz.func7, by kernel_rfl, Tryz.ntmps7, by rw [Tryz.results7], by kernel_rfl⟩
theorem fe_8 : FeOk Tryz.prog 8 (FE.code 115 [.tmp 0] (bodyOf Tryz.f8)) := ⟨_, Tryz.func8, by kernel_rfl, Tryz.ntmps8, by rw [Tryz.results8], by kernel_rfl⟩
theorem fe_9 : FeOk Tryz.prog 9 (FE.code 51 [.tmp 2, .tmp 3, .tmp 4] (bodyOf Tryz.f9)) := ⟨_, Tryz.func9, by kernel_rfl, Tryz.ntmps9, by rw [Tryz.results9], by kernel_rfl⟩
theorem fe_10 : FeOk Tryz.prog 10 (FE.code 23 [.tmp 4, .tmp 5] (bodyOf Tryz.f10)) := ⟨_, Tryz.func10, by kernel_rfl, Tryz.ntmps10, by rw [Tryz.results10], by kernel_rfl⟩
theorem fe_11 : FeOk Tryz.prog 11 (FE.code 51 [.tmp 2, .tmp 3, .tmp 4] (bodyOf Tryz.f11)) := ⟨_, Tryz.func11, by kernel_rfl, Tryz.ntmps11, by rw [Tryz.results11], by kernel_rfl⟩
theorem fe_12 : FeOk Tryz.prog 12 (FE.code 22 [.tmp 4, .tmp 5] (bodyOf Tryz.f12)) := ⟨_, Tryz.func12, by kernel_rfl, Tryz.ntmps12, by rw [Tryz.results12], by kernel_rfl⟩
theorem fe_13 : FeOk Tryz.prog 13 (FE.code 27 [.cell 2 50, .tmp 3, .tmp 4] (bodyOf Tryz.f13)) := ⟨_, Tryz.func13, by kernel_rfl, Tryz.ntmps13, by rw [Tryz.results13], by kernel_rfl⟩
theorem fe_14 : FeOk Tryz.prog 14 (FE.code 17 [.tmp 4, .tmp 5] (bodyOf Tryz.f14)) := ⟨_, Tryz.func14, by kernel_rfl, Tryz.ntmps14, by rw [Tryz.results14], by kernel_rfl⟩
theorem fe_15 : FeOk Tryz.prog 15 (FE.code 36 [.tmp 2, .tmp 3] (bodyOf Tryz.f15)) := ⟨_, Tryz.func15, by kernel_rfl, Tryz.ntmps15, by rw [Tryz.results15], by kernel_rfl⟩
theorem fe_16 : FeOk Tryz.prog 16 (FE.code 22 [.tmp 6] (bodyOf Tryz.f16)) := ⟨_, Tryz.func16, by kernel_rfl, Tryz.ntmps16, by rw [Tryz.results16], by kernel_rfl⟩
theorem fe_17 : FeOk Tryz.prog 17 (FE.code 154 [.tmp 2] (bodyOf Tryz.f17)) := ⟨_, Tryz.func17, by kernel_rfl, Tryz.ntmps17, by rw [Tryz.results17], by kernel_rfl⟩
theorem fe_18 : FeOk Tryz.prog 18 (FE.code 61 [.tmp 4, .tmp 5] (bodyOf Tryz.f18)) := ⟨_, Tryz.func18, by kernel_rfl, Tryz.ntmps18, by rw [Tryz.results18], by kernel_rfl⟩
theorem fe_19 : FeOk Tryz.prog 19 (FE.code 64 [.cell 6 50] (bodyOf Tryz.f19)) := ⟨_, Tryz.func19, by kernel_rfl, Tryz.ntmps19, by rw [Tryz.results19], by kernel_rfl⟩
theorem fe_20 : FeOk Tryz.prog 20 (FE.code 64 [.cell 6 69, .tmp 7, .cell 8 71, .tmp 9] (bodyOf Tryz.f20)) := ⟨_, Tryz.func20, by kernel_rfl, Tryz.ntmps20, by rw [Tryz.results20], by kernel_rfl⟩
theorem fe_21 : FeOk Tryz.prog 21 (FE.code 5 [.tmp 2] (bodyOf Tryz.f21)) := ⟨_, Tryz.func21, by kernel_rfl, Tryz.ntmps21, by rw [Tryz.results21], by kernel_rfl⟩
theorem fe_22 : FeOk Tryz.prog 22 (FE.code 78 [.tmp 4] (bodyOf Tryz.f22)) := ⟨_, Tryz.func22, by kernel_rfl, Tryz.ntmps22, by rw [Tryz.results22], by kernel_rfl⟩
theorem fe_23 : FeOk Tryz.prog 23 (FE.code 52 [.cell 2 78, .cell 3 3, .cell 4 24] (bodyOf Tryz.f23)) := ⟨_, Tryz.func23, by kernel_rfl, Tryz.ntmps23, by rw [Tryz.results23], by kernel_rfl⟩
theorem fe_24 : FeOk Tryz.prog 24 (FE.code 70 [.cell 2 85, .tmp 3, .tmp 4] (bodyOf Tryz.f24)) := ⟨_, Tryz.func24, by kernel_rfl, Tryz.ntmps24, by rw [Tryz.results24], by kernel_rfl⟩
theorem fe_25 : FeOk Tryz.prog 25 (FE.code 99 [.tmp 2, .tmp 3] (bodyOf Tryz.f25)) := ⟨_, Tryz.func25, by kernel_rfl, Tryz.ntmps25, by rw [Tryz.results25], by kernel_rfl⟩
theorem fe_26 : FeOk Tryz.prog 26 (FE.code 21 [.tmp 4] (bodyOf Tryz.f26)) := ⟨_, Tryz.func26, by kernel_rfl, Tryz.ntmps26, by rw [Tryz.results26], by kernel_rfl⟩
theorem fe_27 : FeOk Tryz.prog 27 (FE.code 28 [.cell 2 44] (bodyOf Tryz.f27)) := ⟨_, Tryz.func27, by kernel_rfl, Tryz.ntmps27, by rw [Tryz.results27], by kernel_rfl⟩
theorem fe_28 : FeOk Tryz.prog 28 (FE.code 117 [.cell 2 44] (bodyOf Tryz.f28)) := ⟨_, Tryz.func28, by kernel_rfl, Tryz.ntmps28, by rw [Tryz.results28], by kernel_rfl⟩
theorem fe_29 : FeOk Tryz.prog 29 (FE.code 75 [.cell 2 93, .tmp 3, .tmp 4] (bodyOf Tryz.f29)) := ⟨_, Tryz.func29, by kernel_rfl, Tryz.ntmps29, by rw [Tryz.results29], by kernel_rfl⟩
theorem fe_30 : FeOk Tryz.prog 30 (FE.code 65 [.tmp 2, .tmp 3] (bodyOf Tryz.f30)) := ⟨_, Tryz.func30, by kernel_rfl, Tryz.ntmps30, by rw [Tryz.results30], by kernel_rfl⟩
theorem fe_31 : FeOk Tryz.prog 31 (FE.code 41 [.tmp 2] (bodyOf Tryz.f31)) := ⟨_, Tryz.func31, by kernel_rfl, Tryz.ntmps31, by rw [Tryz.results31], by kernel_rfl⟩
theorem fe_32 : FeOk Tryz.prog 32 (FE.code 53 [.cell 2 99, .tmp 3, .tmp 4] (bodyOf Tryz.f32)) := ⟨_, Tryz.func32, by kernel_rfl, Tryz.ntmps32, by rw [Tryz.results32], by kernel_rfl⟩
theorem fe_33 : FeOk Tryz.prog 33 (FE.code 48 [.cell 2 50, .tmp 3] (bodyOf Tryz.f33)) := ⟨_, Tryz.func33, by kernel_rfl, Tryz.ntmps33, by rw [Tryz.results33], by kernel_rfl⟩
theorem fe_34 : FeOk Tryz.prog 34 (FE.code 14 [.tmp 2] (bodyOf Tryz.f34)) := ⟨_, Tryz.func34, by kernel_rfl, Tryz.ntmps34, by rw [Tryz.results34], by kernel_rfl⟩
theorem fe_35 : FeOk Tryz.prog 35 (FE.code 113 [.cell 2 50] (bodyOf Tryz.f35)) := ⟨_, Tryz.func35, by kernel_rfl, Tryz.ntmps35, by rw [Tryz.results35], by kernel_rfl⟩
theorem fe_36 : FeOk Tryz.prog 36 (FE.code 38 [.tmp 2, .tmp 3] (bodyOf Tryz.f36)) := ⟨_, Tryz.func36, by kernel_rfl, Tryz.ntmps36, by rw [Tryz.results36], by kernel_rfl⟩
theorem fe_37 : FeOk Tryz.prog 37 (FE.code 38 [.tmp 2, .tmp 3] (bodyOf Tryz.f37)) := ⟨_, Tryz.func37, by kernel_rfl, Tryz.ntmps37, by rw [Tryz.results37], by kernel_rfl⟩
theorem fe_38 : FeOk Tryz.prog 38 (FE.code 25 [.tmp 2, .tmp 3] (bodyOf Tryz.f38)) := ⟨_, Tryz.func38, by kernel_rfl, Tryz.ntmps38, by rw [Tryz.results38], by kernel_rfl⟩
theorem fe_39 : FeOk Tryz.prog 39 (FE.code 99 [.cell 2 99] (bodyOf Tryz.f39)) := ⟨_, Tryz.func39, by kernel_rfl, Tryz.ntmps39, by rw [Tryz.results39], by kernel_rfl⟩
theorem fe_40 : FeOk Tryz.prog 40 (FE.code 11 [.tmp 6] (bodyOf Tryz.f40)) := ⟨_, Tryz.func40, by kernel_rfl, Tryz.ntmps40, by rw [Tryz.results40], by kernel_rfl⟩
theorem fe_41 : FeOk Tryz.prog 41 (FE.code 47 [.tmp 4] (bodyOf Tryz.f41)) := ⟨_, Tryz.func41, by kernel_rfl, Tryz.ntmps41, by rw [Tryz.results41], by kernel_rfl⟩
theorem fe_42 : FeOk Tryz.prog 42 (FE.code 27 [.tmp 4] (bodyOf Tryz.f42)) := ⟨_, Tryz.func42, by kernel_rfl, Tryz.ntmps42, by rw [Tryz.results42], by kernel_rfl⟩
theorem fe_43 : FeOk Tryz.prog 43 (FE.code 36 [.tmp 2] (bodyOf Tryz.f43)) := ⟨_, Tryz.func43, by kernel_rfl, Tryz.ntmps43, by rw [Tryz.results43], by kernel_rfl⟩
theorem fe_44 : FeOk Tryz.prog 44 (FE.code 8 [.tmp 2] (bodyOf Tryz.f44)) := ⟨_, Tryz.func44, by kernel_rfl, Tryz.ntmps44, by rw [Tryz.results44], by kernel_rfl⟩
theorem fe_45 : FeOk Tryz.prog 45 (FE.code 83 [.tmp 4, .tmp 5] (bodyOf Tryz.f45)) := ⟨_, Tryz.func45, by kernel_rfl, Tryz.ntmps45, by rw [Tryz.results45], by kernel_rfl⟩
theorem fe_46 : FeOk Tryz.prog 46 (FE.code 11 [.tmp 6] (bodyOf Tryz.f46)) := ⟨_, Tryz.func46, by kernel_rfl, Tryz.ntmps46, by rw [Tryz.results46], by kernel_rfl⟩
theorem fe_47 : FeOk Tryz.prog 47 (FE.code 12 [.tmp 4] (bodyOf Tryz.f47)) := ⟨_, Tryz.func47, by kernel_rfl, Tryz.ntmps47, by rw [Tryz.results47], by kernel_rfl⟩
theorem fe_48 : FeOk Tryz.prog 48 (FE.code 25 [.tmp 4] (bodyOf Tryz.f48)) := ⟨_, Tryz.func48, by kernel_rfl, Tryz.ntmps48, by rw [Tryz.results48], by kernel_rfl⟩
theorem fe_49 : FeOk Tryz.prog 49 (FE.code 36 [.tmp 2] (bodyOf Tryz.f49)) := ⟨_, Tryz.func49, by kernel_rfl, Tryz.ntmps49, by rw [Tryz.results49], by kernel_rfl⟩
theorem fe_50 : FeOk Tryz.prog 50 (FE.code 11 [.tmp 6] (bodyOf Tryz.f50)) := ⟨_, Tryz.func50, by kernel_rfl, Tryz.ntmps50, by rw [Tryz.results50], by kernel_rfl⟩
theorem fe_51 : FeOk Tryz.prog 51 (FE.code 8 [.tmp 4] (bodyOf Tryz.f51)) := ⟨_, Tryz.func51, by kernel_rfl, Tryz.ntmps51, by rw [Tryz.results51], by kernel_rfl⟩
theorem fe_52 : FeOk Tryz.prog 52 (FE.code 47 [.tmp 4] (bodyOf Tryz.f52)) := ⟨_, Tryz.func52, by kernel_rfl, Tryz.ntmps52, by rw [Tryz.results52], by kernel_rfl⟩
theorem fe_53 : FeOk Tryz.prog 53 (FE.code 11 [.tmp 6] (bodyOf Tryz.f53)) := ⟨_, Tryz.func53, by kernel_rfl, Tryz.ntmps53, by rw [Tryz.results53], by kernel_rfl⟩
theorem fe_54 : FeOk Tryz.prog 54 (FE.code 37 [.tmp 4] (bodyOf Tryz.f54)) := ⟨_, Tryz.func54, by kernel_rfl, Tryz.ntmps54, by rw [Tryz.results54], by kernel_rfl⟩
theorem fe_55 : FeOk Tryz.prog 55 (FE.code 11 [.tmp 6] (bodyOf Tryz.f55)) := ⟨_, Tryz.func55, by kernel_rfl, Tryz.ntmps55, by rw [Tryz.results55], by kernel_rfl⟩
theorem fe_56 : FeOk Tryz.prog 56 (FE.code 22 [.tmp 4] (bodyOf Tryz.f56)) := ⟨_, Tryz.func56, by kernel_rfl, Tryz.ntmps56, by rw [Tryz.results56], by kernel_rfl⟩
theorem fe_57 : FeOk Tryz.prog 57 (FE.code 11 [.tmp 6] (bodyOf Tryz.f57)) := ⟨_, Tryz.func57, by kernel_rfl, Tryz.ntmps57, by rw [Tryz.results57], by kernel_rfl⟩
theorem fe_58 : FeOk Tryz.prog 58 (FE.code 10 [.tmp 4] (bodyOf Tryz.f58)) := ⟨_, Tryz.func58, by kernel_rfl, Tryz.ntmps58, by rw [Tryz.results58], by kernel_rfl⟩
theorem fe_59 : FeOk Tryz.prog 59 (FE.code 10 [.tmp 4] (bodyOf Tryz.f59)) := ⟨_, Tryz.func59, by kernel_rfl, Tryz.ntmps59, by rw [Tryz.results59], by kernel_rfl⟩
theorem fe_60 : FeOk Tryz.prog 60 (FE.code 10 [.tmp 4] (bodyOf Tryz.f60)) := ⟨_, Tryz.func60, by kernel_rfl, Tryz.ntmps60, by rw [Tryz.results60], by kernel_rfl⟩
theorem fe_61 : FeOk Tryz.prog 61 (FE.code 41 [.cell 4 50] (bodyOf Tryz.f61)) := ⟨_, Tryz.func61, by kernel_rfl, Tryz.ntmps61, by rw [Tryz.results61], by kernel_rfl⟩
theorem fe_62 : FeOk Tryz.prog 62 (FE.code 104 [.cell 6 69, .tmp 7, .cell 8 71] (bodyOf Tryz.f62)) := ⟨_, Tryz.func62, by kernel_rfl, Tryz.ntmps62, by rw [Tryz.results62], by kernel_rfl⟩
theorem fe_63 : FeOk Tryz.prog 63 (FE.code 10 [.tmp 2] (bodyOf Tryz.f63)) := ⟨_, Tryz.func63, by kernel_rfl, Tryz.ntmps63, by rw [Tryz.results63], by kernel_rfl⟩
theorem fe_64 : FeOk Tryz.prog 64 (FE.code 36 [.tmp 2] (bodyOf Tryz.f64)) := ⟨_, Tryz.func64, by kernel_rfl, Tryz.ntmps64, by rw [Tryz.results64], by kernel_rfl⟩
theorem fe_65 : FeOk Tryz.prog 65 (FE.code 16 [.tmp 8] (bodyOf Tryz.f65)) := ⟨_, Tryz.func65, by kernel_rfl, Tryz.ntmps65, by rw [Tryz.results65], by kernel_rfl⟩
theorem fe_66 : FeOk Tryz.prog 66 (FE.code 16 [.tmp 8] (bodyOf Tryz.f66)) := ⟨_, Tryz.func66, by kernel_rfl, Tryz.ntmps66, by rw [Tryz.results66], by kernel_rfl⟩
theorem fe_67 : FeOk Tryz.prog 67 (FE.code 28 [.tmp 8] (bodyOf Tryz.f67)) := ⟨_, Tryz.func67, by kernel_rfl, Tryz.ntmps67, by rw [Tryz.results67], by kernel_rfl⟩
theorem fe_68 : FeOk Tryz.prog 68 (FE.code 56 [.tmp 8] (bodyOf Tryz.f68)) := ⟨_, Tryz.func68, by kernel_rfl, Tryz.ntmps68, by rw [Tryz.results68], by kernel_rfl⟩
theorem fe_69 : FeOk Tryz.prog 69 (FE.code 34 [.tmp 4] (bodyOf Tryz.f69)) := ⟨_, Tryz.func69, by kernel_rfl, Tryz.ntmps69, by rw [Tryz.results69], by kernel_rfl⟩
theorem fe_70 : FeOk Tryz.prog 70 (FE.code 8 [.tmp 4] (bodyOf Tryz.f70)) := ⟨_, Tryz.func70, by kernel_rfl, Tryz.ntmps70, by rw [Tryz.results70], by kernel_rfl⟩
theorem fe_71 : FeOk Tryz.prog 71 (FE.code 5 [.tmp 2] (bodyOf Tryz.f71)) := ⟨_, Tryz.func71, by kernel_rfl, Tryz.ntmps71, by rw [Tryz.results71], by kernel_rfl⟩
theorem fe_72 : FeOk Tryz.prog 72 (FE.code 25 [.tmp 2] (bodyOf Tryz.f72)) := ⟨_, Tryz.func72, by kernel_rfl, Tryz.ntmps72, by rw [Tryz.results72], by kernel_rfl⟩
theorem fe_73 : FeOk Tryz.prog 73 (FE.code 59 [.tmp 4] (bodyOf Tryz.f73)) := ⟨_, Tryz.func73, by kernel_rfl, Tryz.ntmps73, by rw [Tryz.results73], by kernel_rfl⟩
theorem fe_74 : FeOk Tryz.prog 74 (FE.code 30 [.cell 2 157, .tmp 3] (bodyOf Tryz.f74)) := ⟨_, Tryz.func74, by kernel_rfl, Tryz.ntmps74, by rw [Tryz.results74], by kernel_rfl⟩
theorem fe_75 : FeOk Tryz.prog 75 (FE.code 85 [.tmp 6, .tmp 7] (bodyOf Tryz.f75)) := ⟨_, Tryz.func75, by kernel_rfl, Tryz.ntmps75, by rw [Tryz.results75], by kernel_rfl⟩
theorem fe_76 : FeOk Tryz.prog 76 (FE.code 41 [.tmp 6] (bodyOf Tryz.f76)) := ⟨_, Tryz.func76, by kernel_rfl, Tryz.ntmps76, by rw [Tryz.results76], by kernel_rfl⟩
theorem fe_77 : FeOk Tryz.prog 77 (FE.code 37 [.tmp 2, .tmp 3] (bodyOf Tryz.f77)) := ⟨_, Tryz.func77, by kernel_rfl, Tryz.ntmps77, by rw [Tryz.results77], by kernel_rfl⟩
theorem fe_78 : FeOk Tryz.prog 78 (FE.code 43 [.tmp 4, .tmp 5] (bodyOf Tryz.f78)) := ⟨_, Tryz.func78, by kernel_rfl, Tryz.ntmps78, by rw [Tryz.results78], by kernel_rfl⟩
theorem fe_79 : FeOk Tryz.prog 79 (FE.code 41 [.tmp 4] (bodyOf Tryz.f79)) := ⟨_, Tryz.func79, by kernel_rfl, Tryz.ntmps79, by rw [Tryz.results79], by kernel_rfl⟩
theorem fe_80 : FeOk Tryz.prog 80 (FE.code 10 [.tmp 2] (bodyOf Tryz.f80)) := ⟨_, Tryz.func80, by kernel_rfl, Tryz.ntmps80, by rw [Tryz.results80], by kernel_rfl⟩
theorem fe_81 : FeOk Tryz.prog 81 (FE.code 35 [.tmp 2] (bodyOf Tryz.f81)) := ⟨_, Tryz.func81, by kernel_rfl, Tryz.ntmps81, by rw [Tryz.results81], by kernel_rfl⟩
theorem fe_82 : FeOk Tryz.prog 82 (FE.code 10 [.tmp 2] (bodyOf Tryz.f82)) := ⟨_, Tryz.func82, by kernel_rfl, Tryz.ntmps82, by rw [Tryz.results82], by kernel_rfl⟩
theorem fe_83 : FeOk Tryz.prog 83 (FE.code 10 [.tmp 2] (bodyOf Tryz.f83)) := ⟨_, Tryz.func83, by kernel_rfl, Tryz.ntmps83, by rw [Tryz.results83], by kernel_rfl⟩
theorem fe_84 : FeOk Tryz.prog 84 (FE.code 28 [.tmp 2] (bodyOf Tryz.f84)) := ⟨_, Tryz.func84, by kernel_rfl, Tryz.ntmps84, by rw [Tryz.results84], by kernel_rfl⟩
theorem fe_85 : FeOk Tryz.prog 85 (FE.code 28 [.tmp 2] (bodyOf Tryz.f85)) := ⟨_, Tryz.func85, by kernel_rfl, Tryz.ntmps85, by rw [Tryz.results85], by kernel_rfl⟩
theorem fe_86 : FeOk Tryz.prog 86 (FE.code 14 [.tmp 2, .tmp 3, .tmp 4] (bodyOf Tryz.f86)) := ⟨_, Tryz.func86, by kernel_rfl, Tryz.ntmps86, by rw [Tryz.results86], by kernel_rfl⟩
theorem fe_87 : FeOk Tryz.prog 87 (FE.code 40 [.tmp 4, .tmp 5] (bodyOf Tryz.f87)) := ⟨_, Tryz.func87, by kernel_rfl, Tryz.ntmps87, by rw [Tryz.results87], by kernel_rfl⟩
theorem fe_88 : FeOk Tryz.prog 88 (FE.code 61 [.tmp 4, .tmp 5] (bodyOf Tryz.f88)) := ⟨_, Tryz.func88, by kernel_rfl, Tryz.ntmps88, by rw [Tryz.results88], by kernel_rfl⟩
theorem fe_89 : FeOk Tryz.prog 89 (FE.code 38 [.cell 2 179] (bodyOf Tryz.f89)) := ⟨_, Tryz.func89, by kernel_rfl, Tryz.ntmps89, by rw [Tryz.results89], by kernel_rfl⟩
theorem fe_90 : FeOk Tryz.prog 90 (FE.code 43 [.tmp 6] (bodyOf Tryz.f90)) := ⟨_, Tryz.func90, by kernel_rfl, Tryz.ntmps90, by rw [Tryz.results90], by kernel_rfl⟩
theorem fe_91 : FeOk Tryz.prog 91 (FE.code 11 [.tmp 2] (bodyOf Tryz.f91)) := ⟨_, Tryz.func91, by kernel_rfl, Tryz.ntmps91, by rw [Tryz.results91], by kernel_rfl⟩
theorem fe_92 : FeOk Tryz.prog 92 (FE.code 15 [.tmp 2] (bodyOf Tryz.f92)) := ⟨_, Tryz.func92, by kernel_rfl, Tryz.ntmps92, by rw [Tryz.results92], by kernel_rfl⟩
theorem fe_93 : FeOk Tryz.prog 93 (FE.code 71 [.tmp 2, .tmp 3] (bodyOf Tryz.f93)) := ⟨_, Tryz.func93, by kernel_rfl, Tryz.ntmps93, by rw [Tryz.results93], by kernel_rfl⟩
theorem fe_94 : FeOk Tryz.prog 94 (FE.code 9 [] (bodyOf Tryz.f94)) := ⟨_, Tryz.func94, by kernel_rfl, Tryz.ntmps94, by rw [Tryz.results94], by kernel_rfl⟩
theorem fe_95 : FeOk Tryz.prog 95 (FE.code 17 [.tmp 4] (bodyOf Tryz.f95)) := ⟨_, Tryz.func95, by kernel_rfl, Tryz.ntmps95, by rw [Tryz.results95], by kernel_rfl⟩
theorem fe_96 : FeOk Tryz.prog 96 (FE.code 18 [.tmp 2] (bodyOf Tryz.f96)) := ⟨_, Tryz.func96, by kernel_rfl, Tryz.ntmps96, by rw [Tryz.results96], by kernel_rfl⟩
theorem fe_97 : FeOk Tryz.prog 97 (FE.code 20 [.tmp 4] (bodyOf Tryz.f97)) := ⟨_, Tryz.func97, by kernel_rfl, Tryz.ntmps97, by rw [Tryz.results97], by kernel_rfl⟩
theorem fe_98 : FeOk Tryz.prog 98 (FE.code 6 [.tmp 2] (bodyOf Tryz.f98)) := ⟨_, Tryz.func98, by kernel_rfl, Tryz.ntmps98, by rw [Tryz.results98], by kernel_rfl⟩
theorem fe_99 : FeOk Tryz.prog 99 (FE.code 8 [.tmp 4] (bodyOf Tryz.f99)) := ⟨_, Tryz.func99, by kernel_rfl, Tryz.ntmps99, by rw [Tryz.results99], by kernel_rfl⟩
theorem fe_100 : FeOk Tryz.prog 100 (FE.code 66 [.tmp 4] (bodyOf Tryz.f100)) := ⟨_, Tryz.func100, by kernel_rfl, Tryz.ntmps100, by rw [Tryz.results100], by kernel_rfl⟩
theorem fe_101 : FeOk Tryz.prog 101 (FE.code 17 [.tmp 4] (bodyOf Tryz.f101)) := ⟨_, Tryz.func101, by kernel_rfl, Tryz.ntmps101, by rw [Tryz.results101], by kernel_rfl⟩
theorem fe_102 : FeOk Tryz.prog 102 (FE.code 22 [] (bodyOf Tryz.f102)) := ⟨_, Tryz.func102, by kernel_rfl, Tryz.ntmps102, by rw [Tryz.results102], by kernel_rfl⟩
theorem fe_103 : FeOk Tryz.prog 103 (FE.code 34 [.cell 2 99] (bodyOf Tryz.f103)) := ⟨_, Tryz.func103, by kernel_rfl, Tryz.ntmps103, by rw [Tryz.results103], by kernel_rfl⟩
theorem fe_104 : FeOk Tryz.prog 104 (FE.code 19 [] (bodyOf Tryz.f104)) := ⟨_, Tryz.func104, by kernel_rfl, Tryz.ntmps104, by rw [Tryz.results104], by kernel_rfl⟩
theorem fe_105 : FeOk Tryz.prog 105 (FE.code 52 [] (bodyOf Tryz.f105)) := ⟨_, Tryz.func105, by kernel_rfl, Tryz.ntmps105, by rw [Tryz.results105], by kernel_rfl⟩
theorem fe_106 : FeOk Tryz.prog 106 (FE.code 20 [.tmp 6] (bodyOf Tryz.f106)) := ⟨_, Tryz.func106, by kernel_rfl, Tryz.ntmps106, by rw [Tryz.results106], by kernel_rfl⟩
theorem fe_107 : FeOk Tryz.prog 107 (FE.code 47 [.tmp 4] (bodyOf Tryz.f107)) := ⟨_, Tryz.func107, by kernel_rfl, Tryz.ntmps107, by rw [Tryz.results107], by kernel_rfl⟩
theorem fe_108 : FeOk Tryz.prog 108 (FE.code 44 [.tmp 4] (bodyOf Tryz.f108)) := ⟨_, Tryz.func108, by kernel_rfl, Tryz.ntmps108, by rw [Tryz.results108], by kernel_rfl⟩
theorem fe_109 : FeOk Tryz.prog 109 (FE.code 64 [.tmp 4] (bodyOf Tryz.f109)) := ⟨_, Tryz.func109, by kernel_rfl, Tryz.ntmps109, by rw [Tryz.results109], by kernel_rfl⟩
theorem fe_110 : FeOk Tryz.prog 110 (FE.code 87 [.tmp 2] (bodyOf Tryz.f110)) := ⟨_, Tryz.func110, by kernel_rfl, Tryz.ntmps110, by rw [Tryz.results110], by kernel_rfl⟩
theorem fe_111 : FeOk Tryz.prog 111 (FE.code 111 [.tmp 2] (bodyOf Tryz.f111)) := ⟨_, Tryz.func111, by kernel_rfl, Tryz.ntmps111, by rw [Tryz.results111], by kernel_rfl⟩
theorem fe_112 : FeOk Tryz.prog 112 (FE.code 96 [.tmp 2] (bodyOf Tryz.f112)) := ⟨_, Tryz.func112, by kernel_rfl, Tryz.ntmps112, by rw [Tryz.results112], by kernel_rfl⟩
theorem fe_113 : FeOk Tryz.prog 113 (FE.code 9 [] (bodyOf Tryz.f113)) := ⟨_, Tryz.func113, by kernel_rfl, Tryz.ntmps113, by rw [Tryz.results113], by kernel_rfl⟩
theorem fe_114 : FeOk Tryz.prog 114 (FE.code 10 [.tmp 4] (bodyOf Tryz.f114)) := ⟨_, Tryz.func114, by kernel_rfl, Tryz.ntmps114, by rw [Tryz.results114], by kernel_rfl⟩
theorem fe_115 : FeOk Tryz.prog 115 (FE.code 9 [] (bodyOf Tryz.f115)) := ⟨_, Tryz.func115, by kernel_rfl, Tryz.ntmps115, by rw [Tryz.results115], by kernel_rfl⟩
theorem fe_116 : FeOk Tryz.prog 116 (FE.code 19 [.tmp 4] (bodyOf Tryz.f116)) := ⟨_, Tryz.func116, by kernel_rfl, Tryz.ntmps116, by rw [Tryz.results116], by kernel_rfl⟩
theorem fe_117 : FeOk Tryz.prog 117 (FE.code 4 [.tmp 2] (bodyOf Tryz.f117)) := ⟨_, Tryz.func117, by kernel_rfl, Tryz.ntmps117, by rw [Tryz.results117], by kernel_rfl⟩
theorem fe_118 : FeOk Tryz.prog 118 (FE.code 9 [] (bodyOf Tryz.f118)) := ⟨_, Tryz.func118, by kernel_rfl, Tryz.ntmps118, by rw [Tryz.results118], by kernel_rfl⟩
theorem fe_119 : FeOk Tryz.prog 119 (FE.code 10 [.tmp 4] (bodyOf Tryz.f119)) := ⟨_, Tryz.func119, by kernel_rfl, Tryz.ntmps119, by rw [Tryz.results119], by kernel_rfl⟩
theorem fe_120 : FeOk Tryz.prog 120 (FE.code 66 [.tmp 4] (bodyOf Tryz.f120)) := ⟨_, Tryz.func120, by kernel_rfl, Tryz.ntmps120, by rw [Tryz.results120], by kernel_rfl⟩
theorem fe_121 : FeOk Tryz.prog 121 (FE.code 18 [.tmp 4] (bodyOf Tryz.f121)) := ⟨_, Tryz.func121, by kernel_rfl, Tryz.ntmps121, by rw [Tryz.results121], by kernel_rfl⟩
theorem fe_122 : FeOk Tryz.prog 122 (FE.code 66 [.tmp 4] (bodyOf Tryz.f122)) := ⟨_, Tryz.func122, by kernel_rfl, Tryz.ntmps122, by rw [Tryz.results122], by kernel_rfl⟩
theorem fe_123 : FeOk Tryz.prog 123 (FE.code 66 [.tmp 4] (bodyOf Tryz.f123)) := ⟨_, Tryz.func123, by kernel_rfl, Tryz.ntmps123, by rw [Tryz.results123], by kernel_rfl⟩
theorem fe_124 : FeOk Tryz.prog 124 (FE.code 19 [.tmp 4, .tmp 5] (bodyOf Tryz.f124)) := ⟨_, Tryz.func124, by kernel_rfl, Tryz.ntmps124, by rw [Tryz.results124], by kernel_rfl⟩
theorem fe_125 : FeOk Tryz.prog 125 (FE.code 43 [.tmp 2] (bodyOf Tryz.f125)) := ⟨_, Tryz.func125, by kernel_rfl, Tryz.ntmps125, by rw [Tryz.results125], by kernel_rfl⟩
theorem fe_126 : FeOk Tryz.prog 126 (FE.code 8 [.tmp 2] (bodyOf Tryz.f126)) := ⟨_, Tryz.func126, by kernel_rfl, Tryz.ntmps126, by rw [Tryz.results126], by kernel_rfl⟩
theorem fe_127 : FeOk Tryz.prog 127 (FE.code 14 [.tmp 2] (bodyOf Tryz.f127)) := ⟨_, Tryz.func127, by kernel_rfl, Tryz.ntmps127, by rw [Tryz.results127], by kernel_rfl⟩
theorem fe_128 : FeOk Tryz.prog 128 (FE.code 32 [.tmp 6] (bodyOf Tryz.f128)) := ⟨_, Tryz.func128, by kernel_rfl, Tryz.ntmps128, by rw [Tryz.results128], by kernel_rfl⟩
theorem fe_129 : FeOk Tryz.prog 129 (FE.code 45 [.tmp 4] (bodyOf Tryz.f129)) := ⟨_, Tryz.func129, by kernel_rfl, Tryz.ntmps129, by rw [Tryz.results129], by kernel_rfl⟩
theorem fe_130 : FeOk Tryz.prog 130 (FE.code 50 [.tmp 2] (bodyOf Tryz.f130)) := ⟨_, Tryz.func130, by kernel_rfl, Tryz.ntmps130, by rw [Tryz.results130], by kernel_rfl⟩
theorem fe_131 : FeOk Tryz.prog 131 (FE.code 8 [.tmp 4] (bodyOf Tryz.f131)) := ⟨_, Tryz.func131, by kernel_rfl, Tryz.ntmps131, by rw [Tryz.results131], by kernel_rfl⟩
theorem fe_132 : FeOk Tryz.prog 132 (FE.code 59 [] (bodyOf Tryz.f132)) := ⟨_, Tryz.func132, by kernel_rfl, Tryz.ntmps132, by rw [Tryz.results132], by kernel_rfl⟩
theorem fe_133 : FeOk Tryz.prog 133 (FE.code 74 [.tmp 4] (bodyOf Tryz.f133)) := ⟨_, Tryz.func133, by kernel_rfl, Tryz.ntmps133, by rw [Tryz.results133], by kernel_rfl⟩
theorem fe_134 : FeOk Tryz.prog 134 (FE.code 22 [.cell 2 99] (bodyOf Tryz.f134)) := ⟨_, Tryz.func134, by kernel_rfl, Tryz.ntmps134, by rw [Tryz.results134], by kernel_rfl⟩
theorem fe_135 : FeOk Tryz.prog 135 (FE.code 26 [.cell 2 99] (bodyOf Tryz.f135)) := ⟨_, Tryz.func135, by kernel_rfl, Tryz.ntmps135, by rw [Tryz.results135], by kernel_rfl⟩
theorem fe_136 : FeOk Tryz.prog 136 (FE.code 42 [.tmp 4] (bodyOf Tryz.f136)) := ⟨_, Tryz.func136, by kernel_rfl, Tryz.ntmps136, by rw [Tryz.results136], by kernel_rfl⟩
theorem fe_137 : FeOk Tryz.prog 137 (FE.code 8 [.tmp 2] (bodyOf Tryz.f137)) := ⟨_, Tryz.func137, by kernel_rfl, Tryz.ntmps137, by rw [Tryz.results137], by kernel_rfl⟩
theorem fe_138 : FeOk Tryz.prog 138 (FE.code 8 [.tmp 4] (bodyOf Tryz.f138)) := ⟨_, Tryz.func138, by kernel_rfl, Tryz.ntmps138, by rw [Tryz.results138], by kernel_rfl⟩
theorem fe_139 : FeOk Tryz.prog 139 (FE.code 9 [.tmp 4] (bodyOf Tryz.f139)) := ⟨_, Tryz.func139, by kernel_rfl, Tryz.ntmps139, by rw [Tryz.results139], by kernel_rfl⟩
theorem fe_140 : FeOk Tryz.prog 140 (FE.code 9 [.tmp 4] (bodyOf Tryz.f140)) := ⟨_, Tryz.func140, by kernel_rfl, Tryz.ntmps140, by rw [Tryz.results140], by kernel_rfl⟩
theorem fe_141 : FeOk Tryz.prog 141 (FE.code 26 [.tmp 4] (bodyOf Tryz.f141)) := ⟨_, Tryz.func141, by kernel_rfl, Tryz.ntmps141, by rw [Tryz.results141], by kernel_rfl⟩
theorem fe_142 : FeOk Tryz.prog 142 (FE.code 27 [.tmp 4] (bodyOf Tryz.f142)) := ⟨_, Tryz.func142, by kernel_rfl, Tryz.ntmps142, by rw [Tryz.results142], by kernel_rfl⟩
theorem fe_143 : FeOk Tryz.prog 143 (FE.code 8 [.tmp 2] (bodyOf Tryz.f143)) := ⟨_, Tryz.func143, by kernel_rfl, Tryz.ntmps143, by rw [Tryz.results143], by kernel_rfl⟩
theorem fe_144 : FeOk Tryz.prog 144 (FE.code 98 [.tmp 2, .tmp 3, .tmp 4, .tmp 5, .tmp 6, .tmp 7, .tmp 8] (bodyOf Tryz.f144)) := ⟨_, Tryz.func144, by kernel_rfl, Tryz.ntmps144, by rw [Tryz.results144], by kernel_rfl⟩
theorem fe_145 : FeOk Tryz.prog 145 (FE.code 101 [.cell 12 93, .tmp 13] (bodyOf Tryz.f145)) := ⟨_, Tryz.func145, by kernel_rfl, Tryz.ntmps145, by rw [Tryz.results145], by kernel_rfl⟩
theorem fe_146 : FeOk Tryz.prog 146 (FE.code 42 [.tmp 4] (bodyOf Tryz.f146)) := ⟨_, Tryz.func146, by kernel_rfl, Tryz.ntmps146, by rw [Tryz.results146], by kernel_rfl⟩
theorem fe_147 : FeOk Tryz.prog 147 (FE.code 8 [.tmp 4] (bodyOf Tryz.f147)) := ⟨_, Tryz.func147, by kernel_rfl, Tryz.ntmps147, by rw [Tryz.results147], by kernel_rfl⟩
theorem fe_148 : FeOk Tryz.prog 148 (FE.code 9 [.tmp 4] (bodyOf Tryz.f148)) := ⟨_, Tryz.func148, by kernel_rfl, Tryz.ntmps148, by rw [Tryz.results148], by kernel_rfl⟩
theorem fe_149 : FeOk Tryz.prog 149 (FE.code 9 [.tmp 4] (bodyOf Tryz.f149)) := ⟨_, Tryz.func149, by kernel_rfl, Tryz.ntmps149, by rw [Tryz.results149], by kernel_rfl⟩
theorem fe_150 : FeOk Tryz.prog 150 (FE.code 8 [.tmp 4] (bodyOf Tryz.f150)) := ⟨_, Tryz.func150, by kernel_rfl, Tryz.ntmps150, by rw [Tryz.results150], by kernel_rfl⟩
theorem fe_151 : FeOk Tryz.prog 151 (FE.code 27 [.tmp 4] (bodyOf Tryz.f151)) := ⟨_, Tryz.func151, by kernel_rfl, Tryz.ntmps151, by rw [Tryz.results151], by kernel_rfl⟩
theorem fe_152 : FeOk Tryz.prog 152 (FE.code 42 [.tmp 4] (bodyOf Tryz.f152)) := ⟨_, Tryz.func152, by kernel_rfl, Tryz.ntmps152, by rw [Tryz.results152], by kernel_rfl⟩
theorem fe_153 : FeOk Tryz.prog 153 (FE.code 8 [.tmp 4] (bodyOf Tryz.f153)) := ⟨_, Tryz.func153, by kernel_rfl, Tryz.ntmps153, by rw [Tryz.results153], by kernel_rfl⟩
theorem fe_154 : FeOk Tryz.prog 154 (FE.code 9 [.tmp 4] (bodyOf Tryz.f154)) := ⟨_, Tryz.func154, by kernel_rfl, Tryz.ntmps154, by rw [Tryz.results154], by kernel_rfl⟩
theorem fe_155 : FeOk Tryz.prog 155 (FE.code 9 [.tmp 4] (bodyOf Tryz.f155)) := ⟨_, Tryz.func155, by kernel_rfl, Tryz.ntmps155, by rw [Tryz.results155], by kernel_rfl⟩
theorem fe_156 : FeOk Tryz.prog 156 (FE.code 8 [.tmp 2] (bodyOf Tryz.f156)) := ⟨_, Tryz.func156, by kernel_rfl, Tryz.ntmps156, by rw [Tryz.results156], by kernel_rfl⟩
theorem fe_157 : FeOk Tryz.prog 157 (FE.code 19 [.tmp 4] (bodyOf Tryz.f157)) := ⟨_, Tryz.func157, by kernel_rfl, Tryz.ntmps157, by rw [Tryz.results157], by kernel_rfl⟩
theorem fe_158 : FeOk Tryz.prog 158 (FE.code 9 [.tmp 3] (bodyOf Tryz.f158)) := ⟨_, Tryz.func158, by kernel_rfl, Tryz.ntmps158, by rw [Tryz.results158], by kernel_rfl⟩
theorem fe_159 : FeOk Tryz.prog 159 (FE.code 33 [.tmp 6] (bodyOf Tryz.f159)) := ⟨_, Tryz.func159, by kernel_rfl, Tryz.ntmps159, by rw [Tryz.results159], by kernel_rfl⟩
theorem fe_160 : FeOk Tryz.prog 160 (FE.code 42 [.tmp 4] (bodyOf Tryz.f160)) := ⟨_, Tryz.func160, by kernel_rfl, Tryz.ntmps160, by rw [Tryz.results160], by kernel_rfl⟩
theorem fe_161 : FeOk Tryz.prog 161 (FE.code 8 [.tmp 2] (bodyOf Tryz.f161)) := ⟨_, Tryz.func161, by kernel_rfl, Tryz.ntmps161, by rw [Tryz.results161], by kernel_rfl⟩
theorem fe_162 : FeOk Tryz.prog 162 (FE.code 8 [.tmp 4] (bodyOf Tryz.f162)) := ⟨_, Tryz.func162, by kernel_rfl, Tryz.ntmps162, by rw [Tryz.results162], by kernel_rfl⟩
theorem fe_163 : FeOk Tryz.prog 163 (FE.code 9 [.tmp 4] (bodyOf Tryz.f163)) := ⟨_, Tryz.func163, by kernel_rfl, Tryz.ntmps163, by rw [Tryz.results163], by kernel_rfl⟩
theorem fe_164 : FeOk Tryz.prog 164 (FE.code 9 [.tmp 4] (bodyOf Tryz.f164)) := ⟨_, Tryz.func164, by kernel_rfl, Tryz.ntmps164, by rw [Tryz.results164], by kernel_rfl⟩
theorem fe_165 : FeOk Tryz.prog 165 (FE.code 24 [.tmp 2] (bodyOf Tryz.f165)) := ⟨_, Tryz.func165, by kernel_rfl, Tryz.ntmps165, by rw [Tryz.results165], by kernel_rfl⟩
theorem fe_166 : FeOk Tryz.prog 166 (FE.code 42 [.tmp 4] (bodyOf Tryz.f166)) := ⟨_, Tryz.func166, by kernel_rfl, Tryz.ntmps166, by rw [Tryz.results166], by kernel_rfl⟩
theorem fe_167 : FeOk Tryz.prog 167 (FE.code 8 [.tmp 2] (bodyOf Tryz.f167)) := ⟨_, Tryz.func167, by kernel_rfl, Tryz.ntmps167, by rw [Tryz.results167], by kernel_rfl⟩
theorem fe_168 : FeOk Tryz.prog 168 (FE.code 8 [.tmp 4] (bodyOf Tryz.f168)) := ⟨_, Tryz.func168, by kernel_rfl, Tryz.ntmps168, by rw [Tryz.results168], by kernel_rfl⟩
theorem fe_169 : FeOk Tryz.prog 169 (FE.code 9 [.tmp 4] (bodyOf Tryz.f169)) := ⟨_, Tryz.func169, by kernel_rfl, Tryz.ntmps169, by rw [Tryz.results169], by kernel_rfl⟩
theorem fe_170 : FeOk Tryz.prog 170 (FE.code 9 [.tmp 4] (bodyOf Tryz.f170)) := ⟨_, Tryz.func170, by kernel_rfl, Tryz.ntmps170, by rw [Tryz.results170], by kernel_rfl⟩
theorem fe_171 : FeOk Tryz.prog 171 (FE.code 42 [.tmp 4] (bodyOf Tryz.f171)) := ⟨_, Tryz.func171, by kernel_rfl, Tryz.ntmps171, by rw [Tryz.results171], by kernel_rfl⟩
theorem fe_172 : FeOk Tryz.prog 172 (FE.code 8 [.tmp 4] (bodyOf Tryz.f172)) := ⟨_, Tryz.func172, by kernel_rfl, Tryz.ntmps172, by rw [Tryz.results172], by kernel_rfl⟩
theorem fe_173 : FeOk Tryz.prog 173 (FE.code 9 [.tmp 4] (bodyOf Tryz.f173)) := ⟨_, Tryz.func173, by kernel_rfl, Tryz.ntmps173, by rw [Tryz.results173], by kernel_rfl⟩
theorem fe_174 : FeOk Tryz.prog 174 (FE.code 9 [.tmp 4] (bodyOf Tryz.f174)) := ⟨_, Tryz.func174, by kernel_rfl, Tryz.ntmps174, by rw [Tryz.results174], by kernel_rfl⟩
theorem fe_175 : FeOk Tryz.prog 175 (FE.code 36 [.tmp 2] (bodyOf Tryz.f175)) := ⟨_, Tryz.func175, by kernel_rfl, Tryz.ntmps175, by rw [Tryz.results175], by kernel_rfl⟩
theorem fe_176 : FeOk Tryz.prog 176 (FE.code 41 [.tmp 4] (bodyOf Tryz.f176)) := ⟨_, Tryz.func176, by kernel_rfl, Tryz.ntmps176, by rw [Tryz.results176], by kernel_rfl⟩
theorem fe_177 : FeOk Tryz.prog 177 (FE.code 36 [.tmp 2] (bodyOf Tryz.f177)) := ⟨_, Tryz.func177, by kernel_rfl, Tryz.ntmps177, by rw [Tryz.results177], by kernel_rfl⟩
theorem fe_178 : FeOk Tryz.prog 178 (FE.code 36 [.tmp 2] (bodyOf Tryz.f178)) := ⟨_, Tryz.func178, by kernel_rfl, Tryz.ntmps178, by rw [Tryz.results178], by kernel_rfl⟩
theorem fe_179 : FeOk Tryz.prog 179 (FE.code 7 [.tmp 3] (bodyOf Tryz.f179)) := ⟨_, Tryz.func179, by kernel_rfl, Tryz.ntmps179, by rw [Tryz.results179], by kernel_rfl⟩
theorem fe_180 : FeOk Tryz.prog 180 (FE.code 10 [.tmp 4] (bodyOf Tryz.f180)) := ⟨_, Tryz.func180, by kernel_rfl, Tryz.ntmps180, by rw [Tryz.results180], by kernel_rfl⟩
theorem fe_181 : FeOk Tryz.prog 181 (FE.code 25 [.cell 4 93, .tmp 5] (bodyOf Tryz.f181)) := ⟨_, Tryz.func181, by kernel_rfl, Tryz.ntmps181, by rw [Tryz.results181], by kernel_rfl⟩
theorem fe_182 : FeOk Tryz.prog 182 (FE.code 17 [.tmp 2] (bodyOf Tryz.f182)) := ⟨_, Tryz.func182, by kernel_rfl, Tryz.ntmps182, by rw [Tryz.results182], by kernel_rfl⟩
theorem fe_183 : FeOk Tryz.prog 183 (FE.code 13 [.tmp 8] (bodyOf Tryz.f183)) := ⟨_, Tryz.func183, by kernel_rfl, Tryz.ntmps183, by rw [Tryz.results183], by kernel_rfl⟩
theorem fe_184 : FeOk Tryz.prog 184 (FE.code 23 [.tmp 4] (bodyOf Tryz.f184)) := ⟨_, Tryz.func184, by kernel_rfl, Tryz.ntmps184, by rw [Tryz.results184], by kernel_rfl⟩
theorem fe_185 : FeOk Tryz.prog 185 (FE.code 33 [.tmp 4] (bodyOf Tryz.f185)) := ⟨_, Tryz.func185, by kernel_rfl, Tryz.ntmps185, by rw [Tryz.results185], by kernel_rfl⟩
theorem fe_186 : FeOk Tryz.prog 186 (FE.code 90 [.tmp 8] (bodyOf Tryz.f186)) := ⟨_, Tryz.func186, by kernel_rfl, Tryz.ntmps186, by rw [Tryz.results186], by kernel_rfl⟩
theorem fe_187 : FeOk Tryz.prog 187 (FE.code 9 [.tmp 4] (bodyOf Tryz.f187)) := ⟨_, Tryz.func187, by kernel_rfl, Tryz.ntmps187, by rw [Tryz.results187], by kernel_rfl⟩
theorem fe_188 : FeOk Tryz.prog 188 (FE.code 35 [.tmp 10] (bodyOf Tryz.f188)) := ⟨_, Tryz.func188, by kernel_rfl, Tryz.ntmps188, by rw [Tryz.results188], by kernel_rfl⟩
theorem fe_189 : FeOk Tryz.prog 189 (FE.code 36 [.tmp 8] (bodyOf Tryz.f189)) := ⟨_, Tryz.func189, by kernel_rfl, Tryz.ntmps189, by rw [Tryz.results189], by kernel_rfl⟩
theorem fe_190 : FeOk Tryz.prog 190 (FE.code 10 [.tmp 2] (bodyOf Tryz.f190)) := ⟨_, Tryz.func190, by kernel_rfl, Tryz.ntmps190, by rw [Tryz.results190], by kernel_rfl⟩
theorem fe_191 : FeOk Tryz.prog 191 (FE.pure countX) := count_ok Tryz.func191 (by kernel_rfl) (by kernel_rfl) (by kernel_rfl) (by kernel_rfl)
theorem fe_192 : FeOk Tryz.prog 192 (FE.code 8 [.tmp 4] (bodyOf Tryz.f192)) := ⟨_, Tryz.func192, by kernel_rfl, Tryz.ntmps192, by rw [Tryz.results192], by kernel_rfl⟩
theorem fe_193 : FeOk Tryz.prog 193 (FE.code 8 [.tmp 6] (bodyOf Tryz.f193)) := ⟨_, Tryz.func193, by kernel_rfl, Tryz.ntmps193, by rw [Tryz.results193], by kernel_rfl⟩
theorem fe_194 : FeOk Tryz.prog 194 (FE.code 8 [.tmp 4] (bodyOf Tryz.f194)) := ⟨_, Tryz.func194, by kernel_rfl, Tryz.ntmps194, by rw [Tryz.results194], by kernel_rfl⟩
theorem fe_195 : FeOk Tryz.prog 195 (FE.code 9 [.tmp 4] (bodyOf Tryz.f195)) := ⟨_, Tryz.func195, by kernel_rfl, Tryz.ntmps195, by rw [Tryz.results195], by kernel_rfl⟩
theorem fe_196 : FeOk Tryz.prog 196 (FE.code 8 [.tmp 4] (bodyOf Tryz.f196)) := ⟨_, Tryz.func196, by kernel_rfl, Tryz.ntmps196, by rw [Tryz.results196], by kernel_rfl⟩
theorem fe_197 : FeOk Tryz.prog 197 (FE.code 30 [.tmp 2, .tmp 3] (bodyOf Tryz.f197)) := ⟨_, Tryz.func197, by kernel_rfl, Tryz.ntmps197, by rw [Tryz.results197], by kernel_rfl⟩
theorem fe_198 : FeOk Tryz.prog 198 (FE.code 28 [.tmp 2] (bodyOf Tryz.f198)) := ⟨_, Tryz.func198, by kernel_rfl, Tryz.ntmps198, by rw [Tryz.results198], by kernel_rfl⟩
theorem fe_199 : FeOk Tryz.prog 199 (FE.code 58 [.tmp 4] (bodyOf Tryz.f199)) := ⟨_, Tryz.func199, by kernel_rfl, Tryz.ntmps199, by rw [Tryz.results199], by kernel_rfl⟩
theorem fe_200 : FeOk Tryz.prog 200 (FE.code 7 [.tmp 3] (bodyOf Tryz.f200)) := ⟨_, Tryz.func200, by kernel_rfl, Tryz.ntmps200, by rw [Tryz.results200], by kernel_rfl⟩
theorem fe_201 : FeOk Tryz.prog 201 (FE.code 49 [.tmp 4] (bodyOf Tryz.f201)) := ⟨_, Tryz.func201, by kernel_rfl, Tryz.ntmps201, by rw [Tryz.results201], by kernel_rfl⟩
theorem fe_202 : FeOk Tryz.prog 202 (FE.code 10 [.tmp 4] (bodyOf Tryz.f202)) := ⟨_, Tryz.func202, by kernel_rfl, Tryz.ntmps202, by rw [Tryz.results202], by kernel_rfl⟩
theorem fe_203 : FeOk Tryz.prog 203 (FE.code 9 [.tmp 4] (bodyOf Tryz.f203)) := ⟨_, Tryz.func203, by kernel_rfl, Tryz.ntmps203, by rw [Tryz.results203], by kernel_rfl⟩
theorem fe_204 : FeOk Tryz.prog 204 (FE.code 11 [.tmp 3] (bodyOf Tryz.f204)) := ⟨_, Tryz.func204, by kernel_rfl, Tryz.ntmps204, by rw [Tryz.results204], by kernel_rfl⟩
theorem fe_205 : FeOk Tryz.prog 205 (FE.code 28 [.tmp 4] (bodyOf Tryz.f205)) := ⟨_, Tryz.func205, by kernel_rfl, Tryz.ntmps205, by rw [Tryz.results205], by kernel_rfl⟩
theorem fe_206 : FeOk Tryz.prog 206 (FE.code 11 [] (bodyOf Tryz.f206)) := ⟨_, Tryz.func206, by kernel_rfl, Tryz.ntmps206, by rw [Tryz.results206], by kernel_rfl⟩
theorem fe_207 : FeOk Tryz.prog 207 (FE.code 61 [.tmp 2] (bodyOf Tryz.f207)) := ⟨_, Tryz.func207, by kernel_rfl, Tryz.ntmps207, by rw [Tryz.results207], by kernel_rfl⟩
theorem fe_208 : FeOk Tryz.prog 208 (FE.code 22 [.tmp 2] (bodyOf Tryz.f208)) := ⟨_, Tryz.func208, by kernel_rfl, Tryz.ntmps208, by rw [Tryz.results208], by kernel_rfl⟩
theorem fe_209 : FeOk Tryz.prog 209 (FE.code 26 [.tmp 2] (bodyOf Tryz.f209)) := ⟨_, Tryz.func209, by kernel_rfl, Tryz.ntmps209, by rw [Tryz.results209], by kernel_rfl⟩
theorem fe_210 : FeOk Tryz.prog 210 (FE.code 17 [.tmp 4] (bodyOf Tryz.f210)) := ⟨_, Tryz.func210, by kernel_rfl, Tryz.ntmps210, by rw [Tryz.results210], by kernel_rfl⟩
theorem fe_211 : FeOk Tryz.prog 211 (FE.code 46 [.tmp 4] (bodyOf Tryz.f211)) := ⟨_, Tryz.func211, by kernel_rfl, Tryz.ntmps211, by rw [Tryz.results211], by kernel_rfl⟩
theorem fe_212 : FeOk Tryz.prog 212 (FE.code 8 [.tmp 2] (bodyOf Tryz.f212)) := ⟨_, Tryz.func212, by kernel_rfl, Tryz.ntmps212, by rw [Tryz.results212], by kernel_rfl⟩
theorem fe_213 : FeOk Tryz.prog 213 (FE.code 14 [] (bodyOf Tryz.f213)) := ⟨_, Tryz.func213, by kernel_rfl, Tryz.ntmps213, by rw [Tryz.results213], by kernel_rfl⟩
theorem fe_214 : FeOk Tryz.prog 214 (FE.code 17 [.tmp 4] (bodyOf Tryz.f214)) := ⟨_, Tryz.func214, by kernel_rfl, Tryz.ntmps214, by rw [Tryz.results214], by kernel_rfl⟩
theorem fe_215 : FeOk Tryz.prog 215 (FE.code 61 [.tmp 2] (bodyOf Tryz.f215)) := ⟨_, Tryz.func215, by kernel_rfl, Tryz.ntmps215, by rw [Tryz.results215], by kernel_rfl⟩
theorem fe_216 : FeOk Tryz.prog 216 (FE.code 8 [.tmp 2] (bodyOf Tryz.f216)) := ⟨_, Tryz.func216, by kernel_rfl, Tryz.ntmps216, by rw [Tryz.results216], by kernel_rfl⟩
theorem fe_217 : FeOk Tryz.prog 217 (FE.code 14 [] (bodyOf Tryz.f217)) := ⟨_, Tryz.func217, by kernel_rfl, Tryz.ntmps217, by rw [Tryz.results217], by kernel_rfl⟩
theorem fe_218 : FeOk Tryz.prog 218 (FE.code 22 [.tmp 4] (bodyOf Tryz.f218)) := ⟨_, Tryz.func218, by kernel_rfl, Tryz.ntmps218, by rw [Tryz.results218], by kernel_rfl⟩
theorem fe_219 : FeOk Tryz.prog 219 (FE.code 61 [.tmp 2] (bodyOf Tryz.f219)) := ⟨_, Tryz.func219, by kernel_rfl, Tryz.ntmps219, by rw [Tryz.results219], by kernel_rfl⟩
theorem fe_220 : FeOk Tryz.prog 220 (FE.code 14 [] (bodyOf Tryz.f220)) := ⟨_, Tryz.func220, by kernel_rfl, Tryz.ntmps220, by rw [Tryz.results220], by kernel_rfl⟩
theorem fe_221 : FeOk Tryz.prog 221 (FE.code 22 [.tmp 4] (bodyOf Tryz.f221)) := ⟨_, Tryz.func221, by kernel_rfl, Tryz.ntmps221, by rw [Tryz.results221], by kernel_rfl⟩
theorem fe_222 : FeOk Tryz.prog 222 (FE.code 66 [.tmp 4] (bodyOf Tryz.f222)) := ⟨_, Tryz.func222, by kernel_rfl, Tryz.ntmps222, by rw [Tryz.results222], by kernel_rfl⟩
theorem fe_223 : FeOk Tryz.prog 223 (FE.code 24 [.tmp 4] (bodyOf Tryz.f223)) := ⟨_, Tryz.func223, by kernel_rfl, Tryz.ntmps223, by rw [Tryz.results223], by kernel_rfl⟩
theorem fe_224 : FeOk Tryz.prog 224 (FE.code 14 [] (bodyOf Tryz.f224)) := ⟨_, Tryz.func224, by kernel_rfl, Tryz.ntmps224, by rw [Tryz.results224], by kernel_rfl⟩
theorem fe_225 : FeOk Tryz.prog 225 (FE.code 22 [.tmp 4] (bodyOf Tryz.f225)) := ⟨_, Tryz.func225, by kernel_rfl, Tryz.ntmps225, by rw [Tryz.results225], by kernel_rfl⟩
theorem fe_226 : FeOk Tryz.prog 226 (FE.code 36 [.tmp 4] (bodyOf Tryz.f226)) := ⟨_, Tryz.func226, by kernel_rfl, Tryz.ntmps226, by rw [Tryz.results226], by kernel_rfl⟩
theorem fe_227 : FeOk Tryz.prog 227 (FE.code 66 [.tmp 4] (bodyOf Tryz.f227)) := ⟨_, Tryz.func227, by kernel_rfl, Tryz.ntmps227, by rw [Tryz.results227], by kernel_rfl⟩
theorem fe_228 : FeOk Tryz.prog 228 (FE.code 24 [.tmp 4] (bodyOf Tryz.f228)) := ⟨_, Tryz.func228, by kernel_rfl, Tryz.ntmps228, by rw [Tryz.results228], by kernel_rfl⟩
theorem fe_229 : FeOk Tryz.prog 229 (FE.code 31 [.tmp 2] (bodyOf Tryz.f229)) := ⟨_, Tryz.func229, by kernel_rfl, Tryz.ntmps229, by rw [Tryz.results229], by kernel_rfl⟩
theorem fe_230 : FeOk Tryz.prog 230 (FE.code 34 [.tmp 2, .tmp 3] (bodyOf Tryz.f230)) := ⟨_, Tryz.func230, by kernel_rfl, Tryz.ntmps230, by rw [Tryz.results230], by kernel_rfl⟩
theorem fe_231 : FeOk Tryz.prog 231 (FE.code 9 [.tmp 4] (bodyOf Tryz.f231)) := ⟨_, Tryz.func231, by kernel_rfl, Tryz.ntmps231, by rw [Tryz.results231], by kernel_rfl⟩
theorem fe_232 : FeOk Tryz.prog 232 (FE.code 5 [.tmp 2] (bodyOf Tryz.f232)) := ⟨_, Tryz.func232, by kernel_rfl, Tryz.ntmps232, by rw [Tryz.results232], by kernel_rfl⟩
theorem fe_233 : FeOk Tryz.prog 233 (FE.code 7 [.tmp 3] (bodyOf Tryz.f233)) := ⟨_, Tryz.func233, by kernel_rfl, Tryz.ntmps233, by rw [Tryz.results233], by kernel_rfl⟩
theorem fe_234 : FeOk Tryz.prog 234 (FE.code 67 [.tmp 4] (bodyOf Tryz.f234)) := ⟨_, Tryz.func234, by kernel_rfl, Tryz.ntmps234, by rw [Tryz.results234], by kernel_rfl⟩
theorem fe_235 : FeOk Tryz.prog 235 (FE.code 71 [.tmp 4] (bodyOf Tryz.f235)) := ⟨_, Tryz.func235, by kernel_rfl, Tryz.ntmps235, by rw [Tryz.results235], by kernel_rfl⟩
theorem fe_236 : FeOk Tryz.prog 236 (FE.code 36 [.tmp 4] (bodyOf Tryz.f236)) := ⟨_, Tryz.func236, by kernel_rfl, Tryz.ntmps236, by rw [Tryz.results236], by kernel_rfl⟩
theorem fe_237 : FeOk Tryz.prog 237 (FE.code 8 [.tmp 2] (bodyOf Tryz.f237)) := ⟨_, Tryz.func237, by kernel_rfl, Tryz.ntmps237, by rw [Tryz.results237], by kernel_rfl⟩
theorem fe_238 : FeOk Tryz.prog 238 (FE.code 14 [] (bodyOf Tryz.f238)) := ⟨_, Tryz.func238, by kernel_rfl, Tryz.ntmps238, by rw [Tryz.results238], by kernel_rfl⟩
theorem fe_239 : FeOk Tryz.prog 239 (FE.code 24 [.tmp 4] (bodyOf Tryz.f239)) := ⟨_, Tryz.func239, by kernel_rfl, Tryz.ntmps239, by rw [Tryz.results239], by kernel_rfl⟩
theorem fe_240 : FeOk Tryz.prog 240 (FE.code 39 [.tmp 2] (bodyOf Tryz.f240)) := ⟨_, Tryz.func240, by kernel_rfl, Tryz.ntmps240, by rw [Tryz.results240], by kernel_rfl⟩
theorem fe_241 : FeOk Tryz.prog 241 (FE.code 25 [.tmp 4] (bodyOf Tryz.f241)) := ⟨_, Tryz.func241, by kernel_rfl, Tryz.ntmps241, by rw [Tryz.results241], by kernel_rfl⟩
theorem fe_242 : FeOk Tryz.prog 242 (FE.code 54 [.tmp 4] (bodyOf Tryz.f242)) := ⟨_, Tryz.func242, by kernel_rfl, Tryz.ntmps242, by rw [Tryz.results242], by kernel_rfl⟩
theorem fe_243 : FeOk Tryz.prog 243 (FE.code 63 [] (bodyOf Tryz.f243)) := ⟨_, Tryz.func243, by kernel_rfl, Tryz.ntmps243, by rw [Tryz.results243], by kernel_rfl⟩
theorem fe_244 : FeOk Tryz.prog 244 (FE.code 6 [.tmp 2] (bodyOf Tryz.f244)) := ⟨_, Tryz.func244, by kernel_rfl, Tryz.ntmps244, by rw [Tryz.results244], by kernel_rfl⟩
theorem fe_245 : FeOk Tryz.prog 245 (FE.code 8 [.tmp 4] (bodyOf Tryz.f245)) := ⟨_, Tryz.func245, by kernel_rfl, Tryz.ntmps245, by rw [Tryz.results245], by kernel_rfl⟩
theorem fe_246 : FeOk Tryz.prog 246 (FE.code 37 [.tmp 4] (bodyOf Tryz.f246)) := ⟨_, Tryz.func246, by kernel_rfl, Tryz.ntmps246, by rw [Tryz.results246], by kernel_rfl⟩
theorem fe_247 : FeOk Tryz.prog 247 (FE.code 22 [.tmp 2] (bodyOf Tryz.f247)) := ⟨_, Tryz.func247, by kernel_rfl, Tryz.ntmps247, by rw [Tryz.results247], by kernel_rfl⟩
theorem fe_248 : FeOk Tryz.prog 248 (FE.code 11 [.cell 2 99] (bodyOf Tryz.f248)) := ⟨_, Tryz.func248, by kernel_rfl, Tryz.ntmps248, by rw [Tryz.results248], by kernel_rfl⟩
theorem fe_249 : FeOk Tryz.prog 249 (FE.code 9 [.cell 2 99] (bodyOf Tryz.f249)) := ⟨_, Tryz.func249, by kernel_rfl, Tryz.ntmps249, by rw [Tryz.results249], by kernel_rfl⟩
theorem fe_250 : FeOk Tryz.prog 250 (FE.code 89 [.tmp 2] (bodyOf Tryz.f250)) := ⟨_, Tryz.func250, by kernel_rfl, Tryz.ntmps250, by rw [Tryz.results250], by kernel_rfl⟩
theorem fe_251 : FeOk Tryz.prog 251 (FE.code 22 [.cell 6 99] (bodyOf Tryz.f251)) := ⟨_, Tryz.func251, by kernel_rfl, Tryz.ntmps251, by rw [Tryz.results251], by kernel_rfl⟩
theorem fe_252 : FeOk Tryz.prog 252 (FE.code 101 [.cell 2 99] (bodyOf Tryz.f252)) := ⟨_, Tryz.func252, by kernel_rfl, Tryz.ntmps252, by rw [Tryz.results252], by kernel_rfl⟩
theorem fe_253 : FeOk Tryz.prog 253 (FE.code 35 [] (bodyOf Tryz.f253)) := ⟨_, Tryz.func253, by kernel_rfl, Tryz.ntmps253, by rw [Tryz.results253], by kernel_rfl⟩
theorem fe_254 : FeOk Tryz.prog 254 (FE.code 38 [.cell 4 99, .tmp 5] (bodyOf Tryz.f254)) := ⟨_, Tryz.func254, by kernel_rfl, Tryz.ntmps254, by rw [Tryz.results254], by kernel_rfl⟩
theorem fe_255 : FeOk Tryz.prog 255 (FE.code 35 [.tmp 4] (bodyOf Tryz.f255)) := ⟨_, Tryz.func255, by kernel_rfl, Tryz.ntmps255, by rw [Tryz.results255], by kernel_rfl⟩
theorem fe_256 : FeOk Tryz.prog 256 (FE.code 52 [.cell 4 130] (bodyOf Tryz.f256)) := ⟨_, Tryz.func256, by kernel_rfl, Tryz.ntmps256, by rw [Tryz.results256], by kernel_rfl⟩
theorem fe_257 : FeOk Tryz.prog 257 (FE.code 14 [.cell 4 99] (bodyOf Tryz.f257)) := ⟨_, Tryz.func257, by kernel_rfl, Tryz.ntmps257, by rw [Tryz.results257], by kernel_rfl⟩
theorem fe_258 : FeOk Tryz.prog 258 (FE.code 7 [.tmp 2] (bodyOf Tryz.f258)) := ⟨_, Tryz.func258, by kernel_rfl, Tryz.ntmps258, by rw [Tryz.results258], by kernel_rfl⟩
theorem fe_259 : FeOk Tryz.prog 259 (FE.code 7 [.tmp 2] (bodyOf Tryz.f259)) := ⟨_, Tryz.func259, by kernel_rfl, Tryz.ntmps259, by rw [Tryz.results259], by kernel_rfl⟩
theorem fe_260 : FeOk Tryz.prog 260 (FE.code 9 [.tmp 4] (bodyOf Tryz.f260)) := ⟨_, Tryz.func260, by kernel_rfl, Tryz.ntmps260, by rw [Tryz.results260], by kernel_rfl⟩
theorem fe_261 : FeOk Tryz.prog 261 (FE.code 8 [.tmp 3] (bodyOf Tryz.f261)) := ⟨_, Tryz.func261, by kernel_rfl, Tryz.ntmps261, by rw [Tryz.results261], by kernel_rfl⟩
theorem fe_262 : FeOk Tryz.prog 262 (FE.code 63 [] (bodyOf Tryz.f262)) := ⟨_, Tryz.func262, by kernel_rfl, Tryz.ntmps262, by rw [Tryz.results262], by kernel_rfl⟩
theorem fe_263 : FeOk Tryz.prog 263 (FE.code 63 [] (bodyOf Tryz.f263)) := ⟨_, Tryz.func263, by kernel_rfl, Tryz.ntmps263, by rw [Tryz.results263], by kernel_rfl⟩
theorem fe_264 : FeOk Tryz.prog 264 (FE.code 63 [] (bodyOf Tryz.f264)) := ⟨_, Tryz.func264, by kernel_rfl, Tryz.ntmps264, by rw [Tryz.results264], by kernel_rfl⟩
theorem fe_265 : FeOk Tryz.prog 265 (FE.code 20 [] (bodyOf Tryz.f265)) := ⟨_, Tryz.func265, by kernel_rfl, Tryz.ntmps265, by rw [Tryz.results265], by kernel_rfl⟩
theorem fe_266 : FeOk Tryz.prog 266 (FE.code 14 [.tmp 2] (bodyOf Tryz.f266)) := ⟨_, Tryz.func266, by kernel_rfl, Tryz.ntmps266, by rw [Tryz.results266], by kernel_rfl⟩
theorem fe_267 : FeOk Tryz.prog 267 (FE.code 5 [.tmp 2] (bodyOf Tryz.f267)) := ⟨_, Tryz.func267, by kernel_rfl, Tryz.ntmps267, by rw [Tryz.results267], by kernel_rfl⟩
theorem fe_268 : FeOk Tryz.prog 268 (FE.code 5 [.tmp 2] (bodyOf Tryz.f268)) := ⟨_, Tryz.func268, by kernel_rfl, Tryz.ntmps268, by rw [Tryz.results268], by kernel_rfl⟩
theorem fe_269 : FeOk Tryz.prog 269 (FE.code 41 [.tmp 2, .tmp 3] (bodyOf Tryz.f269)) := ⟨_, Tryz.func269, by kernel_rfl, Tryz.ntmps269, by rw [Tryz.results269], by kernel_rfl⟩
theorem fe_270 : FeOk Tryz.prog 270 (FE.code 32 [.tmp 6] (bodyOf Tryz.f270)) := ⟨_, Tryz.func270, by kernel_rfl, Tryz.ntmps270, by rw [Tryz.results270], by kernel_rfl⟩
theorem fe_271 : FeOk Tryz.prog 271 (FE.code 45 [.tmp 4] (bodyOf Tryz.f271)) := ⟨_, Tryz.func271, by kernel_rfl, Tryz.ntmps271, by rw [Tryz.results271], by kernel_rfl⟩
theorem fe_272 : FeOk Tryz.prog 272 (FE.code 60 [] (bodyOf Tryz.f272)) := ⟨_, Tryz.func272, by kernel_rfl, Tryz.ntmps272, by rw [Tryz.results272], by kernel_rfl⟩
theorem fe_273 : FeOk Tryz.prog 273 (FE.code 29 [] (bodyOf Tryz.f273)) := ⟨_, Tryz.func273, by kernel_rfl, Tryz.ntmps273, by rw [Tryz.results273], by kernel_rfl⟩
theorem fe_274 : FeOk Tryz.prog 274 (FE.code 14 [] (bodyOf Tryz.f274)) := ⟨_, Tryz.func274, by kernel_rfl, Tryz.ntmps274, by rw [Tryz.results274], by kernel_rfl⟩
theorem fe_275 : FeOk Tryz.prog 275 (FE.code 23 [] (bodyOf Tryz.f275)) := ⟨_, Tryz.func275, by kernel_rfl, Tryz.ntmps275, by rw [Tryz.results275], by kernel_rfl⟩
theorem fe_276 : FeOk Tryz.prog 276 (FE.code 17 [.tmp 4] (bodyOf Tryz.f276)) := ⟨_, Tryz.func276, by kernel_rfl, Tryz.ntmps276, by rw [Tryz.results276], by kernel_rfl⟩
theorem fe_277 : FeOk Tryz.prog 277 (FE.code 19 [.tmp 4] (bodyOf Tryz.f277)) := ⟨_, Tryz.func277, by kernel_rfl, Tryz.ntmps277, by rw [Tryz.results277], by kernel_rfl⟩
theorem fe_278 : FeOk Tryz.prog 278 (FE.code 29 [.tmp 2, .tmp 3] (bodyOf Tryz.f278)) := ⟨_, Tryz.func278, by kernel_rfl, Tryz.ntmps278, by rw [Tryz.results278], by kernel_rfl⟩
theorem fe_279 : FeOk Tryz.prog 279 (FE.code 25 [.cell 4 93, .tmp 5] (bodyOf Tryz.f279)) := ⟨_, Tryz.func279, by kernel_rfl, Tryz.ntmps279, by rw [Tryz.results279], by kernel_rfl⟩
theorem fe_280 : FeOk Tryz.prog 280 (FE.code 50 [.tmp 4] (bodyOf Tryz.f280)) := ⟨_, Tryz.func280, by kernel_rfl, Tryz.ntmps280, by rw [Tryz.results280], by kernel_rfl⟩
theorem fe_281 : FeOk Tryz.prog 281 (FE.code 16 [.tmp 2] (bodyOf Tryz.f281)) := ⟨_, Tryz.func281, by kernel_rfl, Tryz.ntmps281, by rw [Tryz.results281], by kernel_rfl⟩
theorem fe_282 : FeOk Tryz.prog 282 (FE.code 20 [.tmp 2] (bodyOf Tryz.f282)) := ⟨_, Tryz.func282, by kernel_rfl, Tryz.ntmps282, by rw [Tryz.results282], by kernel_rfl⟩
theorem fe_283 : FeOk Tryz.prog 283 (FE.code 19 [.tmp 4] (bodyOf Tryz.f283)) := ⟨_, Tryz.func283, by kernel_rfl, Tryz.ntmps283, by rw [Tryz.results283], by kernel_rfl⟩
theorem fe_284 : FeOk Tryz.prog 284 (FE.code 19 [.tmp 4] (bodyOf Tryz.f284)) := ⟨_, Tryz.func284, by kernel_rfl, Tryz.ntmps284, by rw [Tryz.results284], by kernel_rfl⟩
theorem fe_285 : FeOk Tryz.prog 285 (FE.code 19 [.tmp 4] (bodyOf Tryz.f285)) := ⟨_, Tryz.func285, by kernel_rfl, Tryz.ntmps285, by rw [Tryz.results285], by kernel_rfl⟩
theorem fe_286 : FeOk Tryz.prog 286 (FE.code 19 [.tmp 4] (bodyOf Tryz.f286)) := ⟨_, Tryz.func286, by kernel_rfl, Tryz.ntmps286, by rw [Tryz.results286], by kernel_rfl⟩
theorem fe_287 : FeOk Tryz.prog 287 (FE.code 27 [.tmp 4] (bodyOf Tryz.f287)) := ⟨_, Tryz.func287, by kernel_rfl, Tryz.ntmps287, by rw [Tryz.results287], by kernel_rfl⟩
theorem fe_288 : FeOk Tryz.prog 288 (FE.code 9 [.tmp 3] (bodyOf Tryz.f288)) := ⟨_, Tryz.func288, by kernel_rfl, Tryz.ntmps288, by rw [Tryz.results288], by kernel_rfl⟩
theorem fe_289 : FeOk Tryz.prog 289 (FE.code 27 [.tmp 4] (bodyOf Tryz.f289)) := ⟨_, Tryz.func289, by kernel_rfl, Tryz.ntmps289, by rw [Tryz.results289], by kernel_rfl⟩
theorem fe_290 : FeOk Tryz.prog 290 (FE.code 27 [.tmp 4] (bodyOf Tryz.f290)) := ⟨_, Tryz.func290, by kernel_rfl, Tryz.ntmps290, by rw [Tryz.results290], by kernel_rfl⟩
theorem fe_291 : FeOk Tryz.prog 291 (FE.code 75 [.tmp 4] (bodyOf Tryz.f291)) := ⟨_, Tryz.func291, by kernel_rfl, Tryz.ntmps291, by rw [Tryz.results291], by kernel_rfl⟩
theorem fe_292 : FeOk Tryz.prog 292 (FE.code 17 [.tmp 2] (bodyOf Tryz.f292)) := ⟨_, Tryz.func292, by kernel_rfl, Tryz.ntmps292, by rw [Tryz.results292], by kernel_rfl⟩
theorem fe_293 : FeOk Tryz.prog 293 (FE.code 9 [.tmp 4] (bodyOf Tryz.f293)) := ⟨_, Tryz.func293, by kernel_rfl, Tryz.ntmps293, by rw [Tryz.results293], by kernel_rfl⟩
theorem fe_294 : FeOk Tryz.prog 294 (FE.code 22 [.tmp 5] (bodyOf Tryz.f294)) := ⟨_, Tryz.func294, by kernel_rfl, Tryz.ntmps294, by rw [Tryz.results294], by kernel_rfl⟩
theorem fe_295 : FeOk Tryz.prog 295 (FE.code 22 [.tmp 4] (bodyOf Tryz.f295)) := ⟨_, Tryz.func295, by kernel_rfl, Tryz.ntmps295, by rw [Tryz.results295], by kernel_rfl⟩
theorem fe_296 : FeOk Tryz.prog 296 (FE.code 8 [.tmp 4] (bodyOf Tryz.f296)) := ⟨_, Tryz.func296, by kernel_rfl, Tryz.ntmps296, by rw [Tryz.results296], by kernel_rfl⟩
theorem fe_297 : FeOk Tryz.prog 297 (FE.code 21 [.tmp 6] (bodyOf Tryz.f297)) := ⟨_, Tryz.func297, by kernel_rfl, Tryz.ntmps297, by rw [Tryz.results297], by kernel_rfl⟩
theorem fe_298 : FeOk Tryz.prog 298 (FE.code 37 [.cell 8 303, .tmp 9] (bodyOf Tryz.f298)) := ⟨_, Tryz.func298, by kernel_rfl, Tryz.ntmps298, by rw [Tryz.results298], by kernel_rfl⟩
theorem fe_299 : FeOk Tryz.prog 299 (FE.code 48 [.tmp 8] (bodyOf Tryz.f299)) := ⟨_, Tryz.func299, by kernel_rfl, Tryz.ntmps299, by rw [Tryz.results299], by kernel_rfl⟩
theorem fe_300 : FeOk Tryz.prog 300 (FE.code 9 [.tmp 3] (bodyOf Tryz.f300)) := ⟨_, Tryz.func300, by kernel_rfl, Tryz.ntmps300, by rw [Tryz.results300], by kernel_rfl⟩
theorem fe_301 : FeOk Tryz.prog 301 (FE.code 19 [.tmp 4] (bodyOf Tryz.f301)) := ⟨_, Tryz.func301, by kernel_rfl, Tryz.ntmps301, by rw [Tryz.results301], by kernel_rfl⟩
theorem fe_302 : FeOk Tryz.prog 302 (FE.code 9 [.tmp 4] (bodyOf Tryz.f302)) := ⟨_, Tryz.func302, by kernel_rfl, Tryz.ntmps302, by rw [Tryz.results302], by kernel_rfl⟩
theorem fe_303 : FeOk Tryz.prog 303 (FE.code 11 [.tmp 6] (bodyOf Tryz.f303)) := ⟨_, Tryz.func303, by kernel_rfl, Tryz.ntmps303, by rw [Tryz.results303], by kernel_rfl⟩
theorem fe_304 : FeOk Tryz.prog 304 (FE.code 8 [.tmp 4] (bodyOf Tryz.f304)) := ⟨_, Tryz.func304, by kernel_rfl, Tryz.ntmps304, by rw [Tryz.results304], by kernel_rfl⟩
theorem fe_305 : FeOk Tryz.prog 305 (FE.code 143 [.tmp 4] (bodyOf Tryz.f305)) := ⟨_, Tryz.func305, by kernel_rfl, Tryz.ntmps305, by rw [Tryz.results305], by kernel_rfl⟩
theorem fe_306 : FeOk Tryz.prog 306 (FE.code 52 [] (bodyOf Tryz.f306)) := ⟨_, Tryz.func306, by kernel_rfl, Tryz.ntmps306, by rw [Tryz.results306], by kernel_rfl⟩
theorem fe_307 : FeOk Tryz.prog 307 (FE.code 19 [.tmp 2, .tmp 3] (bodyOf Tryz.f307)) := ⟨_, Tryz.func307, by kernel_rfl, Tryz.ntmps307, by rw [Tryz.results307], by kernel_rfl⟩
theorem fe_308 : FeOk Tryz.prog 308 (FE.code 16 [.tmp 4] (bodyOf Tryz.f308)) := ⟨_, Tryz.func308, by kernel_rfl, Tryz.ntmps308, by rw [Tryz.results308], by kernel_rfl⟩
theorem fe_309 : FeOk Tryz.prog 309 (FE.code 8 [.tmp 4] (bodyOf Tryz.f309)) := ⟨_, Tryz.func309, by kernel_rfl, Tryz.ntmps309, by rw [Tryz.results309], by kernel_rfl⟩
theorem fe_310 : FeOk Tryz.prog 310 (FE.code 43 [.tmp 4] (bodyOf Tryz.f310)) := ⟨_, Tryz.func310, by kernel_rfl, Tryz.ntmps310, by rw [Tryz.results310], by kernel_rfl⟩
theorem fe_311 : FeOk Tryz.prog 311 (FE.code 18 [.tmp 2, .tmp 3] (bodyOf Tryz.f311)) := ⟨_, Tryz.func311, by kernel_rfl, Tryz.ntmps311, by rw [Tryz.results311], by kernel_rfl⟩
theorem fe_312 : FeOk Tryz.prog 312 (FE.code 9 [.tmp 3] (bodyOf Tryz.f312)) := ⟨_, Tryz.func312, by kernel_rfl, Tryz.ntmps312, by rw [Tryz.results312], by kernel_rfl⟩
theorem fe_313 : FeOk Tryz.prog 313 (FE.code 19 [.tmp 4] (bodyOf Tryz.f313)) := ⟨_, Tryz.func313, by kernel_rfl, Tryz.ntmps313, by rw [Tryz.results313], by kernel_rfl⟩
theorem fe_314 : FeOk Tryz.prog 314 (FE.code 54 [.tmp 4, .tmp 5] (bodyOf Tryz.f314)) := ⟨_, Tryz.func314, by kernel_rfl, Tryz.ntmps314, by rw [Tryz.results314], by kernel_rfl⟩
theorem fe_315 : FeOk Tryz.prog 315 (FE.code 134 [] (bodyOf Tryz.f315)) := ⟨_, Tryz.func315, by kernel_rfl, Tryz.ntmps315, by rw [Tryz.results315], by kernel_rfl⟩
theorem fe_316 : FeOk Tryz.prog 316 (FE.code 8 [.tmp 2] (bodyOf Tryz.f316)) := ⟨_, Tryz.func316, by kernel_rfl, Tryz.ntmps316, by rw [Tryz.results316], by kernel_rfl⟩
theorem fe_317 : FeOk Tryz.prog 317 (FE.code 148 [] (bodyOf Tryz.f317)) := ⟨_, Tryz.func317, by kernel_rfl, Tryz.ntmps317, by rw [Tryz.results317], by kernel_rfl⟩
theorem fe_318 : FeOk Tryz.prog 318 (FE.code 148 [] (bodyOf Tryz.f318)) := ⟨_, Tryz.func318, by kernel_rfl, Tryz.ntmps318, by rw [Tryz.results318], by kernel_rfl⟩
theorem fe_319 : FeOk Tryz.prog 319 (FE.code 148 [] (bodyOf Tryz.f319)) := ⟨_, Tryz.func319, by kernel_rfl, Tryz.ntmps319, by rw [Tryz.results319], by kernel_rfl⟩
theorem fe_320 : FeOk Tryz.prog 320 (FE.code 148 [] (bodyOf Tryz.f320)) := ⟨_, Tryz.func320, by kernel_rfl, Tryz.ntmps320, by rw [Tryz.results320], by kernel_rfl⟩
theorem fe_321 : FeOk Tryz.prog 321 (FE.code 20 [.tmp 4] (bodyOf Tryz.f321)) := ⟨_, Tryz.func321, by kernel_rfl, Tryz.ntmps321, by rw [Tryz.results321], by kernel_rfl⟩
theorem fe_322 : FeOk Tryz.prog 322 (FE.code 8 [.tmp 4] (bodyOf Tryz.f322)) := ⟨_, Tryz.func322, by kernel_rfl, Tryz.ntmps322, by rw [Tryz.results322], by kernel_rfl⟩
theorem fe_323 : FeOk Tryz.prog 323 (FE.code 6 [.tmp 2] (bodyOf Tryz.f323)) := ⟨_, Tryz.func323, by kernel_rfl, Tryz.ntmps323, by rw [Tryz.results323], by kernel_rfl⟩
theorem fe_324 : FeOk Tryz.prog 324 (FE.code 62 [.cell 2 303, .tmp 3] (bodyOf Tryz.f324)) := ⟨_, Tryz.func324, by kernel_rfl, Tryz.ntmps324, by rw [Tryz.results324], by kernel_rfl⟩
theorem fe_325 : FeOk Tryz.prog 325 (FE.code 19 [.tmp 4] (bodyOf Tryz.f325)) := ⟨_, Tryz.func325, by kernel_rfl, Tryz.ntmps325, by rw [Tryz.results325], by kernel_rfl⟩
theorem fe_326 : FeOk Tryz.prog 326 (FE.code 30 [.tmp 4] (bodyOf Tryz.f326)) := ⟨_, Tryz.func326, by kernel_rfl, Tryz.ntmps326, by rw [Tryz.results326], by kernel_rfl⟩
theorem fe_327 : FeOk Tryz.prog 327 (FE.code 19 [.tmp 4] (bodyOf Tryz.f327)) := ⟨_, Tryz.func327, by kernel_rfl, Tryz.ntmps327, by rw [Tryz.results327], by kernel_rfl⟩
theorem fe_328 : FeOk Tryz.prog 328 (FE.code 87 [.tmp 4] (bodyOf Tryz.f328)) := ⟨_, Tryz.func328, by kernel_rfl, Tryz.ntmps328, by rw [Tryz.results328], by kernel_rfl⟩
theorem fe_329 : FeOk Tryz.prog 329 (FE.code 148 [] (bodyOf Tryz.f329)) := ⟨_, Tryz.func329, by kernel_rfl, Tryz.ntmps329, by rw [Tryz.results329], by kernel_rfl⟩
theorem fe_330 : FeOk Tryz.prog 330 (FE.code 4 [.tmp 2] (bodyOf Tryz.f330)) := ⟨_, Tryz.func330, by kernel_rfl, Tryz.ntmps330, by rw [Tryz.results330], by kernel_rfl⟩
theorem fe_331 : FeOk Tryz.prog 331 (FE.code 53 [] (bodyOf Tryz.f331)) := ⟨_, Tryz.func331, by kernel_rfl, Tryz.ntmps331, by rw [Tryz.results331], by kernel_rfl⟩
theorem fe_332 : FeOk Tryz.prog 332 (FE.code 220 [] (bodyOf Tryz.f332)) := ⟨_, Tryz.func332, by kernel_rfl, Tryz.ntmps332, by rw [Tryz.results332], by kernel_rfl⟩
theorem fe_333 : FeOk Tryz.prog 333 (FE.pure cmpX) := cmp_ok Tryz.func333 (by kernel_rfl) (by kernel_rfl) (by kernel_rfl) (by kernel_rfl)
theorem fe_334 : FeOk Tryz.prog 334 (FE.code 17 [.tmp 4] (bodyOf Tryz.f334)) := ⟨_, Tryz.func334, by kernel_rfl, Tryz.ntmps334, by rw [Tryz.results334], by kernel_rfl⟩
theorem fe_335 : FeOk Tryz.prog 335 (FE.code 21 [.cell 2 376, .tmp 3] (bodyOf Tryz.f335)) := ⟨_, Tryz.func335, by kernel_rfl, Tryz.ntmps335, by rw [Tryz.results335], by kernel_rfl⟩
theorem fe_336 : FeOk Tryz.prog 336 (FE.code 16 [.tmp 4] (bodyOf Tryz.f336)) := ⟨_, Tryz.func336, by kernel_rfl, Tryz.ntmps336, by rw [Tryz.results336], by kernel_rfl⟩
theorem fe_337 : FeOk Tryz.prog 337 (FE.code 23 [.tmp 4] (bodyOf Tryz.f337)) := ⟨_, Tryz.func337, by kernel_rfl, Tryz.ntmps337, by rw [Tryz.results337], by kernel_rfl⟩
theorem fe_338 : FeOk Tryz.prog 338 (FE.code 55 [] (bodyOf Tryz.f338)) := ⟨_, Tryz.func338, by kernel_rfl, Tryz.ntmps338, by rw [Tryz.results338], by kernel_rfl⟩
theorem fe_339 : FeOk Tryz.prog 339 (FE.code 48 [] (bodyOf Tryz.f339)) := ⟨_, Tryz.func339, by kernel_rfl, Tryz.ntmps339, by rw [Tryz.results339], by kernel_rfl⟩
theorem fe_340 : FeOk Tryz.prog 340 (FE.code 29 [.tmp 4] (bodyOf Tryz.f340)) := ⟨_, Tryz.func340, by kernel_rfl, Tryz.ntmps340, by rw [Tryz.results340], by kernel_rfl⟩
theorem fe_341 : FeOk Tryz.prog 341 (FE.code 11 [] (bodyOf Tryz.f341)) := ⟨_, Tryz.func341, by kernel_rfl, Tryz.ntmps341, by rw [Tryz.results341], by kernel_rfl⟩
theorem fe_342 : FeOk Tryz.prog 342 (FE.code 44 [.tmp 2, .tmp 3] (bodyOf Tryz.f342)) := ⟨_, Tryz.func342, by kernel_rfl, Tryz.ntmps342, by rw [Tryz.results342], by kernel_rfl⟩
theorem fe_343 : FeOk Tryz.prog 343 (FE.code 41 [] (bodyOf Tryz.f343)) := ⟨_, Tryz.func343, by kernel_rfl, Tryz.ntmps343, by rw [Tryz.results343], by kernel_rfl⟩
theorem fe_344 : FeOk Tryz.prog 344 (FE.code 19 [.tmp 4] (bodyOf Tryz.f344)) := ⟨_, Tryz.func344, by kernel_rfl, Tryz.ntmps344, by rw [Tryz.results344], by kernel_rfl⟩
theorem fe_345 : FeOk Tryz.prog 345 (FE.code 6 [.tmp 2] (bodyOf Tryz.f345)) := ⟨_, Tryz.func345, by kernel_rfl, Tryz.ntmps345, by rw [Tryz.results345], by kernel_rfl⟩
theorem fe_346 : FeOk Tryz.prog 346 (FE.code 6 [.tmp 2] (bodyOf Tryz.f346)) := ⟨_, Tryz.func346, by kernel_rfl, Tryz.ntmps346, by rw [Tryz.results346], by kernel_rfl⟩
theorem fe_347 : FeOk Tryz.prog 347 (FE.code 10 [.tmp 2] (bodyOf Tryz.f347)) := ⟨_, Tryz.func347, by kernel_rfl, Tryz.ntmps347, by rw [Tryz.results347], by kernel_rfl⟩
theorem fe_348 : FeOk Tryz.prog 348 (FE.code 53 [] (bodyOf Tryz.f348)) := ⟨_, Tryz.func348, by kernel_rfl, Tryz.ntmps348, by rw [Tryz.results348], by kernel_rfl⟩
theorem fe_349 : FeOk Tryz.prog 349 (FE.code 220 [] (bodyOf Tryz.f349)) := ⟨_, Tryz.func349, by kernel_rfl, Tryz.ntmps349, by rw [Tryz.results349], by kernel_rfl⟩
theorem fe_350 : FeOk Tryz.prog 350 (FE.code 53 [] (bodyOf Tryz.f350)) := ⟨_, Tryz.func350, by kernel_rfl, Tryz.ntmps350, by rw [Tryz.results350], by kernel_rfl⟩
theorem fe_351 : FeOk Tryz.prog 351 (FE.code 220 [] (bodyOf Tryz.f351)) := ⟨_, Tryz.func351, by kernel_rfl, Tryz.ntmps351, by rw [Tryz.results351], by kernel_rfl⟩
theorem fe_352 : FeOk Tryz.prog 352 (FE.code 53 [] (bodyOf Tryz.f352)) := ⟨_, Tryz.func352, by kernel_rfl, Tryz.ntmps352, by rw [Tryz.results352], by kernel_rfl⟩
theorem fe_353 : FeOk Tryz.prog 353 (FE.code 220 [] (bodyOf Tryz.f353)) := ⟨_, Tryz.func353, by kernel_rfl, Tryz.ntmps353, by rw [Tryz.results353], by kernel_rfl⟩
theorem fe_354 : FeOk Tryz.prog 354 (FE.pure sameX) := same_ok Tryz.func354 (by kernel_rfl) (by kernel_rfl) (by kernel_rfl) (by kernel_rfl)
theorem fe_355 : FeOk Tryz.prog 355 (FE.code 5 [.tmp 2] (bodyOf Tryz.f355)) := ⟨_, Tryz.func355, by kernel_rfl, Tryz.ntmps355, by rw [Tryz.results355], by kernel_rfl⟩
theorem fe_356 : FeOk Tryz.prog 356 (FE.code 58 [.tmp 2] (bodyOf Tryz.f356)) := ⟨_, Tryz.func356, by kernel_rfl, Tryz.ntmps356, by rw [Tryz.results356], by kernel_rfl⟩
theorem fe_357 : FeOk Tryz.prog 357 (FE.code 26 [.tmp 4] (bodyOf Tryz.f357)) := ⟨_, Tryz.func357, by kernel_rfl, Tryz.ntmps357, by rw [Tryz.results357], by kernel_rfl⟩
theorem fe_358 : FeOk Tryz.prog 358 (FE.code 12 [.tmp 4] (bodyOf Tryz.f358)) := ⟨_, Tryz.func358, by kernel_rfl, Tryz.ntmps358, by rw [Tryz.results358], by kernel_rfl⟩
theorem fe_359 : FeOk Tryz.prog 359 (FE.code 25 [] (bodyOf Tryz.f359)) := ⟨_, Tryz.func359, by kernel_rfl, Tryz.ntmps359, by rw [Tryz.results359], by kernel_rfl⟩
theorem fe_360 : FeOk Tryz.prog 360 (FE.code 19 [.tmp 4] (bodyOf Tryz.f360)) := ⟨_, Tryz.func360, by kernel_rfl, Tryz.ntmps360, by rw [Tryz.results360], by kernel_rfl⟩
theorem fe_361 : FeOk Tryz.prog 361 (FE.code 13 [.tmp 3] (bodyOf Tryz.f361)) := ⟨_, Tryz.func361, by kernel_rfl, Tryz.ntmps361, by rw [Tryz.results361], by kernel_rfl⟩
theorem fe_362 : FeOk Tryz.prog 362 (FE.code 10 [.tmp 6] (bodyOf Tryz.f362)) := ⟨_, Tryz.func362, by kernel_rfl, Tryz.ntmps362, by rw [Tryz.results362], by kernel_rfl⟩
theorem fe_363 : FeOk Tryz.prog 363 (FE.code 15 [.tmp 4] (bodyOf Tryz.f363)) := ⟨_, Tryz.func363, by kernel_rfl, Tryz.ntmps363, by rw [Tryz.results363], by kernel_rfl⟩
theorem fe_364 : FeOk Tryz.prog 364 (FE.code 7 [.tmp 3] (bodyOf Tryz.f364)) := ⟨_, Tryz.func364, by kernel_rfl, Tryz.ntmps364, by rw [Tryz.results364], by kernel_rfl⟩
theorem fe_365 : FeOk Tryz.prog 365 (FE.code 20 [.tmp 4] (bodyOf Tryz.f365)) := ⟨_, Tryz.func365, by kernel_rfl, Tryz.ntmps365, by rw [Tryz.results365], by kernel_rfl⟩
theorem fe_367 : FeOk Tryz.prog 367 (FE.code 6 [.tmp 2] (bodyOf Tryz.f367)) := ⟨_, Tryz.func367, by kernel_rfl, Tryz.ntmps367, by rw [Tryz.results367], by kernel_rfl⟩
theorem fe_368 : FeOk Tryz.prog 368 (FE.code 81 [.tmp 4] (bodyOf Tryz.f368)) := ⟨_, Tryz.func368, by kernel_rfl, Tryz.ntmps368, by rw [Tryz.results368], by kernel_rfl⟩
theorem fe_369 : FeOk Tryz.prog 369 (FE.code 117 [.tmp 2, .tmp 3] (bodyOf Tryz.f369)) := ⟨_, Tryz.func369, by kernel_rfl, Tryz.ntmps369, by rw [Tryz.results369], by kernel_rfl⟩
theorem fe_370 : FeOk Tryz.prog 370 (FE.code 21 [.tmp 4] (bodyOf Tryz.f370)) := ⟨_, Tryz.func370, by kernel_rfl, Tryz.ntmps370, by rw [Tryz.results370], by kernel_rfl⟩
theorem fe_371 : FeOk Tryz.prog 371 (FE.pure idxX) := idx_ok Tryz.func371 (by kernel_rfl) (by kernel_rfl) (by kernel_rfl) (by kernel_rfl)
theorem fe_372 : FeOk Tryz.prog 372 (FE.code 23 [.tmp 4] (bodyOf Tryz.f372)) := ⟨_, Tryz.func372, by kernel_rfl, Tryz.ntmps372, by rw [Tryz.results372], by kernel_rfl⟩
theorem fe_373 : FeOk Tryz.prog 373 (FE.code 22 [.tmp 4] (bodyOf Tryz.f373)) := ⟨_, Tryz.func373, by kernel_rfl, Tryz.ntmps373, by rw [Tryz.results373], by kernel_rfl⟩
theorem fe_374 : FeOk Tryz.prog 374 (FE.code 34 [.tmp 4] (bodyOf Tryz.f374)) := ⟨_, Tryz.func374, by kernel_rfl, Tryz.ntmps374, by rw [Tryz.results374], by kernel_rfl⟩
theorem fe_375 : FeOk Tryz.prog 375 (FE.code 77 [.tmp 2, .tmp 3] (bodyOf Tryz.f375)) := ⟨_, Tryz.func375, by kernel_rfl, Tryz.ntmps375, by rw [Tryz.results375], by kernel_rfl⟩
theorem fe_376 : FeOk Tryz.prog 376 (FE.code 43 [.tmp 10] (bodyOf Tryz.f376)) := ⟨_, Tryz.func376, by kernel_rfl, Tryz.ntmps376, by rw [Tryz.results376], by kernel_rfl⟩
theorem fe_377 : FeOk Tryz.prog 377 (FE.code 17 [.tmp 4] (bodyOf Tryz.f377)) := ⟨_, Tryz.func377, by kernel_rfl, Tryz.ntmps377, by rw [Tryz.results377], by kernel_rfl⟩
theorem fe_378 : FeOk Tryz.prog 378 (FE.code 6 [.tmp 2] (bodyOf Tryz.f378)) := ⟨_, Tryz.func378, by kernel_rfl, Tryz.ntmps378, by rw [Tryz.results378], by kernel_rfl⟩
theorem fe_379 : FeOk Tryz.prog 379 (FE.code 49 [] (bodyOf Tryz.f379)) := ⟨_, Tryz.func379, by kernel_rfl, Tryz.ntmps379, by rw [Tryz.results379], by kernel_rfl⟩
theorem fe_380 : FeOk Tryz.prog 380 (FE.code 56 [] (bodyOf Tryz.f380)) := ⟨_, Tryz.func380, by kernel_rfl, Tryz.ntmps380, by rw [Tryz.results380], by kernel_rfl⟩
theorem fe_381 : FeOk Tryz.prog 381 (FE.code 65 [] (bodyOf Tryz.f381)) := ⟨_, Tryz.func381, by kernel_rfl, Tryz.ntmps381, by rw [Tryz.results381], by kernel_rfl⟩
theorem fe_382 : FeOk Tryz.prog 382 (FE.code 57 [.tmp 6, .tmp 7] (bodyOf Tryz.f382)) := ⟨_, Tryz.func382, by kernel_rfl, Tryz.ntmps382, by rw [Tryz.results382], by kernel_rfl⟩
theorem fe_383 : FeOk Tryz.prog 383 (FE.code 32 [] (bodyOf Tryz.f383)) := ⟨_, Tryz.func383, by kernel_rfl, Tryz.ntmps383, by rw [Tryz.results383], by kernel_rfl⟩
theorem fe_384 : FeOk Tryz.prog 384 (FE.code 133 [.tmp 6] (bodyOf Tryz.f384)) := ⟨_, Tryz.func384, by kernel_rfl, Tryz.ntmps384, by rw [Tryz.results384], by kernel_rfl⟩
theorem fe_385 : FeOk Tryz.prog 385 (FE.code 84 [.tmp 8] (bodyOf Tryz.f385)) := ⟨_, Tryz.func385, by kernel_rfl, Tryz.ntmps385, by rw [Tryz.results385], by kernel_rfl⟩
theorem fe_386 : FeOk Tryz.prog 386 (FE.code 168 [.tmp 8, .tmp 9] (bodyOf Tryz.f386)) := ⟨_, Tryz.func386, by kernel_rfl, Tryz.ntmps386, by rw [Tryz.results386], by kernel_rfl⟩
theorem fe_387 : FeOk Tryz.prog 387 (FE.code 19 [.tmp 2] (bodyOf Tryz.f387)) := ⟨_, Tryz.func387, by kernel_rfl, Tryz.ntmps387, by rw [Tryz.results387], by kernel_rfl⟩
theorem fe_388 : FeOk Tryz.prog 388 (FE.code 25 [.tmp 2] (bodyOf Tryz.f388)) := ⟨_, Tryz.func388, by kernel_rfl, Tryz.ntmps388, by rw [Tryz.results388], by kernel_rfl⟩
theorem fe_389 : FeOk Tryz.prog 389 (FE.code 53 [] (bodyOf Tryz.f389)) := ⟨_, Tryz.func389, by kernel_rfl, Tryz.ntmps389, by rw [Tryz.results389], by kernel_rfl⟩
theorem fe_390 : FeOk Tryz.prog 390 (FE.code 60 [] (bodyOf Tryz.f390)) := ⟨_, Tryz.func390, by kernel_rfl, Tryz.ntmps390, by rw [Tryz.results390], by kernel_rfl⟩
theorem fe_391 : FeOk Tryz.prog 391 (FE.code 67 [] (bodyOf Tryz.f391)) := ⟨_, Tryz.func391, by kernel_rfl, Tryz.ntmps391, by rw [Tryz.results391], by kernel_rfl⟩
theorem fe_392 : FeOk Tryz.prog 392 (FE.code 63 [.tmp 8, .tmp 9] (bodyOf Tryz.f392)) := ⟨_, Tryz.func392, by kernel_rfl, Tryz.ntmps392, by rw [Tryz.results392], by kernel_rfl⟩
theorem fe_393 : FeOk Tryz.prog 393 (FE.code 34 [] (bodyOf Tryz.f393)) := ⟨_, Tryz.func393, by kernel_rfl, Tryz.ntmps393, by rw [Tryz.results393], by kernel_rfl⟩
theorem fe_394 : FeOk Tryz.prog 394 (FE.code 141 [.tmp 8] (bodyOf Tryz.f394)) := ⟨_, Tryz.func394, by kernel_rfl, Tryz.ntmps394, by rw [Tryz.results394], by kernel_rfl⟩
theorem fe_395 : FeOk Tryz.prog 395 (FE.code 90 [.tmp 10] (bodyOf Tryz.f395)) := ⟨_, Tryz.func395, by kernel_rfl, Tryz.ntmps395, by rw [Tryz.results395], by kernel_rfl⟩
theorem fe_396 : FeOk Tryz.prog 396 (FE.code 178 [.tmp 10, .tmp 11] (bodyOf Tryz.f396)) := ⟨_, Tryz.func396, by kernel_rfl, Tryz.ntmps396, by rw [Tryz.results396], by kernel_rfl⟩
theorem fe_397 : FeOk Tryz.prog 397 (FE.code 53 [] (bodyOf Tryz.f397)) := ⟨_, Tryz.func397, by kernel_rfl, Tryz.ntmps397, by rw [Tryz.results397], by kernel_rfl⟩
theorem fe_398 : FeOk Tryz.prog 398 (FE.code 60 [] (bodyOf Tryz.f398)) := ⟨_, Tryz.func398, by kernel_rfl, Tryz.ntmps398, by rw [Tryz.results398], by kernel_rfl⟩
theorem fe_399 : FeOk Tryz.prog 399 (FE.code 67 [] (bodyOf Tryz.f399)) := ⟨_, Tryz.func399, by kernel_rfl, Tryz.ntmps399, by rw [Tryz.results399], by kernel_rfl⟩
theorem fe_400 : FeOk Tryz.prog 400 (FE.code 63 [.tmp 8, .tmp 9] (bodyOf Tryz.f400)) := ⟨_, Tryz.func400, by kernel_rfl, Tryz.ntmps400, by rw [Tryz.results400], by kernel_rfl⟩
theorem fe_401 : FeOk Tryz.prog 401 (FE.code 34 [] (bodyOf Tryz.f401)) := ⟨_, Tryz.func401, by kernel_rfl, Tryz.ntmps401, by rw [Tryz.results401], by kernel_rfl⟩
theorem fe_402 : FeOk Tryz.prog 402 (FE.code 141 [.tmp 8] (bodyOf Tryz.f402)) := ⟨_, Tryz.func402, by kernel_rfl, Tryz.ntmps402, by rw [Tryz.results402], by kernel_rfl⟩
theorem fe_403 : FeOk Tryz.prog 403 (FE.code 90 [.tmp 10] (bodyOf Tryz.f403)) := ⟨_, Tryz.func403, by kernel_rfl, Tryz.ntmps403, by rw [Tryz.results403], by kernel_rfl⟩
theorem fe_404 : FeOk Tryz.prog 404 (FE.code 178 [.tmp 10, .tmp 11] (bodyOf Tryz.f404)) := ⟨_, Tryz.func404, by kernel_rfl, Tryz.ntmps404, by rw [Tryz.results404], by kernel_rfl⟩
theorem fe_405 : FeOk Tryz.prog 405 (FE.code 53 [] (bodyOf Tryz.f405)) := ⟨_, Tryz.func405, by kernel_rfl, Tryz.ntmps405, by rw [Tryz.results405], by kernel_rfl⟩
theorem fe_406 : FeOk Tryz.prog 406 (FE.code 60 [] (bodyOf Tryz.f406)) := ⟨_, Tryz.func406, by kernel_rfl, Tryz.ntmps406, by rw [Tryz.results406], by kernel_rfl⟩
theorem fe_407 : FeOk Tryz.prog 407 (FE.code 67 [] (bodyOf Tryz.f407)) := ⟨_, Tryz.func407, by kernel_rfl, Tryz.ntmps407, by rw [Tryz.results407], by kernel_rfl⟩
theorem fe_408 : FeOk Tryz.prog 408 (FE.code 63 [.tmp 8, .tmp 9] (bodyOf Tryz.f408)) := ⟨_, Tryz.func408, by kernel_rfl, Tryz.ntmps408, by rw [Tryz.results408], by kernel_rfl⟩
theorem fe_409 : FeOk Tryz.prog 409 (FE.code 34 [] (bodyOf Tryz.f409)) := ⟨_, Tryz.func409, by kernel_rfl, Tryz.ntmps409, by rw [Tryz.results409], by kernel_rfl⟩
theorem fe_410 : FeOk Tryz.prog 410 (FE.code 141 [.tmp 8] (bodyOf Tryz.f410)) := ⟨_, Tryz.func410, by kernel_rfl, Tryz.ntmps410, by rw [Tryz.results410], by kernel_rfl⟩
theorem fe_411 : FeOk Tryz.prog 411 (FE.code 90 [.tmp 10] (bodyOf Tryz.f411)) := ⟨_, Tryz.func411, by kernel_rfl, Tryz.ntmps411, by rw [Tryz.results411], by kernel_rfl⟩
theorem fe_412 : FeOk Tryz.prog 412 (FE.code 178 [.tmp 10, .tmp 11] (bodyOf Tryz.f412)) := ⟨_, Tryz.func412, by kernel_rfl, Tryz.ntmps412, by rw [Tryz.results412], by kernel_rfl⟩
theorem fe_413 : FeOk Tryz.prog 413 (FE.code 53 [] (bodyOf Tryz.f413)) := ⟨_, Tryz.func413, by kernel_rfl, Tryz.ntmps413, by rw [Tryz.results413], by kernel_rfl⟩
theorem fe_414 : FeOk Tryz.prog 414 (FE.code 60 [] (bodyOf Tryz.f414)) := ⟨_, Tryz.func414, by kernel_rfl, Tryz.ntmps414, by rw [Tryz.results414], by kernel_rfl⟩
theorem fe_415 : FeOk Tryz.prog 415 (FE.code 67 [] (bodyOf Tryz.f415)) := ⟨_, Tryz.func415, by kernel_rfl, Tryz.ntmps415, by rw [Tryz.results415], by kernel_rfl⟩
theorem fe_416 : FeOk Tryz.prog 416 (FE.code 63 [.tmp 8, .tmp 9] (bodyOf Tryz.f416)) := ⟨_, Tryz.func416, by kernel_rfl, Tryz.ntmps416, by rw [Tryz.results416], by kernel_rfl⟩
theorem fe_417 : FeOk Tryz.prog 417 (FE.code 34 [] (bodyOf Tryz.f417)) := ⟨_, Tryz.func417, by kernel_rfl, Tryz.ntmps417, by rw [Tryz.results417], by kernel_rfl⟩
theorem fe_418 : FeOk Tryz.prog 418 (FE.code 141 [.tmp 8] (bodyOf Tryz.f418)) := ⟨_, Tryz.func418, by kernel_rfl, Tryz.ntmps418, by rw [Tryz.results418], by kernel_rfl⟩
theorem fe_419 : FeOk Tryz.prog 419 (FE.code 90 [.tmp 10] (bodyOf Tryz.f419)) := ⟨_, Tryz.func419, by kernel_rfl, Tryz.ntmps419, by rw [Tryz.results419], by kernel_rfl⟩
theorem fe_420 : FeOk Tryz.prog 420 (FE.code 178 [.tmp 10, .tmp 11] (bodyOf Tryz.f420)) := ⟨_, Tryz.func420, by kernel_rfl, Tryz.ntmps420, by rw [Tryz.results420], by kernel_rfl⟩
theorem fe_421 : FeOk Tryz.prog 421 (FE.code 6 [.tmp 2] (bodyOf Tryz.f421)) := ⟨_, Tryz.func421, by kernel_rfl, Tryz.ntmps421, by rw [Tryz.results421], by kernel_rfl⟩
theorem fe_422 : FeOk Tryz.prog 422 (FE.code 66 [.tmp 8] (bodyOf Tryz.f422)) := ⟨_, Tryz.func422, by kernel_rfl, Tryz.ntmps422, by rw [Tryz.results422], by kernel_rfl⟩
theorem fe_423 : FeOk Tryz.prog 423 (FE.code 11 [.tmp 4, .tmp 5] (bodyOf Tryz.f423)) := ⟨_, Tryz.func423, by kernel_rfl, Tryz.ntmps423, by rw [Tryz.results423], by kernel_rfl⟩
theorem fe_424 : FeOk Tryz.prog 424 (FE.code 27 [.tmp 2, .tmp 3] (bodyOf Tryz.f424)) := ⟨_, Tryz.func424, by kernel_rfl, Tryz.ntmps424, by rw [Tryz.results424], by kernel_rfl⟩
theorem fe_425 : FeOk Tryz.prog 425 (FE.code 37 [.tmp 4] (bodyOf Tryz.f425)) := ⟨_, Tryz.func425, by kernel_rfl, Tryz.ntmps425, by rw [Tryz.results425], by kernel_rfl⟩
theorem fe_426 : FeOk Tryz.prog 426 (FE.code 40 [.tmp 2, .tmp 3] (bodyOf Tryz.f426)) := ⟨_, Tryz.func426, by kernel_rfl, Tryz.ntmps426, by rw [Tryz.results426], by kernel_rfl⟩
theorem fe_427 : FeOk Tryz.prog 427 (FE.code 53 [] (bodyOf Tryz.f427)) := ⟨_, Tryz.func427, by kernel_rfl, Tryz.ntmps427, by rw [Tryz.results427], by kernel_rfl⟩
theorem fe_428 : FeOk Tryz.prog 428 (FE.code 60 [] (bodyOf Tryz.f428)) := ⟨_, Tryz.func428, by kernel_rfl, Tryz.ntmps428, by rw [Tryz.results428], by kernel_rfl⟩
theorem fe_429 : FeOk Tryz.prog 429 (FE.code 67 [] (bodyOf Tryz.f429)) := ⟨_, Tryz.func429, by kernel_rfl, Tryz.ntmps429, by rw [Tryz.results429], by kernel_rfl⟩
theorem fe_430 : FeOk Tryz.prog 430 (FE.code 63 [.tmp 8, .tmp 9] (bodyOf Tryz.f430)) := ⟨_, Tryz.func430, by kernel_rfl, Tryz.ntmps430, by rw [Tryz.results430], by kernel_rfl⟩
theorem fe_431 : FeOk Tryz.prog 431 (FE.code 34 [] (bodyOf Tryz.f431)) := ⟨_, Tryz.func431, by kernel_rfl, Tryz.ntmps431, by rw [Tryz.results431], by kernel_rfl⟩
theorem fe_432 : FeOk Tryz.prog 432 (FE.code 141 [.tmp 8] (bodyOf Tryz.f432)) := ⟨_, Tryz.func432, by kernel_rfl, Tryz.ntmps432, by rw [Tryz.results432], by kernel_rfl⟩
theorem fe_433 : FeOk Tryz.prog 433 (FE.code 90 [.tmp 10] (bodyOf Tryz.f433)) := ⟨_, Tryz.func433, by kernel_rfl, Tryz.ntmps433, by rw [Tryz.results433], by kernel_rfl⟩
theorem fe_434 : FeOk Tryz.prog 434 (FE.code 178 [.tmp 10, .tmp 11] (bodyOf Tryz.f434)) := ⟨_, Tryz.func434, by kernel_rfl, Tryz.ntmps434, by rw [Tryz.results434], by kernel_rfl⟩
theorem fe_435 : FeOk Tryz.prog 435 (FE.code 58 [] (bodyOf Tryz.f435)) := ⟨_, Tryz.func435, by kernel_rfl, Tryz.ntmps435, by rw [Tryz.results435], by kernel_rfl⟩
theorem fe_436 : FeOk Tryz.prog 436 (FE.code 10 [.tmp 4] (bodyOf Tryz.f436)) := ⟨_, Tryz.func436, by kernel_rfl, Tryz.ntmps436, by rw [Tryz.results436], by kernel_rfl⟩
theorem fe_437 : FeOk Tryz.prog 437 (FE.code 9 [.tmp 4] (bodyOf Tryz.f437)) := ⟨_, Tryz.func437, by kernel_rfl, Tryz.ntmps437, by rw [Tryz.results437], by kernel_rfl⟩
theorem fe_438 : FeOk Tryz.prog 438 (FE.code 37 [] (bodyOf Tryz.f438)) := ⟨_, Tryz.func438, by kernel_rfl, Tryz.ntmps438, by rw [Tryz.results438], by kernel_rfl⟩
theorem fe_439 : FeOk Tryz.prog 439 (FE.code 11 [.tmp 2, .tmp 3] (bodyOf Tryz.f439)) := ⟨_, Tryz.func439, by kernel_rfl, Tryz.ntmps439, by rw [Tryz.results439], by kernel_rfl⟩
theorem fe_440 : FeOk Tryz.prog 440 (FE.code 78 [.tmp 2] (bodyOf Tryz.f440)) := ⟨_, Tryz.func440, by kernel_rfl, Tryz.ntmps440, by rw [Tryz.results440], by kernel_rfl⟩
theorem fe_441 : FeOk Tryz.prog 441 (FE.code 25 [.tmp 6, .tmp 7] (bodyOf Tryz.f441)) := ⟨_, Tryz.func441, by kernel_rfl, Tryz.ntmps441, by rw [Tryz.results441], by kernel_rfl⟩
theorem fe_442 : FeOk Tryz.prog 442 (FE.code 58 [] (bodyOf Tryz.f442)) := ⟨_, Tryz.func442, by kernel_rfl, Tryz.ntmps442, by rw [Tryz.results442], by kernel_rfl⟩
theorem fe_443 : FeOk Tryz.prog 443 (FE.code 58 [] (bodyOf Tryz.f443)) := ⟨_, Tryz.func443, by kernel_rfl, Tryz.ntmps443, by rw [Tryz.results443], by kernel_rfl⟩
theorem fe_444 : FeOk Tryz.prog 444 (FE.code 58 [] (bodyOf Tryz.f444)) := ⟨_, Tryz.func444, by kernel_rfl, Tryz.ntmps444, by rw [Tryz.results444], by kernel_rfl⟩
theorem fe_445 : FeOk Tryz.prog 445 (FE.code 54 [.tmp 4] (bodyOf Tryz.f445)) := ⟨_, Tryz.func445, by kernel_rfl, Tryz.ntmps445, by rw [Tryz.results445], by kernel_rfl⟩
theorem fe_446 : FeOk Tryz.prog 446 (FE.code 30 [] (bodyOf Tryz.f446)) := ⟨_, Tryz.func446, by kernel_rfl, Tryz.ntmps446, by rw [Tryz.results446], by kernel_rfl⟩
theorem fe_447 : FeOk Tryz.prog 447 (FE.code 20 [.tmp 4] (bodyOf Tryz.f447)) := ⟨_, Tryz.func447, by kernel_rfl, Tryz.ntmps447, by rw [Tryz.results447], by kernel_rfl⟩
theorem fe_448 : FeOk Tryz.prog 448 (FE.code 11 [.tmp 4, .tmp 5] (bodyOf Tryz.f448)) := ⟨_, Tryz.func448, by kernel_rfl, Tryz.ntmps448, by rw [Tryz.results448], by kernel_rfl⟩
theorem fe_449 : FeOk Tryz.prog 449 (FE.code 8 [.tmp 4] (bodyOf Tryz.f449)) := ⟨_, Tryz.func449, by kernel_rfl, Tryz.ntmps449, by rw [Tryz.results449], by kernel_rfl⟩
theorem fe_450 : FeOk Tryz.prog 450 (FE.code 39 [.tmp 2, .tmp 3] (bodyOf Tryz.f450)) := ⟨_, Tryz.func450, by kernel_rfl, Tryz.ntmps450, by rw [Tryz.results450], by kernel_rfl⟩
theorem fe_451 : FeOk Tryz.prog 451 (FE.code 51 [.tmp 2, .tmp 3] (bodyOf Tryz.f451)) := ⟨_, Tryz.func451, by kernel_rfl, Tryz.ntmps451, by rw [Tryz.results451], by kernel_rfl⟩
theorem fe_452 : FeOk Tryz.prog 452 (FE.code 73 [.tmp 6, .tmp 7] (bodyOf Tryz.f452)) := ⟨_, Tryz.func452, by kernel_rfl, Tryz.ntmps452, by rw [Tryz.results452], by kernel_rfl⟩
theorem fe_453 : FeOk Tryz.prog 453 (FE.code 11 [.tmp 4] (bodyOf Tryz.f453)) := ⟨_, Tryz.func453, by kernel_rfl, Tryz.ntmps453, by rw [Tryz.results453], by kernel_rfl⟩
theorem fe_454 : FeOk Tryz.prog 454 (FE.code 11 [.tmp 4] (bodyOf Tryz.f454)) := ⟨_, Tryz.func454, by kernel_rfl, Tryz.ntmps454, by rw [Tryz.results454], by kernel_rfl⟩
theorem fe_455 : FeOk Tryz.prog 455 (FE.code 16 [.tmp 6] (bodyOf Tryz.f455)) := ⟨_, Tryz.func455, by kernel_rfl, Tryz.ntmps455, by rw [Tryz.results455], by kernel_rfl⟩
theorem fe_456 : FeOk Tryz.prog 456 (FE.code 16 [.tmp 6] (bodyOf Tryz.f456)) := ⟨_, Tryz.func456, by kernel_rfl, Tryz.ntmps456, by rw [Tryz.results456], by kernel_rfl⟩
theorem fe_457 : FeOk Tryz.prog 457 (FE.code 76 [] (bodyOf Tryz.f457)) := ⟨_, Tryz.func457, by kernel_rfl, Tryz.ntmps457, by rw [Tryz.results457], by kernel_rfl⟩
theorem fe_458 : FeOk Tryz.prog 458 (FE.code 7 [.tmp 2] (bodyOf Tryz.f458)) := ⟨_, Tryz.func458, by kernel_rfl, Tryz.ntmps458, by rw [Tryz.results458], by kernel_rfl⟩
theorem fe_459 : FeOk Tryz.prog 459 (FE.code 33 [.tmp 2] (bodyOf Tryz.f459)) := ⟨_, Tryz.func459, by kernel_rfl, Tryz.ntmps459, by rw [Tryz.results459], by kernel_rfl⟩
theorem fe_460 : FeOk Tryz.prog 460 (FE.code 15 [.tmp 6] (bodyOf Tryz.f460)) := ⟨_, Tryz.func460, by kernel_rfl, Tryz.ntmps460, by rw [Tryz.results460], by kernel_rfl⟩
theorem fe_461 : FeOk Tryz.prog 461 (FE.code 36 [.tmp 10] (bodyOf Tryz.f461)) := ⟨_, Tryz.func461, by kernel_rfl, Tryz.ntmps461, by rw [Tryz.results461], by kernel_rfl⟩
theorem fe_462 : FeOk Tryz.prog 462 (FE.code 82 [] (bodyOf Tryz.f462)) := ⟨_, Tryz.func462, by kernel_rfl, Tryz.ntmps462, by rw [Tryz.results462], by kernel_rfl⟩
theorem fe_463 : FeOk Tryz.prog 463 (FE.code 18 [.tmp 8] (bodyOf Tryz.f463)) := ⟨_, Tryz.func463, by kernel_rfl, Tryz.ntmps463, by rw [Tryz.results463], by kernel_rfl⟩
theorem fe_464 : FeOk Tryz.prog 464 (FE.code 41 [.tmp 12] (bodyOf Tryz.f464)) := ⟨_, Tryz.func464, by kernel_rfl, Tryz.ntmps464, by rw [Tryz.results464], by kernel_rfl⟩
theorem fe_465 : FeOk Tryz.prog 465 (FE.code 82 [] (bodyOf Tryz.f465)) := ⟨_, Tryz.func465, by kernel_rfl, Tryz.ntmps465, by rw [Tryz.results465], by kernel_rfl⟩
theorem fe_466 : FeOk Tryz.prog 466 (FE.code 18 [.tmp 8] (bodyOf Tryz.f466)) := ⟨_, Tryz.func466, by kernel_rfl, Tryz.ntmps466, by rw [Tryz.results466], by kernel_rfl⟩
theorem fe_467 : FeOk Tryz.prog 467 (FE.code 41 [.tmp 12] (bodyOf Tryz.f467)) := ⟨_, Tryz.func467, by kernel_rfl, Tryz.ntmps467, by rw [Tryz.results467], by kernel_rfl⟩
theorem fe_468 : FeOk Tryz.prog 468 (FE.code 82 [] (bodyOf Tryz.f468)) := ⟨_, Tryz.func468, by kernel_rfl, Tryz.ntmps468, by rw [Tryz.results468], by kernel_rfl⟩
theorem fe_469 : FeOk Tryz.prog 469 (FE.code 18 [.tmp 8] (bodyOf Tryz.f469)) := ⟨_, Tryz.func469, by kernel_rfl, Tryz.ntmps469, by rw [Tryz.results469], by kernel_rfl⟩
theorem fe_470 : FeOk Tryz.prog 470 (FE.code 41 [.tmp 12] (bodyOf Tryz.f470)) := ⟨_, Tryz.func470, by kernel_rfl, Tryz.ntmps470, by rw [Tryz.results470], by kernel_rfl⟩
theorem fe_471 : FeOk Tryz.prog 471 (FE.code 82 [] (bodyOf Tryz.f471)) := ⟨_, Tryz.func471, by kernel_rfl, Tryz.ntmps471, by rw [Tryz.results471], by kernel_rfl⟩
theorem fe_472 : FeOk Tryz.prog 472 (FE.code 18 [.tmp 8] (bodyOf Tryz.f472)) := ⟨_, Tryz.func472, by kernel_rfl, Tryz.ntmps472, by rw [Tryz.results472], by kernel_rfl⟩
theorem fe_473 : FeOk Tryz.prog 473 (FE.code 41 [.tmp 12] (bodyOf Tryz.f473)) := ⟨_, Tryz.func473, by kernel_rfl, Tryz.ntmps473, by rw [Tryz.results473], by kernel_rfl⟩
theorem fe_474 : FeOk Tryz.prog 474 (FE.code 50 [.tmp 4] (bodyOf Tryz.f474)) := ⟨_, Tryz.func474, by kernel_rfl, Tryz.ntmps474, by rw [Tryz.results474], by kernel_rfl⟩
theorem fe_475 : FeOk Tryz.prog 475 (FE.code 15 [.tmp 4, .tmp 5] (bodyOf Tryz.f475)) := ⟨_, Tryz.func475, by kernel_rfl, Tryz.ntmps475, by rw [Tryz.results475], by kernel_rfl⟩
theorem fe_476 : FeOk Tryz.prog 476 (FE.code 82 [] (bodyOf Tryz.f476)) := ⟨_, Tryz.func476, by kernel_rfl, Tryz.ntmps476, by rw [Tryz.results476], by kernel_rfl⟩
theorem fe_477 : FeOk Tryz.prog 477 (FE.code 18 [.tmp 8] (bodyOf Tryz.f477)) := ⟨_, Tryz.func477, by kernel_rfl, Tryz.ntmps477, by rw [Tryz.results477], by kernel_rfl⟩
theorem fe_478 : FeOk Tryz.prog 478 (FE.code 41 [.tmp 12] (bodyOf Tryz.f478)) := ⟨_, Tryz.func478, by kernel_rfl, Tryz.ntmps478, by rw [Tryz.results478], by kernel_rfl⟩
theorem fe_479 : FeOk Tryz.prog 479 (FE.code 38 [] (bodyOf Tryz.f479)) := ⟨_, Tryz.func479, by kernel_rfl, Tryz.ntmps479, by rw [Tryz.results479], by kernel_rfl⟩
theorem fe_480 : FeOk Tryz.prog 480 (FE.code 187 [.tmp 4] (bodyOf Tryz.f480)) := ⟨_, Tryz.func480, by kernel_rfl, Tryz.ntmps480, by rw [Tryz.results480], by kernel_rfl⟩
theorem fe_481 : FeOk Tryz.prog 481 (FE.code 85 [.tmp 4] (bodyOf Tryz.f481)) := ⟨_, Tryz.func481, by kernel_rfl, Tryz.ntmps481, by rw [Tryz.results481], by kernel_rfl⟩
theorem fe_482 : FeOk Tryz.prog 482 (FE.code 16 [.tmp 2] (bodyOf Tryz.f482)) := ⟨_, Tryz.func482, by kernel_rfl, Tryz.ntmps482, by rw [Tryz.results482], by kernel_rfl⟩
theorem fe_483 : FeOk Tryz.prog 483 (FE.code 38 [] (bodyOf Tryz.f483)) := ⟨_, Tryz.func483, by kernel_rfl, Tryz.ntmps483, by rw [Tryz.results483], by kernel_rfl⟩
theorem fe_484 : FeOk Tryz.prog 484 (FE.code 38 [] (bodyOf Tryz.f484)) := ⟨_, Tryz.func484, by kernel_rfl, Tryz.ntmps484, by rw [Tryz.results484], by kernel_rfl⟩
theorem fe_485 : FeOk Tryz.prog 485 (FE.code 38 [] (bodyOf Tryz.f485)) := ⟨_, Tryz.func485, by kernel_rfl, Tryz.ntmps485, by rw [Tryz.results485], by kernel_rfl⟩
theorem fe_486 : FeOk Tryz.prog 486 (FE.code 15 [.tmp 2] (bodyOf Tryz.f486)) := ⟨_, Tryz.func486, by kernel_rfl, Tryz.ntmps486, by rw [Tryz.results486], by kernel_rfl⟩
theorem fe_487 : FeOk Tryz.prog 487 (FE.code 15 [.tmp 2] (bodyOf Tryz.f487)) := ⟨_, Tryz.func487, by kernel_rfl, Tryz.ntmps487, by rw [Tryz.results487], by kernel_rfl⟩
theorem fe_488 : FeOk Tryz.prog 488 (FE.code 167 [] (bodyOf Tryz.f488)) := ⟨_, Tryz.func488, by kernel_rfl, Tryz.ntmps488, by rw [Tryz.results488], by kernel_rfl⟩
theorem fe_489 : FeOk Tryz.prog 489 (FE.code 102 [.tmp 10, .tmp 11] (bodyOf Tryz.f489)) := ⟨_, Tryz.func489, by kernel_rfl, Tryz.ntmps489, by rw [Tryz.results489], by kernel_rfl⟩
theorem fe_490 : FeOk Tryz.prog 490 (FE.room 5) := @room_ok Tryz.prog 490 Tryz.f490 216 5 Tryz.func490 (by kernel_rfl) (by kernel_rfl) (by kernel_rfl) Tryz.f490.params (by kernel_rfl) Tryz.underlying216
theorem fe_491 : FeOk Tryz.prog 491 (FE.code 18 [.tmp 4, .tmp 5] (bodyOf Tryz.f491)) := ⟨_, Tryz.func491, by kernel_rfl, Tryz.ntmps491, by rw [Tryz.results491], by kernel_rfl⟩
theorem fe_492 : FeOk Tryz.prog 492 (FE.code 18 [.tmp 4] (bodyOf Tryz.f492)) := ⟨_, Tryz.func492, by kernel_rfl, Tryz.ntmps492, by rw [Tryz.results492], by kernel_rfl⟩
theorem fe_493 : FeOk Tryz.prog 493 (FE.code 6 [.tmp 2] (bodyOf Tryz.f493)) := ⟨_, Tryz.func493, by kernel_rfl, Tryz.ntmps493, by rw [Tryz.results493], by kernel_rfl⟩
theorem fe_494 : FeOk Tryz.prog 494 (FE.code 172 [.tmp 6, .tmp 7] (bodyOf Tryz.f494)) := ⟨_, Tryz.func494, by kernel_rfl, Tryz.ntmps494, by rw [Tryz.results494], by kernel_rfl⟩
theorem fe_495 : FeOk Tryz.prog 495 (FE.code 18 [.tmp 2] (bodyOf Tryz.f495)) := ⟨_, Tryz.func495, by kernel_rfl, Tryz.ntmps495, by rw [Tryz.results495], by kernel_rfl⟩
theorem fe_496 : FeOk Tryz.prog 496 (FE.code 7 [.tmp 2] (bodyOf Tryz.f496)) := ⟨_, Tryz.func496, by kernel_rfl, Tryz.ntmps496, by rw [Tryz.results496], by kernel_rfl⟩
theorem fe_497 : FeOk Tryz.prog 497 (FE.code 28 [.tmp 8, .tmp 9] (bodyOf Tryz.f497)) := ⟨_, Tryz.func497, by kernel_rfl, Tryz.ntmps497, by rw [Tryz.results497], by kernel_rfl⟩
theorem fe_498 : FeOk Tryz.prog 498 (FE.code 32 [.tmp 10, .tmp 11] (bodyOf Tryz.f498)) := ⟨_, Tryz.func498, by kernel_rfl, Tryz.ntmps498, by rw [Tryz.results498], by kernel_rfl⟩
theorem fe_499 : FeOk Tryz.prog 499 (FE.code 32 [.tmp 10, .tmp 11] (bodyOf Tryz.f499)) := ⟨_, Tryz.func499, by kernel_rfl, Tryz.ntmps499, by rw [Tryz.results499], by kernel_rfl⟩
theorem fe_500 : FeOk Tryz.prog 500 (FE.code 32 [.tmp 10, .tmp 11] (bodyOf Tryz.f500)) := ⟨_, Tryz.func500, by kernel_rfl, Tryz.ntmps500, by rw [Tryz.results500], by kernel_rfl⟩
theorem fe_501 : FeOk Tryz.prog 501 (FE.code 32 [.tmp 10, .tmp 11] (bodyOf Tryz.f501)) := ⟨_, Tryz.func501, by kernel_rfl, Tryz.ntmps501, by rw [Tryz.results501], by kernel_rfl⟩
theorem fe_502 : FeOk Tryz.prog 502 (FE.code 32 [.tmp 10, .tmp 11] (bodyOf Tryz.f502)) := ⟨_, Tryz.func502, by kernel_rfl, Tryz.ntmps502, by rw [Tryz.results502], by kernel_rfl⟩
theorem fe_503 : FeOk Tryz.prog 503 (FE.code 17 [.tmp 2] (bodyOf Tryz.f503)) := ⟨_, Tryz.func503, by kernel_rfl, Tryz.ntmps503, by rw [Tryz.results503], by kernel_rfl⟩
theorem fe_504 : FeOk Tryz.prog 504 (FE.code 25 [.tmp 2] (bodyOf Tryz.f504)) := ⟨_, Tryz.func504, by kernel_rfl, Tryz.ntmps504, by rw [Tryz.results504], by kernel_rfl⟩
theorem fe_505 : FeOk Tryz.prog 505 (FE.code 30 [.tmp 4, .tmp 5] (bodyOf Tryz.f505)) := ⟨_, Tryz.func505, by kernel_rfl, Tryz.ntmps505, by rw [Tryz.results505], by kernel_rfl⟩
theorem fe_506 : FeOk Tryz.prog 506 (FE.code 8 [.tmp 2] (bodyOf Tryz.f506)) := ⟨_, Tryz.func506, by kernel_rfl, Tryz.ntmps506, by rw [Tryz.results506], by kernel_rfl⟩
theorem fe_507 : FeOk Tryz.prog 507 (FE.code 13 [.tmp 4] (bodyOf Tryz.f507)) := ⟨_, Tryz.func507, by kernel_rfl, Tryz.ntmps507, by rw [Tryz.results507], by kernel_rfl⟩
theorem fe_508 : FeOk Tryz.prog 508 (FE.code 6 [.tmp 2] (bodyOf Tryz.f508)) := ⟨_, Tryz.func508, by kernel_rfl, Tryz.ntmps508, by rw [Tryz.results508], by kernel_rfl⟩
theorem fe_509 : FeOk Tryz.prog 509 (FE.code 4 [.tmp 2] (bodyOf Tryz.f509)) := ⟨_, Tryz.func509, by kernel_rfl, Tryz.ntmps509, by rw [Tryz.results509], by kernel_rfl⟩
theorem fe_510 : FeOk Tryz.prog 510 (FE.code 8 [.tmp 2] (bodyOf Tryz.f510)) := ⟨_, Tryz.func510, by kernel_rfl, Tryz.ntmps510, by rw [Tryz.results510], by kernel_rfl⟩
theorem fe_511 : FeOk Tryz.prog 511 (FE.code 8 [.tmp 2] (bodyOf Tryz.f511)) := ⟨_, Tryz.func511, by kernel_rfl, Tryz.ntmps511, by rw [Tryz.results511], by kernel_rfl⟩
theorem fe_512 : FeOk Tryz.prog 512 (FE.code 5 [.tmp 2] (bodyOf Tryz.f512)) := ⟨_, Tryz.func512, by kernel_rfl, Tryz.ntmps512, by rw [Tryz.results512], by kernel_rfl⟩
theorem fe_513 : FeOk Tryz.prog 513 (FE.code 94 [.tmp 2] (bodyOf Tryz.f513)) := ⟨_, Tryz.func513, by kernel_rfl, Tryz.ntmps513, by rw [Tryz.results513], by kernel_rfl⟩
theorem fe_514 : FeOk Tryz.prog 514 (FE.code 16 [.tmp 4] (bodyOf Tryz.f514)) := ⟨_, Tryz.func514, by kernel_rfl, Tryz.ntmps514, by rw [Tryz.results514], by kernel_rfl⟩
theorem fe_515 : FeOk Tryz.prog 515 (FE.code 25 [.tmp 6, .tmp 7] (bodyOf Tryz.f515)) := ⟨_, Tryz.func515, by kernel_rfl, Tryz.ntmps515, by rw [Tryz.results515], by kernel_rfl⟩
theorem fe_516 : FeOk Tryz.prog 516 (FE.code 14 [.tmp 2] (bodyOf Tryz.f516)) := ⟨_, Tryz.func516, by kernel_rfl, Tryz.ntmps516, by rw [Tryz.results516], by kernel_rfl⟩
theorem fe_517 : FeOk Tryz.prog 517 (FE.code 14 [.tmp 2] (bodyOf Tryz.f517)) := ⟨_, Tryz.func517, by kernel_rfl, Tryz.ntmps517, by rw [Tryz.results517], by kernel_rfl⟩
theorem fe_518 : FeOk Tryz.prog 518 (FE.code 78 [.tmp 4] (bodyOf Tryz.f518)) := ⟨_, Tryz.func518, by kernel_rfl, Tryz.ntmps518, by rw [Tryz.results518], by kernel_rfl⟩
theorem fe_519 : FeOk Tryz.prog 519 (FE.code 50 [.tmp 4] (bodyOf Tryz.f519)) := ⟨_, Tryz.func519, by kernel_rfl, Tryz.ntmps519, by rw [Tryz.results519], by kernel_rfl⟩
theorem fe_520 : FeOk Tryz.prog 520 (FE.code 37 [.tmp 6] (bodyOf Tryz.f520)) := ⟨_, Tryz.func520, by kernel_rfl, Tryz.ntmps520, by rw [Tryz.results520], by kernel_rfl⟩
noncomputable def ftL : List (Nat × FE) := [(3, FE.code 107 [.tmp 2] (bodyOf Tryz.f3)),
  (4, FE.code 14 [.tmp 2, .tmp 3] (bodyOf Tryz.f4)),
  (5, FE.code 69 [.tmp 4, .tmp 5] (bodyOf Tryz.f5)),
  (6, FE.code 11 [.tmp 2] (bodyOf Tryz.f6)),
  (7, FE.code 94 [.tmp 4, .tmp 5] (bodyOf Tryz.f7)),
  (8, FE.code 115 [.tmp 0] (bodyOf Tryz.f8)),
  (9, FE.code 51 [.tmp 2, .tmp 3, .tmp 4] (bodyOf Tryz.f9)),
  (10, FE.code 23 [.tmp 4, .tmp 5] (bodyOf Tryz.f10)),
  (11, FE.code 51 [.tmp 2, .tmp 3, .tmp 4] (bodyOf Tryz.f11)),
  (12, FE.code 22 [.tmp 4, .tmp 5] (bodyOf Tryz.f12)),
  (13, FE.code 27 [.cell 2 50, .tmp 3, .tmp 4] (bodyOf Tryz.f13)),
  (14, FE.code 17 [.tmp 4, .tmp 5] (bodyOf Tryz.f14)),
  (15, FE.code 36 [.tmp 2, .tmp 3] (bodyOf Tryz.f15)),
  (16, FE.code 22 [.tmp 6] (bodyOf Tryz.f16)),
  (17, FE.code 154 [.tmp 2] (bodyOf Tryz.f17)),
  (18, FE.code 61 [.tmp 4, .tmp 5] (bodyOf Tryz.f18)),
  (19, FE.code 64 [.cell 6 50] (bodyOf Tryz.f19)),
  (20, FE.code 64 [.cell 6 69, .tmp 7, .cell 8 71, .tmp 9] (bodyOf Tryz.f20)),
  (21, FE.code 5 [.tmp 2] (bodyOf Tryz.f21)),
  (22, FE.code 78 [.tmp 4] (bodyOf Tryz.f22)),
  (23, FE.code 52 [.cell 2 78, .cell 3 3, .cell 4 24] (bodyOf Tryz.f23)),
  (24, FE.code 70 [.cell 2 85, .tmp 3, .tmp 4] (bodyOf Tryz.f24)),
  (25, FE.code 99 [.tmp 2, .tmp 3] (bodyOf Tryz.f25)),
  (26, FE.code 21 [.tmp 4] (bodyOf Tryz.f26)),
  (27, FE.code 28 [.cell 2 44] (bodyOf Tryz.f27)),
  (28, FE.code 117 [.cell 2 44] (bodyOf Tryz.f28)),
  (29, FE.code 75 [.cell 2 93, .tmp 3, .tmp 4] (bodyOf Tryz.f29)),
  (30, FE.code 65 [.tmp 2, .tmp 3] (bodyOf Tryz.f30)),
  (31, FE.code 41 [.tmp 2] (bodyOf Tryz.f31)),
  (32, FE.code 53 [.cell 2 99, .tmp 3, .tmp 4] (bodyOf Tryz.f32)),
  (33, FE.code 48 [.cell 2 50, .tmp 3] (bodyOf Tryz.f33)),
  (34, FE.code 14 [.tmp 2] (bodyOf Tryz.f34)),
  (35, FE.code 113 [.cell 2 50] (bodyOf Tryz.f35)),
  (36, FE.code 38 [.tmp 2, .tmp 3] (bodyOf Tryz.f36)),
  (37, FE.code 38 [.tmp 2, .tmp 3] (bodyOf Tryz.f37)),
  (38, FE.code 25 [.tmp 2, .tmp 3] (bodyOf Tryz.f38)),
  (39, FE.code 99 [.cell 2 99] (bodyOf Tryz.f39)),
  (40, FE.code 11 [.tmp 6] (bodyOf Tryz.f40)),
  (41, FE.code 47 [.tmp 4] (bodyOf Tryz.f41)),
  (42, FE.code 27 [.tmp 4] (bodyOf Tryz.f42)),
  (43, FE.code 36 [.tmp 2] (bodyOf Tryz.f43)),
  (44, FE.code 8 [.tmp 2] (bodyOf Tryz.f44)),
  (45, FE.code 83 [.tmp 4, .tmp 5] (bodyOf Tryz.f45)),
  (46, FE.code 11 [.tmp 6] (bodyOf Tryz.f46)),
  (47, FE.code 12 [.tmp 4] (bodyOf Tryz.f47)),
  (48, FE.code 25 [.tmp 4] (bodyOf Tryz.f48)),
  (49, FE.code 36 [.tmp 2] (bodyOf Tryz.f49)),
  (50, FE.code 11 [.tmp 6] (bodyOf Tryz.f50)),
  (51, FE.code 8 [.tmp 4] (bodyOf Tryz.f51)),
  (52, FE.code 47 [.tmp 4] (bodyOf Tryz.f52)),
  (53, FE.code 11 [.tmp 6] (bodyOf Tryz.f53)),
  (54, FE.code 37 [.tmp 4] (bodyOf Tryz.f54)),
  (55, FE.code 11 [.tmp 6] (bodyOf Tryz.f55)),
  (56, FE.code 22 [.tmp 4] (bodyOf Tryz.f56)),
  (57, FE.code 11 [.tmp 6] (bodyOf Tryz.f57)),
  (58, FE.code 10 [.tmp 4] (bodyOf Tryz.f58)),
  (59, FE.code 10 [.tmp 4] (bodyOf Tryz.f59)),
  (60, FE.code 10 [.tmp 4] (bodyOf Tryz.f60)),
  (61, FE.code 41 [.cell 4 50] (bodyOf Tryz.f61)),
  (62, FE.code 104 [.cell 6 69, .tmp 7, .cell 8 71] (bodyOf Tryz.f62)),
  (63, FE.code 10 [.tmp 2] (bodyOf Tryz.f63)),
  (64, FE.code 36 [.tmp 2] (bodyOf Tryz.f64)),
  (65, FE.code 16 [.tmp 8] (bodyOf Tryz.f65)),
  (66, FE.code 16 [.tmp 8] (bodyOf Tryz.f66)),
  (67, FE.code 28 [.tmp 8] (bodyOf Tryz.f67)),
  (68, FE.code 56 [.tmp 8] (bodyOf Tryz.f68)),
  (69, FE.code 34 [.tmp 4] (bodyOf Tryz.f69)),
  (70, FE.code 8 [.tmp 4] (bodyOf Tryz.f70)),
  (71, FE.code 5 [.tmp 2] (bodyOf Tryz.f71)),
  (72, FE.code 25 [.tmp 2] (bodyOf Tryz.f72)),
  (73, FE.code 59 [.tmp 4] (bodyOf Tryz.f73)),
  (74, FE.code 30 [.cell 2 157, .tmp 3] (bodyOf Tryz.f74)),
  (75, FE.code 85 [.tmp 6, .tmp 7] (bodyOf Tryz.f75)),
  (76, FE.code 41 [.tmp 6] (bodyOf Tryz.f76)),
  (77, FE.code 37 [.tmp 2, .tmp 3] (bodyOf Tryz.f77)),
  (78, FE.code 43 [.tmp 4, .tmp 5] (bodyOf Tryz.f78)),
  (79, FE.code 41 [.tmp 4] (bodyOf Tryz.f79)),
  (80, FE.code 10 [.tmp 2] (bodyOf Tryz.f80)),
  (81, FE.code 35 [.tmp 2] (bodyOf Tryz.f81)),
  (82, FE.code 10 [.tmp 2] (bodyOf Tryz.f82)),
  (83, FE.code 10 [.tmp 2] (bodyOf Tryz.f83)),
  (84, FE.code 28 [.tmp 2] (bodyOf Tryz.f84)),
  (85, FE.code 28 [.tmp 2] (bodyOf Tryz.f85)),
  (86, FE.code 14 [.tmp 2, .tmp 3, .tmp 4] (bodyOf Tryz.f86)),
  (87, FE.code 40 [.tmp 4, .tmp 5] (bodyOf Tryz.f87)),
  (88, FE.code 61 [.tmp 4, .tmp 5] (bodyOf Tryz.f88)),
  (89, FE.code 38 [.cell 2 179] (bodyOf Tryz.f89)),
  (90, FE.code 43 [.tmp 6] (bodyOf Tryz.f90)),
  (91, FE.code 11 [.tmp 2] (bodyOf Tryz.f91)),
  (92, FE.code 15 [.tmp 2] (bodyOf Tryz.f92)),
  (93, FE.code 71 [.tmp 2, .tmp 3] (bodyOf Tryz.f93)),
  (94, FE.code 9 [] (bodyOf Tryz.f94)),
  (95, FE.code 17 [.tmp 4] (bodyOf Tryz.f95)),
  (96, FE.code 18 [.tmp 2] (bodyOf Tryz.f96)),
  (97, FE.code 20 [.tmp 4] (bodyOf Tryz.f97)),
  (98, FE.code 6 [.tmp 2] (bodyOf Tryz.f98)),
  (99, FE.code 8 [.tmp 4] (bodyOf Tryz.f99)),
  (100, FE.code 66 [.tmp 4] (bodyOf Tryz.f100)),
  (101, FE.code 17 [.tmp 4] (bodyOf Tryz.f101)),
  (102, FE.code 22 [] (bodyOf Tryz.f102)),
  (103, FE.code 34 [.cell 2 99] (bodyOf Tryz.f103)),
  (104, FE.code 19 [] (bodyOf Tryz.f104)),
  (105, FE.code 52 [] (bodyOf Tryz.f105)),
  (106, FE.code 20 [.tmp 6] (bodyOf Tryz.f106)),
  (107, FE.code 47 [.tmp 4] (bodyOf Tryz.f107)),
  (108, FE.code 44 [.tmp 4] (bodyOf Tryz.f108)),
  (109, FE.code 64 [.tmp 4] (bodyOf Tryz.f109)),
  (110, FE.code 87 [.tmp 2] (bodyOf Tryz.f110)),
  (111, FE.code 111 [.tmp 2] (bodyOf Tryz.f111)),
  (112, FE.code 96 [.tmp 2] (bodyOf Tryz.f112)),
  (113, FE.code 9 [] (bodyOf Tryz.f113)),
  (114, FE.code 10 [.tmp 4] (bodyOf Tryz.f114)),
  (115, FE.code 9 [] (bodyOf Tryz.f115)),
  (116, FE.code 19 [.tmp 4] (bodyOf Tryz.f116)),
  (117, FE.code 4 [.tmp 2] (bodyOf Tryz.f117)),
  (118, FE.code 9 [] (bodyOf Tryz.f118)),
  (119, FE.code 10 [.tmp 4] (bodyOf Tryz.f119)),
  (120, FE.code 66 [.tmp 4] (bodyOf Tryz.f120)),
  (121, FE.code 18 [.tmp 4] (bodyOf Tryz.f121)),
  (122, FE.code 66 [.tmp 4] (bodyOf Tryz.f122)),
  (123, FE.code 66 [.tmp 4] (bodyOf Tryz.f123)),
  (124, FE.code 19 [.tmp 4, .tmp 5] (bodyOf Tryz.f124)),
  (125, FE.code 43 [.tmp 2] (bodyOf Tryz.f125)),
  (126, FE.code 8 [.tmp 2] (bodyOf Tryz.f126)),
  (127, FE.code 14 [.tmp 2] (bodyOf Tryz.f127)),
  (128, FE.code 32 [.tmp 6] (bodyOf Tryz.f128)),
  (129, FE.code 45 [.tmp 4] (bodyOf Tryz.f129)),
  (130, FE.code 50 [.tmp 2] (bodyOf Tryz.f130)),
  (131, FE.code 8 [.tmp 4] (bodyOf Tryz.f131)),
  (132, FE.code 59 [] (bodyOf Tryz.f132)),
  (133, FE.code 74 [.tmp 4] (bodyOf Tryz.f133)),
  (134, FE.code 22 [.cell 2 99] (bodyOf Tryz.f134)),
  (135, FE.code 26 [.cell 2 99] (bodyOf Tryz.f135)),
  (136, FE.code 42 [.tmp 4] (bodyOf Tryz.f136)),
  (137, FE.code 8 [.tmp 2] (bodyOf Tryz.f137)),
  (138, FE.code 8 [.tmp 4] (bodyOf Tryz.f138)),
  (139, FE.code 9 [.tmp 4] (bodyOf Tryz.f139)),
  (140, FE.code 9 [.tmp 4] (bodyOf Tryz.f140)),
  (141, FE.code 26 [.tmp 4] (bodyOf Tryz.f141)),
  (142, FE.code 27 [.tmp 4] (bodyOf Tryz.f142)),
  (143, FE.code 8 [.tmp 2] (bodyOf Tryz.f143)),
  (144, FE.code 98 [.tmp 2, .tmp 3, .tmp 4, .tmp 5, .tmp 6, .tmp 7, .tmp 8] (bodyOf Tryz.f144)),
  (145, FE.code 101 [.cell 12 93, .tmp 13] (bodyOf Tryz.f145)),
  (146, FE.code 42 [.tmp 4] (bodyOf Tryz.f146)),
  (147, FE.code 8 [.tmp 4] (bodyOf Tryz.f147)),
  (148, FE.code 9 [.tmp 4] (bodyOf Tryz.f148)),
  (149, FE.code 9 [.tmp 4] (bodyOf Tryz.f149)),
  (150, FE.code 8 [.tmp 4] (bodyOf Tryz.f150)),
  (151, FE.code 27 [.tmp 4] (bodyOf Tryz.f151)),
  (152, FE.code 42 [.tmp 4] (bodyOf Tryz.f152)),
  (153, FE.code 8 [.tmp 4] (bodyOf Tryz.f153)),
  (154, FE.code 9 [.tmp 4] (bodyOf Tryz.f154)),
  (155, FE.code 9 [.tmp 4] (bodyOf Tryz.f155)),
  (156, FE.code 8 [.tmp 2] (bodyOf Tryz.f156)),
  (157, FE.code 19 [.tmp 4] (bodyOf Tryz.f157)),
  (158, FE.code 9 [.tmp 3] (bodyOf Tryz.f158)),
  (159, FE.code 33 [.tmp 6] (bodyOf Tryz.f159)),
  (160, FE.code 42 [.tmp 4] (bodyOf Tryz.f160)),
  (161, FE.code 8 [.tmp 2] (bodyOf Tryz.f161)),
  (162, FE.code 8 [.tmp 4] (bodyOf Tryz.f162)),
  (163, FE.code 9 [.tmp 4] (bodyOf Tryz.f163)),
  (164, FE.code 9 [.tmp 4] (bodyOf Tryz.f164)),
  (165, FE.code 24 [.tmp 2] (bodyOf Tryz.f165)),
  (166, FE.code 42 [.tmp 4] (bodyOf Tryz.f166)),
  (167, FE.code 8 [.tmp 2] (bodyOf Tryz.f167)),
  (168, FE.code 8 [.tmp 4] (bodyOf Tryz.f168)),
  (169, FE.code 9 [.tmp 4] (bodyOf Tryz.f169)),
  (170, FE.code 9 [.tmp 4] (bodyOf Tryz.f170)),
  (171, FE.code 42 [.tmp 4] (bodyOf Tryz.f171)),
  (172, FE.code 8 [.tmp 4] (bodyOf Tryz.f172)),
  (173, FE.code 9 [.tmp 4] (bodyOf Tryz.f173)),
  (174, FE.code 9 [.tmp 4] (bodyOf Tryz.f174)),
  (175, FE.code 36 [.tmp 2] (bodyOf Tryz.f175)),
  (176, FE.code 41 [.tmp 4] (bodyOf Tryz.f176)),
  (177, FE.code 36 [.tmp 2] (bodyOf Tryz.f177)),
  (178, FE.code 36 [.tmp 2] (bodyOf Tryz.f178)),
  (179, FE.code 7 [.tmp 3] (bodyOf Tryz.f179)),
  (180, FE.code 10 [.tmp 4] (bodyOf Tryz.f180)),
  (181, FE.code 25 [.cell 4 93, .tmp 5] (bodyOf Tryz.f181)),
  (182, FE.code 17 [.tmp 2] (bodyOf Tryz.f182)),
  (183, FE.code 13 [.tmp 8] (bodyOf Tryz.f183)),
  (184, FE.code 23 [.tmp 4] (bodyOf Tryz.f184)),
  (185, FE.code 33 [.tmp 4] (bodyOf Tryz.f185)),
  (186, FE.code 90 [.tmp 8] (bodyOf Tryz.f186)),
  (187, FE.code 9 [.tmp 4] (bodyOf Tryz.f187)),
  (188, FE.code 35 [.tmp 10] (bodyOf Tryz.f188)),
  (189, FE.code 36 [.tmp 8] (bodyOf Tryz.f189)),
  (190, FE.code 10 [.tmp 2] (bodyOf Tryz.f190)),
  (191, FE.pure countX),
  (192, FE.code 8 [.tmp 4] (bodyOf Tryz.f192)),
  (193, FE.code 8 [.tmp 6] (bodyOf Tryz.f193)),
  (194, FE.code 8 [.tmp 4] (bodyOf Tryz.f194)),
  (195, FE.code 9 [.tmp 4] (bodyOf Tryz.f195)),
  (196, FE.code 8 [.tmp 4] (bodyOf Tryz.f196)),
  (197, FE.code 30 [.tmp 2, .tmp 3] (bodyOf Tryz.f197)),
  (198, FE.code 28 [.tmp 2] (bodyOf Tryz.f198)),
  (199, FE.code 58 [.tmp 4] (bodyOf Tryz.f199)),
  (200, FE.code 7 [.tmp 3] (bodyOf Tryz.f200)),
  (201, FE.code 49 [.tmp 4] (bodyOf Tryz.f201)),
  (202, FE.code 10 [.tmp 4] (bodyOf Tryz.f202)),
  (203, FE.code 9 [.tmp 4] (bodyOf Tryz.f203)),
  (204, FE.code 11 [.tmp 3] (bodyOf Tryz.f204)),
  (205, FE.code 28 [.tmp 4] (bodyOf Tryz.f205)),
  (206, FE.code 11 [] (bodyOf Tryz.f206)),
  (207, FE.code 61 [.tmp 2] (bodyOf Tryz.f207)),
  (208, FE.code 22 [.tmp 2] (bodyOf Tryz.f208)),
  (209, FE.code 26 [.tmp 2] (bodyOf Tryz.f209)),
  (210, FE.code 17 [.tmp 4] (bodyOf Tryz.f210)),
  (211, FE.code 46 [.tmp 4] (bodyOf Tryz.f211)),
  (212, FE.code 8 [.tmp 2] (bodyOf Tryz.f212)),
  (213, FE.code 14 [] (bodyOf Tryz.f213)),
  (214, FE.code 17 [.tmp 4] (bodyOf Tryz.f214)),
  (215, FE.code 61 [.tmp 2] (bodyOf Tryz.f215)),
  (216, FE.code 8 [.tmp 2] (bodyOf Tryz.f216)),
  (217, FE.code 14 [] (bodyOf Tryz.f217)),
  (218, FE.code 22 [.tmp 4] (bodyOf Tryz.f218)),
  (219, FE.code 61 [.tmp 2] (bodyOf Tryz.f219)),
  (220, FE.code 14 [] (bodyOf Tryz.f220)),
  (221, FE.code 22 [.tmp 4] (bodyOf Tryz.f221)),
  (222, FE.code 66 [.tmp 4] (bodyOf Tryz.f222)),
  (223, FE.code 24 [.tmp 4] (bodyOf Tryz.f223)),
  (224, FE.code 14 [] (bodyOf Tryz.f224)),
  (225, FE.code 22 [.tmp 4] (bodyOf Tryz.f225)),
  (226, FE.code 36 [.tmp 4] (bodyOf Tryz.f226)),
  (227, FE.code 66 [.tmp 4] (bodyOf Tryz.f227)),
  (228, FE.code 24 [.tmp 4] (bodyOf Tryz.f228)),
  (229, FE.code 31 [.tmp 2] (bodyOf Tryz.f229)),
  (230, FE.code 34 [.tmp 2, .tmp 3] (bodyOf Tryz.f230)),
  (231, FE.code 9 [.tmp 4] (bodyOf Tryz.f231)),
  (232, FE.code 5 [.tmp 2] (bodyOf Tryz.f232)),
  (233, FE.code 7 [.tmp 3] (bodyOf Tryz.f233)),
  (234, FE.code 67 [.tmp 4] (bodyOf Tryz.f234)),
  (235, FE.code 71 [.tmp 4] (bodyOf Tryz.f235)),
  (236, FE.code 36 [.tmp 4] (bodyOf Tryz.f236)),
  (237, FE.code 8 [.tmp 2] (bodyOf Tryz.f237)),
  (238, FE.code 14 [] (bodyOf Tryz.f238)),
  (239, FE.code 24 [.tmp 4] (bodyOf Tryz.f239)),
  (240, FE.code 39 [.tmp 2] (bodyOf Tryz.f240)),
  (241, FE.code 25 [.tmp 4] (bodyOf Tryz.f241)),
  (242, FE.code 54 [.tmp 4] (bodyOf Tryz.f242)),
  (243, FE.code 63 [] (bodyOf Tryz.f243)),
  (244, FE.code 6 [.tmp 2] (bodyOf Tryz.f244)),
  (245, FE.code 8 [.tmp 4] (bodyOf Tryz.f245)),
  (246, FE.code 37 [.tmp 4] (bodyOf Tryz.f246)),
  (247, FE.code 22 [.tmp 2] (bodyOf Tryz.f247)),
  (248, FE.code 11 [.cell 2 99] (bodyOf Tryz.f248)),
  (249, FE.code 9 [.cell 2 99] (bodyOf Tryz.f249)),
  (250, FE.code 89 [.tmp 2] (bodyOf Tryz.f250)),
  (251, FE.code 22 [.cell 6 99] (bodyOf Tryz.f251)),
  (252, FE.code 101 [.cell 2 99] (bodyOf Tryz.f252)),
  (253, FE.code 35 [] (bodyOf Tryz.f253)),
  (254, FE.code 38 [.cell 4 99, .tmp 5] (bodyOf Tryz.f254)),
  (255, FE.code 35 [.tmp 4] (bodyOf Tryz.f255)),
  (256, FE.code 52 [.cell 4 130] (bodyOf Tryz.f256)),
  (257, FE.code 14 [.cell 4 99] (bodyOf Tryz.f257)),
  (258, FE.code 7 [.tmp 2] (bodyOf Tryz.f258)),
  (259, FE.code 7 [.tmp 2] (bodyOf Tryz.f259)),
  (260, FE.code 9 [.tmp 4] (bodyOf Tryz.f260)),
  (261, FE.code 8 [.tmp 3] (bodyOf Tryz.f261)),
  (262, FE.code 63 [] (bodyOf Tryz.f262)),
  (263, FE.code 63 [] (bodyOf Tryz.f263)),
  (264, FE.code 63 [] (bodyOf Tryz.f264)),
  (265, FE.code 20 [] (bodyOf Tryz.f265)),
  (266, FE.code 14 [.tmp 2] (bodyOf Tryz.f266)),
  (267, FE.code 5 [.tmp 2] (bodyOf Tryz.f267)),
  (268, FE.code 5 [.tmp 2] (bodyOf Tryz.f268)),
  (269, FE.code 41 [.tmp 2, .tmp 3] (bodyOf Tryz.f269)),
  (270, FE.code 32 [.tmp 6] (bodyOf Tryz.f270)),
  (271, FE.code 45 [.tmp 4] (bodyOf Tryz.f271)),
  (272, FE.code 60 [] (bodyOf Tryz.f272)),
  (273, FE.code 29 [] (bodyOf Tryz.f273)),
  (274, FE.code 14 [] (bodyOf Tryz.f274)),
  (275, FE.code 23 [] (bodyOf Tryz.f275)),
  (276, FE.code 17 [.tmp 4] (bodyOf Tryz.f276)),
  (277, FE.code 19 [.tmp 4] (bodyOf Tryz.f277)),
  (278, FE.code 29 [.tmp 2, .tmp 3] (bodyOf Tryz.f278)),
  (279, FE.code 25 [.cell 4 93, .tmp 5] (bodyOf Tryz.f279)),
  (280, FE.code 50 [.tmp 4] (bodyOf Tryz.f280)),
  (281, FE.code 16 [.tmp 2] (bodyOf Tryz.f281)),
  (282, FE.code 20 [.tmp 2] (bodyOf Tryz.f282)),
  (283, FE.code 19 [.tmp 4] (bodyOf Tryz.f283)),
  (284, FE.code 19 [.tmp 4] (bodyOf Tryz.f284)),
  (285, FE.code 19 [.tmp 4] (bodyOf Tryz.f285)),
  (286, FE.code 19 [.tmp 4] (bodyOf Tryz.f286)),
  (287, FE.code 27 [.tmp 4] (bodyOf Tryz.f287)),
  (288, FE.code 9 [.tmp 3] (bodyOf Tryz.f288)),
  (289, FE.code 27 [.tmp 4] (bodyOf Tryz.f289)),
  (290, FE.code 27 [.tmp 4] (bodyOf Tryz.f290)),
  (291, FE.code 75 [.tmp 4] (bodyOf Tryz.f291)),
  (292, FE.code 17 [.tmp 2] (bodyOf Tryz.f292)),
  (293, FE.code 9 [.tmp 4] (bodyOf Tryz.f293)),
  (294, FE.code 22 [.tmp 5] (bodyOf Tryz.f294)),
  (295, FE.code 22 [.tmp 4] (bodyOf Tryz.f295)),
  (296, FE.code 8 [.tmp 4] (bodyOf Tryz.f296)),
  (297, FE.code 21 [.tmp 6] (bodyOf Tryz.f297)),
  (298, FE.code 37 [.cell 8 303, .tmp 9] (bodyOf Tryz.f298)),
  (299, FE.code 48 [.tmp 8] (bodyOf Tryz.f299)),
  (300, FE.code 9 [.tmp 3] (bodyOf Tryz.f300)),
  (301, FE.code 19 [.tmp 4] (bodyOf Tryz.f301)),
  (302, FE.code 9 [.tmp 4] (bodyOf Tryz.f302)),
  (303, FE.code 11 [.tmp 6] (bodyOf Tryz.f303)),
  (304, FE.code 8 [.tmp 4] (bodyOf Tryz.f304)),
  (305, FE.code 143 [.tmp 4] (bodyOf Tryz.f305)),
  (306, FE.code 52 [] (bodyOf Tryz.f306)),
  (307, FE.code 19 [.tmp 2, .tmp 3] (bodyOf Tryz.f307)),
  (308, FE.code 16 [.tmp 4] (bodyOf Tryz.f308)),
  (309, FE.code 8 [.tmp 4] (bodyOf Tryz.f309)),
  (310, FE.code 43 [.tmp 4] (bodyOf Tryz.f310)),
  (311, FE.code 18 [.tmp 2, .tmp 3] (bodyOf Tryz.f311)),
  (312, FE.code 9 [.tmp 3] (bodyOf Tryz.f312)),
  (313, FE.code 19 [.tmp 4] (bodyOf Tryz.f313)),
  (314, FE.code 54 [.tmp 4, .tmp 5] (bodyOf Tryz.f314)),
  (315, FE.code 134 [] (bodyOf Tryz.f315)),
  (316, FE.code 8 [.tmp 2] (bodyOf Tryz.f316)),
  (317, FE.code 148 [] (bodyOf Tryz.f317)),
  (318, FE.code 148 [] (bodyOf Tryz.f318)),
  (319, FE.code 148 [] (bodyOf Tryz.f319)),
  (320, FE.code 148 [] (bodyOf Tryz.f320)),
  (321, FE.code 20 [.tmp 4] (bodyOf Tryz.f321)),
  (322, FE.code 8 [.tmp 4] (bodyOf Tryz.f322)),
  (323, FE.code 6 [.tmp 2] (bodyOf Tryz.f323)),
  (324, FE.code 62 [.cell 2 303, .tmp 3] (bodyOf Tryz.f324)),
  (325, FE.code 19 [.tmp 4] (bodyOf Tryz.f325)),
  (326, FE.code 30 [.tmp 4] (bodyOf Tryz.f326)),
  (327, FE.code 19 [.tmp 4] (bodyOf Tryz.f327)),
  (328, FE.code 87 [.tmp 4] (bodyOf Tryz.f328)),
  (329, FE.code 148 [] (bodyOf Tryz.f329)),
  (330, FE.code 4 [.tmp 2] (bodyOf Tryz.f330)),
  (331, FE.code 53 [] (bodyOf Tryz.f331)),
  (332, FE.code 220 [] (bodyOf Tryz.f332)),
  (333, FE.pure cmpX),
  (334, FE.code 17 [.tmp 4] (bodyOf Tryz.f334)),
  (335, FE.code 21 [.cell 2 376, .tmp 3] (bodyOf Tryz.f335)),
  (336, FE.code 16 [.tmp 4] (bodyOf Tryz.f336)),
  (337, FE.code 23 [.tmp 4] (bodyOf Tryz.f337)),
  (338, FE.code 55 [] (bodyOf Tryz.f338)),
  (339, FE.code 48 [] (bodyOf Tryz.f339)),
  (340, FE.code 29 [.tmp 4] (bodyOf Tryz.f340)),
  (341, FE.code 11 [] (bodyOf Tryz.f341)),
  (342, FE.code 44 [.tmp 2, .tmp 3] (bodyOf Tryz.f342)),
  (343, FE.code 41 [] (bodyOf Tryz.f343)),
  (344, FE.code 19 [.tmp 4] (bodyOf Tryz.f344)),
  (345, FE.code 6 [.tmp 2] (bodyOf Tryz.f345)),
  (346, FE.code 6 [.tmp 2] (bodyOf Tryz.f346)),
  (347, FE.code 10 [.tmp 2] (bodyOf Tryz.f347)),
  (348, FE.code 53 [] (bodyOf Tryz.f348)),
  (349, FE.code 220 [] (bodyOf Tryz.f349)),
  (350, FE.code 53 [] (bodyOf Tryz.f350)),
  (351, FE.code 220 [] (bodyOf Tryz.f351)),
  (352, FE.code 53 [] (bodyOf Tryz.f352)),
  (353, FE.code 220 [] (bodyOf Tryz.f353)),
  (354, FE.pure sameX),
  (355, FE.code 5 [.tmp 2] (bodyOf Tryz.f355)),
  (356, FE.code 58 [.tmp 2] (bodyOf Tryz.f356)),
  (357, FE.code 26 [.tmp 4] (bodyOf Tryz.f357)),
  (358, FE.code 12 [.tmp 4] (bodyOf Tryz.f358)),
  (359, FE.code 25 [] (bodyOf Tryz.f359)),
  (360, FE.code 19 [.tmp 4] (bodyOf Tryz.f360)),
  (361, FE.code 13 [.tmp 3] (bodyOf Tryz.f361)),
  (362, FE.code 10 [.tmp 6] (bodyOf Tryz.f362)),
  (363, FE.code 15 [.tmp 4] (bodyOf Tryz.f363)),
  (364, FE.code 7 [.tmp 3] (bodyOf Tryz.f364)),
  (365, FE.code 20 [.tmp 4] (bodyOf Tryz.f365)),
  (367, FE.code 6 [.tmp 2] (bodyOf Tryz.f367)),
  (368, FE.code 81 [.tmp 4] (bodyOf Tryz.f368)),
  (369, FE.code 117 [.tmp 2, .tmp 3] (bodyOf Tryz.f369)),
  (370, FE.code 21 [.tmp 4] (bodyOf Tryz.f370)),
  (371, FE.pure idxX),
  (372, FE.code 23 [.tmp 4] (bodyOf Tryz.f372)),
  (373, FE.code 22 [.tmp 4] (bodyOf Tryz.f373)),
  (374, FE.code 34 [.tmp 4] (bodyOf Tryz.f374)),
  (375, FE.code 77 [.tmp 2, .tmp 3] (bodyOf Tryz.f375)),
  (376, FE.code 43 [.tmp 10] (bodyOf Tryz.f376)),
  (377, FE.code 17 [.tmp 4] (bodyOf Tryz.f377)),
  (378, FE.code 6 [.tmp 2] (bodyOf Tryz.f378)),
  (379, FE.code 49 [] (bodyOf Tryz.f379)),
  (380, FE.code 56 [] (bodyOf Tryz.f380)),
  (381, FE.code 65 [] (bodyOf Tryz.f381)),
  (382, FE.code 57 [.tmp 6, .tmp 7] (bodyOf Tryz.f382)),
  (383, FE.code 32 [] (bodyOf Tryz.f383)),
  (384, FE.code 133 [.tmp 6] (bodyOf Tryz.f384)),
  (385, FE.code 84 [.tmp 8] (bodyOf Tryz.f385)),
  (386, FE.code 168 [.tmp 8, .tmp 9] (bodyOf Tryz.f386)),
  (387, FE.code 19 [.tmp 2] (bodyOf Tryz.f387)),
  (388, FE.code 25 [.tmp 2] (bodyOf Tryz.f388)),
  (389, FE.code 53 [] (bodyOf Tryz.f389)),
  (390, FE.code 60 [] (bodyOf Tryz.f390)),
  (391, FE.code 67 [] (bodyOf Tryz.f391)),
  (392, FE.code 63 [.tmp 8, .tmp 9] (bodyOf Tryz.f392)),
  (393, FE.code 34 [] (bodyOf Tryz.f393)),
  (394, FE.code 141 [.tmp 8] (bodyOf Tryz.f394)),
  (395, FE.code 90 [.tmp 10] (bodyOf Tryz.f395)),
  (396, FE.code 178 [.tmp 10, .tmp 11] (bodyOf Tryz.f396)),
  (397, FE.code 53 [] (bodyOf Tryz.f397)),
  (398, FE.code 60 [] (bodyOf Tryz.f398)),
  (399, FE.code 67 [] (bodyOf Tryz.f399)),
  (400, FE.code 63 [.tmp 8, .tmp 9] (bodyOf Tryz.f400)),
  (401, FE.code 34 [] (bodyOf Tryz.f401)),
  (402, FE.code 141 [.tmp 8] (bodyOf Tryz.f402)),
  (403, FE.code 90 [.tmp 10] (bodyOf Tryz.f403)),
  (404, FE.code 178 [.tmp 10, .tmp 11] (bodyOf Tryz.f404)),
  (405, FE.code 53 [] (bodyOf Tryz.f405)),
  (406, FE.code 60 [] (bodyOf Tryz.f406)),
  (407, FE.code 67 [] (bodyOf Tryz.f407)),
  (408, FE.code 63 [.tmp 8, .tmp 9] (bodyOf Tryz.f408)),
  (409, FE.code 34 [] (bodyOf Tryz.f409)),
  (410, FE.code 141 [.tmp 8] (bodyOf Tryz.f410)),
  (411, FE.code 90 [.tmp 10] (bodyOf Tryz.f411)),
  (412, FE.code 178 [.tmp 10, .tmp 11] (bodyOf Tryz.f412)),
  (413, FE.code 53 [] (bodyOf Tryz.f413)),
  (414, FE.code 60 [] (bodyOf Tryz.f414)),
  (415, FE.code 67 [] (bodyOf Tryz.f415)),
  (416, FE.code 63 [.tmp 8, .tmp 9] (bodyOf Tryz.f416)),
  (417, FE.code 34 [] (bodyOf Tryz.f417)),
  (418, FE.code 141 [.tmp 8] (bodyOf Tryz.f418)),
  (419, FE.code 90 [.tmp 10] (bodyOf Tryz.f419)),
  (420, FE.code 178 [.tmp 10, .tmp 11] (bodyOf Tryz.f420)),
  (421, FE.code 6 [.tmp 2] (bodyOf Tryz.f421)),
  (422, FE.code 66 [.tmp 8] (bodyOf Tryz.f422)),
  (423, FE.code 11 [.tmp 4, .tmp 5] (bodyOf Tryz.f423)),
  (424, FE.code 27 [.tmp 2, .tmp 3] (bodyOf Tryz.f424)),
  (425, FE.code 37 [.tmp 4] (bodyOf Tryz.f425)),
  (426, FE.code 40 [.tmp 2, .tmp 3] (bodyOf Tryz.f426)),
  (427, FE.code 53 [] (bodyOf Tryz.f427)),
  (428, FE.code 60 [] (bodyOf Tryz.f428)),
  (429, FE.code 67 [] (bodyOf Tryz.f429)),
  (430, FE.code 63 [.tmp 8, .tmp 9] (bodyOf Tryz.f430)),
  (431, FE.code 34 [] (bodyOf Tryz.f431)),
  (432, FE.code 141 [.tmp 8] (bodyOf Tryz.f432)),
  (433, FE.code 90 [.tmp 10] (bodyOf Tryz.f433)),
  (434, FE.code 178 [.tmp 10, .tmp 11] (bodyOf Tryz.f434)),
  (435, FE.code 58 [] (bodyOf Tryz.f435)),
  (436, FE.code 10 [.tmp 4] (bodyOf Tryz.f436)),
  (437, FE.code 9 [.tmp 4] (bodyOf Tryz.f437)),
  (438, FE.code 37 [] (bodyOf Tryz.f438)),
  (439, FE.code 11 [.tmp 2, .tmp 3] (bodyOf Tryz.f439)),
  (440, FE.code 78 [.tmp 2] (bodyOf Tryz.f440)),
  (441, FE.code 25 [.tmp 6, .tmp 7] (bodyOf Tryz.f441)),
  (442, FE.code 58 [] (bodyOf Tryz.f442)),
  (443, FE.code 58 [] (bodyOf Tryz.f443)),
  (444, FE.code 58 [] (bodyOf Tryz.f444)),
  (445, FE.code 54 [.tmp 4] (bodyOf Tryz.f445)),
  (446, FE.code 30 [] (bodyOf Tryz.f446)),
  (447, FE.code 20 [.tmp 4] (bodyOf Tryz.f447)),
  (448, FE.code 11 [.tmp 4, .tmp 5] (bodyOf Tryz.f448)),
  (449, FE.code 8 [.tmp 4] (bodyOf Tryz.f449)),
  (450, FE.code 39 [.tmp 2, .tmp 3] (bodyOf Tryz.f450)),
  (451, FE.code 51 [.tmp 2, .tmp 3] (bodyOf Tryz.f451)),
  (452, FE.code 73 [.tmp 6, .tmp 7] (bodyOf Tryz.f452)),
  (453, FE.code 11 [.tmp 4] (bodyOf Tryz.f453)),
  (454, FE.code 11 [.tmp 4] (bodyOf Tryz.f454)),
  (455, FE.code 16 [.tmp 6] (bodyOf Tryz.f455)),
  (456, FE.code 16 [.tmp 6] (bodyOf Tryz.f456)),
  (457, FE.code 76 [] (bodyOf Tryz.f457)),
  (458, FE.code 7 [.tmp 2] (bodyOf Tryz.f458)),
  (459, FE.code 33 [.tmp 2] (bodyOf Tryz.f459)),
  (460, FE.code 15 [.tmp 6] (bodyOf Tryz.f460)),
  (461, FE.code 36 [.tmp 10] (bodyOf Tryz.f461)),
  (462, FE.code 82 [] (bodyOf Tryz.f462)),
  (463, FE.code 18 [.tmp 8] (bodyOf Tryz.f463)),
  (464, FE.code 41 [.tmp 12] (bodyOf Tryz.f464)),
  (465, FE.code 82 [] (bodyOf Tryz.f465)),
  (466, FE.code 18 [.tmp 8] (bodyOf Tryz.f466)),
  (467, FE.code 41 [.tmp 12] (bodyOf Tryz.f467)),
  (468, FE.code 82 [] (bodyOf Tryz.f468)),
  (469, FE.code 18 [.tmp 8] (bodyOf Tryz.f469)),
  (470, FE.code 41 [.tmp 12] (bodyOf Tryz.f470)),
  (471, FE.code 82 [] (bodyOf Tryz.f471)),
  (472, FE.code 18 [.tmp 8] (bodyOf Tryz.f472)),
  (473, FE.code 41 [.tmp 12] (bodyOf Tryz.f473)),
  (474, FE.code 50 [.tmp 4] (bodyOf Tryz.f474)),
  (475, FE.code 15 [.tmp 4, .tmp 5] (bodyOf Tryz.f475)),
  (476, FE.code 82 [] (bodyOf Tryz.f476)),
  (477, FE.code 18 [.tmp 8] (bodyOf Tryz.f477)),
  (478, FE.code 41 [.tmp 12] (bodyOf Tryz.f478)),
  (479, FE.code 38 [] (bodyOf Tryz.f479)),
  (480, FE.code 187 [.tmp 4] (bodyOf Tryz.f480)),
  (481, FE.code 85 [.tmp 4] (bodyOf Tryz.f481)),
  (482, FE.code 16 [.tmp 2] (bodyOf Tryz.f482)),
  (483, FE.code 38 [] (bodyOf Tryz.f483)),
  (484, FE.code 38 [] (bodyOf Tryz.f484)),
  (485, FE.code 38 [] (bodyOf Tryz.f485)),
  (486, FE.code 15 [.tmp 2] (bodyOf Tryz.f486)),
  (487, FE.code 15 [.tmp 2] (bodyOf Tryz.f487)),
  (488, FE.code 167 [] (bodyOf Tryz.f488)),
  (489, FE.code 102 [.tmp 10, .tmp 11] (bodyOf Tryz.f489)),
  (490, FE.room 5),
  (491, FE.code 18 [.tmp 4, .tmp 5] (bodyOf Tryz.f491)),
  (492, FE.code 18 [.tmp 4] (bodyOf Tryz.f492)),
  (493, FE.code 6 [.tmp 2] (bodyOf Tryz.f493)),
  (494, FE.code 172 [.tmp 6, .tmp 7] (bodyOf Tryz.f494)),
  (495, FE.code 18 [.tmp 2] (bodyOf Tryz.f495)),
  (496, FE.code 7 [.tmp 2] (bodyOf Tryz.f496)),
  (497, FE.code 28 [.tmp 8, .tmp 9] (bodyOf Tryz.f497)),
  (498, FE.code 32 [.tmp 10, .tmp 11] (bodyOf Tryz.f498)),
  (499, FE.code 32 [.tmp 10, .tmp 11] (bodyOf Tryz.f499)),
  (500, FE.code 32 [.tmp 10, .tmp 11] (bodyOf Tryz.f500)),
  (501, FE.code 32 [.tmp 10, .tmp 11] (bodyOf Tryz.f501)),
  (502, FE.code 32 [.tmp 10, .tmp 11] (bodyOf Tryz.f502)),
  (503, FE.code 17 [.tmp 2] (bodyOf Tryz.f503)),
  (504, FE.code 25 [.tmp 2] (bodyOf Tryz.f504)),
  (505, FE.code 30 [.tmp 4, .tmp 5] (bodyOf Tryz.f505)),
  (506, FE.code 8 [.tmp 2] (bodyOf Tryz.f506)),
  (507, FE.code 13 [.tmp 4] (bodyOf Tryz.f507)),
  (508, FE.code 6 [.tmp 2] (bodyOf Tryz.f508)),
  (509, FE.code 4 [.tmp 2] (bodyOf Tryz.f509)),
  (510, FE.code 8 [.tmp 2] (bodyOf Tryz.f510)),
  (511, FE.code 8 [.tmp 2] (bodyOf Tryz.f511)),
  (512, FE.code 5 [.tmp 2] (bodyOf Tryz.f512)),
  (513, FE.code 94 [.tmp 2] (bodyOf Tryz.f513)),
  (514, FE.code 16 [.tmp 4] (bodyOf Tryz.f514)),
  (515, FE.code 25 [.tmp 6, .tmp 7] (bodyOf Tryz.f515)),
  (516, FE.code 14 [.tmp 2] (bodyOf Tryz.f516)),
  (517, FE.code 14 [.tmp 2] (bodyOf Tryz.f517)),
  (518, FE.code 78 [.tmp 4] (bodyOf Tryz.f518)),
  (519, FE.code 50 [.tmp 4] (bodyOf Tryz.f519)),
  (520, FE.code 37 [.tmp 6] (bodyOf Tryz.f520))]
theorem ftLOk : ∀ p ∈ ftL, FeOk Tryz.prog p.1 p.2 := all_cons fe_3 (all_cons fe_4 (all_cons fe_5 (all_cons fe_6 (all_cons fe_7 (all_cons fe_8 (all_cons fe_9 (all_cons fe_10 (all_cons fe_11 (all_cons fe_12 (all_cons fe_13 (all_cons fe_14 (all_cons fe_15 (all_cons fe_16 (all_cons fe_17 (all_cons fe_18 (all_cons fe_19 (all_cons fe_20 (all_cons fe_21 (all_cons fe_22 (all_cons fe_23 (all_cons fe_24 (all_cons fe_25 (all_cons fe_26 (all_cons fe_27 (all_cons fe_28 (all_cons fe_29 (all_cons fe_30 (all_cons fe_31 (all_cons fe_32 (all_cons fe_33 (all_cons fe_34 (all_cons fe_35 (all_cons fe_36 (all_cons fe_37 (all_cons fe_38 (all_cons fe_39 (all_cons fe_40 (all_cons fe_41 (all_cons fe_42 (all_cons fe_43 (all_cons fe_44 (all_cons fe_45 (all_cons fe_46 (all_cons fe_47 (all_cons fe_48 (all_cons fe_49 (all_cons fe_50 (all_cons fe_51 (all_cons fe_52 (all_cons fe_53 (all_cons fe_54 (all_cons fe_55 (all_cons fe_56 (all_cons fe_57 (all_cons fe_58 (all_cons fe_59 (all_cons fe_60 (all_cons fe_61 (all_cons fe_62 (all_cons fe_63 (all_cons fe_64 (all_cons fe_65 (all_cons fe_66 (all_cons fe_67 (all_cons fe_68 (all_cons fe_69 (all_cons fe_70 (all_cons fe_71 (all_cons fe_72 (all_cons fe_73 (all_cons fe_74 (all_cons fe_75 (all_cons fe_76 (all_cons fe_77 (all_cons fe_78 (all_cons fe_79 (all_cons fe_80 (all_cons fe_81 (all_cons fe_82 (all_cons fe_83 (all_cons fe_84 (all_cons fe_85 (all_cons fe_86 (all_cons fe_87 (all_cons fe_88 (all_cons fe_89 (all_cons fe_90 (all_cons fe_91 (all_cons fe_92 (all_cons fe_93 (all_cons fe_94 (all_cons fe_95 (all_cons fe_96 (all_cons fe_97 (all_cons fe_98 (all_cons fe_99 (all_cons fe_100 (all_cons fe_101 (all_cons fe_102 (all_cons fe_103 (all_cons fe_104 (all_cons fe_105 (all_cons fe_106 (all_cons fe_107 (all_cons fe_108 (all_cons fe_109 (all_cons fe_110 (all_cons fe_111 (all_cons fe_112 (all_cons fe_113 (all_cons fe_114 (all_cons fe_115 (all_cons fe_116 (all_cons fe_117 (all_cons fe_118 (all_cons fe_119 (all_cons fe_120 (all_cons fe_121 (all_cons fe_122 (all_cons fe_123 (all_cons fe_124 (all_cons fe_125 (all_cons fe_126 (all_cons fe_127 (all_cons fe_128 (all_cons fe_129 (all_cons fe_130 (all_cons fe_131 (all_cons fe_132 (all_cons fe_133 (all_cons fe_134 (all_cons fe_135 (all_cons fe_136 (all_cons fe_137 (all_cons fe_138 (all_cons fe_139 (all_cons fe_140 (all_cons fe_141 (all_cons fe_142 (all_cons fe_143 (all_cons fe_144 (all_cons fe_145 (all_cons fe_146 (all_cons fe_147 (all_cons fe_148 (all_cons fe_149 (all_cons fe_150 (all_cons fe_151 (all_cons fe_152 (all_cons fe_153 (all_cons fe_154 (all_cons fe_155 (all_cons fe_156 (all_cons fe_157 (all_cons fe_158 (all_cons fe_159 (all_cons fe_160 (all_cons fe_161 (all_cons fe_162 (all_cons fe_163 (all_cons fe_164 (all_cons fe_165 (all_cons fe_166 (all_cons fe_167 (all_cons fe_168 (all_cons fe_169 (all_cons fe_170 (all_cons fe_171 (all_cons fe_172 (all_cons fe_173 (all_cons fe_174 (all_cons fe_175 (all_cons fe_176 (all_cons fe_177 (all_cons fe_178 (all_cons fe_179 (all_cons fe_180 (all_cons fe_181 (all_cons fe_182 (all_cons fe_183 (all_cons fe_184 (all_cons fe_185 (all_cons fe_186 (all_cons fe_187 (all_cons fe_188 (all_cons fe_189 (all_cons fe_190 (all_cons fe_191 (all_cons fe_192 (all_cons fe_193 (all_cons fe_194 (all_cons fe_195 (all_cons fe_196 (all_cons fe_197 (all_cons fe_198 (all_cons fe_199 (all_cons fe_200 (all_cons fe_201 (all_cons fe_202 (all_cons fe_203 (all_cons fe_204 (all_cons fe_205 (all_cons fe_206 (all_cons fe_207 (all_cons fe_208 (all_cons fe_209 (all_cons fe_210 (all_cons fe_211 (all_cons fe_212 (all_cons fe_213 (all_cons fe_214 (all_cons fe_215 (all_cons fe_216 (all_cons fe_217 (all_cons fe_218 (all_cons fe_219 (all_cons fe_220 (all_cons fe_221 (all_cons fe_222 (all_cons fe_223 (all_cons fe_224 (all_cons fe_225 (all_cons fe_226 (all_cons fe_227 (all_cons fe_228 (all_cons fe_229 (all_cons fe_230 (all_cons fe_231 (all_cons fe_232 (all_cons fe_233 (all_cons fe_234 (all_cons fe_235 (all_cons fe_236 (all_cons fe_237 (all_cons fe_238 (all_cons fe_239 (all_cons fe_240 (all_cons fe_241 (all_cons fe_242 (all_cons fe_243 (all_cons fe_244 (all_cons fe_245 (all_cons fe_246 (all_cons fe_247 (all_cons fe_248 (all_cons fe_249 (all_cons fe_250 (all_cons fe_251 (all_cons fe_252 (all_cons fe_253 (all_cons fe_254 (all_cons fe_255 (all_cons fe_256 (all_cons fe_257 (all_cons fe_258 (all_cons fe_259 (all_cons fe_260 (all_cons fe_261 (all_cons fe_262 (all_cons fe_263 (all_cons fe_264 (all_cons fe_265 (all_cons fe_266 (all_cons fe_267 (all_cons fe_268 (all_cons fe_269 (all_cons fe_270 (all_cons fe_271 (all_cons fe_272 (all_cons fe_273 (all_cons fe_274 (all_cons fe_275 (all_cons fe_276 (all_cons fe_277 (all_cons fe_278 (all_cons fe_279 (all_cons fe_280 (all_cons fe_281 (all_cons fe_282 (all_cons fe_283 (all_cons fe_284 (all_cons fe_285 (all_cons fe_286 (all_cons fe_287 (all_cons fe_288 (all_cons fe_289 (all_cons fe_290 (all_cons fe_291 (all_cons fe_292 (all_cons fe_293 (all_cons fe_294 (all_cons fe_295 (all_cons fe_296 (all_cons fe_297 (all_cons fe_298 (all_cons fe_299 (all_cons fe_300 (all_cons fe_301 (all_cons fe_302 (all_cons fe_303 (all_cons fe_304 (all_cons fe_305 (all_cons fe_306 (all_cons fe_307 (all_cons fe_308 (all_cons fe_309 (all_cons fe_310 (all_cons fe_311 (all_cons fe_312 (all_cons fe_313 (all_cons fe_314 (all_cons fe_315 (all_cons fe_316 (all_cons fe_317 (all_cons fe_318 (all_cons fe_319 (all_cons fe_320 (all_cons fe_321 (all_cons fe_322 (all_cons fe_323 (all_cons fe_324 (all_cons fe_325 (all_cons fe_326 (all_cons fe_327 (all_cons fe_328 (all_cons fe_329 (all_cons fe_330 (all_cons fe_331 (all_cons fe_332 (all_cons fe_333 (all_cons fe_334 (all_cons fe_335 (all_cons fe_336 (all_cons fe_337 (all_cons fe_338 (all_cons fe_339 (all_cons fe_340 (all_cons fe_341 (all_cons fe_342 (all_cons fe_343 (all_cons fe_344 (all_cons fe_345 (all_cons fe_346 (all_cons fe_347 (all_cons fe_348 (all_cons fe_349 (all_cons fe_350 (all_cons fe_351 (all_cons fe_352 (all_cons fe_353 (all_cons fe_354 (all_cons fe_355 (all_cons fe_356 (all_cons fe_357 (all_cons fe_358 (all_cons fe_359 (all_cons fe_360 (all_cons fe_361 (all_cons fe_362 (all_cons fe_363 (all_cons fe_364 (all_cons fe_365 (all_cons fe_367 (all_cons fe_368 (all_cons fe_369 (all_cons fe_370 (all_cons fe_371 (all_cons fe_372 (all_cons fe_373 (all_cons fe_374 (all_cons fe_375 (all_cons fe_376 (all_cons fe_377 (all_cons fe_378 (all_cons fe_379 (all_cons fe_380 (all_cons fe_381 (all_cons fe_382 (all_cons fe_383 (all_cons fe_384 (all_cons fe_385 (all_cons fe_386 (all_cons fe_387 (all_cons fe_388 (all_cons fe_389 (all_cons fe_390 (all_cons fe_391 (all_cons fe_392 (all_cons fe_393 (all_cons fe_394 (all_cons fe_395 (all_cons fe_396 (all_cons fe_397 (all_cons fe_398 (all_cons fe_399 (all_cons fe_400 (all_cons fe_401 (all_cons fe_402 (all_cons fe_403 (all_cons fe_404 (all_cons fe_405 (all_cons fe_406 (all_cons fe_407 (all_cons fe_408 (all_cons fe_409 (all_cons fe_410 (all_cons fe_411 (all_cons fe_412 (all_cons fe_413 (all_cons fe_414 (all_cons fe_415 (all_cons fe_416 (all_cons fe_417 (all_cons fe_418 (all_cons fe_419 (all_cons fe_420 (all_cons fe_421 (all_cons fe_422 (all_cons fe_423 (all_cons fe_424 (all_cons fe_425 (all_cons fe_426 (all_cons fe_427 (all_cons fe_428 (all_cons fe_429 (all_cons fe_430 (all_cons fe_431 (all_cons fe_432 (all_cons fe_433 (all_cons fe_434 (all_cons fe_435 (all_cons fe_436 (all_cons fe_437 (all_cons fe_438 (all_cons fe_439 (all_cons fe_440 (all_cons fe_441 (all_cons fe_442 (all_cons fe_443 (all_cons fe_444 (all_cons fe_445 (all_cons fe_446 (all_cons fe_447 (all_cons fe_448 (all_cons fe_449 (all_cons fe_450 (all_cons fe_451 (all_cons fe_452 (all_cons fe_453 (all_cons fe_454 (all_cons fe_455 (all_cons fe_456 (all_cons fe_457 (all_cons fe_458 (all_cons fe_459 (all_cons fe_460 (all_cons fe_461 (all_cons fe_462 (all_cons fe_463 (all_cons fe_464 (all_cons fe_465 (all_cons fe_466 (all_cons fe_467 (all_cons fe_468 (all_cons fe_469 (all_cons fe_470 (all_cons fe_471 (all_cons fe_472 (all_cons fe_473 (all_cons fe_474 (all_cons fe_475 (all_cons fe_476 (all_cons fe_477 (all_cons fe_478 (all_cons fe_479 (all_cons fe_480 (all_cons fe_481 (all_cons fe_482 (all_cons fe_483 (all_cons fe_484 (all_cons fe_485 (all_cons fe_486 (all_cons fe_487 (all_cons fe_488 (all_cons fe_489 (all_cons fe_490 (all_cons fe_491 (all_cons fe_492 (all_cons fe_493 (all_cons fe_494 (all_cons fe_495 (all_cons fe_496 (all_cons fe_497 (all_cons fe_498 (all_cons fe_499 (all_cons fe_500 (all_cons fe_501 (all_cons fe_502 (all_cons fe_503 (all_cons fe_504 (all_cons fe_505 (all_cons fe_506 (all_cons fe_507 (all_cons fe_508 (all_cons fe_509 (all_cons fe_510 (all_cons fe_511 (all_cons fe_512 (all_cons fe_513 (all_cons fe_514 (all_cons fe_515 (all_cons fe_516 (all_cons fe_517 (all_cons fe_518 (all_cons fe_519 (all_cons fe_520 (all_nil)))))))))))))))))))))))))))))))))))))))))))))))))))))))))))))))))))))))))))))))))))))))))))))))))))))))))))))))))))))))))))))))))))))))))))))))))))))))))))))))))))))))))))))))))))))))))))))))))))))))))))))))))))))))))))))))))))))))))))))))))))))))))))))))))))))))))))))))))))))))))))))))))))))))))))))))))))))))))))))))))))))))))))))))))))))))))))))))))))))))))))))))))))))))))))))))))))))))))))))))))))))))))))))))))))))))))))))))))))))))))))))))))))))))))))))))))))))))))))))))))))))))))))))))))))))))))))))))))))))
noncomputable def ftT : T FE := ofList ftL
theorem ftOk : FtOk Tryz.prog ftT := ftOk_of ftLOk
end Go.Rx

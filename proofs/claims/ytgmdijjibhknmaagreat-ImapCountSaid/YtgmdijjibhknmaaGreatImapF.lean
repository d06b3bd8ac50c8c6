/- Closed runs: the types, the functions. -/
import Derived.Test.YtgmdijjibhknmaaGreatR3
import Derived.Test.YtgmdijjibhknmaaGreatRows
import Derived.Test.YtgmdijjibhknmaaGreatProg
set_option linter.unusedVariables false
set_option linter.unusedSimpArgs false
set_option linter.unusedSectionVars false
set_option maxRecDepth 100000
namespace Go.Rx
open Go.Proofs
theorem mixed : Tryz.prog.follows .mixedOrders = true := by kernel_rfl
theorem ty_3 : RTOk Tryz.prog ⟨3, (.int .i64), 1, false, 8, (some [(.int .i64 0)]), (some [.i])⟩ := RTOk.q Tryz.underlying3 (by kernel_rfl) (by kernel_rfl) (by kernel_rfl) (zS (by kernel_rfl) rfl rfl) (fun _ => rfl) (by kernel_rfl) (by kernel_rfl) rfl
theorem ty_4 : RTOk Tryz.prog ⟨4, .bool, 1, false, 1, (some [(.bool false)]), (some [.b])⟩ := RTOk.q Tryz.underlying4 (by kernel_rfl) (by kernel_rfl) (by kernel_rfl) (zS (by kernel_rfl) rfl rfl) (fun _ => rfl) (by kernel_rfl) (by kernel_rfl) rfl
theorem ty_5 : RTOk Tryz.prog ⟨5, (.int .u8), 1, false, 1, (some [(.int .u8 0)]), (some [.i])⟩ := RTOk.q Tryz.underlying5 (by kernel_rfl) (by kernel_rfl) (by kernel_rfl) (zS (by kernel_rfl) rfl rfl) (fun _ => rfl) (by kernel_rfl) (by kernel_rfl) rfl
theorem ty_9 : RTOk Tryz.prog ⟨9, .str, 1, false, 16, (some [(.str ⟨0, 0⟩)]), (some [.s])⟩ := RTOk.q Tryz.underlying9 (by kernel_rfl) (by kernel_rfl) (by kernel_rfl) (zS (by kernel_rfl) rfl rfl) (fun _ => rfl) (by kernel_rfl) (by kernel_rfl) rfl
theorem ty_22 : RTOk Tryz.prog ⟨22, (.sl 9), 1, false, 24, (some [.slnil]), (some [.sl])⟩ := RTOk.q Tryz.underlying22 (by kernel_rfl) (by kernel_rfl) (by kernel_rfl) (zS (by kernel_rfl) rfl rfl) (fun _ => rfl) (by kernel_rfl) (by kernel_rfl) rfl
theorem ty_23 : RTOk Tryz.prog ⟨23, (.sl 38), 1, false, 24, (some [.slnil]), (some [.sl])⟩ := RTOk.q Tryz.underlying23 (by kernel_rfl) (by kernel_rfl) (by kernel_rfl) (zS (by kernel_rfl) rfl rfl) (fun _ => rfl) (by kernel_rfl) (by kernel_rfl) rfl
theorem ty_24 : RTOk Tryz.prog ⟨24, (.sl 31), 1, false, 24, (some [.slnil]), (some [.sl])⟩ := RTOk.q Tryz.underlying24 (by kernel_rfl) (by kernel_rfl) (by kernel_rfl) (zS (by kernel_rfl) rfl rfl) (fun _ => rfl) (by kernel_rfl) (by kernel_rfl) rfl
theorem ty_25 : RTOk Tryz.prog ⟨25, (.sl 41), 1, false, 24, (some [.slnil]), (some [.sl])⟩ := RTOk.q Tryz.underlying25 (by kernel_rfl) (by kernel_rfl) (by kernel_rfl) (zS (by kernel_rfl) rfl rfl) (fun _ => rfl) (by kernel_rfl) (by kernel_rfl) rfl
theorem ty_27 : RTOk Tryz.prog ⟨27, (.st [(0, 22), (1, 22), (2, 22), (3, 23), (4, 24), (5, 25)]), 6, true, 144, (some [.slnil, .slnil, .slnil, .slnil, .slnil, .slnil]), (some [.sl, .sl, .sl, .sl, .sl, .sl])⟩ := RTOk.q ⟨_, Tryz.underlying27, by kernel_rfl, by kernel_rfl⟩ (by kernel_rfl) (by kernel_rfl) (by kernel_rfl) (zA (by kernel_rfl) rfl rfl) (fun h => by simp at h) (by kernel_rfl) (by kernel_rfl) rfl
theorem ty_28 : RTOk Tryz.prog ⟨28, (.sl 5), 1, false, 24, (some [.slnil]), (some [.sl])⟩ := RTOk.q Tryz.underlying28 (by kernel_rfl) (by kernel_rfl) (by kernel_rfl) (zS (by kernel_rfl) rfl rfl) (fun _ => rfl) (by kernel_rfl) (by kernel_rfl) rfl
theorem ty_31 : RTOk Tryz.prog ⟨31, (.st [(0, 9), (1, 4), (2, 22), (3, 22), (4, 22), (5, 22)]), 6, true, 120, (some [(.str ⟨0, 0⟩), (.bool false), .slnil, .slnil, .slnil, .slnil]), (some [.s, .b, .sl, .sl, .sl, .sl])⟩ := RTOk.q ⟨_, Tryz.underlying31, by kernel_rfl, by kernel_rfl⟩ (by kernel_rfl) (by kernel_rfl) (by kernel_rfl) (zA (by kernel_rfl) rfl rfl) (fun h => by simp at h) (by kernel_rfl) (by kernel_rfl) rfl
theorem ty_38 : RTOk Tryz.prog ⟨38, (.st [(0, 9), (1, 22)]), 2, true, 40, (some [(.str ⟨0, 0⟩), .slnil]), (some [.s, .sl])⟩ := RTOk.q ⟨_, Tryz.underlying38, by kernel_rfl, by kernel_rfl⟩ (by kernel_rfl) (by kernel_rfl) (by kernel_rfl) (zA (by kernel_rfl) rfl rfl) (fun h => by simp at h) (by kernel_rfl) (by kernel_rfl) rfl
theorem ty_41 : RTOk Tryz.prog ⟨41, (.st [(0, 9), (1, 22), (2, 22)]), 3, true, 64, (some [(.str ⟨0, 0⟩), .slnil, .slnil]), (some [.s, .sl, .sl])⟩ := RTOk.q ⟨_, Tryz.underlying41, by kernel_rfl, by kernel_rfl⟩ (by kernel_rfl) (by kernel_rfl) (by kernel_rfl) (zA (by kernel_rfl) rfl rfl) (fun h => by simp at h) (by kernel_rfl) (by kernel_rfl) rfl
theorem ty_42 : RTOk Tryz.prog ⟨42, (.sl 91), 1, false, 24, (some [.slnil]), (some [.sl])⟩ := RTOk.q Tryz.underlying42 (by kernel_rfl) (by kernel_rfl) (by kernel_rfl) (zS (by kernel_rfl) rfl rfl) (fun _ => rfl) (by kernel_rfl) (by kernel_rfl) rfl
theorem ty_46 : RTOk Tryz.prog ⟨46, (.sl 115), 1, false, 24, (some [.slnil]), (some [.sl])⟩ := RTOk.q Tryz.underlying46 (by kernel_rfl) (by kernel_rfl) (by kernel_rfl) (zS (by kernel_rfl) rfl rfl) (fun _ => rfl) (by kernel_rfl) (by kernel_rfl) rfl
theorem ty_53 : RTOk Tryz.prog ⟨53, (.st [(0, 9), (1, 9)]), 2, true, 32, (some [(.str ⟨0, 0⟩), (.str ⟨0, 0⟩)]), (some [.s, .s])⟩ := RTOk.q ⟨_, Tryz.underlying53, by kernel_rfl, by kernel_rfl⟩ (by kernel_rfl) (by kernel_rfl) (by kernel_rfl) (zA (by kernel_rfl) rfl rfl) (fun h => by simp at h) (by kernel_rfl) (by kernel_rfl) rfl
theorem ty_55 : RTOk Tryz.prog ⟨55, (.st [(0, 9), (1, 9), (2, 9)]), 3, true, 48, (some [(.str ⟨0, 0⟩), (.str ⟨0, 0⟩), (.str ⟨0, 0⟩)]), (some [.s, .s, .s])⟩ := RTOk.q ⟨_, Tryz.underlying55, by kernel_rfl, by kernel_rfl⟩ (by kernel_rfl) (by kernel_rfl) (by kernel_rfl) (zA (by kernel_rfl) rfl rfl) (fun h => by simp at h) (by kernel_rfl) (by kernel_rfl) rfl
theorem ty_75 : RTOk Tryz.prog ⟨75, (.map 9 3), 1, false, 8, (some [.mapnil]), (some [.m])⟩ := RTOk.q Tryz.underlying75 (by kernel_rfl) (by kernel_rfl) (by kernel_rfl) (zS (by kernel_rfl) rfl rfl) (fun _ => rfl) (by kernel_rfl) (by kernel_rfl) rfl
theorem ty_79 : RTOk Tryz.prog ⟨79, (.sl 88), 1, false, 24, (some [.slnil]), (some [.sl])⟩ := RTOk.q Tryz.underlying79 (by kernel_rfl) (by kernel_rfl) (by kernel_rfl) (zS (by kernel_rfl) rfl rfl) (fun _ => rfl) (by kernel_rfl) (by kernel_rfl) rfl
theorem ty_83 : RTOk Tryz.prog ⟨83, (.sl 181), 1, false, 24, (some [.slnil]), (some [.sl])⟩ := RTOk.q Tryz.underlying83 (by kernel_rfl) (by kernel_rfl) (by kernel_rfl) (zS (by kernel_rfl) rfl rfl) (fun _ => rfl) (by kernel_rfl) (by kernel_rfl) rfl
theorem ty_85 : RTOk Tryz.prog ⟨85, (.st [(0, 79), (1, 3), (2, 3), (3, 3), (4, 3), (5, 3), (6, 83), (7, 3)]), 8, true, 96, (some [.slnil, (.int .i64 0), (.int .i64 0), (.int .i64 0), (.int .i64 0), (.int .i64 0), .slnil, (.int .i64 0)]), (some [.sl, .i, .i, .i, .i, .i, .sl, .i])⟩ := RTOk.q ⟨_, Tryz.underlying85, by kernel_rfl, by kernel_rfl⟩ (by kernel_rfl) (by kernel_rfl) (by kernel_rfl) (zA (by kernel_rfl) rfl rfl) (fun h => by simp at h) (by kernel_rfl) (by kernel_rfl) rfl
theorem ty_88 : RTOk Tryz.prog ⟨88, (.st [(0, 3), (1, 3), (2, 9)]), 3, true, 32, (some [(.int .i64 0), (.int .i64 0), (.str ⟨0, 0⟩)]), (some [.i, .i, .s])⟩ := RTOk.q ⟨_, Tryz.underlying88, by kernel_rfl, by kernel_rfl⟩ (by kernel_rfl) (by kernel_rfl) (by kernel_rfl) (zA (by kernel_rfl) rfl rfl) (fun h => by simp at h) (by kernel_rfl) (by kernel_rfl) rfl
theorem ty_89 : RTOk Tryz.prog ⟨89, (.sl 94), 1, false, 24, (some [.slnil]), (some [.sl])⟩ := RTOk.q Tryz.underlying89 (by kernel_rfl) (by kernel_rfl) (by kernel_rfl) (zS (by kernel_rfl) rfl rfl) (fun _ => rfl) (by kernel_rfl) (by kernel_rfl) rfl
theorem ty_91 : RTOk Tryz.prog ⟨91, (.st [(0, 9), (1, 89)]), 2, true, 40, (some [(.str ⟨0, 0⟩), .slnil]), (some [.s, .sl])⟩ := RTOk.q ⟨_, Tryz.underlying91, by kernel_rfl, by kernel_rfl⟩ (by kernel_rfl) (by kernel_rfl) (by kernel_rfl) (zA (by kernel_rfl) rfl rfl) (fun h => by simp at h) (by kernel_rfl) (by kernel_rfl) rfl
theorem ty_92 : RTOk Tryz.prog ⟨92, (.sl 55), 1, false, 24, (some [.slnil]), (some [.sl])⟩ := RTOk.q Tryz.underlying92 (by kernel_rfl) (by kernel_rfl) (by kernel_rfl) (zS (by kernel_rfl) rfl rfl) (fun _ => rfl) (by kernel_rfl) (by kernel_rfl) rfl
theorem ty_94 : RTOk Tryz.prog ⟨94, (.st [(0, 9), (1, 92), (2, 83)]), 3, true, 64, (some [(.str ⟨0, 0⟩), .slnil, .slnil]), (some [.s, .sl, .sl])⟩ := RTOk.q ⟨_, Tryz.underlying94, by kernel_rfl, by kernel_rfl⟩ (by kernel_rfl) (by kernel_rfl) (by kernel_rfl) (zA (by kernel_rfl) rfl rfl) (fun h => by simp at h) (by kernel_rfl) (by kernel_rfl) rfl
theorem ty_99 : RTOk Tryz.prog ⟨99, (.st [(0, 9), (1, 46)]), 2, true, 40, (some [(.str ⟨0, 0⟩), .slnil]), (some [.s, .sl])⟩ := RTOk.q ⟨_, Tryz.underlying99, by kernel_rfl, by kernel_rfl⟩ (by kernel_rfl) (by kernel_rfl) (by kernel_rfl) (zA (by kernel_rfl) rfl rfl) (fun h => by simp at h) (by kernel_rfl) (by kernel_rfl) rfl
theorem ty_109 : RTOk Tryz.prog ⟨109, (.map 9 22), 1, false, 8, (some [.mapnil]), (some [.m])⟩ := RTOk.q Tryz.underlying109 (by kernel_rfl) (by kernel_rfl) (by kernel_rfl) (zS (by kernel_rfl) rfl rfl) (fun _ => rfl) (by kernel_rfl) (by kernel_rfl) rfl
theorem ty_110 : RTOk Tryz.prog ⟨110, (.map 9 165), 1, false, 8, (some [.mapnil]), (some [.m])⟩ := RTOk.q Tryz.underlying110 (by kernel_rfl) (by kernel_rfl) (by kernel_rfl) (zS (by kernel_rfl) rfl rfl) (fun _ => rfl) (by kernel_rfl) (by kernel_rfl) rfl
theorem ty_111 : RTOk Tryz.prog ⟨111, (.map 9 167), 1, false, 8, (some [.mapnil]), (some [.m])⟩ := RTOk.q Tryz.underlying111 (by kernel_rfl) (by kernel_rfl) (by kernel_rfl) (zS (by kernel_rfl) rfl rfl) (fun _ => rfl) (by kernel_rfl) (by kernel_rfl) rfl
theorem ty_113 : RTOk Tryz.prog ⟨113, (.st [(0, 27), (6, 109), (7, 110), (8, 111)]), 9, true, 168, (some [.slnil, .slnil, .slnil, .slnil, .slnil, .slnil, .mapnil, .mapnil, .mapnil]), (some [.sl, .sl, .sl, .sl, .sl, .sl, .m, .m, .m])⟩ := RTOk.q ⟨_, Tryz.underlying113, by kernel_rfl, by kernel_rfl⟩ (by kernel_rfl) (by kernel_rfl) (by kernel_rfl) (zA (by kernel_rfl) rfl rfl) (fun h => by simp at h) (by kernel_rfl) (by kernel_rfl) rfl
theorem ty_115 : RTOk Tryz.prog ⟨115, (.st [(0, 53), (2, 9), (3, 55)]), 6, true, 96, (some [(.str ⟨0, 0⟩), (.str ⟨0, 0⟩), (.str ⟨0, 0⟩), (.str ⟨0, 0⟩), (.str ⟨0, 0⟩), (.str ⟨0, 0⟩)]), (some [.s, .s, .s, .s, .s, .s])⟩ := RTOk.q ⟨_, Tryz.underlying115, by kernel_rfl, by kernel_rfl⟩ (by kernel_rfl) (by kernel_rfl) (by kernel_rfl) (zA (by kernel_rfl) rfl rfl) (fun h => by simp at h) (by kernel_rfl) (by kernel_rfl) rfl
theorem ty_118 : RTOk Tryz.prog ⟨118, (.int .i64), 1, false, 8, (some [(.int .i64 0)]), (some [.i])⟩ := RTOk.q Tryz.underlying118 (by kernel_rfl) (by kernel_rfl) (by kernel_rfl) (zS (by kernel_rfl) rfl rfl) (fun _ => rfl) (by kernel_rfl) (by kernel_rfl) rfl
theorem ty_126 : RTOk Tryz.prog ⟨126, (.sl 129), 1, false, 24, (some [.slnil]), (some [.sl])⟩ := RTOk.q Tryz.underlying126 (by kernel_rfl) (by kernel_rfl) (by kernel_rfl) (zS (by kernel_rfl) rfl rfl) (fun _ => rfl) (by kernel_rfl) (by kernel_rfl) rfl
theorem ty_129 : RTOk Tryz.prog ⟨129, (.st [(0, 53), (2, 9)]), 3, true, 48, (some [(.str ⟨0, 0⟩), (.str ⟨0, 0⟩), (.str ⟨0, 0⟩)]), (some [.s, .s, .s])⟩ := RTOk.q ⟨_, Tryz.underlying129, by kernel_rfl, by kernel_rfl⟩ (by kernel_rfl) (by kernel_rfl) (by kernel_rfl) (zA (by kernel_rfl) rfl rfl) (fun h => by simp at h) (by kernel_rfl) (by kernel_rfl) rfl
theorem ty_133 : RTOk Tryz.prog ⟨133, (.sl 177), 1, false, 24, (some [.slnil]), (some [.sl])⟩ := RTOk.q Tryz.underlying133 (by kernel_rfl) (by kernel_rfl) (by kernel_rfl) (zS (by kernel_rfl) rfl rfl) (fun _ => rfl) (by kernel_rfl) (by kernel_rfl) rfl
theorem ty_134 : RTOk Tryz.prog ⟨134, (.sl 3), 1, false, 24, (some [.slnil]), (some [.sl])⟩ := RTOk.q Tryz.underlying134 (by kernel_rfl) (by kernel_rfl) (by kernel_rfl) (zS (by kernel_rfl) rfl rfl) (fun _ => rfl) (by kernel_rfl) (by kernel_rfl) rfl
theorem ty_138 : RTOk Tryz.prog ⟨138, (.sl 140), 1, false, 24, (some [.slnil]), (some [.sl])⟩ := RTOk.q Tryz.underlying138 (by kernel_rfl) (by kernel_rfl) (by kernel_rfl) (zS (by kernel_rfl) rfl rfl) (fun _ => rfl) (by kernel_rfl) (by kernel_rfl) rfl
theorem ty_140 : RTOk Tryz.prog ⟨140, (.st [(0, 3), (1, 9), (2, 22), (3, 138)]), 4, true, 72, (some [(.int .i64 0), (.str ⟨0, 0⟩), .slnil, .slnil]), (some [.i, .s, .sl, .sl])⟩ := RTOk.q ⟨_, Tryz.underlying140, by kernel_rfl, by kernel_rfl⟩ (by kernel_rfl) (by kernel_rfl) (by kernel_rfl) (zA (by kernel_rfl) rfl rfl) (fun h => by simp at h) (by kernel_rfl) (by kernel_rfl) rfl
theorem ty_165 : RTOk Tryz.prog ⟨165, (.ptr 31), 1, false, 8, (some [.nilp]), (some [.p])⟩ := RTOk.q Tryz.underlying165 (by kernel_rfl) (by kernel_rfl) (by kernel_rfl) (zS (by kernel_rfl) rfl rfl) (fun _ => rfl) (by kernel_rfl) (by kernel_rfl) rfl
theorem ty_167 : RTOk Tryz.prog ⟨167, (.ptr 41), 1, false, 8, (some [.nilp]), (some [.p])⟩ := RTOk.q Tryz.underlying167 (by kernel_rfl) (by kernel_rfl) (by kernel_rfl) (zS (by kernel_rfl) rfl rfl) (fun _ => rfl) (by kernel_rfl) (by kernel_rfl) rfl
theorem ty_173 : RTOk Tryz.prog ⟨173, (.sl 4), 1, false, 24, (some [.slnil]), (some [.sl])⟩ := RTOk.q Tryz.underlying173 (by kernel_rfl) (by kernel_rfl) (by kernel_rfl) (zS (by kernel_rfl) rfl rfl) (fun _ => rfl) (by kernel_rfl) (by kernel_rfl) rfl
theorem ty_175 : RTOk Tryz.prog ⟨175, (.st [(0, 42), (1, 46), (2, 126), (3, 173), (4, 55)]), 7, true, 144, (some [.slnil, .slnil, .slnil, .slnil, (.str ⟨0, 0⟩), (.str ⟨0, 0⟩), (.str ⟨0, 0⟩)]), (some [.sl, .sl, .sl, .sl, .s, .s, .s])⟩ := RTOk.q ⟨_, Tryz.underlying175, by kernel_rfl, by kernel_rfl⟩ (by kernel_rfl) (by kernel_rfl) (by kernel_rfl) (zA (by kernel_rfl) rfl rfl) (fun h => by simp at h) (by kernel_rfl) (by kernel_rfl) rfl
theorem ty_177 : RTOk Tryz.prog ⟨177, (.st [(0, 9), (1, 9)]), 2, true, 32, (some [(.str ⟨0, 0⟩), (.str ⟨0, 0⟩)]), (some [.s, .s])⟩ := RTOk.q ⟨_, Tryz.underlying177, by kernel_rfl, by kernel_rfl⟩ (by kernel_rfl) (by kernel_rfl) (by kernel_rfl) (zA (by kernel_rfl) rfl rfl) (fun h => by simp at h) (by kernel_rfl) (by kernel_rfl) rfl
theorem ty_181 : RTOk Tryz.prog ⟨181, (.st [(0, 3), (1, 9), (2, 9)]), 3, true, 40, (some [(.int .i64 0), (.str ⟨0, 0⟩), (.str ⟨0, 0⟩)]), (some [.i, .s, .s])⟩ := RTOk.q ⟨_, Tryz.underlying181, by kernel_rfl, by kernel_rfl⟩ (by kernel_rfl) (by kernel_rfl) (by kernel_rfl) (zA (by kernel_rfl) rfl rfl) (fun h => by simp at h) (by kernel_rfl) (by kernel_rfl) rfl
theorem ty_184 : RTOk Tryz.prog ⟨184, (.sl 187), 1, false, 24, (some [.slnil]), (some [.sl])⟩ := RTOk.q Tryz.underlying184 (by kernel_rfl) (by kernel_rfl) (by kernel_rfl) (zS (by kernel_rfl) rfl rfl) (fun _ => rfl) (by kernel_rfl) (by kernel_rfl) rfl
theorem ty_187 : RTOk Tryz.prog ⟨187, (.st [(0, 9), (1, 9), (2, 4)]), 3, true, 40, (some [(.str ⟨0, 0⟩), (.str ⟨0, 0⟩), (.bool false)]), (some [.s, .s, .b])⟩ := RTOk.q ⟨_, Tryz.underlying187, by kernel_rfl, by kernel_rfl⟩ (by kernel_rfl) (by kernel_rfl) (by kernel_rfl) (zA (by kernel_rfl) rfl rfl) (fun h => by simp at h) (by kernel_rfl) (by kernel_rfl) rfl
theorem ty_193 : RTOk Tryz.prog ⟨193, (.int .u64), 1, false, 8, (some [(.int .u64 0)]), (some [.i])⟩ := RTOk.q Tryz.underlying193 (by kernel_rfl) (by kernel_rfl) (by kernel_rfl) (zS (by kernel_rfl) rfl rfl) (fun _ => rfl) (by kernel_rfl) (by kernel_rfl) rfl
theorem ty_200 : RTOk Tryz.prog ⟨200, (.sl 22), 1, false, 24, (some [.slnil]), (some [.sl])⟩ := RTOk.q Tryz.underlying200 (by kernel_rfl) (by kernel_rfl) (by kernel_rfl) (zS (by kernel_rfl) rfl rfl) (fun _ => rfl) (by kernel_rfl) (by kernel_rfl) rfl
theorem ty_207 : RTOk Tryz.prog ⟨207, (.arr 6 9), 6, true, 96, (some [(.str ⟨0, 0⟩), (.str ⟨0, 0⟩), (.str ⟨0, 0⟩), (.str ⟨0, 0⟩), (.str ⟨0, 0⟩), (.str ⟨0, 0⟩)]), none⟩ := RTOk.n Tryz.underlying207 (by kernel_rfl) (by kernel_rfl) (by kernel_rfl) (zA (by kernel_rfl) rfl rfl) (fun h => by simp at h)
theorem ty_212 : RTOk Tryz.prog ⟨212, (.int .i64), 1, false, 8, (some [(.int .i64 0)]), (some [.i])⟩ := RTOk.q Tryz.underlying212 (by kernel_rfl) (by kernel_rfl) (by kernel_rfl) (zS (by kernel_rfl) rfl rfl) (fun _ => rfl) (by kernel_rfl) (by kernel_rfl) rfl
theorem ty_220 : RTOk Tryz.prog ⟨220, (.int .u32), 1, false, 4, (some [(.int .u32 0)]), (some [.i])⟩ := RTOk.q Tryz.underlying220 (by kernel_rfl) (by kernel_rfl) (by kernel_rfl) (zS (by kernel_rfl) rfl rfl) (fun _ => rfl) (by kernel_rfl) (by kernel_rfl) rfl
theorem ty_222 : RTOk Tryz.prog ⟨222, (.int .u64), 1, false, 8, (some [(.int .u64 0)]), (some [.i])⟩ := RTOk.q Tryz.underlying222 (by kernel_rfl) (by kernel_rfl) (by kernel_rfl) (zS (by kernel_rfl) rfl rfl) (fun _ => rfl) (by kernel_rfl) (by kernel_rfl) rfl
theorem ty_225 : RTOk Tryz.prog ⟨225, (.ptr 227), 1, false, 8, (some [.nilp]), (some [.p])⟩ := RTOk.q Tryz.underlying225 (by kernel_rfl) (by kernel_rfl) (by kernel_rfl) (zS (by kernel_rfl) rfl rfl) (fun _ => rfl) (by kernel_rfl) (by kernel_rfl) rfl
theorem ty_227 : RTOk Tryz.prog ⟨227, (.st [(0, 225), (1, 28)]), 2, true, 32, (some [.nilp, .slnil]), (some [.p, .sl])⟩ := RTOk.q ⟨_, Tryz.underlying227, by kernel_rfl, by kernel_rfl⟩ (by kernel_rfl) (by kernel_rfl) (by kernel_rfl) (zA (by kernel_rfl) rfl rfl) (fun h => by simp at h) (by kernel_rfl) (by kernel_rfl) rfl
theorem ty_244 : RTOk Tryz.prog ⟨244, (.int .u64), 1, false, 8, (some [(.int .u64 0)]), (some [.i])⟩ := RTOk.q Tryz.underlying244 (by kernel_rfl) (by kernel_rfl) (by kernel_rfl) (zS (by kernel_rfl) rfl rfl) (fun _ => rfl) (by kernel_rfl) (by kernel_rfl) rfl
theorem ty_250 : RTOk Tryz.prog ⟨250, (.ptr 5), 1, false, 8, (some [.nilp]), (some [.p])⟩ := RTOk.q Tryz.underlying250 (by kernel_rfl) (by kernel_rfl) (by kernel_rfl) (zS (by kernel_rfl) rfl rfl) (fun _ => rfl) (by kernel_rfl) (by kernel_rfl) rfl
theorem ty_261 : RTOk Tryz.prog ⟨261, .uptr, 1, false, 8, (some [.nilp]), none⟩ := RTOk.n Tryz.underlying261 (by kernel_rfl) (by kernel_rfl) (by kernel_rfl) (zS (by kernel_rfl) rfl rfl) (fun _ => rfl)
def tyL : List RTI := [⟨3, (.int .i64), 1, false, 8, (some [(.int .i64 0)]), (some [.i])⟩,
  ⟨4, .bool, 1, false, 1, (some [(.bool false)]), (some [.b])⟩,
  ⟨5, (.int .u8), 1, false, 1, (some [(.int .u8 0)]), (some [.i])⟩,
  ⟨9, .str, 1, false, 16, (some [(.str ⟨0, 0⟩)]), (some [.s])⟩,
  ⟨22, (.sl 9), 1, false, 24, (some [.slnil]), (some [.sl])⟩,
  ⟨23, (.sl 38), 1, false, 24, (some [.slnil]), (some [.sl])⟩,
  ⟨24, (.sl 31), 1, false, 24, (some [.slnil]), (some [.sl])⟩,
  ⟨25, (.sl 41), 1, false, 24, (some [.slnil]), (some [.sl])⟩,
  ⟨27, (.st [(0, 22), (1, 22), (2, 22), (3, 23), (4, 24), (5, 25)]), 6, true, 144, (some [.slnil, .slnil, .slnil, .slnil, .slnil, .slnil]), (some [.sl, .sl, .sl, .sl, .sl, .sl])⟩,
  ⟨28, (.sl 5), 1, false, 24, (some [.slnil]), (some [.sl])⟩,
  ⟨31, (.st [(0, 9), (1, 4), (2, 22), (3, 22), (4, 22), (5, 22)]), 6, true, 120, (some [(.str ⟨0, 0⟩), (.bool false), .slnil, .slnil, .slnil, .slnil]), (some [.s, .b, .sl, .sl, .sl, .sl])⟩,
  ⟨38, (.st [(0, 9), (1, 22)]), 2, true, 40, (some [(.str ⟨0, 0⟩), .slnil]), (some [.s, .sl])⟩,
  ⟨41, (.st [(0, 9), (1, 22), (2, 22)]), 3, true, 64, (some [(.str ⟨0, 0⟩), .slnil, .slnil]), (some [.s, .sl, .sl])⟩,
  ⟨42, (.sl 91), 1, false, 24, (some [.slnil]), (some [.sl])⟩,
  ⟨46, (.sl 115), 1, false, 24, (some [.slnil]), (some [.sl])⟩,
  ⟨53, (.st [(0, 9), (1, 9)]), 2, true, 32, (some [(.str ⟨0, 0⟩), (.str ⟨0, 0⟩)]), (some [.s, .s])⟩,
  ⟨55, (.st [(0, 9), (1, 9), (2, 9)]), 3, true, 48, (some [(.str ⟨0, 0⟩), (.str ⟨0, 0⟩), (.str ⟨0, 0⟩)]), (some [.s, .s, .s])⟩,
  ⟨75, (.map 9 3), 1, false, 8, (some [.mapnil]), (some [.m])⟩,
  ⟨79, (.sl 88), 1, false, 24, (some [.slnil]), (some [.sl])⟩,
  ⟨83, (.sl 181), 1, false, 24, (some [.slnil]), (some [.sl])⟩,
  ⟨85, (.st [(0, 79), (1, 3), (2, 3), (3, 3), (4, 3), (5, 3), (6, 83), (7, 3)]), 8, true, 96, (some [.slnil, (.int .i64 0), (.int .i64 0), (.int .i64 0), (.int .i64 0), (.int .i64 0), .slnil, (.int .i64 0)]), (some [.sl, .i, .i, .i, .i, .i, .sl, .i])⟩,
  ⟨88, (.st [(0, 3), (1, 3), (2, 9)]), 3, true, 32, (some [(.int .i64 0), (.int .i64 0), (.str ⟨0, 0⟩)]), (some [.i, .i, .s])⟩,
  ⟨89, (.sl 94), 1, false, 24, (some [.slnil]), (some [.sl])⟩,
  ⟨91, (.st [(0, 9), (1, 89)]), 2, true, 40, (some [(.str ⟨0, 0⟩), .slnil]), (some [.s, .sl])⟩,
  ⟨92, (.sl 55), 1, false, 24, (some [.slnil]), (some [.sl])⟩,
  ⟨94, (.st [(0, 9), (1, 92), (2, 83)]), 3, true, 64, (some [(.str ⟨0, 0⟩), .slnil, .slnil]), (some [.s, .sl, .sl])⟩,
  ⟨99, (.st [(0, 9), (1, 46)]), 2, true, 40, (some [(.str ⟨0, 0⟩), .slnil]), (some [.s, .sl])⟩,
  ⟨109, (.map 9 22), 1, false, 8, (some [.mapnil]), (some [.m])⟩,
  ⟨110, (.map 9 165), 1, false, 8, (some [.mapnil]), (some [.m])⟩,
  ⟨111, (.map 9 167), 1, false, 8, (some [.mapnil]), (some [.m])⟩,
  ⟨113, (.st [(0, 27), (6, 109), (7, 110), (8, 111)]), 9, true, 168, (some [.slnil, .slnil, .slnil, .slnil, .slnil, .slnil, .mapnil, .mapnil, .mapnil]), (some [.sl, .sl, .sl, .sl, .sl, .sl, .m, .m, .m])⟩,
  ⟨115, (.st [(0, 53), (2, 9), (3, 55)]), 6, true, 96, (some [(.str ⟨0, 0⟩), (.str ⟨0, 0⟩), (.str ⟨0, 0⟩), (.str ⟨0, 0⟩), (.str ⟨0, 0⟩), (.str ⟨0, 0⟩)]), (some [.s, .s, .s, .s, .s, .s])⟩,
  ⟨118, (.int .i64), 1, false, 8, (some [(.int .i64 0)]), (some [.i])⟩,
  ⟨126, (.sl 129), 1, false, 24, (some [.slnil]), (some [.sl])⟩,
  ⟨129, (.st [(0, 53), (2, 9)]), 3, true, 48, (some [(.str ⟨0, 0⟩), (.str ⟨0, 0⟩), (.str ⟨0, 0⟩)]), (some [.s, .s, .s])⟩,
  ⟨133, (.sl 177), 1, false, 24, (some [.slnil]), (some [.sl])⟩,
  ⟨134, (.sl 3), 1, false, 24, (some [.slnil]), (some [.sl])⟩,
  ⟨138, (.sl 140), 1, false, 24, (some [.slnil]), (some [.sl])⟩,
  ⟨140, (.st [(0, 3), (1, 9), (2, 22), (3, 138)]), 4, true, 72, (some [(.int .i64 0), (.str ⟨0, 0⟩), .slnil, .slnil]), (some [.i, .s, .sl, .sl])⟩,
  ⟨165, (.ptr 31), 1, false, 8, (some [.nilp]), (some [.p])⟩,
  ⟨167, (.ptr 41), 1, false, 8, (some [.nilp]), (some [.p])⟩,
  ⟨173, (.sl 4), 1, false, 24, (some [.slnil]), (some [.sl])⟩,
  ⟨175, (.st [(0, 42), (1, 46), (2, 126), (3, 173), (4, 55)]), 7, true, 144, (some [.slnil, .slnil, .slnil, .slnil, (.str ⟨0, 0⟩), (.str ⟨0, 0⟩), (.str ⟨0, 0⟩)]), (some [.sl, .sl, .sl, .sl, .s, .s, .s])⟩,
  ⟨177, (.st [(0, 9), (1, 9)]), 2, true, 32, (some [(.str ⟨0, 0⟩), (.str ⟨0, 0⟩)]), (some [.s, .s])⟩,
  ⟨181, (.st [(0, 3), (1, 9), (2, 9)]), 3, true, 40, (some [(.int .i64 0), (.str ⟨0, 0⟩), (.str ⟨0, 0⟩)]), (some [.i, .s, .s])⟩,
  ⟨184, (.sl 187), 1, false, 24, (some [.slnil]), (some [.sl])⟩,
  ⟨187, (.st [(0, 9), (1, 9), (2, 4)]), 3, true, 40, (some [(.str ⟨0, 0⟩), (.str ⟨0, 0⟩), (.bool false)]), (some [.s, .s, .b])⟩,
  ⟨193, (.int .u64), 1, false, 8, (some [(.int .u64 0)]), (some [.i])⟩,
  ⟨200, (.sl 22), 1, false, 24, (some [.slnil]), (some [.sl])⟩,
  ⟨207, (.arr 6 9), 6, true, 96, (some [(.str ⟨0, 0⟩), (.str ⟨0, 0⟩), (.str ⟨0, 0⟩), (.str ⟨0, 0⟩), (.str ⟨0, 0⟩), (.str ⟨0, 0⟩)]), none⟩,
  ⟨212, (.int .i64), 1, false, 8, (some [(.int .i64 0)]), (some [.i])⟩,
  ⟨220, (.int .u32), 1, false, 4, (some [(.int .u32 0)]), (some [.i])⟩,
  ⟨222, (.int .u64), 1, false, 8, (some [(.int .u64 0)]), (some [.i])⟩,
  ⟨225, (.ptr 227), 1, false, 8, (some [.nilp]), (some [.p])⟩,
  ⟨227, (.st [(0, 225), (1, 28)]), 2, true, 32, (some [.nilp, .slnil]), (some [.p, .sl])⟩,
  ⟨244, (.int .u64), 1, false, 8, (some [(.int .u64 0)]), (some [.i])⟩,
  ⟨250, (.ptr 5), 1, false, 8, (some [.nilp]), (some [.p])⟩,
  ⟨261, .uptr, 1, false, 8, (some [.nilp]), none⟩]
theorem tyLOk : ∀ ti ∈ tyL, RTOk Tryz.prog ti := all_cons ty_3 (all_cons ty_4 (all_cons ty_5 (all_cons ty_9 (all_cons ty_22 (all_cons ty_23 (all_cons ty_24 (all_cons ty_25 (all_cons ty_27 (all_cons ty_28 (all_cons ty_31 (all_cons ty_38 (all_cons ty_41 (all_cons ty_42 (all_cons ty_46 (all_cons ty_53 (all_cons ty_55 (all_cons ty_75 (all_cons ty_79 (all_cons ty_83 (all_cons ty_85 (all_cons ty_88 (all_cons ty_89 (all_cons ty_91 (all_cons ty_92 (all_cons ty_94 (all_cons ty_99 (all_cons ty_109 (all_cons ty_110 (all_cons ty_111 (all_cons ty_113 (all_cons ty_115 (all_cons ty_118 (all_cons ty_126 (all_cons ty_129 (all_cons ty_133 (all_cons ty_134 (all_cons ty_138 (all_cons ty_140 (all_cons ty_165 (all_cons ty_167 (all_cons ty_173 (all_cons ty_175 (all_cons ty_177 (all_cons ty_181 (all_cons ty_184 (all_cons ty_187 (all_cons ty_193 (all_cons ty_200 (all_cons ty_207 (all_cons ty_212 (all_cons ty_220 (all_cons ty_222 (all_cons ty_225 (all_cons ty_227 (all_cons ty_244 (all_cons ty_250 (all_cons ty_261 (all_nil))))))))))))))))))))))))))))))))))))))))))))))))))))))))))
noncomputable def tyT : T RTI := ofList (tyL.map fun ti => (ti.t, ti))
theorem tyOk : TtOk Tryz.prog tyT := ttOk_of tyLOk
theorem fe_5 : FeOk Tryz.prog 5 (FE.code 113 [.tmp 2] (bodyOf Tryz.f5)) := ⟨_, Tryz.func5, by kernel_rfl, Tryz.ntmps5, by rw [Tryz.results5], by kernel_rfl⟩
theorem fe_6 : FeOk Tryz.prog 6 (FE.code 72 [.tmp 0] (bodyOf Tryz.f6)) := ⟨_, Tryz.func6, by kernel_rfl, Tryz.ntmps6, by rw [Tryz.results6], by kernel_rfl⟩
theorem fe_7 : FeOk Tryz.prog 7 (FE.code 113 [.cell 2 27] (bodyOf Tryz.f7)) := ⟨_, Tryz.func7, by kernel_rfl, Tryz.ntmps7, by rw [Tryz.results7], by kernel_rfl⟩
theorem fe_8 : FeOk Tryz.prog 8 (FE.code 23 [.tmp 2] (bodyOf Tryz.f8)) := ⟨_, Tryz.func8, by kernel_rfl, Tryz.ntmps8, by rw [Tryz.results8], by kernel_rfl⟩
theorem fe_9 : FeOk Tryz.prog 9 (FE.code 18 [.tmp 6] (bodyOf Tryz.f9)) := ⟨_, Tryz.func9, by kernel_rfl, Tryz.ntmps9, by rw [Tryz.results9], by kernel_rfl⟩
theorem fe_10 : FeOk Tryz.prog 10 (FE.code 148 [.tmp 2, .tmp 3, .tmp 4] (bodyOf Tryz.f10)) := ⟨_, Tryz.func10, by kernel_rfl, Tryz.ntmps10, by rw [Tryz.results10], by kernel_rfl⟩
theorem fe_11 : FeOk Tryz.prog 11 (FE.code 1 [.tmp 0] (bodyOf Tryz.f11)) := ⟨_, Tryz.func11, by kernel_rfl, Tryz.ntmps11, by rw [Tryz.results11], by kernel_rfl⟩
theorem fe_12 : FeOk Tryz.prog 12 (FE.code 127 [.tmp 4] (bodyOf Tryz.f12)) := ⟨_, Tryz.func12, by kernel_rfl, Tryz.ntmps12, by rw [Tryz.results12], by kernel_rfl⟩
theorem fe_13 : FeOk Tryz.prog 13 (FE.code 51 [.cell 4 27, .tmp 5] (bodyOf Tryz.f13)) := ⟨_, Tryz.func13, by kernel_rfl, Tryz.ntmps13, by rw [Tryz.results13], by kernel_rfl⟩
theorem fe_14 : FeOk Tryz.prog 14 (FE.code 50 [.tmp 10, .tmp 11] (bodyOf Tryz.f14)) := ⟨_, Tryz.func14, by kernel_rfl, Tryz.ntmps14, by rw [Tryz.results14], by kernel_rfl⟩
theorem fe_15 : FeOk Tryz.prog 15 (FE.code 63 [.tmp 2] (bodyOf Tryz.f15)) := ⟨_, Tryz.func15, by kernel_rfl, Tryz.ntmps15, by rw [Tryz.results15], by kernel_rfl⟩
theorem fe_16 : FeOk Tryz.prog 16 (FE.code 10 [.tmp 4] (bodyOf Tryz.f16)) := ⟨_, Tryz.func16, by kernel_rfl, Tryz.ntmps16, by rw [Tryz.results16], by kernel_rfl⟩
theorem fe_17 : FeOk Tryz.prog 17 (FE.code 10 [.tmp 2] (bodyOf Tryz.f17)) := ⟨_, Tryz.func17, by kernel_rfl, Tryz.ntmps17, by rw [Tryz.results17], by kernel_rfl⟩
theorem fe_18 : FeOk Tryz.prog 18 (FE.code 9 [] (bodyOf Tryz.f18)) := ⟨_, Tryz.func18, by kernel_rfl, Tryz.ntmps18, by rw [Tryz.results18], by kernel_rfl⟩
theorem fe_19 : FeOk Tryz.prog 19 (FE.code 10 [.tmp 4] (bodyOf Tryz.f19)) := ⟨_, Tryz.func19, by kernel_rfl, Tryz.ntmps19, by rw [Tryz.results19], by kernel_rfl⟩
theorem fe_20 : FeOk Tryz.prog 20 (FE.code 8 [.tmp 4] (bodyOf Tryz.f20)) := ⟨_, Tryz.func20, by kernel_rfl, Tryz.ntmps20, by rw [Tryz.results20], by kernel_rfl⟩
theorem fe_21 : FeOk Tryz.prog 21 (FE.code 9 [] (bodyOf Tryz.f21)) := ⟨_, Tryz.func21, by kernel_rfl, Tryz.ntmps21, by rw [Tryz.results21], by kernel_rfl⟩
theorem fe_22 : FeOk Tryz.prog 22 (FE.code 19 [.tmp 4] (bodyOf Tryz.f22)) := ⟨_, Tryz.func22, by kernel_rfl, Tryz.ntmps22, by rw [Tryz.results22], by kernel_rfl⟩
theorem fe_23 : FeOk Tryz.prog 23 (FE.code 18 [.tmp 2] (bodyOf Tryz.f23)) := ⟨_, Tryz.func23, by kernel_rfl, Tryz.ntmps23, by rw [Tryz.results23], by kernel_rfl⟩
theorem fe_24 : FeOk Tryz.prog 24 (FE.code 20 [.tmp 4] (bodyOf Tryz.f24)) := ⟨_, Tryz.func24, by kernel_rfl, Tryz.ntmps24, by rw [Tryz.results24], by kernel_rfl⟩
theorem fe_25 : FeOk Tryz.prog 25 (FE.code 4 [.tmp 2] (bodyOf Tryz.f25)) := ⟨_, Tryz.func25, by kernel_rfl, Tryz.ntmps25, by rw [Tryz.results25], by kernel_rfl⟩
theorem fe_26 : FeOk Tryz.prog 26 (FE.code 9 [] (bodyOf Tryz.f26)) := ⟨_, Tryz.func26, by kernel_rfl, Tryz.ntmps26, by rw [Tryz.results26], by kernel_rfl⟩
theorem fe_27 : FeOk Tryz.prog 27 (FE.code 10 [.tmp 4] (bodyOf Tryz.f27)) := ⟨_, Tryz.func27, by kernel_rfl, Tryz.ntmps27, by rw [Tryz.results27], by kernel_rfl⟩
theorem fe_28 : FeOk Tryz.prog 28 (FE.code 66 [.tmp 4] (bodyOf Tryz.f28)) := ⟨_, Tryz.func28, by kernel_rfl, Tryz.ntmps28, by rw [Tryz.results28], by kernel_rfl⟩
theorem fe_29 : FeOk Tryz.prog 29 (FE.code 18 [.tmp 4] (bodyOf Tryz.f29)) := ⟨_, Tryz.func29, by kernel_rfl, Tryz.ntmps29, by rw [Tryz.results29], by kernel_rfl⟩
theorem fe_30 : FeOk Tryz.prog 30 (FE.code 66 [.tmp 4] (bodyOf Tryz.f30)) := ⟨_, Tryz.func30, by kernel_rfl, Tryz.ntmps30, by rw [Tryz.results30], by kernel_rfl⟩
theorem fe_31 : FeOk Tryz.prog 31 (FE.code 37 [.tmp 4] (bodyOf Tryz.f31)) := ⟨_, Tryz.func31, by kernel_rfl, Tryz.ntmps31, by rw [Tryz.results31], by kernel_rfl⟩
theorem fe_32 : FeOk Tryz.prog 32 (FE.code 66 [.tmp 4] (bodyOf Tryz.f32)) := ⟨_, Tryz.func32, by kernel_rfl, Tryz.ntmps32, by rw [Tryz.results32], by kernel_rfl⟩
theorem fe_33 : FeOk Tryz.prog 33 (FE.code 22 [.tmp 4] (bodyOf Tryz.f33)) := ⟨_, Tryz.func33, by kernel_rfl, Tryz.ntmps33, by rw [Tryz.results33], by kernel_rfl⟩
theorem fe_34 : FeOk Tryz.prog 34 (FE.code 42 [.tmp 4] (bodyOf Tryz.f34)) := ⟨_, Tryz.func34, by kernel_rfl, Tryz.ntmps34, by rw [Tryz.results34], by kernel_rfl⟩
theorem fe_35 : FeOk Tryz.prog 35 (FE.code 8 [.tmp 2] (bodyOf Tryz.f35)) := ⟨_, Tryz.func35, by kernel_rfl, Tryz.ntmps35, by rw [Tryz.results35], by kernel_rfl⟩
theorem fe_36 : FeOk Tryz.prog 36 (FE.code 8 [.tmp 3] (bodyOf Tryz.f36)) := ⟨_, Tryz.func36, by kernel_rfl, Tryz.ntmps36, by rw [Tryz.results36], by kernel_rfl⟩
theorem fe_37 : FeOk Tryz.prog 37 (FE.code 24 [.tmp 4] (bodyOf Tryz.f37)) := ⟨_, Tryz.func37, by kernel_rfl, Tryz.ntmps37, by rw [Tryz.results37], by kernel_rfl⟩
theorem fe_38 : FeOk Tryz.prog 38 (FE.code 115 [.tmp 2, .tmp 3, .tmp 4] (bodyOf Tryz.f38)) := ⟨_, Tryz.func38, by kernel_rfl, Tryz.ntmps38, by rw [Tryz.results38], by kernel_rfl⟩
theorem fe_39 : FeOk Tryz.prog 39 (FE.code 18 [] (bodyOf Tryz.f39)) := ⟨_, Tryz.func39, by kernel_rfl, Tryz.ntmps39, by rw [Tryz.results39], by kernel_rfl⟩
theorem fe_40 : FeOk Tryz.prog 40 (FE.code 68 [.tmp 2] (bodyOf Tryz.f40)) := ⟨_, Tryz.func40, by kernel_rfl, Tryz.ntmps40, by rw [Tryz.results40], by kernel_rfl⟩
theorem fe_41 : FeOk Tryz.prog 41 (FE.code 44 [.tmp 4] (bodyOf Tryz.f41)) := ⟨_, Tryz.func41, by kernel_rfl, Tryz.ntmps41, by rw [Tryz.results41], by kernel_rfl⟩
theorem fe_42 : FeOk Tryz.prog 42 (FE.code 98 [.cell 2 94] (bodyOf Tryz.f42)) := ⟨_, Tryz.func42, by kernel_rfl, Tryz.ntmps42, by rw [Tryz.results42], by kernel_rfl⟩
theorem fe_43 : FeOk Tryz.prog 43 (FE.code 22 [] (bodyOf Tryz.f43)) := ⟨_, Tryz.func43, by kernel_rfl, Tryz.ntmps43, by rw [Tryz.results43], by kernel_rfl⟩
theorem fe_44 : FeOk Tryz.prog 44 (FE.code 31 [] (bodyOf Tryz.f44)) := ⟨_, Tryz.func44, by kernel_rfl, Tryz.ntmps44, by rw [Tryz.results44], by kernel_rfl⟩
theorem fe_45 : FeOk Tryz.prog 45 (FE.code 25 [] (bodyOf Tryz.f45)) := ⟨_, Tryz.func45, by kernel_rfl, Tryz.ntmps45, by rw [Tryz.results45], by kernel_rfl⟩
theorem fe_46 : FeOk Tryz.prog 46 (FE.code 11 [.tmp 4] (bodyOf Tryz.f46)) := ⟨_, Tryz.func46, by kernel_rfl, Tryz.ntmps46, by rw [Tryz.results46], by kernel_rfl⟩
theorem fe_47 : FeOk Tryz.prog 47 (FE.code 13 [.cell 6 55] (bodyOf Tryz.f47)) := ⟨_, Tryz.func47, by kernel_rfl, Tryz.ntmps47, by rw [Tryz.results47], by kernel_rfl⟩
theorem fe_48 : FeOk Tryz.prog 48 (FE.code 82 [] (bodyOf Tryz.f48)) := ⟨_, Tryz.func48, by kernel_rfl, Tryz.ntmps48, by rw [Tryz.results48], by kernel_rfl⟩
theorem fe_49 : FeOk Tryz.prog 49 (FE.code 41 [] (bodyOf Tryz.f49)) := ⟨_, Tryz.func49, by kernel_rfl, Tryz.ntmps49, by rw [Tryz.results49], by kernel_rfl⟩
theorem fe_50 : FeOk Tryz.prog 50 (FE.code 10 [.tmp 2] (bodyOf Tryz.f50)) := ⟨_, Tryz.func50, by kernel_rfl, Tryz.ntmps50, by rw [Tryz.results50], by kernel_rfl⟩
theorem fe_51 : FeOk Tryz.prog 51 (FE.code 47 [.tmp 6] (bodyOf Tryz.f51)) := ⟨_, Tryz.func51, by kernel_rfl, Tryz.ntmps51, by rw [Tryz.results51], by kernel_rfl⟩
theorem fe_52 : FeOk Tryz.prog 52 (FE.code 80 [] (bodyOf Tryz.f52)) := ⟨_, Tryz.func52, by kernel_rfl, Tryz.ntmps52, by rw [Tryz.results52], by kernel_rfl⟩
theorem fe_53 : FeOk Tryz.prog 53 (FE.code 93 [.cell 2 27] (bodyOf Tryz.f53)) := ⟨_, Tryz.func53, by kernel_rfl, Tryz.ntmps53, by rw [Tryz.results53], by kernel_rfl⟩
theorem fe_54 : FeOk Tryz.prog 54 (FE.code 14 [.tmp 2] (bodyOf Tryz.f54)) := ⟨_, Tryz.func54, by kernel_rfl, Tryz.ntmps54, by rw [Tryz.results54], by kernel_rfl⟩
theorem fe_55 : FeOk Tryz.prog 55 (FE.code 26 [.tmp 4] (bodyOf Tryz.f55)) := ⟨_, Tryz.func55, by kernel_rfl, Tryz.ntmps55, by rw [Tryz.results55], by kernel_rfl⟩
theorem fe_56 : FeOk Tryz.prog 56 (FE.code 32 [.cell 6 94, .tmp 7] (bodyOf Tryz.f56)) := ⟨_, Tryz.func56, by kernel_rfl, Tryz.ntmps56, by rw [Tryz.results56], by kernel_rfl⟩
theorem fe_57 : FeOk Tryz.prog 57 (FE.code 95 [.tmp 2] (bodyOf Tryz.f57)) := ⟨_, Tryz.func57, by kernel_rfl, Tryz.ntmps57, by rw [Tryz.results57], by kernel_rfl⟩
theorem fe_58 : FeOk Tryz.prog 58 (FE.code 146 [.tmp 8] (bodyOf Tryz.f58)) := ⟨_, Tryz.func58, by kernel_rfl, Tryz.ntmps58, by rw [Tryz.results58], by kernel_rfl⟩
theorem fe_59 : FeOk Tryz.prog 59 (FE.code 58 [.tmp 6] (bodyOf Tryz.f59)) := ⟨_, Tryz.func59, by kernel_rfl, Tryz.ntmps59, by rw [Tryz.results59], by kernel_rfl⟩
theorem fe_60 : FeOk Tryz.prog 60 (FE.code 46 [.tmp 6] (bodyOf Tryz.f60)) := ⟨_, Tryz.func60, by kernel_rfl, Tryz.ntmps60, by rw [Tryz.results60], by kernel_rfl⟩
theorem fe_61 : FeOk Tryz.prog 61 (FE.code 63 [.tmp 2] (bodyOf Tryz.f61)) := ⟨_, Tryz.func61, by kernel_rfl, Tryz.ntmps61, by rw [Tryz.results61], by kernel_rfl⟩
theorem fe_62 : FeOk Tryz.prog 62 (FE.code 90 [.tmp 6] (bodyOf Tryz.f62)) := ⟨_, Tryz.func62, by kernel_rfl, Tryz.ntmps62, by rw [Tryz.results62], by kernel_rfl⟩
theorem fe_63 : FeOk Tryz.prog 63 (FE.code 111 [.tmp 2, .tmp 3, .tmp 4] (bodyOf Tryz.f63)) := ⟨_, Tryz.func63, by kernel_rfl, Tryz.ntmps63, by rw [Tryz.results63], by kernel_rfl⟩
theorem fe_64 : FeOk Tryz.prog 64 (FE.code 54 [.tmp 4] (bodyOf Tryz.f64)) := ⟨_, Tryz.func64, by kernel_rfl, Tryz.ntmps64, by rw [Tryz.results64], by kernel_rfl⟩
theorem fe_65 : FeOk Tryz.prog 65 (FE.code 132 [.cell 2 140] (bodyOf Tryz.f65)) := ⟨_, Tryz.func65, by kernel_rfl, Tryz.ntmps65, by rw [Tryz.results65], by kernel_rfl⟩
theorem fe_66 : FeOk Tryz.prog 66 (FE.code 11 [] (bodyOf Tryz.f66)) := ⟨_, Tryz.func66, by kernel_rfl, Tryz.ntmps66, by rw [Tryz.results66], by kernel_rfl⟩
theorem fe_67 : FeOk Tryz.prog 67 (FE.code 61 [.tmp 2] (bodyOf Tryz.f67)) := ⟨_, Tryz.func67, by kernel_rfl, Tryz.ntmps67, by rw [Tryz.results67], by kernel_rfl⟩
theorem fe_68 : FeOk Tryz.prog 68 (FE.code 63 [] (bodyOf Tryz.f68)) := ⟨_, Tryz.func68, by kernel_rfl, Tryz.ntmps68, by rw [Tryz.results68], by kernel_rfl⟩
theorem fe_69 : FeOk Tryz.prog 69 (FE.code 8 [.tmp 4] (bodyOf Tryz.f69)) := ⟨_, Tryz.func69, by kernel_rfl, Tryz.ntmps69, by rw [Tryz.results69], by kernel_rfl⟩
theorem fe_70 : FeOk Tryz.prog 70 (FE.code 63 [] (bodyOf Tryz.f70)) := ⟨_, Tryz.func70, by kernel_rfl, Tryz.ntmps70, by rw [Tryz.results70], by kernel_rfl⟩
theorem fe_71 : FeOk Tryz.prog 71 (FE.code 6 [.tmp 2] (bodyOf Tryz.f71)) := ⟨_, Tryz.func71, by kernel_rfl, Tryz.ntmps71, by rw [Tryz.results71], by kernel_rfl⟩
theorem fe_72 : FeOk Tryz.prog 72 (FE.code 63 [] (bodyOf Tryz.f72)) := ⟨_, Tryz.func72, by kernel_rfl, Tryz.ntmps72, by rw [Tryz.results72], by kernel_rfl⟩
theorem fe_73 : FeOk Tryz.prog 73 (FE.code 24 [.tmp 2] (bodyOf Tryz.f73)) := ⟨_, Tryz.func73, by kernel_rfl, Tryz.ntmps73, by rw [Tryz.results73], by kernel_rfl⟩
theorem fe_74 : FeOk Tryz.prog 74 (FE.code 19 [.tmp 4] (bodyOf Tryz.f74)) := ⟨_, Tryz.func74, by kernel_rfl, Tryz.ntmps74, by rw [Tryz.results74], by kernel_rfl⟩
theorem fe_75 : FeOk Tryz.prog 75 (FE.code 8 [.tmp 4] (bodyOf Tryz.f75)) := ⟨_, Tryz.func75, by kernel_rfl, Tryz.ntmps75, by rw [Tryz.results75], by kernel_rfl⟩
theorem fe_76 : FeOk Tryz.prog 76 (FE.code 21 [.tmp 2] (bodyOf Tryz.f76)) := ⟨_, Tryz.func76, by kernel_rfl, Tryz.ntmps76, by rw [Tryz.results76], by kernel_rfl⟩
theorem fe_77 : FeOk Tryz.prog 77 (FE.code 21 [.tmp 6] (bodyOf Tryz.f77)) := ⟨_, Tryz.func77, by kernel_rfl, Tryz.ntmps77, by rw [Tryz.results77], by kernel_rfl⟩
theorem fe_78 : FeOk Tryz.prog 78 (FE.code 28 [.tmp 2] (bodyOf Tryz.f78)) := ⟨_, Tryz.func78, by kernel_rfl, Tryz.ntmps78, by rw [Tryz.results78], by kernel_rfl⟩
theorem fe_79 : FeOk Tryz.prog 79 (FE.code 32 [.tmp 2] (bodyOf Tryz.f79)) := ⟨_, Tryz.func79, by kernel_rfl, Tryz.ntmps79, by rw [Tryz.results79], by kernel_rfl⟩
theorem fe_80 : FeOk Tryz.prog 80 (FE.code 37 [] (bodyOf Tryz.f80)) := ⟨_, Tryz.func80, by kernel_rfl, Tryz.ntmps80, by rw [Tryz.results80], by kernel_rfl⟩
theorem fe_81 : FeOk Tryz.prog 81 (FE.code 10 [.tmp 4] (bodyOf Tryz.f81)) := ⟨_, Tryz.func81, by kernel_rfl, Tryz.ntmps81, by rw [Tryz.results81], by kernel_rfl⟩
theorem fe_82 : FeOk Tryz.prog 82 (FE.code 5 [.tmp 2] (bodyOf Tryz.f82)) := ⟨_, Tryz.func82, by kernel_rfl, Tryz.ntmps82, by rw [Tryz.results82], by kernel_rfl⟩
theorem fe_83 : FeOk Tryz.prog 83 (FE.code 42 [] (bodyOf Tryz.f83)) := ⟨_, Tryz.func83, by kernel_rfl, Tryz.ntmps83, by rw [Tryz.results83], by kernel_rfl⟩
theorem fe_84 : FeOk Tryz.prog 84 (FE.code 47 [] (bodyOf Tryz.f84)) := ⟨_, Tryz.func84, by kernel_rfl, Tryz.ntmps84, by rw [Tryz.results84], by kernel_rfl⟩
theorem fe_85 : FeOk Tryz.prog 85 (FE.code 8 [.tmp 2] (bodyOf Tryz.f85)) := ⟨_, Tryz.func85, by kernel_rfl, Tryz.ntmps85, by rw [Tryz.results85], by kernel_rfl⟩
theorem fe_86 : FeOk Tryz.prog 86 (FE.code 14 [] (bodyOf Tryz.f86)) := ⟨_, Tryz.func86, by kernel_rfl, Tryz.ntmps86, by rw [Tryz.results86], by kernel_rfl⟩
theorem fe_87 : FeOk Tryz.prog 87 (FE.code 47 [.tmp 4] (bodyOf Tryz.f87)) := ⟨_, Tryz.func87, by kernel_rfl, Tryz.ntmps87, by rw [Tryz.results87], by kernel_rfl⟩
theorem fe_88 : FeOk Tryz.prog 88 (FE.code 61 [.tmp 2] (bodyOf Tryz.f88)) := ⟨_, Tryz.func88, by kernel_rfl, Tryz.ntmps88, by rw [Tryz.results88], by kernel_rfl⟩
theorem fe_89 : FeOk Tryz.prog 89 (FE.code 20 [.tmp 2, .tmp 3, .tmp 4] (bodyOf Tryz.f89)) := ⟨_, Tryz.func89, by kernel_rfl, Tryz.ntmps89, by rw [Tryz.results89], by kernel_rfl⟩
theorem fe_90 : FeOk Tryz.prog 90 (FE.code 8 [.tmp 4] (bodyOf Tryz.f90)) := ⟨_, Tryz.func90, by kernel_rfl, Tryz.ntmps90, by rw [Tryz.results90], by kernel_rfl⟩
theorem fe_91 : FeOk Tryz.prog 91 (FE.code 13 [.tmp 2] (bodyOf Tryz.f91)) := ⟨_, Tryz.func91, by kernel_rfl, Tryz.ntmps91, by rw [Tryz.results91], by kernel_rfl⟩
theorem fe_92 : FeOk Tryz.prog 92 (FE.code 81 [] (bodyOf Tryz.f92)) := ⟨_, Tryz.func92, by kernel_rfl, Tryz.ntmps92, by rw [Tryz.results92], by kernel_rfl⟩
theorem fe_93 : FeOk Tryz.prog 93 (FE.code 62 [] (bodyOf Tryz.f93)) := ⟨_, Tryz.func93, by kernel_rfl, Tryz.ntmps93, by rw [Tryz.results93], by kernel_rfl⟩
theorem fe_94 : FeOk Tryz.prog 94 (FE.code 26 [.tmp 4] (bodyOf Tryz.f94)) := ⟨_, Tryz.func94, by kernel_rfl, Tryz.ntmps94, by rw [Tryz.results94], by kernel_rfl⟩
theorem fe_95 : FeOk Tryz.prog 95 (FE.code 26 [.tmp 4] (bodyOf Tryz.f95)) := ⟨_, Tryz.func95, by kernel_rfl, Tryz.ntmps95, by rw [Tryz.results95], by kernel_rfl⟩
theorem fe_96 : FeOk Tryz.prog 96 (FE.code 14 [] (bodyOf Tryz.f96)) := ⟨_, Tryz.func96, by kernel_rfl, Tryz.ntmps96, by rw [Tryz.results96], by kernel_rfl⟩
theorem fe_97 : FeOk Tryz.prog 97 (FE.code 10 [.tmp 4] (bodyOf Tryz.f97)) := ⟨_, Tryz.func97, by kernel_rfl, Tryz.ntmps97, by rw [Tryz.results97], by kernel_rfl⟩
theorem fe_98 : FeOk Tryz.prog 98 (FE.code 87 [.tmp 2] (bodyOf Tryz.f98)) := ⟨_, Tryz.func98, by kernel_rfl, Tryz.ntmps98, by rw [Tryz.results98], by kernel_rfl⟩
theorem fe_99 : FeOk Tryz.prog 99 (FE.code 111 [.tmp 2] (bodyOf Tryz.f99)) := ⟨_, Tryz.func99, by kernel_rfl, Tryz.ntmps99, by rw [Tryz.results99], by kernel_rfl⟩
theorem fe_100 : FeOk Tryz.prog 100 (FE.code 96 [.tmp 2] (bodyOf Tryz.f100)) := ⟨_, Tryz.func100, by kernel_rfl, Tryz.ntmps100, by rw [Tryz.results100], by kernel_rfl⟩
theorem fe_101 : FeOk Tryz.prog 101 (FE.code 47 [.tmp 6, .tmp 7] (bodyOf Tryz.f101)) := ⟨_, Tryz.func101, by kernel_rfl, Tryz.ntmps101, by rw [Tryz.results101], by kernel_rfl⟩
theorem fe_102 : FeOk Tryz.prog 102 (FE.code 30 [.tmp 4] (bodyOf Tryz.f102)) := ⟨_, Tryz.func102, by kernel_rfl, Tryz.ntmps102, by rw [Tryz.results102], by kernel_rfl⟩
theorem fe_103 : FeOk Tryz.prog 103 (FE.code 226 [.tmp 4] (bodyOf Tryz.f103)) := ⟨_, Tryz.func103, by kernel_rfl, Tryz.ntmps103, by rw [Tryz.results103], by kernel_rfl⟩
theorem fe_104 : FeOk Tryz.prog 104 (FE.code 127 [.tmp 6] (bodyOf Tryz.f104)) := ⟨_, Tryz.func104, by kernel_rfl, Tryz.ntmps104, by rw [Tryz.results104], by kernel_rfl⟩
theorem fe_105 : FeOk Tryz.prog 105 (FE.code 57 [.tmp 6] (bodyOf Tryz.f105)) := ⟨_, Tryz.func105, by kernel_rfl, Tryz.ntmps105, by rw [Tryz.results105], by kernel_rfl⟩
theorem fe_106 : FeOk Tryz.prog 106 (FE.code 41 [.tmp 2] (bodyOf Tryz.f106)) := ⟨_, Tryz.func106, by kernel_rfl, Tryz.ntmps106, by rw [Tryz.results106], by kernel_rfl⟩
theorem fe_107 : FeOk Tryz.prog 107 (FE.code 159 [.tmp 6] (bodyOf Tryz.f107)) := ⟨_, Tryz.func107, by kernel_rfl, Tryz.ntmps107, by rw [Tryz.results107], by kernel_rfl⟩
theorem fe_108 : FeOk Tryz.prog 108 (FE.code 26 [.tmp 4] (bodyOf Tryz.f108)) := ⟨_, Tryz.func108, by kernel_rfl, Tryz.ntmps108, by rw [Tryz.results108], by kernel_rfl⟩
theorem fe_109 : FeOk Tryz.prog 109 (FE.code 23 [.cell 2 140] (bodyOf Tryz.f109)) := ⟨_, Tryz.func109, by kernel_rfl, Tryz.ntmps109, by rw [Tryz.results109], by kernel_rfl⟩
theorem fe_110 : FeOk Tryz.prog 110 (FE.code 5 [.cell 2 140] (bodyOf Tryz.f110)) := ⟨_, Tryz.func110, by kernel_rfl, Tryz.ntmps110, by rw [Tryz.results110], by kernel_rfl⟩
theorem fe_111 : FeOk Tryz.prog 111 (FE.code 134 [] (bodyOf Tryz.f111)) := ⟨_, Tryz.func111, by kernel_rfl, Tryz.ntmps111, by rw [Tryz.results111], by kernel_rfl⟩
theorem fe_112 : FeOk Tryz.prog 112 (FE.code 8 [.tmp 2] (bodyOf Tryz.f112)) := ⟨_, Tryz.func112, by kernel_rfl, Tryz.ntmps112, by rw [Tryz.results112], by kernel_rfl⟩
theorem fe_113 : FeOk Tryz.prog 113 (FE.code 53 [] (bodyOf Tryz.f113)) := ⟨_, Tryz.func113, by kernel_rfl, Tryz.ntmps113, by rw [Tryz.results113], by kernel_rfl⟩
theorem fe_114 : FeOk Tryz.prog 114 (FE.code 220 [] (bodyOf Tryz.f114)) := ⟨_, Tryz.func114, by kernel_rfl, Tryz.ntmps114, by rw [Tryz.results114], by kernel_rfl⟩
theorem fe_115 : FeOk Tryz.prog 115 (FE.pure cmpX) := cmp_ok Tryz.func115 (by kernel_rfl) (by kernel_rfl) (by kernel_rfl) (by kernel_rfl)
theorem fe_116 : FeOk Tryz.prog 116 (FE.code 53 [] (bodyOf Tryz.f116)) := ⟨_, Tryz.func116, by kernel_rfl, Tryz.ntmps116, by rw [Tryz.results116], by kernel_rfl⟩
theorem fe_117 : FeOk Tryz.prog 117 (FE.code 220 [] (bodyOf Tryz.f117)) := ⟨_, Tryz.func117, by kernel_rfl, Tryz.ntmps117, by rw [Tryz.results117], by kernel_rfl⟩
theorem fe_118 : FeOk Tryz.prog 118 (FE.code 53 [] (bodyOf Tryz.f118)) := ⟨_, Tryz.func118, by kernel_rfl, Tryz.ntmps118, by rw [Tryz.results118], by kernel_rfl⟩
theorem fe_119 : FeOk Tryz.prog 119 (FE.code 220 [] (bodyOf Tryz.f119)) := ⟨_, Tryz.func119, by kernel_rfl, Tryz.ntmps119, by rw [Tryz.results119], by kernel_rfl⟩
theorem fe_120 : FeOk Tryz.prog 120 (FE.code 26 [.tmp 4] (bodyOf Tryz.f120)) := ⟨_, Tryz.func120, by kernel_rfl, Tryz.ntmps120, by rw [Tryz.results120], by kernel_rfl⟩
theorem fe_121 : FeOk Tryz.prog 121 (FE.code 9 [.tmp 4] (bodyOf Tryz.f121)) := ⟨_, Tryz.func121, by kernel_rfl, Tryz.ntmps121, by rw [Tryz.results121], by kernel_rfl⟩
theorem fe_122 : FeOk Tryz.prog 122 (FE.code 7 [.tmp 3] (bodyOf Tryz.f122)) := ⟨_, Tryz.func122, by kernel_rfl, Tryz.ntmps122, by rw [Tryz.results122], by kernel_rfl⟩
theorem fe_123 : FeOk Tryz.prog 123 (FE.code 20 [.tmp 4] (bodyOf Tryz.f123)) := ⟨_, Tryz.func123, by kernel_rfl, Tryz.ntmps123, by rw [Tryz.results123], by kernel_rfl⟩
theorem fe_124 : FeOk Tryz.prog 124 (FE.code 29 [] (bodyOf Tryz.f124)) := ⟨_, Tryz.func124, by kernel_rfl, Tryz.ntmps124, by rw [Tryz.results124], by kernel_rfl⟩
theorem fe_125 : FeOk Tryz.prog 125 (FE.code 41 [] (bodyOf Tryz.f125)) := ⟨_, Tryz.func125, by kernel_rfl, Tryz.ntmps125, by rw [Tryz.results125], by kernel_rfl⟩
theorem fe_126 : FeOk Tryz.prog 126 (FE.code 75 [.tmp 4] (bodyOf Tryz.f126)) := ⟨_, Tryz.func126, by kernel_rfl, Tryz.ntmps126, by rw [Tryz.results126], by kernel_rfl⟩
theorem fe_127 : FeOk Tryz.prog 127 (FE.code 148 [] (bodyOf Tryz.f127)) := ⟨_, Tryz.func127, by kernel_rfl, Tryz.ntmps127, by rw [Tryz.results127], by kernel_rfl⟩
theorem fe_128 : FeOk Tryz.prog 128 (FE.code 13 [.tmp 4, .tmp 5, .tmp 6] (bodyOf Tryz.f128)) := ⟨_, Tryz.func128, by kernel_rfl, Tryz.ntmps128, by rw [Tryz.results128], by kernel_rfl⟩
theorem fe_129 : FeOk Tryz.prog 129 (FE.code 28 [.tmp 2] (bodyOf Tryz.f129)) := ⟨_, Tryz.func129, by kernel_rfl, Tryz.ntmps129, by rw [Tryz.results129], by kernel_rfl⟩
theorem fe_130 : FeOk Tryz.prog 130 (FE.code 18 [.tmp 4] (bodyOf Tryz.f130)) := ⟨_, Tryz.func130, by kernel_rfl, Tryz.ntmps130, by rw [Tryz.results130], by kernel_rfl⟩
theorem fe_131 : FeOk Tryz.prog 131 (FE.code 148 [] (bodyOf Tryz.f131)) := ⟨_, Tryz.func131, by kernel_rfl, Tryz.ntmps131, by rw [Tryz.results131], by kernel_rfl⟩
theorem fe_132 : FeOk Tryz.prog 132 (FE.code 7 [.tmp 2] (bodyOf Tryz.f132)) := ⟨_, Tryz.func132, by kernel_rfl, Tryz.ntmps132, by rw [Tryz.results132], by kernel_rfl⟩
theorem fe_133 : FeOk Tryz.prog 133 (FE.code 7 [.tmp 2] (bodyOf Tryz.f133)) := ⟨_, Tryz.func133, by kernel_rfl, Tryz.ntmps133, by rw [Tryz.results133], by kernel_rfl⟩
theorem fe_134 : FeOk Tryz.prog 134 (FE.code 9 [.tmp 4] (bodyOf Tryz.f134)) := ⟨_, Tryz.func134, by kernel_rfl, Tryz.ntmps134, by rw [Tryz.results134], by kernel_rfl⟩
theorem fe_135 : FeOk Tryz.prog 135 (FE.code 8 [.tmp 3] (bodyOf Tryz.f135)) := ⟨_, Tryz.func135, by kernel_rfl, Tryz.ntmps135, by rw [Tryz.results135], by kernel_rfl⟩
theorem fe_136 : FeOk Tryz.prog 136 (FE.code 21 [.cell 2 207] (bodyOf Tryz.f136)) := ⟨_, Tryz.func136, by kernel_rfl, Tryz.ntmps136, by rw [Tryz.results136], by kernel_rfl⟩
theorem fe_137 : FeOk Tryz.prog 137 (FE.code 39 [.tmp 8] (bodyOf Tryz.f137)) := ⟨_, Tryz.func137, by kernel_rfl, Tryz.ntmps137, by rw [Tryz.results137], by kernel_rfl⟩
theorem fe_138 : FeOk Tryz.prog 138 (FE.code 21 [.tmp 4] (bodyOf Tryz.f138)) := ⟨_, Tryz.func138, by kernel_rfl, Tryz.ntmps138, by rw [Tryz.results138], by kernel_rfl⟩
theorem fe_139 : FeOk Tryz.prog 139 (FE.code 49 [] (bodyOf Tryz.f139)) := ⟨_, Tryz.func139, by kernel_rfl, Tryz.ntmps139, by rw [Tryz.results139], by kernel_rfl⟩
theorem fe_140 : FeOk Tryz.prog 140 (FE.code 56 [] (bodyOf Tryz.f140)) := ⟨_, Tryz.func140, by kernel_rfl, Tryz.ntmps140, by rw [Tryz.results140], by kernel_rfl⟩
theorem fe_141 : FeOk Tryz.prog 141 (FE.code 65 [] (bodyOf Tryz.f141)) := ⟨_, Tryz.func141, by kernel_rfl, Tryz.ntmps141, by rw [Tryz.results141], by kernel_rfl⟩
theorem fe_142 : FeOk Tryz.prog 142 (FE.code 57 [.tmp 6, .tmp 7] (bodyOf Tryz.f142)) := ⟨_, Tryz.func142, by kernel_rfl, Tryz.ntmps142, by rw [Tryz.results142], by kernel_rfl⟩
theorem fe_143 : FeOk Tryz.prog 143 (FE.code 32 [] (bodyOf Tryz.f143)) := ⟨_, Tryz.func143, by kernel_rfl, Tryz.ntmps143, by rw [Tryz.results143], by kernel_rfl⟩
theorem fe_144 : FeOk Tryz.prog 144 (FE.code 133 [.tmp 6] (bodyOf Tryz.f144)) := ⟨_, Tryz.func144, by kernel_rfl, Tryz.ntmps144, by rw [Tryz.results144], by kernel_rfl⟩
theorem fe_145 : FeOk Tryz.prog 145 (FE.code 17 [.tmp 4] (bodyOf Tryz.f145)) := ⟨_, Tryz.func145, by kernel_rfl, Tryz.ntmps145, by rw [Tryz.results145], by kernel_rfl⟩
theorem fe_146 : FeOk Tryz.prog 146 (FE.code 84 [.tmp 8] (bodyOf Tryz.f146)) := ⟨_, Tryz.func146, by kernel_rfl, Tryz.ntmps146, by rw [Tryz.results146], by kernel_rfl⟩
theorem fe_147 : FeOk Tryz.prog 147 (FE.code 168 [.tmp 8, .tmp 9] (bodyOf Tryz.f147)) := ⟨_, Tryz.func147, by kernel_rfl, Tryz.ntmps147, by rw [Tryz.results147], by kernel_rfl⟩
theorem fe_148 : FeOk Tryz.prog 148 (FE.code 19 [.tmp 2] (bodyOf Tryz.f148)) := ⟨_, Tryz.func148, by kernel_rfl, Tryz.ntmps148, by rw [Tryz.results148], by kernel_rfl⟩
theorem fe_149 : FeOk Tryz.prog 149 (FE.code 25 [.tmp 2] (bodyOf Tryz.f149)) := ⟨_, Tryz.func149, by kernel_rfl, Tryz.ntmps149, by rw [Tryz.results149], by kernel_rfl⟩
theorem fe_150 : FeOk Tryz.prog 150 (FE.code 58 [] (bodyOf Tryz.f150)) := ⟨_, Tryz.func150, by kernel_rfl, Tryz.ntmps150, by rw [Tryz.results150], by kernel_rfl⟩
theorem fe_151 : FeOk Tryz.prog 151 (FE.code 58 [] (bodyOf Tryz.f151)) := ⟨_, Tryz.func151, by kernel_rfl, Tryz.ntmps151, by rw [Tryz.results151], by kernel_rfl⟩
theorem fe_152 : FeOk Tryz.prog 152 (FE.code 58 [] (bodyOf Tryz.f152)) := ⟨_, Tryz.func152, by kernel_rfl, Tryz.ntmps152, by rw [Tryz.results152], by kernel_rfl⟩
theorem fe_153 : FeOk Tryz.prog 153 (FE.code 11 [.tmp 4, .tmp 5] (bodyOf Tryz.f153)) := ⟨_, Tryz.func153, by kernel_rfl, Tryz.ntmps153, by rw [Tryz.results153], by kernel_rfl⟩
theorem fe_154 : FeOk Tryz.prog 154 (FE.code 79 [] (bodyOf Tryz.f154)) := ⟨_, Tryz.func154, by kernel_rfl, Tryz.ntmps154, by rw [Tryz.results154], by kernel_rfl⟩
theorem fe_155 : FeOk Tryz.prog 155 (FE.code 25 [] (bodyOf Tryz.f155)) := ⟨_, Tryz.func155, by kernel_rfl, Tryz.ntmps155, by rw [Tryz.results155], by kernel_rfl⟩
theorem fe_156 : FeOk Tryz.prog 156 (FE.code 19 [.tmp 4, .tmp 5] (bodyOf Tryz.f156)) := ⟨_, Tryz.func156, by kernel_rfl, Tryz.ntmps156, by rw [Tryz.results156], by kernel_rfl⟩
theorem fe_157 : FeOk Tryz.prog 157 (FE.code 14 [.tmp 2] (bodyOf Tryz.f157)) := ⟨_, Tryz.func157, by kernel_rfl, Tryz.ntmps157, by rw [Tryz.results157], by kernel_rfl⟩
theorem fe_158 : FeOk Tryz.prog 158 (FE.code 53 [] (bodyOf Tryz.f158)) := ⟨_, Tryz.func158, by kernel_rfl, Tryz.ntmps158, by rw [Tryz.results158], by kernel_rfl⟩
theorem fe_159 : FeOk Tryz.prog 159 (FE.code 60 [] (bodyOf Tryz.f159)) := ⟨_, Tryz.func159, by kernel_rfl, Tryz.ntmps159, by rw [Tryz.results159], by kernel_rfl⟩
theorem fe_160 : FeOk Tryz.prog 160 (FE.code 67 [] (bodyOf Tryz.f160)) := ⟨_, Tryz.func160, by kernel_rfl, Tryz.ntmps160, by rw [Tryz.results160], by kernel_rfl⟩
theorem fe_161 : FeOk Tryz.prog 161 (FE.code 63 [.tmp 8, .tmp 9] (bodyOf Tryz.f161)) := ⟨_, Tryz.func161, by kernel_rfl, Tryz.ntmps161, by rw [Tryz.results161], by kernel_rfl⟩
theorem fe_162 : FeOk Tryz.prog 162 (FE.code 34 [] (bodyOf Tryz.f162)) := ⟨_, Tryz.func162, by kernel_rfl, Tryz.ntmps162, by rw [Tryz.results162], by kernel_rfl⟩
theorem fe_163 : FeOk Tryz.prog 163 (FE.code 141 [.tmp 8] (bodyOf Tryz.f163)) := ⟨_, Tryz.func163, by kernel_rfl, Tryz.ntmps163, by rw [Tryz.results163], by kernel_rfl⟩
theorem fe_164 : FeOk Tryz.prog 164 (FE.code 90 [.tmp 10] (bodyOf Tryz.f164)) := ⟨_, Tryz.func164, by kernel_rfl, Tryz.ntmps164, by rw [Tryz.results164], by kernel_rfl⟩
theorem fe_165 : FeOk Tryz.prog 165 (FE.code 178 [.tmp 10, .tmp 11] (bodyOf Tryz.f165)) := ⟨_, Tryz.func165, by kernel_rfl, Tryz.ntmps165, by rw [Tryz.results165], by kernel_rfl⟩
theorem fe_166 : FeOk Tryz.prog 166 (FE.code 23 [.tmp 4, .tmp 5, .tmp 6] (bodyOf Tryz.f166)) := ⟨_, Tryz.func166, by kernel_rfl, Tryz.ntmps166, by rw [Tryz.results166], by kernel_rfl⟩
theorem fe_167 : FeOk Tryz.prog 167 (FE.code 17 [.tmp 2] (bodyOf Tryz.f167)) := ⟨_, Tryz.func167, by kernel_rfl, Tryz.ntmps167, by rw [Tryz.results167], by kernel_rfl⟩
theorem fe_168 : FeOk Tryz.prog 168 (FE.code 17 [.tmp 2] (bodyOf Tryz.f168)) := ⟨_, Tryz.func168, by kernel_rfl, Tryz.ntmps168, by rw [Tryz.results168], by kernel_rfl⟩
theorem fe_169 : FeOk Tryz.prog 169 (FE.code 60 [] (bodyOf Tryz.f169)) := ⟨_, Tryz.func169, by kernel_rfl, Tryz.ntmps169, by rw [Tryz.results169], by kernel_rfl⟩
theorem fe_170 : FeOk Tryz.prog 170 (FE.code 67 [] (bodyOf Tryz.f170)) := ⟨_, Tryz.func170, by kernel_rfl, Tryz.ntmps170, by rw [Tryz.results170], by kernel_rfl⟩
theorem fe_171 : FeOk Tryz.prog 171 (FE.code 63 [.tmp 8, .tmp 9] (bodyOf Tryz.f171)) := ⟨_, Tryz.func171, by kernel_rfl, Tryz.ntmps171, by rw [Tryz.results171], by kernel_rfl⟩
theorem fe_172 : FeOk Tryz.prog 172 (FE.code 34 [] (bodyOf Tryz.f172)) := ⟨_, Tryz.func172, by kernel_rfl, Tryz.ntmps172, by rw [Tryz.results172], by kernel_rfl⟩
theorem fe_173 : FeOk Tryz.prog 173 (FE.code 141 [.tmp 8] (bodyOf Tryz.f173)) := ⟨_, Tryz.func173, by kernel_rfl, Tryz.ntmps173, by rw [Tryz.results173], by kernel_rfl⟩
theorem fe_174 : FeOk Tryz.prog 174 (FE.code 90 [.tmp 10] (bodyOf Tryz.f174)) := ⟨_, Tryz.func174, by kernel_rfl, Tryz.ntmps174, by rw [Tryz.results174], by kernel_rfl⟩
theorem fe_175 : FeOk Tryz.prog 175 (FE.code 178 [.tmp 10, .tmp 11] (bodyOf Tryz.f175)) := ⟨_, Tryz.func175, by kernel_rfl, Tryz.ntmps175, by rw [Tryz.results175], by kernel_rfl⟩
theorem fe_176 : FeOk Tryz.prog 176 (FE.code 36 [.tmp 2] (bodyOf Tryz.f176)) := ⟨_, Tryz.func176, by kernel_rfl, Tryz.ntmps176, by rw [Tryz.results176], by kernel_rfl⟩
theorem fe_177 : FeOk Tryz.prog 177 (FE.code 6 [.tmp 2] (bodyOf Tryz.f177)) := ⟨_, Tryz.func177, by kernel_rfl, Tryz.ntmps177, by rw [Tryz.results177], by kernel_rfl⟩
theorem fe_178 : FeOk Tryz.prog 178 (FE.code 6 [.tmp 2] (bodyOf Tryz.f178)) := ⟨_, Tryz.func178, by kernel_rfl, Tryz.ntmps178, by rw [Tryz.results178], by kernel_rfl⟩
theorem fe_179 : FeOk Tryz.prog 179 (FE.code 10 [.tmp 2] (bodyOf Tryz.f179)) := ⟨_, Tryz.func179, by kernel_rfl, Tryz.ntmps179, by rw [Tryz.results179], by kernel_rfl⟩
theorem fe_180 : FeOk Tryz.prog 180 (FE.code 47 [.tmp 6] (bodyOf Tryz.f180)) := ⟨_, Tryz.func180, by kernel_rfl, Tryz.ntmps180, by rw [Tryz.results180], by kernel_rfl⟩
theorem fe_181 : FeOk Tryz.prog 181 (FE.code 54 [.tmp 4] (bodyOf Tryz.f181)) := ⟨_, Tryz.func181, by kernel_rfl, Tryz.ntmps181, by rw [Tryz.results181], by kernel_rfl⟩
theorem fe_182 : FeOk Tryz.prog 182 (FE.code 76 [] (bodyOf Tryz.f182)) := ⟨_, Tryz.func182, by kernel_rfl, Tryz.ntmps182, by rw [Tryz.results182], by kernel_rfl⟩
theorem fe_183 : FeOk Tryz.prog 183 (FE.code 7 [.tmp 2] (bodyOf Tryz.f183)) := ⟨_, Tryz.func183, by kernel_rfl, Tryz.ntmps183, by rw [Tryz.results183], by kernel_rfl⟩
theorem fe_184 : FeOk Tryz.prog 184 (FE.code 33 [.tmp 2] (bodyOf Tryz.f184)) := ⟨_, Tryz.func184, by kernel_rfl, Tryz.ntmps184, by rw [Tryz.results184], by kernel_rfl⟩
theorem fe_185 : FeOk Tryz.prog 185 (FE.code 15 [.tmp 6] (bodyOf Tryz.f185)) := ⟨_, Tryz.func185, by kernel_rfl, Tryz.ntmps185, by rw [Tryz.results185], by kernel_rfl⟩
theorem fe_186 : FeOk Tryz.prog 186 (FE.code 36 [.tmp 10] (bodyOf Tryz.f186)) := ⟨_, Tryz.func186, by kernel_rfl, Tryz.ntmps186, by rw [Tryz.results186], by kernel_rfl⟩
theorem fe_187 : FeOk Tryz.prog 187 (FE.code 6 [.tmp 2] (bodyOf Tryz.f187)) := ⟨_, Tryz.func187, by kernel_rfl, Tryz.ntmps187, by rw [Tryz.results187], by kernel_rfl⟩
theorem fe_188 : FeOk Tryz.prog 188 (FE.code 38 [] (bodyOf Tryz.f188)) := ⟨_, Tryz.func188, by kernel_rfl, Tryz.ntmps188, by rw [Tryz.results188], by kernel_rfl⟩
theorem fe_189 : FeOk Tryz.prog 189 (FE.code 38 [] (bodyOf Tryz.f189)) := ⟨_, Tryz.func189, by kernel_rfl, Tryz.ntmps189, by rw [Tryz.results189], by kernel_rfl⟩
theorem fe_190 : FeOk Tryz.prog 190 (FE.code 38 [] (bodyOf Tryz.f190)) := ⟨_, Tryz.func190, by kernel_rfl, Tryz.ntmps190, by rw [Tryz.results190], by kernel_rfl⟩
theorem fe_191 : FeOk Tryz.prog 191 (FE.code 18 [.tmp 4, .tmp 5] (bodyOf Tryz.f191)) := ⟨_, Tryz.func191, by kernel_rfl, Tryz.ntmps191, by rw [Tryz.results191], by kernel_rfl⟩
theorem fe_192 : FeOk Tryz.prog 192 (FE.code 20 [] (bodyOf Tryz.f192)) := ⟨_, Tryz.func192, by kernel_rfl, Tryz.ntmps192, by rw [Tryz.results192], by kernel_rfl⟩
theorem fe_193 : FeOk Tryz.prog 193 (FE.code 30 [] (bodyOf Tryz.f193)) := ⟨_, Tryz.func193, by kernel_rfl, Tryz.ntmps193, by rw [Tryz.results193], by kernel_rfl⟩
theorem fe_194 : FeOk Tryz.prog 194 (FE.code 82 [] (bodyOf Tryz.f194)) := ⟨_, Tryz.func194, by kernel_rfl, Tryz.ntmps194, by rw [Tryz.results194], by kernel_rfl⟩
theorem fe_195 : FeOk Tryz.prog 195 (FE.code 18 [.tmp 8] (bodyOf Tryz.f195)) := ⟨_, Tryz.func195, by kernel_rfl, Tryz.ntmps195, by rw [Tryz.results195], by kernel_rfl⟩
theorem fe_196 : FeOk Tryz.prog 196 (FE.code 41 [.tmp 12] (bodyOf Tryz.f196)) := ⟨_, Tryz.func196, by kernel_rfl, Tryz.ntmps196, by rw [Tryz.results196], by kernel_rfl⟩
theorem fe_197 : FeOk Tryz.prog 197 (FE.code 143 [.tmp 4] (bodyOf Tryz.f197)) := ⟨_, Tryz.func197, by kernel_rfl, Tryz.ntmps197, by rw [Tryz.results197], by kernel_rfl⟩
theorem fe_198 : FeOk Tryz.prog 198 (FE.code 82 [] (bodyOf Tryz.f198)) := ⟨_, Tryz.func198, by kernel_rfl, Tryz.ntmps198, by rw [Tryz.results198], by kernel_rfl⟩
theorem fe_199 : FeOk Tryz.prog 199 (FE.code 18 [.tmp 8] (bodyOf Tryz.f199)) := ⟨_, Tryz.func199, by kernel_rfl, Tryz.ntmps199, by rw [Tryz.results199], by kernel_rfl⟩
theorem fe_200 : FeOk Tryz.prog 200 (FE.code 41 [.tmp 12] (bodyOf Tryz.f200)) := ⟨_, Tryz.func200, by kernel_rfl, Tryz.ntmps200, by rw [Tryz.results200], by kernel_rfl⟩
theorem fe_201 : FeOk Tryz.prog 201 (FE.code 27 [.tmp 4] (bodyOf Tryz.f201)) := ⟨_, Tryz.func201, by kernel_rfl, Tryz.ntmps201, by rw [Tryz.results201], by kernel_rfl⟩
theorem fe_202 : FeOk Tryz.prog 202 (FE.code 8 [.tmp 4] (bodyOf Tryz.f202)) := ⟨_, Tryz.func202, by kernel_rfl, Tryz.ntmps202, by rw [Tryz.results202], by kernel_rfl⟩
theorem fe_203 : FeOk Tryz.prog 203 (FE.code 27 [.tmp 4] (bodyOf Tryz.f203)) := ⟨_, Tryz.func203, by kernel_rfl, Tryz.ntmps203, by rw [Tryz.results203], by kernel_rfl⟩
theorem fe_204 : FeOk Tryz.prog 204 (FE.code 42 [.tmp 2] (bodyOf Tryz.f204)) := ⟨_, Tryz.func204, by kernel_rfl, Tryz.ntmps204, by rw [Tryz.results204], by kernel_rfl⟩
theorem fe_205 : FeOk Tryz.prog 205 (FE.code 28 [.tmp 8, .tmp 9] (bodyOf Tryz.f205)) := ⟨_, Tryz.func205, by kernel_rfl, Tryz.ntmps205, by rw [Tryz.results205], by kernel_rfl⟩
theorem fe_206 : FeOk Tryz.prog 206 (FE.code 21 [.tmp 4] (bodyOf Tryz.f206)) := ⟨_, Tryz.func206, by kernel_rfl, Tryz.ntmps206, by rw [Tryz.results206], by kernel_rfl⟩
theorem fe_207 : FeOk Tryz.prog 207 (FE.pure sameX) := same_ok Tryz.func207 (by kernel_rfl) (by kernel_rfl) (by kernel_rfl) (by kernel_rfl)
theorem fe_208 : FeOk Tryz.prog 208 (FE.room 5) := @room_ok Tryz.prog 208 Tryz.f208 28 5 Tryz.func208 (by kernel_rfl) (by kernel_rfl) (by kernel_rfl) Tryz.f208.params (by kernel_rfl) Tryz.underlying28
theorem fe_209 : FeOk Tryz.prog 209 (FE.code 32 [.tmp 10, .tmp 11] (bodyOf Tryz.f209)) := ⟨_, Tryz.func209, by kernel_rfl, Tryz.ntmps209, by rw [Tryz.results209], by kernel_rfl⟩
theorem fe_210 : FeOk Tryz.prog 210 (FE.code 8 [.tmp 4] (bodyOf Tryz.f210)) := ⟨_, Tryz.func210, by kernel_rfl, Tryz.ntmps210, by rw [Tryz.results210], by kernel_rfl⟩
theorem fe_212 : FeOk Tryz.prog 212 (FE.code 6 [.tmp 2] (bodyOf Tryz.f212)) := ⟨_, Tryz.func212, by kernel_rfl, Tryz.ntmps212, by rw [Tryz.results212], by kernel_rfl⟩
theorem fe_213 : FeOk Tryz.prog 213 (FE.code 81 [.tmp 4] (bodyOf Tryz.f213)) := ⟨_, Tryz.func213, by kernel_rfl, Tryz.ntmps213, by rw [Tryz.results213], by kernel_rfl⟩
theorem fe_214 : FeOk Tryz.prog 214 (FE.code 32 [.tmp 10, .tmp 11] (bodyOf Tryz.f214)) := ⟨_, Tryz.func214, by kernel_rfl, Tryz.ntmps214, by rw [Tryz.results214], by kernel_rfl⟩
theorem fe_215 : FeOk Tryz.prog 215 (FE.code 16 [.tmp 4] (bodyOf Tryz.f215)) := ⟨_, Tryz.func215, by kernel_rfl, Tryz.ntmps215, by rw [Tryz.results215], by kernel_rfl⟩
theorem fe_216 : FeOk Tryz.prog 216 (FE.code 47 [.tmp 2] (bodyOf Tryz.f216)) := ⟨_, Tryz.func216, by kernel_rfl, Tryz.ntmps216, by rw [Tryz.results216], by kernel_rfl⟩
theorem fe_217 : FeOk Tryz.prog 217 (FE.code 49 [.tmp 2] (bodyOf Tryz.f217)) := ⟨_, Tryz.func217, by kernel_rfl, Tryz.ntmps217, by rw [Tryz.results217], by kernel_rfl⟩
theorem fe_218 : FeOk Tryz.prog 218 (FE.pure idxX) := idx_ok Tryz.func218 (by kernel_rfl) (by kernel_rfl) (by kernel_rfl) (by kernel_rfl)
theorem fe_219 : FeOk Tryz.prog 219 (FE.code 39 [.tmp 2, .tmp 3] (bodyOf Tryz.f219)) := ⟨_, Tryz.func219, by kernel_rfl, Tryz.ntmps219, by rw [Tryz.results219], by kernel_rfl⟩
theorem fe_220 : FeOk Tryz.prog 220 (FE.code 17 [.tmp 2] (bodyOf Tryz.f220)) := ⟨_, Tryz.func220, by kernel_rfl, Tryz.ntmps220, by rw [Tryz.results220], by kernel_rfl⟩
noncomputable def ftL : List (Nat × FE) := [(5, FE.code 113 [.tmp 2] (bodyOf Tryz.f5)),
  (6, FE.code 72 [.tmp 0] (bodyOf Tryz.f6)),
  (7, FE.code 113 [.cell 2 27] (bodyOf Tryz.f7)),
  (8, FE.code 23 [.tmp 2] (bodyOf Tryz.f8)),
  (9, FE.code 18 [.tmp 6] (bodyOf Tryz.f9)),
  (10, FE.code 148 [.tmp 2, .tmp 3, .tmp 4] (bodyOf Tryz.f10)),
  (11, FE.code 1 [.tmp 0] (bodyOf Tryz.f11)),
  (12, FE.code 127 [.tmp 4] (bodyOf Tryz.f12)),
  (13, FE.code 51 [.cell 4 27, .tmp 5] (bodyOf Tryz.f13)),
  (14, FE.code 50 [.tmp 10, .tmp 11] (bodyOf Tryz.f14)),
  (15, FE.code 63 [.tmp 2] (bodyOf Tryz.f15)),
  (16, FE.code 10 [.tmp 4] (bodyOf Tryz.f16)),
  (17, FE.code 10 [.tmp 2] (bodyOf Tryz.f17)),
  (18, FE.code 9 [] (bodyOf Tryz.f18)),
  (19, FE.code 10 [.tmp 4] (bodyOf Tryz.f19)),
  (20, FE.code 8 [.tmp 4] (bodyOf Tryz.f20)),
  (21, FE.code 9 [] (bodyOf Tryz.f21)),
  (22, FE.code 19 [.tmp 4] (bodyOf Tryz.f22)),
  (23, FE.code 18 [.tmp 2] (bodyOf Tryz.f23)),
  (24, FE.code 20 [.tmp 4] (bodyOf Tryz.f24)),
  (25, FE.code 4 [.tmp 2] (bodyOf Tryz.f25)),
  (26, FE.code 9 [] (bodyOf Tryz.f26)),
  (27, FE.code 10 [.tmp 4] (bodyOf Tryz.f27)),
  (28, FE.code 66 [.tmp 4] (bodyOf Tryz.f28)),
  (29, FE.code 18 [.tmp 4] (bodyOf Tryz.f29)),
  (30, FE.code 66 [.tmp 4] (bodyOf Tryz.f30)),
  (31, FE.code 37 [.tmp 4] (bodyOf Tryz.f31)),
  (32, FE.code 66 [.tmp 4] (bodyOf Tryz.f32)),
  (33, FE.code 22 [.tmp 4] (bodyOf Tryz.f33)),
  (34, FE.code 42 [.tmp 4] (bodyOf Tryz.f34)),
  (35, FE.code 8 [.tmp 2] (bodyOf Tryz.f35)),
  (36, FE.code 8 [.tmp 3] (bodyOf Tryz.f36)),
  (37, FE.code 24 [.tmp 4] (bodyOf Tryz.f37)),
  (38, FE.code 115 [.tmp 2, .tmp 3, .tmp 4] (bodyOf Tryz.f38)),
  (39, FE.code 18 [] (bodyOf Tryz.f39)),
  (40, FE.code 68 [.tmp 2] (bodyOf Tryz.f40)),
  (41, FE.code 44 [.tmp 4] (bodyOf Tryz.f41)),
  (42, FE.code 98 [.cell 2 94] (bodyOf Tryz.f42)),
  (43, FE.code 22 [] (bodyOf Tryz.f43)),
  (44, FE.code 31 [] (bodyOf Tryz.f44)),
  (45, FE.code 25 [] (bodyOf Tryz.f45)),
  (46, FE.code 11 [.tmp 4] (bodyOf Tryz.f46)),
  (47, FE.code 13 [.cell 6 55] (bodyOf Tryz.f47)),
  (48, FE.code 82 [] (bodyOf Tryz.f48)),
  (49, FE.code 41 [] (bodyOf Tryz.f49)),
  (50, FE.code 10 [.tmp 2] (bodyOf Tryz.f50)),
  (51, FE.code 47 [.tmp 6] (bodyOf Tryz.f51)),
  (52, FE.code 80 [] (bodyOf Tryz.f52)),
  (53, FE.code 93 [.cell 2 27] (bodyOf Tryz.f53)),
  (54, FE.code 14 [.tmp 2] (bodyOf Tryz.f54)),
  (55, FE.code 26 [.tmp 4] (bodyOf Tryz.f55)),
  (56, FE.code 32 [.cell 6 94, .tmp 7] (bodyOf Tryz.f56)),
  (57, FE.code 95 [.tmp 2] (bodyOf Tryz.f57)),
  (58, FE.code 146 [.tmp 8] (bodyOf Tryz.f58)),
  (59, FE.code 58 [.tmp 6] (bodyOf Tryz.f59)),
  (60, FE.code 46 [.tmp 6] (bodyOf Tryz.f60)),
  (61, FE.code 63 [.tmp 2] (bodyOf Tryz.f61)),
  (62, FE.code 90 [.tmp 6] (bodyOf Tryz.f62)),
  (63, FE.code 111 [.tmp 2, .tmp 3, .tmp 4] (bodyOf Tryz.f63)),
  (64, FE.code 54 [.tmp 4] (bodyOf Tryz.f64)),
  (65, FE.code 132 [.cell 2 140] (bodyOf Tryz.f65)),
  (66, FE.code 11 [] (bodyOf Tryz.f66)),
  (67, FE.code 61 [.tmp 2] (bodyOf Tryz.f67)),
  (68, FE.code 63 [] (bodyOf Tryz.f68)),
  (69, FE.code 8 [.tmp 4] (bodyOf Tryz.f69)),
  (70, FE.code 63 [] (bodyOf Tryz.f70)),
  (71, FE.code 6 [.tmp 2] (bodyOf Tryz.f71)),
  (72, FE.code 63 [] (bodyOf Tryz.f72)),
  (73, FE.code 24 [.tmp 2] (bodyOf Tryz.f73)),
  (74, FE.code 19 [.tmp 4] (bodyOf Tryz.f74)),
  (75, FE.code 8 [.tmp 4] (bodyOf Tryz.f75)),
  (76, FE.code 21 [.tmp 2] (bodyOf Tryz.f76)),
  (77, FE.code 21 [.tmp 6] (bodyOf Tryz.f77)),
  (78, FE.code 28 [.tmp 2] (bodyOf Tryz.f78)),
  (79, FE.code 32 [.tmp 2] (bodyOf Tryz.f79)),
  (80, FE.code 37 [] (bodyOf Tryz.f80)),
  (81, FE.code 10 [.tmp 4] (bodyOf Tryz.f81)),
  (82, FE.code 5 [.tmp 2] (bodyOf Tryz.f82)),
  (83, FE.code 42 [] (bodyOf Tryz.f83)),
  (84, FE.code 47 [] (bodyOf Tryz.f84)),
  (85, FE.code 8 [.tmp 2] (bodyOf Tryz.f85)),
  (86, FE.code 14 [] (bodyOf Tryz.f86)),
  (87, FE.code 47 [.tmp 4] (bodyOf Tryz.f87)),
  (88, FE.code 61 [.tmp 2] (bodyOf Tryz.f88)),
  (89, FE.code 20 [.tmp 2, .tmp 3, .tmp 4] (bodyOf Tryz.f89)),
  (90, FE.code 8 [.tmp 4] (bodyOf Tryz.f90)),
  (91, FE.code 13 [.tmp 2] (bodyOf Tryz.f91)),
  (92, FE.code 81 [] (bodyOf Tryz.f92)),
  (93, FE.code 62 [] (bodyOf Tryz.f93)),
  (94, FE.code 26 [.tmp 4] (bodyOf Tryz.f94)),
  (95, FE.code 26 [.tmp 4] (bodyOf Tryz.f95)),
  (96, FE.code 14 [] (bodyOf Tryz.f96)),
  (97, FE.code 10 [.tmp 4] (bodyOf Tryz.f97)),
  (98, FE.code 87 [.tmp 2] (bodyOf Tryz.f98)),
  (99, FE.code 111 [.tmp 2] (bodyOf Tryz.f99)),
  (100, FE.code 96 [.tmp 2] (bodyOf Tryz.f100)),
  (101, FE.code 47 [.tmp 6, .tmp 7] (bodyOf Tryz.f101)),
  (102, FE.code 30 [.tmp 4] (bodyOf Tryz.f102)),
  (103, FE.code 226 [.tmp 4] (bodyOf Tryz.f103)),
  (104, FE.code 127 [.tmp 6] (bodyOf Tryz.f104)),
  (105, FE.code 57 [.tmp 6] (bodyOf Tryz.f105)),
  (106, FE.code 41 [.tmp 2] (bodyOf Tryz.f106)),
  (107, FE.code 159 [.tmp 6] (bodyOf Tryz.f107)),
  (108, FE.code 26 [.tmp 4] (bodyOf Tryz.f108)),
  (109, FE.code 23 [.cell 2 140] (bodyOf Tryz.f109)),
  (110, FE.code 5 [.cell 2 140] (bodyOf Tryz.f110)),
  (111, FE.code 134 [] (bodyOf Tryz.f111)),
  (112, FE.code 8 [.tmp 2] (bodyOf Tryz.f112)),
  (113, FE.code 53 [] (bodyOf Tryz.f113)),
  (114, FE.code 220 [] (bodyOf Tryz.f114)),
  (115, FE.pure cmpX),
  (116, FE.code 53 [] (bodyOf Tryz.f116)),
  (117, FE.code 220 [] (bodyOf Tryz.f117)),
  (118, FE.code 53 [] (bodyOf Tryz.f118)),
  (119, FE.code 220 [] (bodyOf Tryz.f119)),
  (120, FE.code 26 [.tmp 4] (bodyOf Tryz.f120)),
  (121, FE.code 9 [.tmp 4] (bodyOf Tryz.f121)),
  (122, FE.code 7 [.tmp 3] (bodyOf Tryz.f122)),
  (123, FE.code 20 [.tmp 4] (bodyOf Tryz.f123)),
  (124, FE.code 29 [] (bodyOf Tryz.f124)),
  (125, FE.code 41 [] (bodyOf Tryz.f125)),
  (126, FE.code 75 [.tmp 4] (bodyOf Tryz.f126)),
  (127, FE.code 148 [] (bodyOf Tryz.f127)),
  (128, FE.code 13 [.tmp 4, .tmp 5, .tmp 6] (bodyOf Tryz.f128)),
  (129, FE.code 28 [.tmp 2] (bodyOf Tryz.f129)),
  (130, FE.code 18 [.tmp 4] (bodyOf Tryz.f130)),
  (131, FE.code 148 [] (bodyOf Tryz.f131)),
  (132, FE.code 7 [.tmp 2] (bodyOf Tryz.f132)),
  (133, FE.code 7 [.tmp 2] (bodyOf Tryz.f133)),
  (134, FE.code 9 [.tmp 4] (bodyOf Tryz.f134)),
  (135, FE.code 8 [.tmp 3] (bodyOf Tryz.f135)),
  (136, FE.code 21 [.cell 2 207] (bodyOf Tryz.f136)),
  (137, FE.code 39 [.tmp 8] (bodyOf Tryz.f137)),
  (138, FE.code 21 [.tmp 4] (bodyOf Tryz.f138)),
  (139, FE.code 49 [] (bodyOf Tryz.f139)),
  (140, FE.code 56 [] (bodyOf Tryz.f140)),
  (141, FE.code 65 [] (bodyOf Tryz.f141)),
  (142, FE.code 57 [.tmp 6, .tmp 7] (bodyOf Tryz.f142)),
  (143, FE.code 32 [] (bodyOf Tryz.f143)),
  (144, FE.code 133 [.tmp 6] (bodyOf Tryz.f144)),
  (145, FE.code 17 [.tmp 4] (bodyOf Tryz.f145)),
  (146, FE.code 84 [.tmp 8] (bodyOf Tryz.f146)),
  (147, FE.code 168 [.tmp 8, .tmp 9] (bodyOf Tryz.f147)),
  (148, FE.code 19 [.tmp 2] (bodyOf Tryz.f148)),
  (149, FE.code 25 [.tmp 2] (bodyOf Tryz.f149)),
  (150, FE.code 58 [] (bodyOf Tryz.f150)),
  (151, FE.code 58 [] (bodyOf Tryz.f151)),
  (152, FE.code 58 [] (bodyOf Tryz.f152)),
  (153, FE.code 11 [.tmp 4, .tmp 5] (bodyOf Tryz.f153)),
  (154, FE.code 79 [] (bodyOf Tryz.f154)),
  (155, FE.code 25 [] (bodyOf Tryz.f155)),
  (156, FE.code 19 [.tmp 4, .tmp 5] (bodyOf Tryz.f156)),
  (157, FE.code 14 [.tmp 2] (bodyOf Tryz.f157)),
  (158, FE.code 53 [] (bodyOf Tryz.f158)),
  (159, FE.code 60 [] (bodyOf Tryz.f159)),
  (160, FE.code 67 [] (bodyOf Tryz.f160)),
  (161, FE.code 63 [.tmp 8, .tmp 9] (bodyOf Tryz.f161)),
  (162, FE.code 34 [] (bodyOf Tryz.f162)),
  (163, FE.code 141 [.tmp 8] (bodyOf Tryz.f163)),
  (164, FE.code 90 [.tmp 10] (bodyOf Tryz.f164)),
  (165, FE.code 178 [.tmp 10, .tmp 11] (bodyOf Tryz.f165)),
  (166, FE.code 23 [.tmp 4, .tmp 5, .tmp 6] (bodyOf Tryz.f166)),
  (167, FE.code 17 [.tmp 2] (bodyOf Tryz.f167)),
  (168, FE.code 17 [.tmp 2] (bodyOf Tryz.f168)),
  (169, FE.code 60 [] (bodyOf Tryz.f169)),
  (170, FE.code 67 [] (bodyOf Tryz.f170)),
  (171, FE.code 63 [.tmp 8, .tmp 9] (bodyOf Tryz.f171)),
  (172, FE.code 34 [] (bodyOf Tryz.f172)),
  (173, FE.code 141 [.tmp 8] (bodyOf Tryz.f173)),
  (174, FE.code 90 [.tmp 10] (bodyOf Tryz.f174)),
  (175, FE.code 178 [.tmp 10, .tmp 11] (bodyOf Tryz.f175)),
  (176, FE.code 36 [.tmp 2] (bodyOf Tryz.f176)),
  (177, FE.code 6 [.tmp 2] (bodyOf Tryz.f177)),
  (178, FE.code 6 [.tmp 2] (bodyOf Tryz.f178)),
  (179, FE.code 10 [.tmp 2] (bodyOf Tryz.f179)),
  (180, FE.code 47 [.tmp 6] (bodyOf Tryz.f180)),
  (181, FE.code 54 [.tmp 4] (bodyOf Tryz.f181)),
  (182, FE.code 76 [] (bodyOf Tryz.f182)),
  (183, FE.code 7 [.tmp 2] (bodyOf Tryz.f183)),
  (184, FE.code 33 [.tmp 2] (bodyOf Tryz.f184)),
  (185, FE.code 15 [.tmp 6] (bodyOf Tryz.f185)),
  (186, FE.code 36 [.tmp 10] (bodyOf Tryz.f186)),
  (187, FE.code 6 [.tmp 2] (bodyOf Tryz.f187)),
  (188, FE.code 38 [] (bodyOf Tryz.f188)),
  (189, FE.code 38 [] (bodyOf Tryz.f189)),
  (190, FE.code 38 [] (bodyOf Tryz.f190)),
  (191, FE.code 18 [.tmp 4, .tmp 5] (bodyOf Tryz.f191)),
  (192, FE.code 20 [] (bodyOf Tryz.f192)),
  (193, FE.code 30 [] (bodyOf Tryz.f193)),
  (194, FE.code 82 [] (bodyOf Tryz.f194)),
  (195, FE.code 18 [.tmp 8] (bodyOf Tryz.f195)),
  (196, FE.code 41 [.tmp 12] (bodyOf Tryz.f196)),
  (197, FE.code 143 [.tmp 4] (bodyOf Tryz.f197)),
  (198, FE.code 82 [] (bodyOf Tryz.f198)),
  (199, FE.code 18 [.tmp 8] (bodyOf Tryz.f199)),
  (200, FE.code 41 [.tmp 12] (bodyOf Tryz.f200)),
  (201, FE.code 27 [.tmp 4] (bodyOf Tryz.f201)),
  (202, FE.code 8 [.tmp 4] (bodyOf Tryz.f202)),
  (203, FE.code 27 [.tmp 4] (bodyOf Tryz.f203)),
  (204, FE.code 42 [.tmp 2] (bodyOf Tryz.f204)),
  (205, FE.code 28 [.tmp 8, .tmp 9] (bodyOf Tryz.f205)),
  (206, FE.code 21 [.tmp 4] (bodyOf Tryz.f206)),
  (207, FE.pure sameX),
  (208, FE.room 5),
  (209, FE.code 32 [.tmp 10, .tmp 11] (bodyOf Tryz.f209)),
  (210, FE.code 8 [.tmp 4] (bodyOf Tryz.f210)),
  (212, FE.code 6 [.tmp 2] (bodyOf Tryz.f212)),
  (213, FE.code 81 [.tmp 4] (bodyOf Tryz.f213)),
  (214, FE.code 32 [.tmp 10, .tmp 11] (bodyOf Tryz.f214)),
  (215, FE.code 16 [.tmp 4] (bodyOf Tryz.f215)),
  (216, FE.code 47 [.tmp 2] (bodyOf Tryz.f216)),
  (217, FE.code 49 [.tmp 2] (bodyOf Tryz.f217)),
  (218, FE.pure idxX),
  (219, FE.code 39 [.tmp 2, .tmp 3] (bodyOf Tryz.f219)),
  (220, FE.code 17 [.tmp 2] (bodyOf Tryz.f220))]
theorem ftLOk : ∀ p ∈ ftL, FeOk Tryz.prog p.1 p.2 := all_cons fe_5 (all_cons fe_6 (all_cons fe_7 (all_cons fe_8 (all_cons fe_9 (all_cons fe_10 (all_cons fe_11 (all_cons fe_12 (all_cons fe_13 (all_cons fe_14 (all_cons fe_15 (all_cons fe_16 (all_cons fe_17 (all_cons fe_18 (all_cons fe_19 (all_cons fe_20 (all_cons fe_21 (all_cons fe_22 (all_cons fe_23 (all_cons fe_24 (all_cons fe_25 (all_cons fe_26 (all_cons fe_27 (all_cons fe_28 (all_cons fe_29 (all_cons fe_30 (all_cons fe_31 (all_cons fe_32 (all_cons fe_33 (all_cons fe_34 (all_cons fe_35 (all_cons fe_36 (all_cons fe_37 (all_cons fe_38 (all_cons fe_39 (all_cons fe_40 (all_cons fe_41 (all_cons fe_42 (all_cons fe_43 (all_cons fe_44 (all_cons fe_45 (all_cons fe_46 (all_cons fe_47 (all_cons fe_48 (all_cons fe_49 (all_cons fe_50 (all_cons fe_51 (all_cons fe_52 (all_cons fe_53 (all_cons fe_54 (all_cons fe_55 (all_cons fe_56 (all_cons fe_57 (all_cons fe_58 (all_cons fe_59 (all_cons fe_60 (all_cons fe_61 (all_cons fe_62 (all_cons fe_63 (all_cons fe_64 (all_cons fe_65 (all_cons fe_66 (all_cons fe_67 (all_cons fe_68 (all_cons fe_69 (all_cons fe_70 (all_cons fe_71 (all_cons fe_72 (all_cons fe_73 (all_cons fe_74 (all_cons fe_75 (all_cons fe_76 (all_cons fe_77 (all_cons fe_78 (all_cons fe_79 (all_cons fe_80 (all_cons fe_81 (all_cons fe_82 (all_cons fe_83 (all_cons fe_84 (all_cons fe_85 (all_cons fe_86 (all_cons fe_87 (all_cons fe_88 (all_cons fe_89 (all_cons fe_90 (all_cons fe_91 (all_cons fe_92 (all_cons fe_93 (all_cons fe_94 (all_cons fe_95 (all_cons fe_96 (all_cons fe_97 (all_cons fe_98 (all_cons fe_99 (all_cons fe_100 (all_cons fe_101 (all_cons fe_102 (all_cons fe_103 (all_cons fe_104 (all_cons fe_105 (all_cons fe_106 (all_cons fe_107 (all_cons fe_108 (all_cons fe_109 (all_cons fe_110 (all_cons fe_111 (all_cons fe_112 (all_cons fe_113 (all_cons fe_114 (all_cons fe_115 (all_cons fe_116 (all_cons fe_117 (all_cons fe_118 (all_cons fe_119 (all_cons fe_120 (all_cons fe_121 (all_cons fe_122 (all_cons fe_123 (all_cons fe_124 (all_cons fe_125 (all_cons fe_126 (all_cons fe_127 (all_cons fe_128 (all_cons fe_129 (all_cons fe_130 (all_cons fe_131 (all_cons fe_132 (all_cons fe_133 (all_cons fe_134 (all_cons fe_135 (all_cons fe_136 (all_cons fe_137 (all_cons fe_138 (all_cons fe_139 (all_cons fe_140 (all_cons fe_141 (all_cons fe_142 (all_cons fe_143 (all_cons fe_144 (all_cons fe_145 (all_cons fe_146 (all_cons fe_147 (all_cons fe_148 (all_cons fe_149 (all_cons fe_150 (all_cons fe_151 (all_cons fe_152 (all_cons fe_153 (all_cons fe_154 (all_cons fe_155 (all_cons fe_156 (all_cons fe_157 (all_cons fe_158 (all_cons fe_159 (all_cons fe_160 (all_cons fe_161 (all_cons fe_162 (all_cons fe_163 (all_cons fe_164 (all_cons fe_165 (all_cons fe_166 (all_cons fe_167 (all_cons fe_168 (all_cons fe_169 (all_cons fe_170 (all_cons fe_171 (all_cons fe_172 (all_cons fe_173 (all_cons fe_174 (all_cons fe_175 (all_cons fe_176 (all_cons fe_177 (all_cons fe_178 (all_cons fe_179 (all_cons fe_180 (all_cons fe_181 (all_cons fe_182 (all_cons fe_183 (all_cons fe_184 (all_cons fe_185 (all_cons fe_186 (all_cons fe_187 (all_cons fe_188 (all_cons fe_189 (all_cons fe_190 (all_cons fe_191 (all_cons fe_192 (all_cons fe_193 (all_cons fe_194 (all_cons fe_195 (all_cons fe_196 (all_cons fe_197 (all_cons fe_198 (all_cons fe_199 (all_cons fe_200 (all_cons fe_201 (all_cons fe_202 (all_cons fe_203 (all_cons fe_204 (all_cons fe_205 (all_cons fe_206 (all_cons fe_207 (all_cons fe_208 (all_cons fe_209 (all_cons fe_210 (all_cons fe_212 (all_cons fe_213 (all_cons fe_214 (all_cons fe_215 (all_cons fe_216 (all_cons fe_217 (all_cons fe_218 (all_cons fe_219 (all_cons fe_220 (all_nil)))))))))))))))))))))))))))))))))))))))))))))))))))))))))))))))))))))))))))))))))))))))))))))))))))))))))))))))))))))))))))))))))))))))))))))))))))))))))))))))))))))))))))))))))))))))))))))))))))))))))))))))))))))))
noncomputable def ftT : T FE := ofList ftL
theorem ftOk : FtOk Tryz.prog ftT := ftOk_of ftLOk
end Go.Rx

/- The law TuplTells answers true at each input; its arguments read behind the call as before. Conditions: none. -/
import Derived.Test.YthkfcmfphjepnaaRows
import Derived.WalkKit
import Derived.ProofKit
import Derived.OpenShut
import Derived.SizedLaws
import Derived.Test.YthkfcmfphjepnaaEA
import Derived.Test.YthkfcmfphjepnaaK4
set_option linter.unusedVariables false
set_option linter.unusedSimpArgs false
set_option linter.unusedSectionVars false
namespace Go.Proofs.Ythkfcmfphjepnaa.tuplTells
open Go.ChangeShapes Go.WideShapes Go.ChangeAt Go.RowKit
theorem own : ownKnob Try.prog.godebug = none := by kernel_rfl
theorem laid : laidOutB Try.prog = true := by kernel_rfl
set_option maxRecDepth 100000 in
theorem lifted (os : Os) (started : os.Started) (H : Type) (enc : TypeId × Value → H) :
    ReturnsInHanded {} Try.checked os 9 .any (Rows.tuplTellsSpec.pre6 enc Try.prog Try.f9 Rows.tuplTellsRow.domain false) (Rows.tuplTellsSpec.post enc Try.prog Try.f9 false true false false) := by
  refine returnsInHanded_of_change_sized (C := Try.checked) own started (by kernel_rfl) Try.func9
    (ChangeSpec.witness6 (enc := enc) (C := Try.checked) false ⟨#[], #[.agg #[.string ⟨#[]⟩, .string ⟨#[]⟩, .string ⟨#[]⟩, .string ⟨#[]⟩, .string ⟨#[]⟩, .string ⟨#[]⟩], .agg #[.string ⟨#[]⟩, .string ⟨#[]⟩, .string ⟨#[]⟩, .string ⟨#[]⟩, .string ⟨#[]⟩, .string ⟨#[]⟩], .string ⟨#[]⟩, .int .i64 0, .int .i64 0], []⟩ 8 (by kernel_rfl) (by kernel_rfl) (by kernel_rfl) (by kernel_rfl)) ?_
  intro W base args ds gs before hval0 hW hcnd hsz _
  have hval : ∀ (j : Nat) t v, Try.f9.params[j]? = some t → args[j]? = some v → Value.okWide Try.prog W .any base t v := hval0
  have hW' := hW
  obtain ⟨p, q, hA0, hV, rfl, hfz, hnd⟩ := hW
  have hA : DataW.TrodAll enc Try.prog W 0 (fun _ => true) true Try.f9.params.toList args.toList ds p := hA0
  rw [Try.params9] at hA hval hsz
  obtain ⟨v0, vs0, d0, ds0, p0, q0, hargs, rfl, rfl, h0, r0⟩ := trodAll_cons hA
  obtain ⟨v1, vs1, d1, ds1, p1, q1, rfl, rfl, rfl, h1, r1⟩ := trodAll_cons r0
  obtain ⟨v2, vs2, d2, ds2, p2, q2, rfl, rfl, rfl, h2, r2⟩ := trodAll_cons r1
  obtain ⟨v3, vs3, d3, ds3, p3, q3, rfl, rfl, rfl, h3, r3⟩ := trodAll_cons r2
  obtain ⟨v4, vs4, d4, ds4, p4, q4, rfl, rfl, rfl, h4, r4⟩ := trodAll_cons r3
  obtain ⟨rfl, rfl, rfl⟩ := trodAll_nil r4
  obtain rfl : args = #[v0, v1, v2, v3, v4] := by cases args; simp_all
  obtain ⟨rfl, rfl⟩ := trodVars_none hV
  obtain ⟨q0, hq0, e0, hW0⟩ := Go.Fbs.arg_struct (κ := Go.Fbs.sealedCtx W.heap) (h := W.heap) (ls := [Go.Fbs.Lf.str, Go.Fbs.Lf.str, Go.Fbs.Lf.str, Go.Fbs.Lf.str, Go.Fbs.Lf.str, Go.Fbs.Lf.str]) (d := 9) Try.underlying48 (by kernel_rfl) (by kernel_rfl) (hval 0 48 v0 rfl rfl) h0
  obtain ⟨q1, hq1, e1, hW1⟩ := Go.Fbs.arg_struct (κ := Go.Fbs.sealedCtx W.heap) (h := W.heap) (ls := [Go.Fbs.Lf.str, Go.Fbs.Lf.str, Go.Fbs.Lf.str, Go.Fbs.Lf.str, Go.Fbs.Lf.str, Go.Fbs.Lf.str]) (d := 9) Try.underlying48 (by kernel_rfl) (by kernel_rfl) (hval 1 48 v1 rfl rfl) h1
  obtain ⟨s2, e2, hs2, hd2⟩ := Go.Fbs.arg_strD (κ := Go.Fbs.sealedCtx W.heap) (h := W.heap) Try.underlying9 (hval 2 9 v2 rfl rfl) h2
  obtain ⟨n3, e3, hw3⟩ := Go.Fbs.arg_int (κ := Go.Fbs.sealedCtx W.heap) (h := W.heap) Try.underlying2 (hval 3 2 v3 rfl rfl) h3
  obtain ⟨n4, e4, hw4⟩ := Go.Fbs.arg_int (κ := Go.Fbs.sealedCtx W.heap) (h := W.heap) Try.underlying2 (hval 4 2 v4 rfl rfl) h4
  have hB0 : ∀ s, Go.Fbs.V.str s ∈ q0 → s.length ≤ 140737488355328 := fun s hs => by
    have hz := List.all_eq_true.1 hsz _ (DataW.weights_mem_each (j := 0) (t := 48) (d := d0) rfl rfl _ (hW0 s hs))
    have := reachBytes_lt
    simp only [decide_eq_true_eq] at hz
    omega
  have hB1 : ∀ s, Go.Fbs.V.str s ∈ q1 → s.length ≤ 140737488355328 := fun s hs => by
    have hz := List.all_eq_true.1 hsz _ (DataW.weights_mem_each (j := 1) (t := 48) (d := d1) rfl rfl _ (hW1 s hs))
    have := reachBytes_lt
    simp only [decide_eq_true_eq] at hz
    omega
  have hB2 : s2.length ≤ 140737488355328 := by
    have hz := sized_string hsz (j := 2) (t := 9) (bytes := s2) rfl (by rw [hd2]; rfl)
    have := reachBytes_lt
    omega
  have hF : Go.Fbs.F_entaillaw2_TuplTells [.agg q0, .agg q1, .str s2, .int .i64 n3, .int .i64 n4] = some (.bool true) := by
    obtain ⟨x, rfl, _⟩ := Go.Fbs.six_of hq0
    obtain ⟨y, rfl, _⟩ := Go.Fbs.six_of hq1
    have ax := hB0 x.a (by simp)
    have bx := hB0 x.b (by simp)
    have cx := hB0 x.c (by simp)
    have dx := hB0 x.d (by simp)
    have ex := hB0 x.e (by simp)
    have fx := hB0 x.f (by simp)
    have ay := hB1 y.a (by simp)
    have by' := hB1 y.b (by simp)
    have cy := hB1 y.c (by simp)
    have dy := hB1 y.d (by simp)
    have ey := hB1 y.e (by simp)
    have fy := hB1 y.f (by simp)
    simp only [Go.Fbs.F_entaillaw2_TuplTells]
    rw [if_pos ⟨by unfold Go.Fbs.big; omega, by unfold Go.Fbs.big; omega, by unfold Go.Fbs.big; omega⟩]
  refine (Go.Fbs.calls_stood Go.Fbs.ok_entaillaw2_TuplTells hF W (Go.Fbs.Reps.cons e0 (Go.Fbs.Reps.cons e1 (Go.Fbs.Reps.cons e2 (Go.Fbs.Reps.cons e3 (Go.Fbs.Reps.cons e4 Go.Fbs.Reps.nil)))))).mono fun e W' ⟨he, hg, hb⟩ => ?_
  subst he
  exact ⟨_, rfl, Go.Fbs.post_old (pv := []) hW' (fun _ _ _ => (trodAll_cons_mk (shut_bool Try.underlying4 _) trodAll_mk0)) (fun sp hs => (trodAll_cons_mk (Go.Fbs.again laid (by kernel_rfl) (of_decide_eq_true (by kernel_rfl)) h0 hb (fun x hx => hs x (by simp [hx]))) (trodAll_cons_mk (Go.Fbs.again laid (by kernel_rfl) (of_decide_eq_true (by kernel_rfl)) h1 hb (fun x hx => hs x (by simp [hx]))) (trodAll_cons_mk (Go.Fbs.again laid (by kernel_rfl) (of_decide_eq_true (by kernel_rfl)) h2 hb (fun x hx => hs x (by simp [hx]))) (trodAll_cons_mk (Go.Fbs.again laid (by kernel_rfl) (of_decide_eq_true (by kernel_rfl)) h3 hb (fun x hx => hs x (by simp [hx]))) (trodAll_cons_mk (Go.Fbs.again laid (by kernel_rfl) (of_decide_eq_true (by kernel_rfl)) h4 hb (fun x hx => hs x (by simp [hx]))) trodAll_mk0)))))) (fun _ _ => rfl) (by simp) hg
    (ok_one (by kernel_rfl) rfl (okWide_bool_mk Try.underlying4 _))⟩

theorem over : Rows.tuplTellsRow.holds Try.pinned (OpenSpec.ofChange Rows.tuplTellsSpec) :=
  OpenClaim.holds_of_wide 9 Try.f9 rfl rfl rfl rfl rfl rfl rfl ⟨rfl, rfl, rfl, rfl, rfl⟩ rfl rfl rfl rfl rfl (by kernel_rfl) Try.func9 (by kernel_rfl)
    (of_decide_eq_true (by kernel_rfl)) (by unfold Func.isWrapper; first | (rw [if_pos (by decide +kernel)]; kernel_rfl) | (rw [if_neg (by decide +kernel)]; exact ⟨rfl, rfl⟩))
    (fun os started H enc _ => lifted os started H enc)

/-- THE STATEMENT. -/
theorem proved : Rows.TuplTellsSaid :=
  over
#print axioms proved
end Go.Proofs.Ythkfcmfphjepnaa.tuplTells

/- The law AtomTells answers true at each input; its arguments read behind the call as before. Conditions: none. -/
import Derived.Test.YthkfcmfphjepnaaRows
import Derived.WalkKit
import Derived.ProofKit
import Derived.OpenShut
import Derived.SizedLaws
import Derived.Test.YthkfcmfphjepnaaDW
import Derived.Test.YthkfcmfphjepnaaK4
set_option linter.unusedVariables false
set_option linter.unusedSimpArgs false
set_option linter.unusedSectionVars false
namespace Go.Proofs.Ythkfcmfphjepnaa.atomTells
open Go.ChangeShapes Go.WideShapes Go.ChangeAt Go.RowKit
theorem own : ownKnob Try.prog.godebug = none := by kernel_rfl
theorem laid : laidOutB Try.prog = true := by kernel_rfl
set_option maxRecDepth 100000 in
theorem lifted (os : Os) (started : os.Started) (H : Type) (enc : TypeId × Value → H) :
    ReturnsInHanded {} Try.checked os 13 .any (Rows.atomTellsSpec.pre6 enc Try.prog Try.f13 Rows.atomTellsRow.domain false) (Rows.atomTellsSpec.post enc Try.prog Try.f13 false true false false) := by
  refine returnsInHanded_of_change_sized (C := Try.checked) own started (by kernel_rfl) Try.func13
    (ChangeSpec.witness6 (enc := enc) (C := Try.checked) false ⟨#[], #[.string ⟨#[]⟩, .string ⟨#[]⟩, .slice none 0 0], []⟩ 8 (by kernel_rfl) (by kernel_rfl) (by kernel_rfl) (by kernel_rfl)) ?_
  intro W base args ds gs before hval0 hW hcnd hsz _
  have hval : ∀ (j : Nat) t v, Try.f13.params[j]? = some t → args[j]? = some v → Value.okWide Try.prog W .any base t v := hval0
  have hW' := hW
  obtain ⟨p, q, hA0, hV, rfl, hfz, hnd⟩ := hW
  have hA : DataW.TrodAll enc Try.prog W 0 (fun _ => true) true Try.f13.params.toList args.toList ds p := hA0
  rw [Try.params13] at hA hval hsz
  obtain ⟨v0, vs0, d0, ds0, p0, q0, hargs, rfl, rfl, h0, r0⟩ := trodAll_cons hA
  obtain ⟨v1, vs1, d1, ds1, p1, q1, rfl, rfl, rfl, h1, r1⟩ := trodAll_cons r0
  obtain ⟨v2, vs2, d2, ds2, p2, q2, rfl, rfl, rfl, h2, r2⟩ := trodAll_cons r1
  obtain ⟨rfl, rfl, rfl⟩ := trodAll_nil r2
  obtain rfl : args = #[v0, v1, v2] := by cases args; simp_all
  obtain ⟨rfl, rfl⟩ := trodVars_none hV
  obtain ⟨s0, e0, hs0, hd0⟩ := Go.Fbs.arg_strD (κ := Go.Fbs.sealedCtx W.heap) (h := W.heap) Try.underlying9 (hval 0 9 v0 rfl rfl) h0
  obtain ⟨s1, e1, hs1, hd1⟩ := Go.Fbs.arg_strD (κ := Go.Fbs.sealedCtx W.heap) (h := W.heap) Try.underlying9 (hval 1 9 v1 rfl rfl) h1
  obtain ⟨l2, e2, hl2, hd2⟩ := Go.Fbs.arg_strs (e := 9) Try.underlying23 Try.underlying9 (by kernel_rfl) (hval 2 23 v2 rfl rfl) h2
  have hB0 : s0.length ≤ 140737488355328 := by
    have hz := sized_string hsz (j := 0) (t := 9) (bytes := s0) rfl (by rw [hd0]; rfl)
    have := reachBytes_lt
    omega
  have hB1 : s1.length ≤ 140737488355328 := by
    have hz := sized_string hsz (j := 1) (t := 9) (bytes := s1) rfl (by rw [hd1]; rfl)
    have := reachBytes_lt
    omega
  have hB2 : l2.length ≤ 140737488355328 := by
    rcases hd2 with ⟨h0, _⟩ | ⟨sp, hd⟩
    · rw [h0]; exact Nat.zero_le _
    · have hz := sized_slice hsz (j := 2) (t := 23) (e := 9) rfl (by rw [hd]; rfl) Try.underlying23
      have hy : Try.checked.prog.bytesOf 9 = 16 := by kernel_rfl
      have := reachBytes_lt
      rw [hy] at hz; simp only [List.length_map] at hz; omega
  have hF : Go.Fbs.F_entaillaw1_AtomTells [.str s0, .str s1, .sl .ro (l2.map Go.Fbs.V.str)] = some (.bool true) := by
    have hu : Go.Fbs.cStr.unl (.sl .ro (l2.map Go.Fbs.V.str)) = some l2 := Go.Fbs.cStr.unl_lst l2
    simp only [Go.Fbs.F_entaillaw1_AtomTells, hu]
    rw [if_pos ⟨by unfold Go.Fbs.big; omega, by unfold Go.Fbs.big; omega, by unfold Go.Fbs.big; omega⟩]
  refine (Go.Fbs.calls_stood Go.Fbs.ok_entaillaw1_AtomTells hF W (Go.Fbs.Reps.cons e0 (Go.Fbs.Reps.cons e1 (Go.Fbs.Reps.cons e2 Go.Fbs.Reps.nil)))).mono fun e W' ⟨he, hg, hb⟩ => ?_
  subst he
  exact ⟨_, rfl, Go.Fbs.post_old (pv := []) hW' (fun _ _ _ => (trodAll_cons_mk (shut_bool Try.underlying4 _) trodAll_mk0)) (fun sp hs => (trodAll_cons_mk (Go.Fbs.again laid (by kernel_rfl) (of_decide_eq_true (by kernel_rfl)) h0 hb (fun x hx => hs x (by simp [hx]))) (trodAll_cons_mk (Go.Fbs.again laid (by kernel_rfl) (of_decide_eq_true (by kernel_rfl)) h1 hb (fun x hx => hs x (by simp [hx]))) (trodAll_cons_mk (Go.Fbs.again laid (by kernel_rfl) (of_decide_eq_true (by kernel_rfl)) h2 hb (fun x hx => hs x (by simp [hx]))) trodAll_mk0)))) (fun _ _ => rfl) (by simp) hg
    (ok_one (by kernel_rfl) rfl (okWide_bool_mk Try.underlying4 _))⟩

theorem over : Rows.atomTellsRow.holds Try.pinned (OpenSpec.ofChange Rows.atomTellsSpec) :=
  OpenClaim.holds_of_wide 13 Try.f13 rfl rfl rfl rfl rfl rfl rfl ⟨rfl, rfl, rfl, rfl, rfl⟩ rfl rfl rfl rfl rfl (by kernel_rfl) Try.func13 (by kernel_rfl)
    (of_decide_eq_true (by kernel_rfl)) (by unfold Func.isWrapper; first | (rw [if_pos (by decide +kernel)]; kernel_rfl) | (rw [if_neg (by decide +kernel)]; exact ⟨rfl, rfl⟩))
    (fun os started H enc _ => lifted os started H enc)

/-- THE STATEMENT. -/
theorem proved : Rows.AtomTellsSaid :=
  over
#print axioms proved
end Go.Proofs.Ythkfcmfphjepnaa.atomTells

/- The law AtomBack answers true at each input; its arguments read behind the call as before. Conditions: none. -/
import Derived.Test.YthkfcmfphjepnaaRows
import Derived.WalkKit
import Derived.ProofKit
import Derived.OpenShut
import Derived.SizedLaws
import Derived.Test.YthkfcmfphjepnaaDX
import Derived.Test.YthkfcmfphjepnaaK4
import Derived.JoinedCond
set_option linter.unusedVariables false
set_option linter.unusedSimpArgs false
set_option linter.unusedSectionVars false
namespace Go.Proofs.Ythkfcmfphjepnaa.atomBack
open Go.ChangeShapes Go.WideShapes Go.ChangeAt Go.RowKit
theorem own : ownKnob Try.prog.godebug = none := by kernel_rfl
theorem laid : laidOutB Try.prog = true := by kernel_rfl
set_option maxRecDepth 100000 in
theorem lifted (os : Os) (started : os.Started) (H : Type) (enc : TypeId × Value → H) (F0 : Stop.Interp) :
    ReturnsInHanded {} Try.checked os 14 .any ((Rows.OpenSpec.upto Rows.atomBackSpec).pre6 enc Try.prog Try.f14 Rows.atomBackUptoRow.domain false) (((Rows.OpenSpec.upto Rows.atomBackSpec).at F0).post enc Try.prog Try.f14 false true false false) := by
  refine returnsInHanded_of_cond (C := Try.checked) (s := Rows.OpenSpec.upto Rows.atomBackSpec) (k := Rows.uptoSmall) rfl own started (by kernel_rfl) Try.func14
    (OpenSpec.witness (enc := enc) (C := Try.checked) (s := Rows.OpenSpec.upto Rows.atomBackSpec) (k := Rows.uptoSmall) rfl false ⟨#[], #[.string ⟨#[]⟩, .string ⟨#[]⟩, .slice none 0 0, .slice none 0 0], []⟩ 8 (by kernel_rfl) (by kernel_rfl) (by kernel_rfl)
      (x := ([.lit (.string []), .lit (.string []), .nil, .nil], [], [])) (by kernel_rfl) (by kernel_rfl) (by kernel_rfl)) ?_
  intro W base args ds gs before hval0 hW _ hk _
  have hval : ∀ (j : Nat) t v, Try.f14.params[j]? = some t → args[j]? = some v → Value.okWide Try.prog W .any base t v := hval0
  have hW' := hW
  obtain ⟨p, q, hA0, hV, rfl, hfz, hnd⟩ := hW
  have hA : DataW.TrodAll enc Try.prog W 0 (fun _ => true) true Try.f14.params.toList args.toList ds p := hA0
  rw [Try.params14] at hA hval
  obtain ⟨v0, vs0, d0, ds0, p0, q0, hargs, rfl, rfl, h0, r0⟩ := trodAll_cons hA
  obtain ⟨v1, vs1, d1, ds1, p1, q1, rfl, rfl, rfl, h1, r1⟩ := trodAll_cons r0
  obtain ⟨v2, vs2, d2, ds2, p2, q2, rfl, rfl, rfl, h2, r2⟩ := trodAll_cons r1
  obtain ⟨v3, vs3, d3, ds3, p3, q3, rfl, rfl, rfl, h3, r3⟩ := trodAll_cons r2
  obtain ⟨rfl, rfl, rfl⟩ := trodAll_nil r3
  obtain rfl : args = #[v0, v1, v2, v3] := by cases args; simp_all
  obtain ⟨rfl, rfl⟩ := trodVars_none hV
  have hbulk : Rows.uptoBulkAll [d0, d1, d2, d3] ≤ 1048576 := of_decide_eq_true hk
  obtain ⟨s0, e0, hs0, hd0⟩ := Go.Fbs.arg_strD (κ := Go.Fbs.sealedCtx W.heap) (h := W.heap) Try.underlying9 (hval 0 9 v0 rfl rfl) h0
  obtain ⟨s1, e1, hs1, hd1⟩ := Go.Fbs.arg_strD (κ := Go.Fbs.sealedCtx W.heap) (h := W.heap) Try.underlying9 (hval 1 9 v1 rfl rfl) h1
  obtain ⟨l2, e2, hl2, hd2⟩ := Go.Fbs.arg_strs (e := 9) Try.underlying23 Try.underlying9 (by kernel_rfl) (hval 2 23 v2 rfl rfl) h2
  obtain ⟨l3, e3, hl3, hd3⟩ := Go.Fbs.arg_strs (e := 9) Try.underlying23 Try.underlying9 (by kernel_rfl) (hval 3 23 v3 rfl rfl) h3
  have hF : Go.Fbs.F_entaillaw1_AtomBack [.str s0, .str s1, .sl .ro (l2.map Go.Fbs.V.str), .sl .ro (l3.map Go.Fbs.V.str)] = some (.bool true) := by
    have hu2 : Go.Fbs.cStr.unl (.sl .ro (l2.map Go.Fbs.V.str)) = some l2 := Go.Fbs.cStr.unl_lst l2
    have hu3 : Go.Fbs.cStr.unl (.sl .ro (l3.map Go.Fbs.V.str)) = some l3 := Go.Fbs.cStr.unl_lst l3
    subst hd0; subst hd1
    simp only [Rows.uptoBulkAll, Rows.uptoBulk] at hbulk
    have key : ∀ (l : List (List UInt8)), l.length + (Go.Lib.join l [47]).length ≤ 2 * Rows.uptoBulkAll (H := H) (l.map fun s => .lit (.string s)) := by
      intro l
      cases l with
      | nil => simp [Go.Lib.join_nil, Rows.uptoBulkAll]
      | cons y r =>
        rw [Go.Lib.join_cons, List.length_append, Go.Lib.joinTail_length]
        have : ∀ r : List (List UInt8), Go.Lib.lens r + r.length = Rows.uptoBulkAll (H := H) (r.map fun s => .lit (.string s)) := by
          intro r
          induction r with
          | nil => rfl
          | cons z r ih => simp only [Go.Lib.lens, List.map_cons, List.sum_cons, List.length_cons, Rows.uptoBulkAll, Rows.uptoBulk] at ih ⊢; omega
        have h := this r
        simp only [List.map_cons, List.length_cons, List.length_nil, Nat.zero_add, Nat.one_mul, Rows.uptoBulkAll, Rows.uptoBulk]
        omega
    have k2 : l2.length + (Go.Lib.join l2 [47]).length ≤ 2 * 1048576 := by
      rcases hd2 with ⟨h0, _⟩ | ⟨sp, rfl⟩
      · rw [h0]; simp [Go.Lib.join_nil]
      · have := key l2
        simp only [Rows.uptoBulk] at hbulk; omega
    have k3 : l3.length + (Go.Lib.join l3 [47]).length ≤ 2 * 1048576 := by
      rcases hd3 with ⟨h0, _⟩ | ⟨sp, rfl⟩
      · rw [h0]; simp [Go.Lib.join_nil]
      · have := key l3
        simp only [Rows.uptoBulk] at hbulk; omega
    simp only [Go.Fbs.F_entaillaw1_AtomBack, hu2, hu3]
    rw [if_pos ⟨by unfold Go.Fbs.big; omega, by unfold Go.Fbs.big; omega, by unfold Go.Fbs.big; omega, by unfold Go.Fbs.big; omega, by omega, by omega⟩]
  refine (Go.Fbs.calls_stood Go.Fbs.ok_entaillaw1_AtomBack hF W (Go.Fbs.Reps.cons e0 (Go.Fbs.Reps.cons e1 (Go.Fbs.Reps.cons e2 (Go.Fbs.Reps.cons e3 Go.Fbs.Reps.nil))))).mono fun e W' ⟨he, hg, hb⟩ => ?_
  subst he
  exact ⟨_, rfl, Go.Fbs.post_old (pv := []) hW' (fun _ _ _ => (trodAll_cons_mk (shut_bool Try.underlying4 _) trodAll_mk0)) (fun sp hs => (trodAll_cons_mk (Go.Fbs.again laid (by kernel_rfl) (of_decide_eq_true (by kernel_rfl)) h0 hb (fun x hx => hs x (by simp [hx]))) (trodAll_cons_mk (Go.Fbs.again laid (by kernel_rfl) (of_decide_eq_true (by kernel_rfl)) h1 hb (fun x hx => hs x (by simp [hx]))) (trodAll_cons_mk (Go.Fbs.again laid (by kernel_rfl) (of_decide_eq_true (by kernel_rfl)) h2 hb (fun x hx => hs x (by simp [hx]))) (trodAll_cons_mk (Go.Fbs.again laid (by kernel_rfl) (of_decide_eq_true (by kernel_rfl)) h3 hb (fun x hx => hs x (by simp [hx]))) trodAll_mk0))))) (fun _ _ => rfl) (by simp) hg
    (ok_one (by kernel_rfl) rfl (okWide_bool_mk Try.underlying4 _))⟩

theorem over : Rows.atomBackUptoRow.holds Try.pinned (Rows.OpenSpec.upto Rows.atomBackSpec) :=
  OpenClaim.holds_of_cond 14 Try.f14 rfl rfl rfl rfl rfl rfl rfl ⟨rfl, rfl, rfl, rfl, rfl⟩ rfl rfl rfl rfl rfl (by kernel_rfl) Try.func14 (by kernel_rfl)
    (of_decide_eq_true (by kernel_rfl)) (by unfold Func.isWrapper; first | (rw [if_pos (by decide +kernel)]; kernel_rfl) | (rw [if_neg (by decide +kernel)]; exact ⟨rfl, rfl⟩))
    (fun os started H enc _ F0 => lifted os started H enc F0)

/-- THE STATEMENT. -/
theorem proved : Rows.AtomBackUptoSaid :=
  over
#print axioms proved
end Go.Proofs.Ythkfcmfphjepnaa.atomBack

/- The law MaskErrors answers true at each input; its arguments read behind the call as before. Conditions: none. -/
import Derived.Test.YtkbfgogimhfglaaGreatDoorRows
import Derived.WalkKit
import Derived.ProofKit
import Derived.OpenShut
import Derived.SizedLaws
import Derived.LaidMore
import Derived.Lay
import Derived.SevenTiedAt
import Derived.Stop.Joined
import Derived.Test.YtkbfgogimhfglaaGreatDoorCards
import Derived.Test.YtkbfgogimhfglaaGreatDoorTie
import Derived.Test.YtkbfgogimhfglaaGreatDoorMaskErrorsZ
import Derived.Test.YtkbfgogimhfglaaGreatDoorR2
set_option linter.unusedVariables false
set_option linter.unusedSimpArgs false
set_option linter.unusedSectionVars false
namespace Go.Proofs.YtkbfgogimhfglaaGreatDoor.maskErrors
open Go.ChangeShapes Go.WideShapes Go.ChangeAt Go.RowKit
theorem own : ownKnob Tryz.prog.godebug = none := by kernel_rfl
theorem laid : laidOutB Tryz.prog = true := by kernel_rfl
set_option maxRecDepth 100000 in
theorem lifted (os : Os) (started : os.Started) (H : Type) (enc : TypeId × Value → H) :
    ReturnsInHanded {} Tryz.checked os 4 .any (fun w args => (Rows.maskErrorsSpec.pre enc Tryz.prog Tryz.f4 Rows.maskErrorsRow.domain false w args ∧ laidMetH Tryz.prog Rows.maskErrorsRow.laid w) ∧ sizedMet enc Tryz.prog Tryz.f4 (OpenSpec.ofChange Rows.maskErrorsSpec) false w args)
      (Rows.maskErrorsSpec.post enc Tryz.prog Tryz.f4 false true false false) := by
  refine returnsInHanded_of_change_and (C := Tryz.checked) (X := fun w _ => laidMetH Tryz.prog Rows.maskErrorsRow.laid w) (fun _ _ _ hh h => h.of_heap hh) own started (by kernel_rfl) Tryz.func4
    (ChangeSpec.witness_shaped (enc := enc) (C := Tryz.checked) (os := os) (X := fun w _ => laidMetH Tryz.prog Rows.maskErrorsRow.laid w) false (World.laidAll Tryz.prog os Rows.maskErrorsRow.laid) #[.int .i64 0] 8 (World.laidAll_os _ _ _)
      (World.shaped_of_ZipB (by kernel_rfl) (by kernel_rfl)) (by kernel_rfl) (by kernel_rfl) (by kernel_rfl)
      (by rw [MakeChecks.laidMetH_plain _ _ _ (by kernel_rfl)]; exact laidMet_laidAll _ (by kernel_rfl) (by kernel_rfl))) ?_
  intro W base args ds gs before hval0 hW hcnd _ hL _
  have hval : ∀ (j : Nat) t v, Tryz.f4.params[j]? = some t → args[j]? = some v → Value.okWide Tryz.prog W .any base t v := hval0
  have hW' := hW
  obtain ⟨p, q, hA0, hV, rfl, hfz, hnd⟩ := hW
  have hA : DataW.TrodAll enc Tryz.prog W 0 (fun _ => true) true Tryz.f4.params.toList args.toList ds p := hA0
  rw [Tryz.params4] at hA hval
  obtain ⟨v0, vs0, d0, ds0, p0, q0, hargs, rfl, rfl, h0, r0⟩ := trodAll_cons hA
  obtain ⟨rfl, rfl, rfl⟩ := trodAll_nil r0
  obtain rfl : args = #[v0] := by cases args; simp_all
  obtain ⟨rfl, rfl⟩ := trodVars_none hV
  obtain ⟨n0, rfl, hw0⟩ := Go.Rx.arg_int Tryz.underlying3 (hval 0 3 v0 rfl rfl) h0
  obtain ⟨vals, H1, hR, hC⟩ : ∃ (vals : List Go.Rx.RV) (H1 : Go.Rx.HT), Go.Rx.Reps (fun _ => none) vals [.int .i64 n0] ∧ Go.Rx.CallR Tryz.prog 4 vals ⟨0, .e⟩ (.bool true) H1 := by
    exact Go.Rx.MaskErrorsCall _ n0
  refine (Go.Rx.calls_stood Tryz.func4 (c := Go.Rx.bodyOf Tryz.f4) (by kernel_rfl) (by kernel_rfl) hC W hR).mono fun e W' ⟨he, hg, hb⟩ => ?_
  subst he
  exact ⟨_, rfl, Go.Rx.post_old (pv := []) hW' (fun _ _ _ => (trodAll_cons_mk (shut_bool Tryz.underlying4 _) trodAll_mk0)) (fun sp hs => (trodAll_cons_mk (Go.Rx.again laid (by kernel_rfl) (of_decide_eq_true (by kernel_rfl)) h0 hb (fun x hx => hs x (by simp [hx]))) trodAll_mk0)) (fun _ _ => rfl) (by simp) hg
    (ok_one (by kernel_rfl) rfl (okWide_bool_mk Tryz.underlying4 _))⟩

theorem fInPlace : (Rows.maskErrorsRow.inPlace == Tryz.prog.inPlace 4) = true := by kernel_rfl
theorem fUnfollowed : (Rows.maskErrorsRow.unfollowed == Tryz.prog.unfollowed 4) = true := by kernel_rfl
theorem fRecurses : (Rows.maskErrorsRow.recurses == Tryz.prog.recurses 4) = true := by kernel_rfl
theorem fNamed : (Rows.maskErrorsRow.named == Tryz.prog.varsNamed 4) = true := by kernel_rfl
theorem fHeard : Tryz.prog.stopsHeard = true := by kernel_rfl
theorem fEnter : Tryz.prog.mayEnter = true := by kernel_rfl
theorem fLaid : laidOutB Tryz.prog = true := laid
theorem facts : joinedFacts Tryz.prog 4 Tryz.f4 Rows.maskErrorsSpec Rows.maskErrorsRow = true := by
  unfold joinedFacts
  rw [fInPlace, fUnfollowed, fRecurses, fNamed, fHeard, fEnter, fLaid]
  kernel_rfl
theorem called : Tryz.prog.funcNamed Rows.maskErrorsRow.func = some 4 := by kernel_rfl
theorem instanceOf : Tryz.f4.isInstance Tryz.prog Rows.maskErrorsRow.origin Rows.maskErrorsRow.targs := of_decide_eq_true (by kernel_rfl)
theorem wrapped : Tryz.f4.isWrapper Tryz.prog Rows.maskErrorsRow.wrapper Rows.maskErrorsRow.mainSum := by unfold Func.isWrapper; first | (rw [if_pos (by decide +kernel)]; kernel_rfl) | (rw [if_neg (by decide +kernel)]; exact ⟨rfl, rfl⟩)
theorem over : Rows.maskErrorsRow.holds Tryz.pinned (OpenSpec.ofChange Rows.maskErrorsSpec) :=
  OpenClaim.holds_of_wide 4 Tryz.f4 rfl rfl rfl rfl rfl rfl rfl ⟨rfl, rfl, rfl, rfl, rfl⟩ rfl rfl rfl rfl rfl called Tryz.func4 facts instanceOf wrapped
    (fun os started H enc _ => lifted os started H enc)

/-- THE STATEMENT: the law's card. -/
theorem text : Rows.maskErrorsRow.wfByText (OpenSpec.ofChange Rows.maskErrorsSpec) = true := by kernel_rfl
theorem main : Tryz.prog.mainIs = some (true, "0c8fb5695fe707fe20b888b0eaef36d560ab4ae82699993de0a97ef3ba5ea900".toList) := by kernel_rfl
theorem looksAt : true = Tryz.prog.looks [] := by kernel_rfl
theorem stands : ([3].all fun u => !Tryz.prog.wantsStandIn u) = true := by kernel_rfl
theorem goes : false = Rows.maskErrorsRow.goesBy Tryz.prog := by kernel_rfl
theorem proved : Rows.MaskErrorsCardSaid :=
  Claim7.holds_tied_plain_at .later [] [.data, .pinned] true (true, "0c8fb5695fe707fe20b888b0eaef36d560ab4ae82699993de0a97ef3ba5ea900") true over (fun _ h => by cases h) text (fun _ h => by cases h) maskErrors_row_tie rfl ⟨rfl, rfl⟩ main rfl
    (fun f fn hf hfn => by
      obtain rfl : f = 4 := Option.some.inj (called.symm.trans hf) |>.symm
      obtain rfl : fn = Tryz.f4 := (Option.some.inj (Tryz.func4.symm.trans hfn)).symm
      exact ⟨looksAt, fun j t ht => by
        rw [Tryz.params4] at ht
        have hm : t ∈ [3] := by simpa using Array.mem_of_getElem? ht
        exact (show Tryz.prog.wantsStandIn t = false by simpa using List.all_eq_true.1 stands t hm)⟩)
    goes
#print axioms proved
end Go.Proofs.YtkbfgogimhfglaaGreatDoor.maskErrors

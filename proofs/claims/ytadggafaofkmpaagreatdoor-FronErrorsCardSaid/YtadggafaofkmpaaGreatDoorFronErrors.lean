/- The law FronErrors answers true at each input; its arguments read behind the call as before. Conditions: none. -/
import Derived.Test.YtadggafaofkmpaaGreatDoorRows
import Derived.WalkKit
import Derived.ProofKit
import Derived.OpenShut
import Derived.SizedLaws
import Derived.LaidMore
import Derived.Lay
import Derived.SevenTiedAt
import Derived.Stop.Joined
import Derived.Test.YtadggafaofkmpaaGreatDoorCards
import Derived.Test.YtadggafaofkmpaaGreatDoorFronTie
import Derived.Test.YtadggafaofkmpaaGreatDoorFronErrorsZ
import Derived.Test.YtadggafaofkmpaaGreatDoorGoesNone
import Derived.Test.YtadggafaofkmpaaGreatDoorR2
set_option linter.unusedVariables false
set_option linter.unusedSimpArgs false
set_option linter.unusedSectionVars false
namespace Go.Proofs.YtadggafaofkmpaaGreatDoor.fronErrors
open Go.ChangeShapes Go.WideShapes Go.ChangeAt Go.RowKit
theorem own : ownKnob Tryz.prog.godebug = none := by kernel_rfl
theorem laid : laidOutB Tryz.prog = true := by kernel_rfl
set_option maxRecDepth 100000 in
theorem lifted (os : Os) (started : os.Started) (H : Type) (enc : TypeId × Value → H) :
    ReturnsInHanded {} Tryz.checked os 3 .any (fun w args => (Rows.fronErrorsSpec.pre enc Tryz.prog Tryz.f3 Rows.fronErrorsRow.domain false w args ∧ laidMetH Tryz.prog Rows.fronErrorsRow.laid w) ∧ sizedMet enc Tryz.prog Tryz.f3 (OpenSpec.ofChange Rows.fronErrorsSpec) false w args)
      (Rows.fronErrorsSpec.post enc Tryz.prog Tryz.f3 false true false false) := by
  refine returnsInHanded_of_change_and (C := Tryz.checked) (X := fun w _ => laidMetH Tryz.prog Rows.fronErrorsRow.laid w) (fun _ _ _ hh h => h.of_heap hh) own started (by kernel_rfl) Tryz.func3
    (ChangeSpec.witness_shaped (enc := enc) (C := Tryz.checked) (os := os) (X := fun w _ => laidMetH Tryz.prog Rows.fronErrorsRow.laid w) false (World.laidAll Tryz.prog os Rows.fronErrorsRow.laid) #[.int .i64 0] 8 (World.laidAll_os _ _ _)
      (World.shaped_of_ZipB (by kernel_rfl) (by kernel_rfl)) (by kernel_rfl) (by kernel_rfl) (by kernel_rfl)
      (by rw [MakeChecks.laidMetH_plain _ _ _ (by kernel_rfl)]; exact laidMet_laidAll _ (by kernel_rfl) (by kernel_rfl))) ?_
  intro W base args ds gs before hval0 hW hcnd _ hL _
  have hval : ∀ (j : Nat) t v, Tryz.f3.params[j]? = some t → args[j]? = some v → Value.okWide Tryz.prog W .any base t v := hval0
  have hW' := hW
  obtain ⟨p, q, hA0, hV, rfl, hfz, hnd⟩ := hW
  have hA : DataW.TrodAll enc Tryz.prog W 0 (fun _ => true) true Tryz.f3.params.toList args.toList ds p := hA0
  rw [Tryz.params3] at hA hval
  obtain ⟨v0, vs0, d0, ds0, p0, q0, hargs, rfl, rfl, h0, r0⟩ := trodAll_cons hA
  obtain ⟨rfl, rfl, rfl⟩ := trodAll_nil r0
  obtain rfl : args = #[v0] := by cases args; simp_all
  obtain ⟨rfl, rfl⟩ := trodVars_none hV
  obtain ⟨n0, rfl, hw0⟩ := Go.Rx.arg_int Tryz.underlying3 (hval 0 3 v0 rfl rfl) h0
  obtain ⟨vals, H1, hR, hC⟩ : ∃ (vals : List Go.Rx.RV) (H1 : Go.Rx.HT), Go.Rx.Reps (fun _ => none) vals [.int .i64 n0] ∧ Go.Rx.CallR Tryz.prog 3 vals ⟨0, .e⟩ (.bool true) H1 := by
    exact Go.Rx.FronErrorsCall _ n0
  refine (Go.Rx.calls_stood Tryz.func3 (c := Go.Rx.bodyOf Tryz.f3) (by kernel_rfl) (by kernel_rfl) hC W hR).mono fun e W' ⟨he, hg, hb⟩ => ?_
  subst he
  exact ⟨_, rfl, Go.Rx.post_old (pv := []) hW' (fun _ _ _ => (trodAll_cons_mk (shut_bool Tryz.underlying4 _) trodAll_mk0)) (fun sp hs => (trodAll_cons_mk (Go.Rx.again laid (by kernel_rfl) (of_decide_eq_true (by kernel_rfl)) h0 hb (fun x hx => hs x (by simp [hx]))) trodAll_mk0)) (fun _ _ => rfl) (by simp) hg
    (ok_one (by kernel_rfl) rfl (okWide_bool_mk Tryz.underlying4 _))⟩

theorem fInPlace : (Rows.fronErrorsRow.inPlace == Tryz.prog.inPlace 3) = true := by kernel_rfl
theorem fUnfollowed : (Rows.fronErrorsRow.unfollowed == Tryz.prog.unfollowed 3) = true := by kernel_rfl
theorem fRecurses : (Rows.fronErrorsRow.recurses == Tryz.prog.recurses 3) = true := by kernel_rfl
theorem fNamed : (Rows.fronErrorsRow.named == Tryz.prog.varsNamed 3) = true := by kernel_rfl
theorem fHeard : Tryz.prog.stopsHeard = true := by kernel_rfl
theorem fEnter : Tryz.prog.mayEnter = true := by kernel_rfl
theorem fLaid : laidOutB Tryz.prog = true := laid
theorem facts : joinedFacts Tryz.prog 3 Tryz.f3 Rows.fronErrorsSpec Rows.fronErrorsRow = true := by
  unfold joinedFacts
  rw [fInPlace, fUnfollowed, fRecurses, fNamed, fHeard, fEnter, fLaid]
  kernel_rfl
theorem called : Tryz.prog.funcNamed Rows.fronErrorsRow.func = some 3 := by kernel_rfl
theorem instanceOf : Tryz.f3.isInstance Tryz.prog Rows.fronErrorsRow.origin Rows.fronErrorsRow.targs := of_decide_eq_true (by kernel_rfl)
theorem wrapped : Tryz.f3.isWrapper Tryz.prog Rows.fronErrorsRow.wrapper Rows.fronErrorsRow.mainSum := by unfold Func.isWrapper; first | (rw [if_pos (by decide +kernel)]; kernel_rfl) | (rw [if_neg (by decide +kernel)]; exact ⟨rfl, rfl⟩)
theorem over : Rows.fronErrorsRow.holds Tryz.pinned (OpenSpec.ofChange Rows.fronErrorsSpec) :=
  OpenClaim.holds_of_wide 3 Tryz.f3 rfl rfl rfl rfl rfl rfl rfl ⟨rfl, rfl, rfl, rfl, rfl⟩ rfl rfl rfl rfl rfl called Tryz.func3 facts instanceOf wrapped
    (fun os started H enc _ => lifted os started H enc)

/-- THE STATEMENT: the law's card. -/
theorem text : Rows.fronErrorsRow.wfByText (OpenSpec.ofChange Rows.fronErrorsSpec) = true := by kernel_rfl
theorem main : Tryz.prog.mainIs = some (true, "9bcd515a0dd7f660eedfb3d7aa8eb32afe24db2729946992bcd26351db5932cd".toList) := by kernel_rfl
theorem looksAt : true = Tryz.prog.looks [] := by kernel_rfl
theorem stands : ([3].all fun u => !Tryz.prog.wantsStandIn u) = true := by kernel_rfl
theorem goesL : Tryz.prog.funcs.toList.any Func.goes = false := by kernel_rfl
theorem goes : false = Rows.fronErrorsRow.goesBy Tryz.prog := Go.Rx.goesBy_none goesL _ rfl
theorem proved : Rows.FronErrorsCardSaid :=
  Claim7.holds_tied_plain_at .later [] [.pinned, .data, .sentinel, .sentinel, .data, .data, .data, .pinned] true (true, "9bcd515a0dd7f660eedfb3d7aa8eb32afe24db2729946992bcd26351db5932cd") true over (fun _ h => by cases h) text (fun _ h => by cases h) tied.fronErrors_row_tie rfl ⟨rfl, rfl⟩ main rfl
    (fun f fn hf hfn => by
      obtain rfl : f = 3 := Option.some.inj (called.symm.trans hf) |>.symm
      obtain rfl : fn = Tryz.f3 := (Option.some.inj (Tryz.func3.symm.trans hfn)).symm
      exact ⟨looksAt, fun j t ht => by
        rw [Tryz.params3] at ht
        have hm : t ∈ [3] := by simpa using Array.mem_of_getElem? ht
        exact (show Tryz.prog.wantsStandIn t = false by simpa using List.all_eq_true.1 stands t hm)⟩)
    goes
#print axioms proved
end Go.Proofs.YtadggafaofkmpaaGreatDoor.fronErrors

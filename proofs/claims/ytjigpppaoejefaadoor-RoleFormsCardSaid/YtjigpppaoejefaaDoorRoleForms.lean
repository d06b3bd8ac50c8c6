/- The law RoleForms answers true at each input; its arguments read behind the call as before. Conditions: none. -/
import Derived.Test.YtjigpppaoejefaaDoorRows
import Derived.WalkKit
import Derived.ProofKit
import Derived.OpenShut
import Derived.SizedLaws
import Derived.LaidMore
import Derived.Lay
import Derived.SevenTiedAt
import Derived.Stop.Joined
import Derived.Test.YtjigpppaoejefaaDoorCards
import Derived.Test.YtjigpppaoejefaaDoorTie
import Derived.Test.YtjigpppaoejefaaDoorRoleFormsZ
import Derived.Test.YtjigpppaoejefaaDoorR2
set_option linter.unusedVariables false
set_option linter.unusedSimpArgs false
set_option linter.unusedSectionVars false
namespace Go.Proofs.YtjigpppaoejefaaDoor.roleForms
open Go.ChangeShapes Go.WideShapes Go.ChangeAt Go.RowKit
theorem own : ownKnob Tryd.prog.godebug = none := by kernel_rfl
theorem laid : laidOutB Tryd.prog = true := by kernel_rfl
set_option maxRecDepth 100000 in
theorem lifted (os : Os) (started : os.Started) (H : Type) (enc : TypeId × Value → H) :
    ReturnsInHanded {} Tryd.checked os 3 .any (fun w args => (Rows.roleFormsSpec.pre enc Tryd.prog Tryd.f3 Rows.roleFormsRow.domain false w args ∧ laidMetH Tryd.prog Rows.roleFormsRow.laid w) ∧ sizedMet enc Tryd.prog Tryd.f3 (OpenSpec.ofChange Rows.roleFormsSpec) false w args)
      (Rows.roleFormsSpec.post enc Tryd.prog Tryd.f3 false true false false) := by
  refine returnsInHanded_of_change_and (C := Tryd.checked) (X := fun w _ => laidMetH Tryd.prog Rows.roleFormsRow.laid w) (fun _ _ _ hh h => h.of_heap hh) own started (by kernel_rfl) Tryd.func3
    (ChangeSpec.witness_shaped (enc := enc) (C := Tryd.checked) (os := os) (X := fun w _ => laidMetH Tryd.prog Rows.roleFormsRow.laid w) false (World.laidAll Tryd.prog os Rows.roleFormsRow.laid) #[.int .i64 0] 8 (World.laidAll_os _ _ _)
      (World.shaped_of_ZipB (by kernel_rfl) (by kernel_rfl)) (by kernel_rfl) (by kernel_rfl) (by kernel_rfl)
      (by rw [MakeChecks.laidMetH_plain _ _ _ (by kernel_rfl)]; exact laidMet_laidAll _ (by kernel_rfl) (by kernel_rfl))) ?_
  intro W base args ds gs before hval0 hW hcnd _ hL _
  have hval : ∀ (j : Nat) t v, Tryd.f3.params[j]? = some t → args[j]? = some v → Value.okWide Tryd.prog W .any base t v := hval0
  have hW' := hW
  obtain ⟨p, q, hA0, hV, rfl, hfz, hnd⟩ := hW
  have hA : DataW.TrodAll enc Tryd.prog W 0 (fun _ => true) true Tryd.f3.params.toList args.toList ds p := hA0
  rw [Tryd.params3] at hA hval
  obtain ⟨v0, vs0, d0, ds0, p0, q0, hargs, rfl, rfl, h0, r0⟩ := trodAll_cons hA
  obtain ⟨rfl, rfl, rfl⟩ := trodAll_nil r0
  obtain rfl : args = #[v0] := by cases args; simp_all
  obtain ⟨rfl, rfl⟩ := trodVars_none hV
  obtain ⟨n0, rfl, hw0⟩ := Go.Rx.arg_int Tryd.underlying3 (hval 0 3 v0 rfl rfl) h0
  obtain ⟨vals, H1, hR, hC⟩ : ∃ (vals : List Go.Rx.RV) (H1 : Go.Rx.HT), Go.Rx.Reps (fun _ => none) vals [.int .i64 n0] ∧ Go.Rx.CallR Tryd.prog 3 vals ⟨0, .e⟩ (.bool true) H1 := by
    exact Go.Rx.RoleFormsCall _ n0
  refine (Go.Rx.calls_stood Tryd.func3 (c := Go.Rx.bodyOf Tryd.f3) (by kernel_rfl) (by kernel_rfl) hC W hR).mono fun e W' ⟨he, hg, hb⟩ => ?_
  subst he
  exact ⟨_, rfl, Go.Rx.post_old (pv := []) hW' (fun _ _ _ => (trodAll_cons_mk (shut_bool Tryd.underlying4 _) trodAll_mk0)) (fun sp hs => (trodAll_cons_mk (Go.Rx.again laid (by kernel_rfl) (of_decide_eq_true (by kernel_rfl)) h0 hb (fun x hx => hs x (by simp [hx]))) trodAll_mk0)) (fun _ _ => rfl) (by simp) hg
    (ok_one (by kernel_rfl) rfl (okWide_bool_mk Tryd.underlying4 _))⟩

theorem fInPlace : (Rows.roleFormsRow.inPlace == Tryd.prog.inPlace 3) = true := by kernel_rfl
theorem fUnfollowed : (Rows.roleFormsRow.unfollowed == Tryd.prog.unfollowed 3) = true := by kernel_rfl
theorem fRecurses : (Rows.roleFormsRow.recurses == Tryd.prog.recurses 3) = true := by kernel_rfl
theorem fNamed : (Rows.roleFormsRow.named == Tryd.prog.varsNamed 3) = true := by kernel_rfl
theorem fHeard : Tryd.prog.stopsHeard = true := by kernel_rfl
theorem fEnter : Tryd.prog.mayEnter = true := by kernel_rfl
theorem fLaid : laidOutB Tryd.prog = true := laid
theorem facts : joinedFacts Tryd.prog 3 Tryd.f3 Rows.roleFormsSpec Rows.roleFormsRow = true := by
  unfold joinedFacts
  rw [fInPlace, fUnfollowed, fRecurses, fNamed, fHeard, fEnter, fLaid]
  kernel_rfl
theorem called : Tryd.prog.funcNamed Rows.roleFormsRow.func = some 3 := by kernel_rfl
theorem instanceOf : Tryd.f3.isInstance Tryd.prog Rows.roleFormsRow.origin Rows.roleFormsRow.targs := of_decide_eq_true (by kernel_rfl)
theorem wrapped : Tryd.f3.isWrapper Tryd.prog Rows.roleFormsRow.wrapper Rows.roleFormsRow.mainSum := by unfold Func.isWrapper; first | (rw [if_pos (by decide +kernel)]; kernel_rfl) | (rw [if_neg (by decide +kernel)]; exact ⟨rfl, rfl⟩)
theorem over : Rows.roleFormsRow.holds Tryd.pinned (OpenSpec.ofChange Rows.roleFormsSpec) :=
  OpenClaim.holds_of_wide 3 Tryd.f3 rfl rfl rfl rfl rfl rfl rfl ⟨rfl, rfl, rfl, rfl, rfl⟩ rfl rfl rfl rfl rfl called Tryd.func3 facts instanceOf wrapped
    (fun os started H enc _ => lifted os started H enc)

/-- THE STATEMENT: the law's card. -/
theorem text : Rows.roleFormsRow.wfByText (OpenSpec.ofChange Rows.roleFormsSpec) = true := by kernel_rfl
theorem main : Tryd.prog.mainIs = some (true, "b1d25e7f2c9b9e4c0e475869b549bb43b21026beeab20e2baef2056fae3cdf83".toList) := by kernel_rfl
theorem looksAt : true = Tryd.prog.looks [] := by kernel_rfl
theorem stands : ([3].all fun u => !Tryd.prog.wantsStandIn u) = true := by kernel_rfl
theorem goes : false = Rows.roleFormsRow.goesBy Tryd.prog := by kernel_rfl
theorem proved : Rows.RoleFormsCardSaid :=
  Claim7.holds_tied_plain_at .later [] [.data, .data, .data, .data, .sentinel, .sentinel, .pinned] true (true, "b1d25e7f2c9b9e4c0e475869b549bb43b21026beeab20e2baef2056fae3cdf83") true over (fun _ h => by cases h) text (fun _ h => by cases h) roleForms_row_tie rfl ⟨rfl, rfl⟩ main rfl
    (fun f fn hf hfn => by
      obtain rfl : f = 3 := Option.some.inj (called.symm.trans hf) |>.symm
      obtain rfl : fn = Tryd.f3 := (Option.some.inj (Tryd.func3.symm.trans hfn)).symm
      exact ⟨looksAt, fun j t ht => by
        rw [Tryd.params3] at ht
        have hm : t ∈ [3] := by simpa using Array.mem_of_getElem? ht
        exact (show Tryd.prog.wantsStandIn t = false by simpa using List.all_eq_true.1 stands t hm)⟩)
    goes
#print axioms proved
end Go.Proofs.YtjigpppaoejefaaDoor.roleForms

/- The law JsonNumbers answers true at each input; its arguments read behind the call as before. Conditions: none. -/
import Derived.Test.YthakklikgmcgdaaGreatDoorRows
import Derived.WalkKit
import Derived.ProofKit
import Derived.OpenShut
import Derived.SizedLaws
import Derived.LaidMore
import Derived.Lay
import Derived.SevenTiedAt
import Derived.Stop.Joined
import Derived.Test.YthakklikgmcgdaaGreatDoorCards
import Derived.Test.YthakklikgmcgdaaGreatDoorTie
import Derived.Test.YthakklikgmcgdaaGreatDoorGoesNone
import Derived.Test.YthakklikgmcgdaaGreatDoorYG
import Derived.Test.YthakklikgmcgdaaGreatDoorS2
import Derived.Deep.Slices
set_option linter.unusedSimpArgs false
set_option linter.unusedVariables false
set_option linter.unusedSectionVars false
namespace Go.Proofs.YthakklikgmcgdaaGreatDoor.jsonNumbers
open Go.ChangeShapes Go.WideShapes Go.ChangeAt Go.RowKit
theorem own : ownKnob Tryz.prog.godebug = none:=by kernel_rfl
theorem laid : laidOutB Tryz.prog = true:=by kernel_rfl
set_option maxRecDepth 100000 in
theorem lifted (os : Os) (started : os.Started) (H : Type) (enc : TypeId × Value → H) :
  ReturnsInHanded {} Tryz.checked os 3 .any (fun w args=>(Rows.jsonNumbersSpec.pre enc Tryz.prog Tryz.f3 Rows.jsonNumbersRow.domain false w args ∧ laidMetH Tryz.prog Rows.jsonNumbersRow.laid w) ∧ sizedMet enc Tryz.prog Tryz.f3 (OpenSpec.ofChange Rows.jsonNumbersSpec) false w args)
   (Rows.jsonNumbersSpec.post enc Tryz.prog Tryz.f3 false true false false):=by
 refine returnsInHanded_of_change_and (C:=Tryz.checked) (X:=fun w _=>laidMetH Tryz.prog Rows.jsonNumbersRow.laid w) (fun _ _ _ hh h=>h.of_heap hh) own started (by kernel_rfl) Tryz.func3
  (ChangeSpec.witness_shaped (enc:=enc) (C:=Tryz.checked) (os:=os) (X:=fun w _=>laidMetH Tryz.prog Rows.jsonNumbersRow.laid w) false (World.laidAll Tryz.prog os Rows.jsonNumbersRow.laid) #[.int .i64 0,.int .i64 0,.int .i64 0] 8 (World.laidAll_os _ _ _)
   (World.shaped_of_ZipB (by kernel_rfl) (by kernel_rfl)) (by kernel_rfl) (by kernel_rfl) (by kernel_rfl)
   (by rw [MakeChecks.laidMetH_plain _ _ _ (by kernel_rfl)]; exact laidMet_laidAll _ (by kernel_rfl) (by kernel_rfl))) ?_
 intro W base args ds gs before hval0 hW hcnd _ hL _
 have hval : ∀ (j : Nat) t v,Tryz.f3.params[j]? = some t → args[j]? = some v → Value.okWide Tryz.prog W .any base t v:=hval0
 have hW':=hW
 obtain ⟨p,q,hA0,hV,rfl,hfz,hnd⟩:=hW
 have hA : DataW.TrodAll enc Tryz.prog W 0 (fun _=>true) true Tryz.f3.params.toList args.toList ds p:=hA0
 rw [Tryz.params3] at hA hval
 obtain ⟨v0,vs0,d0,ds0,p0,q0,hargs,rfl,rfl,h0,r0⟩:=trodAll_cons hA
 obtain ⟨v1,vs1,d1,ds1,p1,q1,rfl,rfl,rfl,h1,r1⟩:=trodAll_cons r0
 obtain ⟨v2,vs2,d2,ds2,p2,q2,rfl,rfl,rfl,h2,r2⟩:=trodAll_cons r1
 obtain ⟨rfl,rfl,rfl⟩:=trodAll_nil r2
 obtain rfl : args = #[v0,v1,v2]:=by cases args; simp_all
 obtain ⟨rfl,rfl⟩:=trodVars_none hV
 obtain ⟨n0,e0,hw0⟩:=Go.Fbs.arg_int (κ:=Go.Fbs.sealedCtx W.heap) (h:=W.heap) Tryz.underlying2 (hval 0 2 v0 rfl rfl) h0
 obtain ⟨n1,e1,hw1⟩:=Go.Fbs.arg_int (κ:=Go.Fbs.sealedCtx W.heap) (h:=W.heap) Tryz.underlying2 (hval 1 2 v1 rfl rfl) h1
 obtain ⟨n2,e2,hw2⟩:=Go.Fbs.arg_int (κ:=Go.Fbs.sealedCtx W.heap) (h:=W.heap) Tryz.underlying3 (hval 2 3 v2 rfl rfl) h2
 have hF : Go.Fbs.F_entaillaw22_JsonNumbers [.int .i64 n0,.int .i64 n1,.int .i64 n2] = some (.bool true):=by
  exact rfl
 refine (Go.Fbs.calls_stood Go.Fbs.ok_entaillaw22_JsonNumbers hF W (Go.Fbs.Reps.cons e0 (Go.Fbs.Reps.cons e1 (Go.Fbs.Reps.cons e2 Go.Fbs.Reps.nil))) (Go.Fbs.tab0_none hL)).mono fun e W' ⟨he,hg,hb⟩=>?_
 subst he
 exact ⟨_,rfl,Go.Fbs.post_old (pv:=[]) hW' (fun _ _ _=>(trodAll_cons_mk (shut_bool Tryz.underlying4 _) trodAll_mk0)) (fun sp hs=>(trodAll_cons_mk (Go.Fbs.again laid (by kernel_rfl) (of_decide_eq_true (by kernel_rfl)) h0 hb (fun x hx=>hs x (by simp [hx]))) (trodAll_cons_mk (Go.Fbs.again laid (by kernel_rfl) (of_decide_eq_true (by kernel_rfl)) h1 hb (fun x hx=>hs x (by simp [hx]))) (trodAll_cons_mk (Go.Fbs.again laid (by kernel_rfl) (of_decide_eq_true (by kernel_rfl)) h2 hb (fun x hx=>hs x (by simp [hx]))) trodAll_mk0)))) (fun _ _=>rfl) (by simp) hg
  (ok_one (by kernel_rfl) rfl (okWide_bool_mk Tryz.underlying4 _))⟩
theorem fInPlace : (Rows.jsonNumbersRow.inPlace == Tryz.prog.inPlace 3) = true:=by kernel_rfl
theorem fUnfollowed : (Rows.jsonNumbersRow.unfollowed == Tryz.prog.unfollowed 3) = true:=by kernel_rfl
theorem fRecurses : (Rows.jsonNumbersRow.recurses == Tryz.prog.recurses 3) = true:=by kernel_rfl
theorem fNamed : (Rows.jsonNumbersRow.named == Tryz.prog.varsNamed 3) = true:=by kernel_rfl
theorem fHeard : Tryz.prog.stopsHeard = true:=by kernel_rfl
theorem fEnter : Tryz.prog.mayEnter = true:=by kernel_rfl
theorem fLaid : laidOutB Tryz.prog = true:=laid
theorem facts : joinedFacts Tryz.prog 3 Tryz.f3 Rows.jsonNumbersSpec Rows.jsonNumbersRow = true:=by
 unfold joinedFacts
 rw [fInPlace,fUnfollowed,fRecurses,fNamed,fHeard,fEnter,fLaid]
 kernel_rfl
theorem called : Tryz.prog.funcNamed Rows.jsonNumbersRow.func = some 3:=by kernel_rfl
theorem instanceOf : Tryz.f3.isInstance Tryz.prog Rows.jsonNumbersRow.origin Rows.jsonNumbersRow.targs:=of_decide_eq_true (by kernel_rfl)
theorem wrapped : Tryz.f3.isWrapper Tryz.prog Rows.jsonNumbersRow.wrapper Rows.jsonNumbersRow.mainSum:=by unfold Func.isWrapper; first | (rw [if_pos (by decide +kernel)]; kernel_rfl) | (rw [if_neg (by decide +kernel)]; exact ⟨rfl,rfl⟩)
theorem over : Rows.jsonNumbersRow.holds Tryz.pinned (OpenSpec.ofChange Rows.jsonNumbersSpec) :=
 OpenClaim.holds_of_wide 3 Tryz.f3 rfl rfl rfl rfl rfl rfl rfl ⟨rfl,rfl,rfl,rfl,rfl⟩ rfl rfl rfl rfl rfl called Tryz.func3 facts instanceOf wrapped
  (fun os started H enc _=>lifted os started H enc)
theorem text : Rows.jsonNumbersRow.wfByText (OpenSpec.ofChange Rows.jsonNumbersSpec) = true:=by kernel_rfl
theorem main : Tryz.prog.mainIs = some (true, "28e0141fcdd68d581a27492604e0dcaa0c1c640671e1ff5e255c6d6f32a34f94".toList) := by kernel_rfl
theorem looksAt : true = Tryz.prog.looks []:=by kernel_rfl
theorem stands : ([2,2,3].all fun u=>!Tryz.prog.wantsStandIn u) = true:=by kernel_rfl
theorem goesL : Tryz.prog.funcs.toList.any Func.goes = false:=by kernel_rfl
theorem goes : false = Rows.jsonNumbersRow.goesBy Tryz.prog:=Go.Rx.goesBy_none goesL _ rfl
theorem proved : Rows.JsonNumbersCardSaid :=
 Claim7.holds_tied_plain_at .later [] [.data, .data, .data, .data, .sentinel, .sentinel, .pinned, .pinned] true (true, "28e0141fcdd68d581a27492604e0dcaa0c1c640671e1ff5e255c6d6f32a34f94") true over (fun _ h => by cases h) text (fun _ h => by cases h) jsonNumbers_row_tie rfl ⟨rfl, rfl⟩ main rfl
  (fun f fn hf hfn=>by
   obtain rfl : f = 3:=Option.some.inj (called.symm.trans hf) |>.symm
   obtain rfl : fn = Tryz.f3:=(Option.some.inj (Tryz.func3.symm.trans hfn)).symm
   exact ⟨looksAt,fun j t ht=>by
    rw [Tryz.params3] at ht
    have hm : t ∈ [2,2,3]:=by simpa using Array.mem_of_getElem? ht
    exact (show Tryz.prog.wantsStandIn t = false by simpa using List.all_eq_true.1 stands t hm)⟩)
  goes
#print axioms proved
end Go.Proofs.YthakklikgmcgdaaGreatDoor.jsonNumbers

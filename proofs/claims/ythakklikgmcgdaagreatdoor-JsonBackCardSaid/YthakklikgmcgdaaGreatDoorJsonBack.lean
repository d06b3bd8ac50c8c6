/- The law JsonBack answers true at each input; its arguments read behind the call as before. Conditions: none. -/
import Derived.Test.YthakklikgmcgdaaGreatDoorRows
import Derived.WalkKit
import Derived.ProofKit
import Derived.OpenShut
import Derived.SizedLaws
import Derived.LaidMore
import Derived.Lay
import Derived.SevenTiedAt
import Derived.Stop.Joined
import Derived.Test.YthakklikgmcgdaaGreatDoorCards
import Derived.Test.YthakklikgmcgdaaGreatDoorTie
import Derived.Test.YthakklikgmcgdaaGreatDoorGoesNone
import Derived.Test.YthakklikgmcgdaaGreatDoorPF
import Derived.Test.YthakklikgmcgdaaGreatDoorS2
set_option linter.unusedSimpArgs false
set_option linter.unusedVariables false
set_option linter.unusedSectionVars false
namespace Go.Proofs.YthakklikgmcgdaaGreatDoor.jsonBack
open Go.ChangeShapes Go.WideShapes Go.ChangeAt Go.RowKit
theorem own : ownKnob Tryz.prog.godebug = none:=by kernel_rfl
theorem laid : laidOutB Tryz.prog = true:=by kernel_rfl
set_option maxRecDepth 100000 in
theorem lifted (os : Os) (started : os.Started) (H : Type) (enc : TypeId × Value → H) :
  ReturnsInHanded {} Tryz.checked os 5 .any (fun w args=>(Rows.jsonBackSpec.pre enc Tryz.prog Tryz.f5 Rows.jsonBackRow.domain false w args ∧ laidMetH Tryz.prog Rows.jsonBackRow.laid w) ∧ sizedMet enc Tryz.prog Tryz.f5 (OpenSpec.ofChange Rows.jsonBackSpec) false w args)
   (Rows.jsonBackSpec.post enc Tryz.prog Tryz.f5 false true false false):=by
 refine returnsInHanded_of_change_and (C:=Tryz.checked) (X:=fun w _=>laidMetH Tryz.prog Rows.jsonBackRow.laid w) (fun _ _ _ hh h=>h.of_heap hh) own started (by kernel_rfl) Tryz.func5
  (ChangeSpec.witness_shaped (enc:=enc) (C:=Tryz.checked) (os:=os) (X:=fun w _=>laidMetH Tryz.prog Rows.jsonBackRow.laid w) false (World.laidAll Tryz.prog os Rows.jsonBackRow.laid) #[.slice none 0 0,.string ⟨#[]⟩] 8 (World.laidAll_os _ _ _)
   (World.shaped_of_ZipB (by kernel_rfl) (by kernel_rfl)) (by kernel_rfl) (by kernel_rfl) (by kernel_rfl)
   (by rw [MakeChecks.laidMetH_plain _ _ _ (by kernel_rfl)]; exact laidMet_laidAll _ (by kernel_rfl) (by kernel_rfl))) ?_
 intro W base args ds gs before hval0 hW hcnd _ hL _
 have hval : ∀ (j : Nat) t v,Tryz.f5.params[j]? = some t → args[j]? = some v → Value.okWide Tryz.prog W .any base t v:=hval0
 have hW':=hW
 obtain ⟨p,q,hA0,hV,rfl,hfz,hnd⟩:=hW
 have hA : DataW.TrodAll enc Tryz.prog W 0 (fun _=>true) true Tryz.f5.params.toList args.toList ds p:=hA0
 rw [Tryz.params5] at hA hval
 obtain ⟨v0,vs0,d0,ds0,p0,q0,hargs,rfl,rfl,h0,r0⟩:=trodAll_cons hA
 obtain ⟨v1,vs1,d1,ds1,p1,q1,rfl,rfl,rfl,h1,r1⟩:=trodAll_cons r0
 obtain ⟨rfl,rfl,rfl⟩:=trodAll_nil r1
 obtain rfl : args = #[v0,v1]:=by cases args; simp_all
 obtain ⟨rfl,rfl⟩:=trodVars_none hV
 obtain ⟨l0,e0,hl0,hw0⟩:=Go.Fbs.arg_ints (e:=2) Tryz.underlying35 Tryz.underlying2 (by kernel_rfl) (hval 0 35 v0 rfl rfl) h0
 obtain ⟨s1,e1,hs1,hd1⟩:=Go.Fbs.arg_strD (κ:=Go.Fbs.sealedCtx W.heap) (h:=W.heap) Tryz.underlying9 (hval 1 9 v1 rfl rfl) h1
 have hF : Go.Fbs.F_entaillaw22_JsonBack [.sl .ro (l0.map (Go.Fbs.V.int .i64)),.str s1] = some (.bool true):=by
  exact if_pos ⟨List.all_eq_true.2 fun e he=>(by obtain ⟨z,_,rfl⟩:=List.mem_map.1 he; rfl),Nat.le_refl _⟩
 refine (Go.Fbs.calls_stood Go.Fbs.ok_entaillaw22_JsonBack hF W (Go.Fbs.Reps.cons e0 (Go.Fbs.Reps.cons e1 Go.Fbs.Reps.nil)) (Go.Fbs.tab0_laidB hL)).mono fun e W' ⟨he,hg,hb⟩=>?_
 subst he
 exact ⟨_,rfl,Go.Fbs.post_old (pv:=[]) hW' (fun _ _ _=>(trodAll_cons_mk (shut_bool Tryz.underlying4 _) trodAll_mk0)) (fun sp hs=>(trodAll_cons_mk (Go.Fbs.again laid (by kernel_rfl) (of_decide_eq_true (by kernel_rfl)) h0 hb (fun x hx=>hs x (by simp [hx]))) (trodAll_cons_mk (Go.Fbs.again laid (by kernel_rfl) (of_decide_eq_true (by kernel_rfl)) h1 hb (fun x hx=>hs x (by simp [hx]))) trodAll_mk0))) (fun _ _=>rfl) (by simp) hg
  (ok_one (by kernel_rfl) rfl (okWide_bool_mk Tryz.underlying4 _))⟩
theorem fInPlace : (Rows.jsonBackRow.inPlace == Tryz.prog.inPlace 5) = true:=by kernel_rfl
theorem fUnfollowed : (Rows.jsonBackRow.unfollowed == Tryz.prog.unfollowed 5) = true:=by kernel_rfl
theorem fRecurses : (Rows.jsonBackRow.recurses == Tryz.prog.recurses 5) = true:=by kernel_rfl
theorem fNamed : (Rows.jsonBackRow.named == Tryz.prog.varsNamed 5) = true:=by kernel_rfl
theorem fHeard : Tryz.prog.stopsHeard = true:=by kernel_rfl
theorem fEnter : Tryz.prog.mayEnter = true:=by kernel_rfl
theorem fLaid : laidOutB Tryz.prog = true:=laid
theorem facts : joinedFacts Tryz.prog 5 Tryz.f5 Rows.jsonBackSpec Rows.jsonBackRow = true:=by
 unfold joinedFacts
 rw [fInPlace,fUnfollowed,fRecurses,fNamed,fHeard,fEnter,fLaid]
 kernel_rfl
theorem called : Tryz.prog.funcNamed Rows.jsonBackRow.func = some 5:=by kernel_rfl
theorem instanceOf : Tryz.f5.isInstance Tryz.prog Rows.jsonBackRow.origin Rows.jsonBackRow.targs:=of_decide_eq_true (by kernel_rfl)
theorem wrapped : Tryz.f5.isWrapper Tryz.prog Rows.jsonBackRow.wrapper Rows.jsonBackRow.mainSum:=by unfold Func.isWrapper; first | (rw [if_pos (by decide +kernel)]; kernel_rfl) | (rw [if_neg (by decide +kernel)]; exact ⟨rfl,rfl⟩)
theorem over : Rows.jsonBackRow.holds Tryz.pinned (OpenSpec.ofChange Rows.jsonBackSpec) :=
 OpenClaim.holds_of_wide 5 Tryz.f5 rfl rfl rfl rfl rfl rfl rfl ⟨rfl,rfl,rfl,rfl,rfl⟩ rfl rfl rfl rfl rfl called Tryz.func5 facts instanceOf wrapped
  (fun os started H enc _=>lifted os started H enc)
theorem text : Rows.jsonBackRow.wfByText (OpenSpec.ofChange Rows.jsonBackSpec) = true:=by kernel_rfl
theorem main : Tryz.prog.mainIs = some (true, "28e0141fcdd68d581a27492604e0dcaa0c1c640671e1ff5e255c6d6f32a34f94".toList) := by kernel_rfl
theorem looksAt : true = Tryz.prog.looks []:=by kernel_rfl
theorem stands : ([35,9].all fun u=>!Tryz.prog.wantsStandIn u) = true:=by kernel_rfl
theorem goesL : Tryz.prog.funcs.toList.any Func.goes = false:=by kernel_rfl
theorem goes : false = Rows.jsonBackRow.goesBy Tryz.prog:=Go.Rx.goesBy_none goesL _ rfl
theorem proved : Rows.JsonBackCardSaid :=
 Claim7.holds_tied_plain_at .later [] [.data, .data, .data, .data, .sentinel, .sentinel, .pinned, .pinned] true (true, "28e0141fcdd68d581a27492604e0dcaa0c1c640671e1ff5e255c6d6f32a34f94") true over (fun _ h => by cases h) text (fun _ h => by cases h) jsonBack_row_tie rfl ⟨rfl, rfl⟩ main rfl
  (fun f fn hf hfn=>by
   obtain rfl : f = 5:=Option.some.inj (called.symm.trans hf) |>.symm
   obtain rfl : fn = Tryz.f5:=(Option.some.inj (Tryz.func5.symm.trans hfn)).symm
   exact ⟨looksAt,fun j t ht=>by
    rw [Tryz.params5] at ht
    have hm : t ∈ [35,9]:=by simpa using Array.mem_of_getElem? ht
    exact (show Tryz.prog.wantsStandIn t = false by simpa using List.all_eq_true.1 stands t hm)⟩)
  goes
#print axioms proved
end Go.Proofs.YthakklikgmcgdaaGreatDoor.jsonBack

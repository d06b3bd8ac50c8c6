/- The law JsonTells answers true at each input; its arguments read behind the call as before. Conditions: none. -/
import Derived.Test.YthakklikgmcgdaaGreatDoorRows
import Derived.WalkKit
import Derived.ProofKit
import Derived.OpenShut
import Derived.SizedLaws
import Derived.LaidMore
import Derived.Lay
import Derived.SevenTiedAt
import Derived.Stop.Joined
import Derived.Test.YthakklikgmcgdaaGreatDoorCards
import Derived.Test.YthakklikgmcgdaaGreatDoorTie
import Derived.Test.YthakklikgmcgdaaGreatDoorGoesNone
import Derived.Test.YthakklikgmcgdaaGreatDoorPH
import Derived.Test.YthakklikgmcgdaaGreatDoorS2
set_option linter.unusedSimpArgs false
set_option linter.unusedVariables false
set_option linter.unusedSectionVars false
namespace Go.Proofs.YthakklikgmcgdaaGreatDoor.jsonTells
open Go.ChangeShapes Go.WideShapes Go.ChangeAt Go.RowKit
theorem own : ownKnob Tryz.prog.godebug = none:=by kernel_rfl
theorem laid : laidOutB Tryz.prog = true:=by kernel_rfl
set_option maxRecDepth 100000 in
theorem lifted (os : Os) (started : os.Started) (H : Type) (enc : TypeId × Value → H) :
  ReturnsInHanded {} Tryz.checked os 4 .any (fun w args=>(Rows.jsonTellsSpec.pre enc Tryz.prog Tryz.f4 Rows.jsonTellsRow.domain false w args ∧ laidMetH Tryz.prog Rows.jsonTellsRow.laid w) ∧ sizedMet enc Tryz.prog Tryz.f4 (OpenSpec.ofChange Rows.jsonTellsSpec) false w args)
   (Rows.jsonTellsSpec.post enc Tryz.prog Tryz.f4 false true false false):=by
 refine returnsInHanded_of_change_and (C:=Tryz.checked) (X:=fun w _=>laidMetH Tryz.prog Rows.jsonTellsRow.laid w) (fun _ _ _ hh h=>h.of_heap hh) own started (by kernel_rfl) Tryz.func4
  (ChangeSpec.witness_shaped (enc:=enc) (C:=Tryz.checked) (os:=os) (X:=fun w _=>laidMetH Tryz.prog Rows.jsonTellsRow.laid w) false (World.laidAll Tryz.prog os Rows.jsonTellsRow.laid) #[.string ⟨#[]⟩,.slice none 0 0,.int .i64 0,.int .u8 0] 8 (World.laidAll_os _ _ _)
   (World.shaped_of_ZipB (by kernel_rfl) (by kernel_rfl)) (by kernel_rfl) (by kernel_rfl) (by kernel_rfl)
   (by rw [MakeChecks.laidMetH_plain _ _ _ (by kernel_rfl)]; exact laidMet_laidAll _ (by kernel_rfl) (by kernel_rfl))) ?_
 intro W base args ds gs before hval0 hW hcnd _ hL _
 have hval : ∀ (j : Nat) t v,Tryz.f4.params[j]? = some t → args[j]? = some v → Value.okWide Tryz.prog W .any base t v:=hval0
 have hW':=hW
 obtain ⟨p,q,hA0,hV,rfl,hfz,hnd⟩:=hW
 have hA : DataW.TrodAll enc Tryz.prog W 0 (fun _=>true) true Tryz.f4.params.toList args.toList ds p:=hA0
 rw [Tryz.params4] at hA hval
 obtain ⟨v0,vs0,d0,ds0,p0,q0,hargs,rfl,rfl,h0,r0⟩:=trodAll_cons hA
 obtain ⟨v1,vs1,d1,ds1,p1,q1,rfl,rfl,rfl,h1,r1⟩:=trodAll_cons r0
 obtain ⟨v2,vs2,d2,ds2,p2,q2,rfl,rfl,rfl,h2,r2⟩:=trodAll_cons r1
 obtain ⟨v3,vs3,d3,ds3,p3,q3,rfl,rfl,rfl,h3,r3⟩:=trodAll_cons r2
 obtain ⟨rfl,rfl,rfl⟩:=trodAll_nil r3
 obtain rfl : args = #[v0,v1,v2,v3]:=by cases args; simp_all
 obtain ⟨rfl,rfl⟩:=trodVars_none hV
 obtain ⟨s0,e0,hs0,hd0⟩:=Go.Fbs.aVw (κ:=Go.Fbs.eX W.heap) (h:=W.heap) Tryz.underlying9 (hval 0 9 v0 rfl rfl) h0
 obtain ⟨l1,e1,hl1,hw1⟩:=Go.Fbs.aVv (e:=2) Tryz.underlying35 Tryz.underlying2 (by kernel_rfl) (hval 1 35 v1 rfl rfl) h1
 obtain ⟨n2,e2,hw2⟩:=Go.Fbs.arg_int (κ:=Go.Fbs.eX W.heap) (h:=W.heap) Tryz.underlying3 (hval 2 3 v2 rfl rfl) h2
 obtain ⟨n3,e3,hw3⟩:=Go.Fbs.arg_int (κ:=Go.Fbs.eX W.heap) (h:=W.heap) Tryz.underlying5 (hval 3 5 v3 rfl rfl) h3
 have hF : Go.Fbs.nX [.str s0,.sl .ro (l1.map (Go.Fbs.V.int .i64)),.int .i64 n2,.int .u8 n3] = some (.bool true):=by
  exact if_pos (List.all_eq_true.2 fun e he=>(by obtain ⟨z,_,rfl⟩:=List.mem_map.1 he; rfl))
 refine (Go.Fbs.calls_stood Go.Fbs.a3x hF W (Go.Fbs.Reps.cons e0 (Go.Fbs.Reps.cons e1 (Go.Fbs.Reps.cons e2 (Go.Fbs.Reps.cons e3 Go.Fbs.Reps.nil)))) (Go.Fbs.aG8 hL)).mono fun e W' ⟨he,hg,hb⟩=>?_
 subst he
 exact ⟨_,rfl,Go.Fbs.post_old (pv:=[]) hW' (fun _ _ _=>(trodAll_cons_mk (shut_bool Tryz.underlying4 _) trodAll_mk0)) (fun sp hs=>(trodAll_cons_mk (Go.Fbs.again laid (by kernel_rfl) (of_decide_eq_true (by kernel_rfl)) h0 hb (fun x hx=>hs x (by simp [hx]))) (trodAll_cons_mk (Go.Fbs.again laid (by kernel_rfl) (of_decide_eq_true (by kernel_rfl)) h1 hb (fun x hx=>hs x (by simp [hx]))) (trodAll_cons_mk (Go.Fbs.again laid (by kernel_rfl) (of_decide_eq_true (by kernel_rfl)) h2 hb (fun x hx=>hs x (by simp [hx]))) (trodAll_cons_mk (Go.Fbs.again laid (by kernel_rfl) (of_decide_eq_true (by kernel_rfl)) h3 hb (fun x hx=>hs x (by simp [hx]))) trodAll_mk0))))) (fun _ _=>rfl) (by simp) hg
  (ok_one (by kernel_rfl) rfl (okWide_bool_mk Tryz.underlying4 _))⟩
theorem fInPlace : (Rows.jsonTellsRow.inPlace == Tryz.prog.inPlace 4) = true:=by kernel_rfl
theorem fUnfollowed : (Rows.jsonTellsRow.unfollowed == Tryz.prog.unfollowed 4) = true:=by kernel_rfl
theorem fRecurses : (Rows.jsonTellsRow.recurses == Tryz.prog.recurses 4) = true:=by kernel_rfl
theorem fNamed : (Rows.jsonTellsRow.named == Tryz.prog.varsNamed 4) = true:=by kernel_rfl
theorem fHeard : Tryz.prog.stopsHeard = true:=by kernel_rfl
theorem fEnter : Tryz.prog.mayEnter = true:=by kernel_rfl
theorem fLaid : laidOutB Tryz.prog = true:=laid
theorem facts : joinedFacts Tryz.prog 4 Tryz.f4 Rows.jsonTellsSpec Rows.jsonTellsRow = true:=by
 unfold joinedFacts
 rw [fInPlace,fUnfollowed,fRecurses,fNamed,fHeard,fEnter,fLaid]
 kernel_rfl
theorem called : Tryz.prog.funcNamed Rows.jsonTellsRow.func = some 4:=by kernel_rfl
theorem instanceOf : Tryz.f4.isInstance Tryz.prog Rows.jsonTellsRow.origin Rows.jsonTellsRow.targs:=of_decide_eq_true (by kernel_rfl)
theorem wrapped : Tryz.f4.isWrapper Tryz.prog Rows.jsonTellsRow.wrapper Rows.jsonTellsRow.mainSum:=by unfold Func.isWrapper; first | (rw [if_pos (by decide +kernel)]; kernel_rfl) | (rw [if_neg (by decide +kernel)]; exact ⟨rfl,rfl⟩)
theorem over : Rows.jsonTellsRow.holds Tryz.pinned (OpenSpec.ofChange Rows.jsonTellsSpec) :=
 OpenClaim.holds_of_wide 4 Tryz.f4 rfl rfl rfl rfl rfl rfl rfl ⟨rfl,rfl,rfl,rfl,rfl⟩ rfl rfl rfl rfl rfl called Tryz.func4 facts instanceOf wrapped
  (fun os started H enc _=>lifted os started H enc)
theorem text : Rows.jsonTellsRow.wfByText (OpenSpec.ofChange Rows.jsonTellsSpec) = true:=by kernel_rfl
theorem main : Tryz.prog.mainIs = some (true, "28e0141fcdd68d581a27492604e0dcaa0c1c640671e1ff5e255c6d6f32a34f94".toList) := by kernel_rfl
theorem looksAt : true = Tryz.prog.looks []:=by kernel_rfl
theorem stands : ([9,35,3,5].all fun u=>!Tryz.prog.wantsStandIn u) = true:=by kernel_rfl
theorem goesL : Tryz.prog.funcs.toList.any Func.goes = false:=by kernel_rfl
theorem goes : false = Rows.jsonTellsRow.goesBy Tryz.prog:=Go.Rx.aM7 goesL _ rfl
theorem proved : Rows.JsonTellsCardSaid :=
 Claim7.holds_tied_plain_at .later [] [.data, .data, .data, .data, .sentinel, .sentinel, .pinned, .pinned] true (true, "28e0141fcdd68d581a27492604e0dcaa0c1c640671e1ff5e255c6d6f32a34f94") true over (fun _ h => by cases h) text (fun _ h => by cases h) jsonTells_row_tie rfl ⟨rfl, rfl⟩ main rfl
  (fun f fn hf hfn=>by
   obtain rfl : f = 4:=Option.some.inj (called.symm.trans hf) |>.symm
   obtain rfl : fn = Tryz.f4:=(Option.some.inj (Tryz.func4.symm.trans hfn)).symm
   exact ⟨looksAt,fun j t ht=>by
    rw [Tryz.params4] at ht
    have hm : t ∈ [9,35,3,5]:=by simpa using Array.mem_of_getElem? ht
    exact (show Tryz.prog.wantsStandIn t = false by simpa using List.all_eq_true.1 stands t hm)⟩)
  goes
#print axioms proved
end Go.Proofs.YthakklikgmcgdaaGreatDoor.jsonTells

/- The law RoleTells answers true at each input; its arguments read behind the call as before. Conditions: none. -/
import Derived.Test.YtpdnpfdbjoaemaaGreatDoorRows
import Derived.WalkKit
import Derived.ProofKit
import Derived.OpenShut
import Derived.SizedLaws
import Derived.LaidMore
import Derived.Lay
import Derived.SevenTiedAt
import Derived.Stop.Joined
import Derived.Test.YtpdnpfdbjoaemaaGreatDoorCards
import Derived.Test.YtpdnpfdbjoaemaaGreatDoorTie
import Derived.Test.YtpdnpfdbjoaemaaGreatDoorGoesNone
import Derived.Test.YtpdnpfdbjoaemaaGreatDoorQTK
import Derived.Test.YtpdnpfdbjoaemaaGreatDoorS2
namespace Go.Proofs.YtpdnpfdbjoaemaaGreatDoor.roleTells
open Go.ChangeShapes Go.WideShapes Go.ChangeAt Go.RowKit
theorem own : ownKnob Tryz.prog.godebug = none:=by kernel_rfl
theorem laid : laidOutB Tryz.prog = true:=by kernel_rfl
set_option maxRecDepth 100000 in
theorem lifted (os : Os) (started : os.Started) (H : Type) (enc : TypeId × Value → H) :
  ReturnsInHanded {} Tryz.checked os 3 .any (fun w args=>(Rows.roleTellsSpec.pre enc Tryz.prog Tryz.f3 Rows.roleTellsRow.domain false w args ∧ laidMetH Tryz.prog Rows.roleTellsRow.laid w) ∧ sizedMet enc Tryz.prog Tryz.f3 (OpenSpec.ofChange Rows.roleTellsSpec) false w args)
   (Rows.roleTellsSpec.post enc Tryz.prog Tryz.f3 false true false false):=by
 refine returnsInHanded_of_change_and (C:=Tryz.checked) (X:=fun w _=>laidMetH Tryz.prog Rows.roleTellsRow.laid w) (fun _ _ _ hh h=>h.of_heap hh) own started (by kernel_rfl) Tryz.func3
  (ChangeSpec.witness_shaped (enc:=enc) (C:=Tryz.checked) (os:=os) (X:=fun w _=>laidMetH Tryz.prog Rows.roleTellsRow.laid w) false (World.laidAll Tryz.prog os Rows.roleTellsRow.laid) #[.string ⟨#[]⟩,.slice none 0 0,.bool false,.int .i64 0,.int .u8 0,.agg #[.int .i64 0,.slice none 0 0]] 8 (World.laidAll_os _ _ _)
   (World.shaped_of_ZipB (by kernel_rfl) (by kernel_rfl)) (by kernel_rfl) (by kernel_rfl) (by kernel_rfl)
   (by rw [MakeChecks.laidMetH_plain _ _ _ (by kernel_rfl)]; exact laidMet_laidAll _ (by kernel_rfl) (by kernel_rfl))) ?_
 intro W base args ds gs before hval0 hW hcnd _ hL _
 have hval : ∀ (j : Nat) t v,Tryz.f3.params[j]? = some t → args[j]? = some v → Value.okWide Tryz.prog W .any base t v:=hval0
 have hW':=hW
 obtain ⟨p,q,hA0,hV,rfl,hfz,hnd⟩:=hW
 have hA : DataW.TrodAll enc Tryz.prog W 0 (fun _=>true) true Tryz.f3.params.toList args.toList ds p:=hA0
 rw [Tryz.params3] at hA hval
 obtain ⟨v0,vs0,d0,ds0,p0,q0,hargs,rfl,rfl,h0,r0⟩:=trodAll_cons hA
 obtain ⟨v1,vs1,d1,ds1,p1,q1,rfl,rfl,rfl,h1,r1⟩:=trodAll_cons r0
 obtain ⟨v2,vs2,d2,ds2,p2,q2,rfl,rfl,rfl,h2,r2⟩:=trodAll_cons r1
 obtain ⟨v3,vs3,d3,ds3,p3,q3,rfl,rfl,rfl,h3,r3⟩:=trodAll_cons r2
 obtain ⟨v4,vs4,d4,ds4,p4,q4,rfl,rfl,rfl,h4,r4⟩:=trodAll_cons r3
 obtain ⟨v5,vs5,d5,ds5,p5,q5,rfl,rfl,rfl,h5,r5⟩:=trodAll_cons r4
 obtain ⟨rfl,rfl,rfl⟩:=trodAll_nil r5
 obtain rfl : args = #[v0,v1,v2,v3,v4,v5]:=by cases args; simp_all
 obtain ⟨rfl,rfl⟩:=trodVars_none hV
 obtain ⟨s0,e0,hs0,hd0⟩:=Go.Fbs.arg_strD (κ:=Go.Fbs.sealedCtx W.heap) (h:=W.heap) Tryz.underlying9 (hval 0 9 v0 rfl rfl) h0
 obtain ⟨l1,e1,hl1,hw1⟩:=Go.Fbs.arg_ints (e:=2) Tryz.underlying22 Tryz.underlying2 (by kernel_rfl) (hval 1 22 v1 rfl rfl) h1
 obtain ⟨b2,e2⟩:=Go.Fbs.arg_bool (κ:=Go.Fbs.sealedCtx W.heap) (h:=W.heap) Tryz.underlying4 (hval 2 4 v2 rfl rfl) h2
 obtain ⟨n3,e3,hw3⟩:=Go.Fbs.arg_int (κ:=Go.Fbs.sealedCtx W.heap) (h:=W.heap) Tryz.underlying3 (hval 3 3 v3 rfl rfl) h3
 obtain ⟨n4,e4,hw4⟩:=Go.Fbs.arg_int (κ:=Go.Fbs.sealedCtx W.heap) (h:=W.heap) Tryz.underlying5 (hval 4 5 v4 rfl rfl) h4
 obtain ⟨x5,e5⟩:=Go.Fbs.arg_line25 (hval 5 25 v5 rfl rfl) h5
 have hF : Go.Fbs.F_entaillaw13_RoleTells [.str s0,.sl .ro (l1.map (Go.Fbs.V.int .i64)),.bool b2,.int .i64 n3,.int .u8 n4,Go.Fbs.linIW x5] = some (.bool true):=by
  exact Go.Fbs.FroleTells s0 l1 b2 n3 n4 x5
 refine (Go.Fbs.calls_stood Go.Fbs.ok_entaillaw13_RoleTells hF W (Go.Fbs.Reps.cons e0 (Go.Fbs.Reps.cons e1 (Go.Fbs.Reps.cons e2 (Go.Fbs.Reps.cons e3 (Go.Fbs.Reps.cons e4 (Go.Fbs.Reps.cons e5 Go.Fbs.Reps.nil)))))) (Go.Fbs.tab0_laidT hL)).mono fun e W' ⟨he,hg,hb⟩=>?_
 subst he
 exact ⟨_,rfl,Go.Fbs.post_old (pv:=[]) hW' (fun _ _ _=>(trodAll_cons_mk (shut_bool Tryz.underlying4 _) trodAll_mk0)) (fun sp hs=>(trodAll_cons_mk (Go.Fbs.again laid (by kernel_rfl) (of_decide_eq_true (by kernel_rfl)) h0 hb (fun x hx=>hs x (by simp [hx]))) (trodAll_cons_mk (Go.Fbs.again laid (by kernel_rfl) (of_decide_eq_true (by kernel_rfl)) h1 hb (fun x hx=>hs x (by simp [hx]))) (trodAll_cons_mk (Go.Fbs.again laid (by kernel_rfl) (of_decide_eq_true (by kernel_rfl)) h2 hb (fun x hx=>hs x (by simp [hx]))) (trodAll_cons_mk (Go.Fbs.again laid (by kernel_rfl) (of_decide_eq_true (by kernel_rfl)) h3 hb (fun x hx=>hs x (by simp [hx]))) (trodAll_cons_mk (Go.Fbs.again laid (by kernel_rfl) (of_decide_eq_true (by kernel_rfl)) h4 hb (fun x hx=>hs x (by simp [hx]))) (trodAll_cons_mk (Go.Fbs.again laid (by kernel_rfl) (of_decide_eq_true (by kernel_rfl)) h5 hb (fun x hx=>hs x (by simp [hx]))) trodAll_mk0))))))) (fun _ _=>rfl) (by simp) hg
  (ok_one (by kernel_rfl) rfl (okWide_bool_mk Tryz.underlying4 _))⟩
theorem fInPlace : (Rows.roleTellsRow.inPlace == Tryz.prog.inPlace 3) = true:=by kernel_rfl
theorem fUnfollowed : (Rows.roleTellsRow.unfollowed == Tryz.prog.unfollowed 3) = true:=by kernel_rfl
theorem fRecurses : (Rows.roleTellsRow.recurses == Tryz.prog.recurses 3) = true:=by kernel_rfl
theorem fNamed : (Rows.roleTellsRow.named == Tryz.prog.varsNamed 3) = true:=by kernel_rfl
theorem fHeard : Tryz.prog.stopsHeard = true:=by kernel_rfl
theorem fEnter : Tryz.prog.mayEnter = true:=by kernel_rfl
theorem fLaid : laidOutB Tryz.prog = true:=laid
theorem facts : joinedFacts Tryz.prog 3 Tryz.f3 Rows.roleTellsSpec Rows.roleTellsRow = true:=by
 unfold joinedFacts
 rw [fInPlace,fUnfollowed,fRecurses,fNamed,fHeard,fEnter,fLaid]
 kernel_rfl
theorem called : Tryz.prog.funcNamed Rows.roleTellsRow.func = some 3:=by kernel_rfl
theorem instanceOf : Tryz.f3.isInstance Tryz.prog Rows.roleTellsRow.origin Rows.roleTellsRow.targs:=of_decide_eq_true (by kernel_rfl)
theorem wrapped : Tryz.f3.isWrapper Tryz.prog Rows.roleTellsRow.wrapper Rows.roleTellsRow.mainSum:=by unfold Func.isWrapper; first | (rw [if_pos (by decide +kernel)]; kernel_rfl) | (rw [if_neg (by decide +kernel)]; exact ⟨rfl,rfl⟩)
theorem over : Rows.roleTellsRow.holds Tryz.pinned (OpenSpec.ofChange Rows.roleTellsSpec) :=
 OpenClaim.holds_of_wide 3 Tryz.f3 rfl rfl rfl rfl rfl rfl rfl ⟨rfl,rfl,rfl,rfl,rfl⟩ rfl rfl rfl rfl rfl called Tryz.func3 facts instanceOf wrapped
  (fun os started H enc _=>lifted os started H enc)
theorem text : Rows.roleTellsRow.wfByText (OpenSpec.ofChange Rows.roleTellsSpec) = true:=by kernel_rfl
theorem main : Tryz.prog.mainIs = some (true, "668fd0b40541ae816ba779a581f65c0f722e00e6df04be3f9073d1e247a7940e".toList) := by kernel_rfl
theorem looksAt : true = Tryz.prog.looks []:=by kernel_rfl
theorem stands : ([9,22,4,3,5,25].all fun u=>!Tryz.prog.wantsStandIn u) = true:=by kernel_rfl
theorem goesL : Tryz.prog.funcs.toList.any Func.goes = false:=by kernel_rfl
theorem goes : false = Rows.roleTellsRow.goesBy Tryz.prog:=Go.Rx.goesBy_none goesL _ rfl
theorem proved : Rows.RoleTellsCardSaid :=
 Claim7.holds_tied_plain_at .later [] [.data, .data, .data, .data, .sentinel, .sentinel, .pinned] true (true, "668fd0b40541ae816ba779a581f65c0f722e00e6df04be3f9073d1e247a7940e") true over (fun _ h => by cases h) text (fun _ h => by cases h) roleTells_row_tie rfl ⟨rfl, rfl⟩ main rfl
  (fun f fn hf hfn=>by
   obtain rfl : f = 3:=Option.some.inj (called.symm.trans hf) |>.symm
   obtain rfl : fn = Tryz.f3:=(Option.some.inj (Tryz.func3.symm.trans hfn)).symm
   exact ⟨looksAt,fun j t ht=>by
    rw [Tryz.params3] at ht
    have hm : t ∈ [9,22,4,3,5,25]:=by simpa using Array.mem_of_getElem? ht
    exact (show Tryz.prog.wantsStandIn t = false by simpa using List.all_eq_true.1 stands t hm)⟩)
  goes
#print axioms proved
end Go.Proofs.YtpdnpfdbjoaemaaGreatDoor.roleTells

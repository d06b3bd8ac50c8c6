/- The law RoleBack answers true at each input; its arguments read behind the call as before. Conditions: none. -/
import Derived.Test.YtpdnpfdbjoaemaaGreatDoorRows
import Derived.WalkKit
import Derived.ProofKit
import Derived.OpenShut
import Derived.SizedLaws
import Derived.LaidMore
import Derived.Lay
import Derived.SevenTiedAt
import Derived.Stop.Joined
import Derived.Test.YtpdnpfdbjoaemaaGreatDoorCards
import Derived.Test.YtpdnpfdbjoaemaaGreatDoorTie
import Derived.Test.YtpdnpfdbjoaemaaGreatDoorGoesNone
import Derived.Test.YtpdnpfdbjoaemaaGreatDoorQAA
import Derived.Test.YtpdnpfdbjoaemaaGreatDoorS2
import Derived.Deep.Slices
namespace Go.Proofs.YtpdnpfdbjoaemaaGreatDoor.roleBack
open Go.ChangeShapes Go.WideShapes Go.ChangeAt Go.RowKit
theorem own : ownKnob Tryz.prog.godebug = none:=by kernel_rfl
theorem laid : laidOutB Tryz.prog = true:=by kernel_rfl
set_option maxRecDepth 100000 in
theorem lifted (os : Os) (started : os.Started) (H : Type) (enc : TypeId × Value → H) :
  ReturnsInHanded {} Tryz.checked os 4 .any (fun w args=>(Rows.roleBackSpec.pre enc Tryz.prog Tryz.f4 Rows.roleBackRow.domain false w args ∧ laidMetH Tryz.prog Rows.roleBackRow.laid w) ∧ sizedMet enc Tryz.prog Tryz.f4 (OpenSpec.ofChange Rows.roleBackSpec) false w args)
   (Rows.roleBackSpec.post enc Tryz.prog Tryz.f4 false true false false):=by
 refine returnsInHanded_of_change_and (C:=Tryz.checked) (X:=fun w _=>laidMetH Tryz.prog Rows.roleBackRow.laid w) (fun _ _ _ hh h=>h.of_heap hh) own started (by kernel_rfl) Tryz.func4
  (ChangeSpec.witness_shaped (enc:=enc) (C:=Tryz.checked) (os:=os) (X:=fun w _=>laidMetH Tryz.prog Rows.roleBackRow.laid w) false (World.laidAll Tryz.prog os Rows.roleBackRow.laid) #[.slice none 0 0,.int .i64 0] 8 (World.laidAll_os _ _ _)
   (World.shaped_of_ZipB (by kernel_rfl) (by kernel_rfl)) (by kernel_rfl) (by kernel_rfl) (by kernel_rfl)
   (by rw [MakeChecks.laidMetH_plain _ _ _ (by kernel_rfl)]; exact laidMet_laidAll _ (by kernel_rfl) (by kernel_rfl))) ?_
 intro W base args ds gs before hval0 hW hcnd _ hL _
 have hval : ∀ (j : Nat) t v,Tryz.f4.params[j]? = some t → args[j]? = some v → Value.okWide Tryz.prog W .any base t v:=hval0
 have hW':=hW
 obtain ⟨p,q,hA0,hV,rfl,hfz,hnd⟩:=hW
 have hA : DataW.TrodAll enc Tryz.prog W 0 (fun _=>true) true Tryz.f4.params.toList args.toList ds p:=hA0
 rw [Tryz.params4] at hA hval
 obtain ⟨v0,vs0,d0,ds0,p0,q0,hargs,rfl,rfl,h0,r0⟩:=trodAll_cons hA
 obtain ⟨v1,vs1,d1,ds1,p1,q1,rfl,rfl,rfl,h1,r1⟩:=trodAll_cons r0
 obtain ⟨rfl,rfl,rfl⟩:=trodAll_nil r1
 obtain rfl : args = #[v0,v1]:=by cases args; simp_all
 obtain ⟨rfl,rfl⟩:=trodVars_none hV
 obtain ⟨l0,e0,hl0,hw0⟩:=Go.Fbs.arg_ints (e:=2) Tryz.underlying22 Tryz.underlying2 (by kernel_rfl) (hval 0 22 v0 rfl rfl) h0
 obtain ⟨n1,e1,hw1⟩:=Go.Fbs.arg_int (κ:=Go.Fbs.sealedCtx W.heap) (h:=W.heap) Tryz.underlying3 (hval 1 3 v1 rfl rfl) h1
 have hF : Go.Fbs.F_entaillaw13_RoleBack [.sl .ro (l0.map (Go.Fbs.V.int .i64)),.int .i64 n1] = some (.bool true):=by
  exact Go.Fbs.FroleBack l0 n1
 refine (Go.Fbs.calls_stood Go.Fbs.ok_entaillaw13_RoleBack hF W (Go.Fbs.Reps.cons e0 (Go.Fbs.Reps.cons e1 Go.Fbs.Reps.nil)) (Go.Fbs.tab0_laid hL)).mono fun e W' ⟨he,hg,hb⟩=>?_
 subst he
 exact ⟨_,rfl,Go.Fbs.post_old (pv:=[]) hW' (fun _ _ _=>(trodAll_cons_mk (shut_bool Tryz.underlying4 _) trodAll_mk0)) (fun sp hs=>(trodAll_cons_mk (Go.Fbs.again laid (by kernel_rfl) (of_decide_eq_true (by kernel_rfl)) h0 hb (fun x hx=>hs x (by simp [hx]))) (trodAll_cons_mk (Go.Fbs.again laid (by kernel_rfl) (of_decide_eq_true (by kernel_rfl)) h1 hb (fun x hx=>hs x (by simp [hx]))) trodAll_mk0))) (fun _ _=>rfl) (by simp) hg
  (ok_one (by kernel_rfl) rfl (okWide_bool_mk Tryz.underlying4 _))⟩
theorem fInPlace : (Rows.roleBackRow.inPlace == Tryz.prog.inPlace 4) = true:=by kernel_rfl
theorem fUnfollowed : (Rows.roleBackRow.unfollowed == Tryz.prog.unfollowed 4) = true:=by kernel_rfl
theorem fRecurses : (Rows.roleBackRow.recurses == Tryz.prog.recurses 4) = true:=by kernel_rfl
theorem fNamed : (Rows.roleBackRow.named == Tryz.prog.varsNamed 4) = true:=by kernel_rfl
theorem fHeard : Tryz.prog.stopsHeard = true:=by kernel_rfl
theorem fEnter : Tryz.prog.mayEnter = true:=by kernel_rfl
theorem fLaid : laidOutB Tryz.prog = true:=laid
theorem facts : joinedFacts Tryz.prog 4 Tryz.f4 Rows.roleBackSpec Rows.roleBackRow = true:=by
 unfold joinedFacts
 rw [fInPlace,fUnfollowed,fRecurses,fNamed,fHeard,fEnter,fLaid]
 kernel_rfl
theorem called : Tryz.prog.funcNamed Rows.roleBackRow.func = some 4:=by kernel_rfl
theorem instanceOf : Tryz.f4.isInstance Tryz.prog Rows.roleBackRow.origin Rows.roleBackRow.targs:=of_decide_eq_true (by kernel_rfl)
theorem wrapped : Tryz.f4.isWrapper Tryz.prog Rows.roleBackRow.wrapper Rows.roleBackRow.mainSum:=by unfold Func.isWrapper; first | (rw [if_pos (by decide +kernel)]; kernel_rfl) | (rw [if_neg (by decide +kernel)]; exact ⟨rfl,rfl⟩)
theorem over : Rows.roleBackRow.holds Tryz.pinned (OpenSpec.ofChange Rows.roleBackSpec) :=
 OpenClaim.holds_of_wide 4 Tryz.f4 rfl rfl rfl rfl rfl rfl rfl ⟨rfl,rfl,rfl,rfl,rfl⟩ rfl rfl rfl rfl rfl called Tryz.func4 facts instanceOf wrapped
  (fun os started H enc _=>lifted os started H enc)
theorem text : Rows.roleBackRow.wfByText (OpenSpec.ofChange Rows.roleBackSpec) = true:=by kernel_rfl
theorem main : Tryz.prog.mainIs = some (true, "668fd0b40541ae816ba779a581f65c0f722e00e6df04be3f9073d1e247a7940e".toList) := by kernel_rfl
theorem looksAt : true = Tryz.prog.looks []:=by kernel_rfl
theorem stands : ([22,3].all fun u=>!Tryz.prog.wantsStandIn u) = true:=by kernel_rfl
theorem goesL : Tryz.prog.funcs.toList.any Func.goes = false:=by kernel_rfl
theorem goes : false = Rows.roleBackRow.goesBy Tryz.prog:=Go.Rx.goesBy_none goesL _ rfl
theorem proved : Rows.RoleBackCardSaid :=
 Claim7.holds_tied_plain_at .later [] [.data, .data, .data, .data, .sentinel, .sentinel, .pinned] true (true, "668fd0b40541ae816ba779a581f65c0f722e00e6df04be3f9073d1e247a7940e") true over (fun _ h => by cases h) text (fun _ h => by cases h) roleBack_row_tie rfl ⟨rfl, rfl⟩ main rfl
  (fun f fn hf hfn=>by
   obtain rfl : f = 4:=Option.some.inj (called.symm.trans hf) |>.symm
   obtain rfl : fn = Tryz.f4:=(Option.some.inj (Tryz.func4.symm.trans hfn)).symm
   exact ⟨looksAt,fun j t ht=>by
    rw [Tryz.params4] at ht
    have hm : t ∈ [22,3]:=by simpa using Array.mem_of_getElem? ht
    exact (show Tryz.prog.wantsStandIn t = false by simpa using List.all_eq_true.1 stands t hm)⟩)
  goes
#print axioms proved
end Go.Proofs.YtpdnpfdbjoaemaaGreatDoor.roleBack

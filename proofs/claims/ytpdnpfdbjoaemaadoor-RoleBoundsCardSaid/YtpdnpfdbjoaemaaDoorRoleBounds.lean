/- The law RoleBounds answers true at each input; its arguments read behind the call as before. Conditions: none. -/
import Derived.Test.YtpdnpfdbjoaemaaDoorRows
import Derived.WalkKit
import Derived.ProofKit
import Derived.OpenShut
import Derived.SizedLaws
import Derived.LaidMore
import Derived.Lay
import Derived.SevenTiedAt
import Derived.Stop.Joined
import Derived.Test.YtpdnpfdbjoaemaaDoorCards
import Derived.Test.YtpdnpfdbjoaemaaDoorTie
import Derived.Test.YtpdnpfdbjoaemaaDoorGoesNone
import Derived.Test.YtpdnpfdbjoaemaaDoorQV
import Derived.Test.YtpdnpfdbjoaemaaDoorS2
namespace Go.Proofs.YtpdnpfdbjoaemaaDoor.roleBounds
open Go.ChangeShapes Go.WideShapes Go.ChangeAt Go.RowKit
theorem own : ownKnob Tryd.prog.godebug = none:=by kernel_rfl
theorem laid : laidOutB Tryd.prog = true:=by kernel_rfl
set_option maxRecDepth 100000 in
theorem lifted (os : Os) (started : os.Started) (H : Type) (enc : TypeId × Value → H) :
  ReturnsInHanded {} Tryd.checked os 3 .any (fun w args=>(Rows.roleBoundsSpec.pre enc Tryd.prog Tryd.f3 Rows.roleBoundsRow.domain false w args ∧ laidMetH Tryd.prog Rows.roleBoundsRow.laid w) ∧ sizedMet enc Tryd.prog Tryd.f3 (OpenSpec.ofChange Rows.roleBoundsSpec) false w args)
   (Rows.roleBoundsSpec.post enc Tryd.prog Tryd.f3 false true false false):=by
 refine returnsInHanded_of_change_and (C:=Tryd.checked) (X:=fun w _=>laidMetH Tryd.prog Rows.roleBoundsRow.laid w) (fun _ _ _ hh h=>h.of_heap hh) own started (by kernel_rfl) Tryd.func3
  (ChangeSpec.witness_shaped (enc:=enc) (C:=Tryd.checked) (os:=os) (X:=fun w _=>laidMetH Tryd.prog Rows.roleBoundsRow.laid w) false (World.laidAll Tryd.prog os Rows.roleBoundsRow.laid) #[.int .i64 0,.bool false] 8 (World.laidAll_os _ _ _)
   (World.shaped_of_ZipB (by kernel_rfl) (by kernel_rfl)) (by kernel_rfl) (by kernel_rfl) (by kernel_rfl)
   (by rw [MakeChecks.laidMetH_plain _ _ _ (by kernel_rfl)]; exact laidMet_laidAll _ (by kernel_rfl) (by kernel_rfl))) ?_
 intro W base args ds gs before hval0 hW hcnd _ hL _
 have hval : ∀ (j : Nat) t v,Tryd.f3.params[j]? = some t → args[j]? = some v → Value.okWide Tryd.prog W .any base t v:=hval0
 have hW':=hW
 obtain ⟨p,q,hA0,hV,rfl,hfz,hnd⟩:=hW
 have hA : DataW.TrodAll enc Tryd.prog W 0 (fun _=>true) true Tryd.f3.params.toList args.toList ds p:=hA0
 rw [Tryd.params3] at hA hval
 obtain ⟨v0,vs0,d0,ds0,p0,q0,hargs,rfl,rfl,h0,r0⟩:=trodAll_cons hA
 obtain ⟨v1,vs1,d1,ds1,p1,q1,rfl,rfl,rfl,h1,r1⟩:=trodAll_cons r0
 obtain ⟨rfl,rfl,rfl⟩:=trodAll_nil r1
 obtain rfl : args = #[v0,v1]:=by cases args; simp_all
 obtain ⟨rfl,rfl⟩:=trodVars_none hV
 obtain ⟨n0,e0,hw0⟩:=Go.Fbs.arg_int (κ:=Go.Fbs.sealedCtx W.heap) (h:=W.heap) Tryd.underlying3 (hval 0 3 v0 rfl rfl) h0
 obtain ⟨b1,e1⟩:=Go.Fbs.arg_bool (κ:=Go.Fbs.sealedCtx W.heap) (h:=W.heap) Tryd.underlying4 (hval 1 4 v1 rfl rfl) h1
 have hF : Go.Fbs.F_entaillaw13_RoleBounds [.int .i64 n0,.bool b1] = some (.bool true):=by
  rfl
 refine (Go.Fbs.calls_stood Go.Fbs.ok_entaillaw13_RoleBounds hF W (Go.Fbs.Reps.cons e0 (Go.Fbs.Reps.cons e1 Go.Fbs.Reps.nil))).mono fun e W' ⟨he,hg,hb⟩=>?_
 subst he
 exact ⟨_,rfl,Go.Fbs.post_old (pv:=[]) hW' (fun _ _ _=>(trodAll_cons_mk (shut_bool Tryd.underlying4 _) trodAll_mk0)) (fun sp hs=>(trodAll_cons_mk (Go.Fbs.again laid (by kernel_rfl) (of_decide_eq_true (by kernel_rfl)) h0 hb (fun x hx=>hs x (by simp [hx]))) (trodAll_cons_mk (Go.Fbs.again laid (by kernel_rfl) (of_decide_eq_true (by kernel_rfl)) h1 hb (fun x hx=>hs x (by simp [hx]))) trodAll_mk0))) (fun _ _=>rfl) (by simp) hg
  (ok_one (by kernel_rfl) rfl (okWide_bool_mk Tryd.underlying4 _))⟩
theorem fInPlace : (Rows.roleBoundsRow.inPlace == Tryd.prog.inPlace 3) = true:=by kernel_rfl
theorem fUnfollowed : (Rows.roleBoundsRow.unfollowed == Tryd.prog.unfollowed 3) = true:=by kernel_rfl
theorem fRecurses : (Rows.roleBoundsRow.recurses == Tryd.prog.recurses 3) = true:=by kernel_rfl
theorem fNamed : (Rows.roleBoundsRow.named == Tryd.prog.varsNamed 3) = true:=by kernel_rfl
theorem fHeard : Tryd.prog.stopsHeard = true:=by kernel_rfl
theorem fEnter : Tryd.prog.mayEnter = true:=by kernel_rfl
theorem fLaid : laidOutB Tryd.prog = true:=laid
theorem facts : joinedFacts Tryd.prog 3 Tryd.f3 Rows.roleBoundsSpec Rows.roleBoundsRow = true:=by
 unfold joinedFacts
 rw [fInPlace,fUnfollowed,fRecurses,fNamed,fHeard,fEnter,fLaid]
 kernel_rfl
theorem called : Tryd.prog.funcNamed Rows.roleBoundsRow.func = some 3:=by kernel_rfl
theorem instanceOf : Tryd.f3.isInstance Tryd.prog Rows.roleBoundsRow.origin Rows.roleBoundsRow.targs:=of_decide_eq_true (by kernel_rfl)
theorem wrapped : Tryd.f3.isWrapper Tryd.prog Rows.roleBoundsRow.wrapper Rows.roleBoundsRow.mainSum:=by unfold Func.isWrapper; first | (rw [if_pos (by decide +kernel)]; kernel_rfl) | (rw [if_neg (by decide +kernel)]; exact ⟨rfl,rfl⟩)
theorem over : Rows.roleBoundsRow.holds Tryd.pinned (OpenSpec.ofChange Rows.roleBoundsSpec) :=
 OpenClaim.holds_of_wide 3 Tryd.f3 rfl rfl rfl rfl rfl rfl rfl ⟨rfl,rfl,rfl,rfl,rfl⟩ rfl rfl rfl rfl rfl called Tryd.func3 facts instanceOf wrapped
  (fun os started H enc _=>lifted os started H enc)
theorem text : Rows.roleBoundsRow.wfByText (OpenSpec.ofChange Rows.roleBoundsSpec) = true:=by kernel_rfl
theorem main : Tryd.prog.mainIs = some (true, "ab82cca8fc9c229d361f40ef5d1f8cf32aada0cff14f56267acf37c6b60000f6".toList) := by kernel_rfl
theorem looksAt : true = Tryd.prog.looks []:=by kernel_rfl
theorem stands : ([3,4].all fun u=>!Tryd.prog.wantsStandIn u) = true:=by kernel_rfl
theorem goesL : Tryd.prog.funcs.toList.any Func.goes = false:=by kernel_rfl
theorem goes : false = Rows.roleBoundsRow.goesBy Tryd.prog:=Go.Rx.goesBy_none goesL _ rfl
theorem proved : Rows.RoleBoundsCardSaid :=
 Claim7.holds_tied_plain_at .later [] [.data, .data, .data, .data, .sentinel, .sentinel, .pinned] true (true, "ab82cca8fc9c229d361f40ef5d1f8cf32aada0cff14f56267acf37c6b60000f6") true over (fun _ h => by cases h) text (fun _ h => by cases h) roleBounds_row_tie rfl ⟨rfl, rfl⟩ main rfl
  (fun f fn hf hfn=>by
   obtain rfl : f = 3:=Option.some.inj (called.symm.trans hf) |>.symm
   obtain rfl : fn = Tryd.f3:=(Option.some.inj (Tryd.func3.symm.trans hfn)).symm
   exact ⟨looksAt,fun j t ht=>by
    rw [Tryd.params3] at ht
    have hm : t ∈ [3,4]:=by simpa using Array.mem_of_getElem? ht
    exact (show Tryd.prog.wantsStandIn t = false by simpa using List.all_eq_true.1 stands t hm)⟩)
  goes
#print axioms proved
end Go.Proofs.YtpdnpfdbjoaemaaDoor.roleBounds

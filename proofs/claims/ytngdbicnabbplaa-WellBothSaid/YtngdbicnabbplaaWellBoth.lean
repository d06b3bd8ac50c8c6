/- The law WellBoth answers true at each input; its arguments read behind the call as before. Conditions: none. -/
import Derived.Test.YtngdbicnabbplaaRows
import Derived.WalkKit
import Derived.ProofKit
import Derived.OpenShut
import Derived.SizedLaws
import Derived.Test.YtngdbicnabbplaaPW
import Derived.Test.YtngdbicnabbplaaS2
import Derived.Deep.Slices
namespace Go.Proofs.Ytngdbicnabbplaa.wellBoth
open Go.ChangeShapes Go.WideShapes Go.ChangeAt Go.RowKit
theorem own : ownKnob Try.prog.godebug = none:=by kernel_rfl
theorem laid : laidOutB Try.prog = true:=by kernel_rfl
set_option maxRecDepth 100000 in
theorem lifted (os : Os) (started : os.Started) (H : Type) (enc : TypeId × Value → H) :
  ReturnsInHanded {} Try.checked os 3 .any (Rows.wellBothSpec.pre6 enc Try.prog Try.f3 Rows.wellBothRow.domain false) (Rows.wellBothSpec.post enc Try.prog Try.f3 false true false false):=by
 refine returnsInHanded_of_change_sized (C:=Try.checked) own started (by kernel_rfl) Try.func3
  (ChangeSpec.witness6 (enc:=enc) (C:=Try.checked) false ⟨#[],#[.slice none 0 0,.slice none 0 0],[]⟩ 8 (by kernel_rfl) (by kernel_rfl) (by kernel_rfl) (by kernel_rfl)) ?_
 intro W base args ds gs before hval0 hW hcnd hsz _
 have hval : ∀ (j : Nat) t v,Try.f3.params[j]? = some t → args[j]? = some v → Value.okWide Try.prog W .any base t v:=hval0
 have hW':=hW
 obtain ⟨p,q,hA0,hV,rfl,hfz,hnd⟩:=hW
 have hA : DataW.TrodAll enc Try.prog W 0 (fun _=>true) true Try.f3.params.toList args.toList ds p:=hA0
 rw [Try.params3] at hA hval hsz
 obtain ⟨v0,vs0,d0,ds0,p0,q0,hargs,rfl,rfl,h0,r0⟩:=trodAll_cons hA
 obtain ⟨v1,vs1,d1,ds1,p1,q1,rfl,rfl,rfl,h1,r1⟩:=trodAll_cons r0
 obtain ⟨rfl,rfl,rfl⟩:=trodAll_nil r1
 obtain rfl : args = #[v0,v1]:=by cases args; simp_all
 obtain ⟨rfl,rfl⟩:=trodVars_none hV
 obtain ⟨l0,e0,hl0,hw0⟩:=Go.Fbs.aUd (e:=2) Try.underlying22 Try.underlying2 (by kernel_rfl) (hval 0 22 v0 rfl rfl) h0
 obtain ⟨l1,e1,hl1,hw1⟩:=Go.Fbs.aUd (e:=2) Try.underlying22 Try.underlying2 (by kernel_rfl) (hval 1 22 v1 rfl rfl) h1
 have hb0 : l0.length ≤ 140737488355328:=by
  rcases hl0 with h0 | ⟨es,sp,hd,hn⟩
  ·rw [h0]; exact Nat.zero_le _
  ·have hz:=sized_slice hsz (j:=0) (t:=22) (e:=2) rfl (by rw [hd]; rfl) Try.underlying22
   have hy : Try.checked.prog.bytesOf 2 = 8:=by kernel_rfl
   have:=reachBytes_lt
   rw [hy] at hz; omega
 have hb1 : l1.length ≤ 140737488355328:=by
  rcases hl1 with h0 | ⟨es,sp,hd,hn⟩
  ·rw [h0]; exact Nat.zero_le _
  ·have hz:=sized_slice hsz (j:=1) (t:=22) (e:=2) rfl (by rw [hd]; rfl) Try.underlying22
   have hy : Try.checked.prog.bytesOf 2 = 8:=by kernel_rfl
   have:=reachBytes_lt
   rw [hy] at hz; omega
 have hF : Go.Fbs.uR [.sl .ro (l0.map (Go.Fbs.V.int .i64)),.sl .ro (l1.map (Go.Fbs.V.int .i64))] = some (.bool true):=by
  exact Go.Fbs.b6w l0 l1
 refine (Go.Fbs.aXa Go.Fbs.aAs hF W (Go.Fbs.aJ.cons e0 (Go.Fbs.aJ.cons e1 Go.Fbs.aJ.nil)) Go.Fbs.aJw).mono fun e W' ⟨he,hg,hb⟩=>?_
 subst he
 exact ⟨_,rfl,Go.Fbs.b8c (pv:=[]) hW' (fun _ _ _=>(trodAll_cons_mk (shut_bool Try.underlying4 _) trodAll_mk0)) (fun sp hs=>(trodAll_cons_mk (Go.Fbs.again laid (by kernel_rfl) (of_decide_eq_true (by kernel_rfl)) h0 hb (fun x hx=>hs x (by simp [hx]))) (trodAll_cons_mk (Go.Fbs.again laid (by kernel_rfl) (of_decide_eq_true (by kernel_rfl)) h1 hb (fun x hx=>hs x (by simp [hx]))) trodAll_mk0))) (fun _ _=>rfl) (by simp) hg
  (ok_one (by kernel_rfl) rfl (okWide_bool_mk Try.underlying4 _))⟩
theorem over : Rows.wellBothRow.holds Try.pinned (OpenSpec.ofChange Rows.wellBothSpec) :=
 OpenClaim.holds_of_wide 3 Try.f3 rfl rfl rfl rfl rfl rfl rfl ⟨rfl,rfl,rfl,rfl,rfl⟩ rfl rfl rfl rfl rfl (by kernel_rfl) Try.func3 (by kernel_rfl)
  (of_decide_eq_true (by kernel_rfl)) (by unfold Func.isWrapper; first | (rw [if_pos (by decide +kernel)]; kernel_rfl) | (rw [if_neg (by decide +kernel)]; exact ⟨rfl,rfl⟩))
  (fun os started H enc _=>lifted os started H enc)
theorem proved : Rows.WellBothSaid :=
 over
#print axioms proved
end Go.Proofs.Ytngdbicnabbplaa.wellBoth

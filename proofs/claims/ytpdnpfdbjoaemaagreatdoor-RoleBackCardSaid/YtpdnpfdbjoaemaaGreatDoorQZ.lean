import Derived.Test.YtpdnpfdbjoaemaaGreatDoorQY
import Derived.Test.YtpdnpfdbjoaemaaGreatDoorS3
import Derived.Shelf.Strings.Builder1
set_option linter.unusedSimpArgs false
set_option linter.unusedVariables false
set_option linter.unusedSectionVars false
set_option maxRecDepth 100000
namespace Go.Fbs
open Go.Proofs Go.RowKit
def Emp (x : Value) : Prop:=x = .slice none 0 0 ∨ ∃ b off cap,x = .slice (some ⟨b,off,none⟩) 0 cap
theorem emp_of {κ : Ctx} {w : World} {x : Value} (r : Rep κ w.heap (.sl .ro []) x) : Emp x:=by
 rcases rep_sl r with ⟨_,hx,_⟩ | ⟨b,off,cap,sz,vs,_,_,_,_,_,hx⟩
 ·exact .inl hx
 ·exact .inr ⟨b,off,cap,hx⟩
theorem emp_rep {x : Value} (κ : Ctx) (h : Heap) (e : Emp x) : Rep κ h (.sl .ro []) x:=by
 rcases e with rfl | ⟨b,off,cap,rfl⟩
 ·exact .slnil _ fun i hi=>by cases hi
 ·exact .sl .ro [] b off cap 0 [] (fun i x hx=>by simp at hx) (fun e he=>by simp at he) rfl (fun i c x hc hx=>by simp at hx) (Nat.zero_le _) trivial
theorem emp_form {x : Value} (e : Emp x) : ∃ ad c,x = .slice ad 0 c:=by
 rcases e with rfl | ⟨b,off,cap,rfl⟩
 ·exact ⟨_,_,rfl⟩
 ·exact ⟨_,_,rfl⟩
theorem Bel.of {B : Nat} {a b : World} (h : Below B a b) : Bel B a b:=⟨h.os,h.output,h.size,h.block⟩
theorem bel_allocZ {B : Nat} {a w : World} (h : Bel B a w) (hB : B ≤ w.heap.size) (o : Obj) : Bel B a (w.alloc o):=h.trans (Stp.alloc hB o).bel
theorem string_calls0 (b : Nat) (w : World) (hbk : w.heap[b]? = some (.cells #[.pointer none,.slice none 0 0] 69 (0,0))) :
  Calls Tryz.prog 26 #[.pointer (some ⟨b,0,none⟩)] w fun e w'=>e = .returned (.string ⟨#[]⟩) ∧ Bel w.heap.size w w' :=
 (Any.Builder_String_nil Tryz.lays169 Tryz.Builder_Extra_169 w.heap.size b (.pointer none) w hbk).mono fun e w' ⟨h1,h2⟩=>⟨h1,Bel.of h2⟩
theorem parse_calls0 (w : World) (ht : Tab0 w.heap) : Calls Tryz.prog 9 #[.string ⟨#[]⟩] w fun e w'=>∃ ad c,e = .returned (.tuple #[.slice ad 0 c,.int .i64 0,.int .i64 0]) ∧ Emp (.slice ad 0 c) ∧ Bel w.heap.size w w':=by
 have hF : F_role_Parse [.str []] = some (.tup [.sl .ro [],.int .i64 0,.int .i64 0]):=by kernel_rfl
 refine ((ok_role_Parse.call _ _ hF).1 empty (sealedCtx w.heap) w [.string ⟨#[]⟩] (sealed_mem _ ht) (Reps.cons (.str []) Reps.nil)).mono ?_
 rintro e w' ⟨x,κ',rfl,hx,hv⟩
 cases hv with
 | tup _ xs hl hr =>
  match xs,hl with
  | [a,b,c],_ =>
   have h0:=emp_of (hr 0 _ a rfl rfl)
   have h1:=rep_int (hr 1 _ b rfl rfl)
   have h2:=rep_int (hr 2 _ c rfl rfl)
   subst h1 h2
   obtain ⟨ad,cp,rfl⟩:=emp_form h0
   exact ⟨ad,cp,rfl,h0,hx.os,hx.out.output,hx.out.size,fun i hi=>hx.le.same i hi sealed_owned⟩
theorem equal_calls0 {x y : Value} (hx : Emp x) (hy : Emp y) (w : World) (ht : Tab0 w.heap) : Calls Tryz.prog 27 #[x,y,.func (.func 28) #[] #[]] w fun e w'=>e = .returned (.bool true) ∧ Bel w.heap.size w w':=by
 have hF : F_EqualFunc [factsV [],factsV [],.func 28 []] = some (.bool true):=FequalFunc (Nat.zero_le _) fun o ho=>by simp at ho
 refine ((ok_slices_EqualFunc.call _ _ hF).1 empty (sealedCtx w.heap) w [x,y,.func (.func 28) #[] #[]] (sealed_mem _ ht) (Reps.cons (emp_rep _ _ hx) (Reps.cons (emp_rep _ _ hy) (Reps.cons (.func 28 [] [] rfl fun i c x h1 h2=>by simp at h1) Reps.nil)))).mono ?_
 rintro e w' ⟨x,κ',rfl,hx,hv⟩
 exact ⟨by rw [rep_bool hv],hx.os,hx.out.output,hx.out.size,fun i hi=>hx.le.same i hi sealed_owned⟩
theorem lt_of_some {h : Heap} {b : Nat} {o : Obj} (e : h[b]? = some o) : b < h.size:=(Array.getElem?_eq_some_iff.1 e).1
set_option maxHeartbeats 1600000 in
theorem text0_walk (ad : Option Addr) (c : Nat) (hE : Emp (.slice ad 0 c)) (w : World) (ht : Tab0 w.heap) : Calls Tryz.prog 13 #[.slice ad 0 c] w fun e w'=>e = .returned (.tuple #[.string ⟨#[]⟩,.bool true]) ∧ Bel w.heap.size w w':=by
 have hbk : (w.alloc (.cells #[.pointer none,.slice none 0 0] 69)).heap[w.heap.size]? = some (.cells #[.pointer none,.slice none 0 0] 69 (0,0)):=heap_alloc_new w _
 have hB0 : Bel w.heap.size w (w.alloc (.cells #[.pointer none,.slice none 0 0] 69)):=bel_allocZ (Bel.refl _ _) (Nat.le_refl _) _
 go_enter Tryz.func13,Tryz.ntmps13
 go_wp2
 refine wp_loop_rounds 1 ?_
 rw [rounds_succ]
 go_wp2_with (first
  | (go_at_call 26; refine (string_calls0 w.heap.size _ (by assumption)).mono ?_; rintro e w3 ⟨rfl,hb3⟩; have hk3:=(hb3.block w.heap.size (by first | (simp; done) | omega)).trans (by assumption : _ = some (Obj.cells #[.pointer none,.slice none 0 0] 69 (0,0))); have hB3 : Bel w.heap.size w w3:=Bel.trans (by assumption) (hb3.mono (by first | (simp; done) | omega)))
  | (go_at_call 9; refine (parse_calls0 _ (hB3.tab0 ht (Nat.le_refl _))).mono ?_; rintro e w2 ⟨ad2,c2,rfl,hE2,hb2⟩; have hk2:=(hb2.block w.heap.size (lt_of_some hk3)).trans hk3; have hB2:=hB3.trans (hb2.mono (Nat.le_of_lt (lt_of_some hk3))))
  | (go_at_call 27; refine (equal_calls0 hE2 hE _ (hB2.tab0 ht (Nat.le_refl _))).mono ?_; rintro e w4 ⟨rfl,hb4⟩; have hk4:=(hb4.block w.heap.size (lt_of_some hk2)).trans hk2; have hB4:=hB2.trans (hb4.mono (Nat.le_of_lt (lt_of_some hk2))); have hl4:=lt_of_some hk4))
 go_ret2
 exact ⟨rfl,by assumption⟩
def F_role_Text0 : Spec
 | [.sl .ro []]=>some (.tup [.str [],.bool true])
 | _=>none
theorem ok_role_Text0 : SpecL Tryz.prog n_role_Text F_role_Text0:=by
 refine ⟨⟨_,_,Tryz.func13,rfl,by kernel_rfl⟩,fun args v hv=>?_⟩
 unfold F_role_Text0 at hv
 split at hv <;> simp only [Option.some.injEq,reduceCtorEq] at hv
 subst hv
 refine ⟨fun m κ w xs k r=>?_,rfl⟩
 obtain ⟨x,ys,rfl,r1,r2⟩:=r.inv_cons
 obtain rfl:=r2.inv_nil
 have hE:=emp_of r1
 obtain ⟨ad,c,rfl⟩:=emp_form hE
 refine (text0_walk ad c hE w k.1.tbs.tab0).mono fun e w' ⟨he,hw⟩=>?_
 refine ⟨_,κ,he,⟨le_below hw.size hw.block,mem_below k hw.size hw.block,Nat.le_refl _,fun _ _ h=>h,hw.os,hw.output,hw.size⟩,.tup [.str [],.bool true] [.string ⟨#[]⟩,.bool true] rfl fun i c x hc hx=>?_⟩
 match i,hc,hx with
 | 0,hc,hx=>cases hc; cases hx; exact .str _
 | 1,hc,hx=>cases hc; cases hx; exact .bool _
theorem specL_orZ {P : Program} {f : FuncId} {F1 F2 : Spec} (a : SpecL P f F1) (b : SpecL P f F2) : SpecL P f fun args=>F1 args <|> F2 args:=by
 refine ⟨a.1,fun args v hF=>?_⟩
 cases h : F1 args with
 | some v1 =>
  have hF : (F1 args <|> F2 args) = some v:=hF
  rw [h] at hF
  have hv : some v1 = some v:=hF
  exact a.2 args v (by rw [h,hv])
 | none =>
  have hF : (F1 args <|> F2 args) = some v:=hF
  rw [h] at hF
  exact b.2 args v hF
noncomputable def F_role_Text : Spec:=fun args=>F_role_TextN args <|> F_role_Text0 args
theorem ok_role_Text : SpecL Tryz.prog n_role_Text F_role_Text:=specL_orZ ok_role_TextN ok_role_Text0
theorem Ftext1 {fs : List Fct} (h : okTx fs) : F_role_Text [factsV fs] = some (textV fs):=by
 unfold F_role_Text
 rw [Ftext h]
 rfl
theorem Ftext0 : F_role_Text [factsV []] = some (.tup [.str [],.bool true]):=by
 unfold F_role_Text
 have : F_role_TextN [factsV []] = none:=by
  cases h : F_role_TextN [factsV []] with
  | none=>rfl
  | some v =>
   obtain ⟨fs,e,hok,_⟩:=specOf_inv h
   simp only [List.cons.injEq,and_true] at e
   have:=factsV_inj e
   exact absurd this.symm hok.1
 rw [this]
 rfl
end Go.Fbs

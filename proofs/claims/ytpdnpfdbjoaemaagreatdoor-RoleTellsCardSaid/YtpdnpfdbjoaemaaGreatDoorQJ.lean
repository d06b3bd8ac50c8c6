import Derived.Test.YtpdnpfdbjoaemaaGreatDoorQI
import Derived.Test.YtpdnpfdbjoaemaaGreatDoorS2
import Derived.WalkSpells
import Derived.WalkSmall
import Derived.StillTactics
import Derived.OwnWalk
import Derived.Laws.Pointers
set_option linter.unusedSimpArgs false
set_option linter.unusedVariables false
set_option linter.unusedSectionVars false
set_option maxRecDepth 100000
namespace Go.Fbs
open Go.Proofs Go.RowKit Go.Shelf
attribute [local go_sem] Oper.semAt_some
structure Sam (W W' : World) : Prop where
 os : W'.os = W.os
 output : W'.output = W.output
 size : W.heap.size ≤ W'.heap.size
 same : ∀ b,b < W.heap.size → W'.heap[b]? = W.heap[b]?
theorem Sam.stp {B : Nat} {W W' : World} (h : Sam W W') (hB : B ≤ W.heap.size) : Stp B W W':=.all hB h.os h.output h.size h.same
theorem Sam.keeps {W W' : World} (h : Sam W W') : KeepsOthers W W':=keeps_all h.size h.same
theorem sam_of {κ κ' : Ctx} {w w' : World} (h : Ext κ w empty κ' w' empty) (ho : ∀ b,¬ owned κ b) : Sam w w' :=
 ⟨h.os,h.out.output,h.out.size,fun b hb=>h.le.same b hb (ho b)⟩
theorem Sam.tab0 {W W' : World} (h : Sam W W') (ht : Tab0 W.heap) : Tab0 W'.heap:=ht.same h.same
theorem Bel.tab0 {B : Nat} {a b : World} (h : Bel B a b) (ht : Tab0 a.heap) (hB : a.heap.size ≤ B) : Tab0 b.heap:=ht.same fun i hi=>h.block i (by omega)
theorem nctx_free {κ : Ctx} {n : Nat} {h : Heap} {G : Nat → Bool} : ∀ b,¬ owned (nctx κ n h G) b:=by
 rintro b (⟨l,hl⟩ | ⟨L,hL,_⟩)
 ·cases hl
 ·cases hL
theorem bare_calls (s : List UInt8) (hs : s.length ≤ 200000) (w : World) (ht : Tab0 w.heap) : Calls Tryz.prog 35 #[.string ⟨⟨s⟩⟩] w fun e w'=>e = .returned (.string ⟨⟨bareM s⟩⟩) ∧ Sam w w':=by
 have hF : F_line_bare [.str s] = some (.str (bareM s)):=if_pos (by unfold bigT; omega)
 refine ((ok_line_bare.call _ _ hF).1 empty (sealedCtx w.heap) w _ (sealed_mem _ ht) (Reps.cons (.str _) Reps.nil)).mono ?_
 rintro e w' ⟨x,κ',he,hx,hv⟩
 exact ⟨by rw [he,rep_str hv],sam_of hx fun b=>sealed_owned⟩
theorem wrong_calls (s : List UInt8) (hs : s.length ≤ 200000) (w : World) (ht : Tab0 w.heap) : Calls Tryz.prog 36 #[.string ⟨⟨s⟩⟩] w fun e w'=>e = .returned (.int .i64 (wrongI s)) ∧ Sam w w':=by
 have hF : F_line_wrong [.str s] = some (vI (wrongI s)):=if_pos (by unfold bigT; omega)
 refine ((ok_line_wrong.call _ _ hF).1 empty (sealedCtx w.heap) w _ (sealed_mem _ ht) (Reps.cons (.str _) Reps.nil)).mono ?_
 rintro e w' ⟨x,κ',he,hx,hv⟩
 exact ⟨by rw [he,rep_int hv],sam_of hx fun b=>sealed_owned⟩
theorem words_calls (κ : Ctx) (n : Nat) (G : Nat → Bool) (s : List UInt8) (k : Nat) (hs : s.length ≤ 200000) (hk : k ≤ 1000000) (w : World) (hn : n ≤ w.heap.size) (hG : ∀ b,G b = true → b < w.heap.size) (ht : Tab0 w.heap) :
  Calls Tryz.prog 37 #[.string ⟨⟨s⟩⟩,.int .i64 k] w fun e w'=>∃ x,e = .returned x ∧ Sam w w' ∧ Rep (nctx κ n w'.heap G) w'.heap (wrdsV (wordsM s k)) x:=by
 refine ((ok_line_words.call _ _ (Fwords hs hk)).1 empty (nctx κ n w.heap G) w _ (nctx_mem hn ht) (Reps.cons (.str _) (Reps.cons (.int _ _) Reps.nil))).mono ?_
 rintro e w' ⟨x,κ',he,hx,hv⟩
 exact ⟨x,he,sam_of hx nctx_free,nctx_after hn hx hG hv (wrdsV_plain _)⟩
def splitW (w : World) (s : List UInt8) : World:=((w.alloc (.cells #[.string ⟨⟨s⟩⟩] 9)).alloc (.cells #[.string ⟨#[10]⟩] 9)).alloc (.cells #[.int .i64 0] 3)
theorem splitseq_calls (s : List UInt8) (w : World) : Calls Tryz.prog 34 #[.string ⟨⟨s⟩⟩,.string ⟨#[10]⟩] w fun e w' =>
  e = .returned (.func (.func 69) #[] #[.pointer (some ⟨w.heap.size + 1,0,none⟩),.pointer (some ⟨w.heap.size,0,none⟩),.pointer (some ⟨w.heap.size + 2,0,none⟩)]) ∧ w' = splitW w s:=by
 have h52 : Calls Tryz.prog 52 #[.string ⟨⟨s⟩⟩,.string ⟨#[10]⟩,.int .i64 0] w fun e w' =>
  e = .returned (.func (.func 69) #[] #[.pointer (some ⟨w.heap.size + 1,0,none⟩),.pointer (some ⟨w.heap.size,0,none⟩),.pointer (some ⟨w.heap.size + 2,0,none⟩)]) ∧ w' = splitW w s:=by
  go_enter Tryz.func52,Tryz.ntmps52
  go_wp2
  go_ret
  exact ⟨rfl,rfl⟩
 go_enter Tryz.func34,Tryz.ntmps34
 go_wp2_with (go_at_call 52; refine h52.mono ?_; rintro e w' ⟨rfl,rfl⟩)
 go_ret
 exact ⟨rfl,rfl⟩
theorem count_calls (s : List UInt8) (w : World) : Calls Tryz.prog 33 #[.string ⟨⟨s⟩⟩,.string ⟨#[10]⟩] w fun e w'=>e = .returned (.int .i64 (Lib.countByte s 10)) ∧ w' = w:=Tryz.strings_Count_one ⟨⟨s⟩⟩ 10 w
theorem countByte_eq (s : List UInt8) : Lib.countByte s 10 = s.count 10:=rfl
end Go.Fbs

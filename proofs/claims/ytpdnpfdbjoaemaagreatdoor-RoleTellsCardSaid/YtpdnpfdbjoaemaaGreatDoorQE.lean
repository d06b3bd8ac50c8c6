import Derived.RangeFuncNested
import Derived.RangeFuncBound
import Derived.RangeFuncCalls
import Derived.RangeFuncLeaves
import Derived.Shelf.Abstract
import Derived.Shelf.RegionOpen
import Derived.WalkKit
import Derived.OwnWalkIn
import Derived.TacticsInMore
import Derived.LoopNIn
import Derived.LoopIn
import Derived.Test.YtpdnpfdbjoaemaaGreatDoorRows
import Derived.Test.YtpdnpfdbjoaemaaGreatDoorNShelf
import Derived.Test.YtpdnpfdbjoaemaaGreatDoorQC
import Derived.Test.YtpdnpfdbjoaemaaGreatDoorQD
set_option linter.unusedSimpArgs false
set_option linter.unusedVariables false
set_option linter.unusedSectionVars false
set_option maxRecDepth 100000
namespace Go.Fbs
open Go.Proofs Go.RowKit Go.Shelf
attribute [local go_sem] Oper.semAt_some
structure Boxes (h : Heap) (b : Nat) (r : List UInt8) : Prop where
 s : h[b]? = some (.cells #[.string ⟨⟨r⟩⟩] 9 (0,0))
 p : h[b + 1]? = some (.cells #[.string ⟨#[10]⟩] 9 (0,0))
 v : h[b + 2]? = some (.cells #[.int .i64 0] 3 (0,0))
theorem idx_none : ∀ {r : List UInt8},(∀ c ∈ r,c ≠ 10) → Lib.indexByte r 10 = -1
 | [],_=>rfl
 | c :: r,h=>by
  have hc : (c == 10) = false:=by simpa using h c List.mem_cons_self
  unfold Lib.indexByte
  rw [hc,idx_none fun d hd=>h d (List.mem_cons_of_mem _ hd)]
  rfl
theorem idx_some : ∀ {p r : List UInt8},(∀ c ∈ p,c ≠ 10) → Lib.indexByte (p ++ 10 :: r) 10 = p.length
 | [],r,_=>rfl
 | c :: p,r,h=>by
  have hc : (c == 10) = false:=by simpa using h c List.mem_cons_self
  have ih:=idx_some (r:=r) fun d hd=>h d (List.mem_cons_of_mem _ hd)
  rw [List.cons_append]
  unfold Lib.indexByte
  rw [hc,ih]
  have h9 : (((p.length : Nat) : Int) == -1) = false:=by simp
  rw [h9]
  simp only [Bool.false_eq_true,if_false,List.length_cons]
  omega
theorem piece_split : ∀ r : List UInt8,(∀ c ∈ r,c ≠ 10) ∨ ∃ p q,r = p ++ 10 :: q ∧ ∀ c ∈ p,c ≠ 10
 | []=>.inl fun c hc=>by simp at hc
 | c :: r=>by
  by_cases hc : c = 10
  ·exact .inr ⟨[],r,by rw [hc]; rfl,fun d hd=>by simp at hd⟩
  ·rcases piece_split r with h | ⟨p,q,rfl,h⟩
   ·exact .inl fun d hd=>by
     rcases List.mem_cons.1 hd with rfl | hd
     ·exact hc
     ·exact h d hd
   ·exact .inr ⟨c :: p,q,rfl,fun d hd=>by
     rcases List.mem_cons.1 hd with rfl | hd
     ·exact hc
     ·exact h d hd⟩
theorem pieces_one : ∀ {r : List UInt8},(∀ c ∈ r,c ≠ 10) → pieces r = [r]
 | [],_=>rfl
 | c :: r,h=>by
  unfold pieces
  rw [if_neg (h c List.mem_cons_self),pieces_one fun d hd=>h d (List.mem_cons_of_mem _ hd)]
def strLen (w : World) (b : Nat) : Nat:=match w.cell? ⟨b,0,none⟩ with | some (.string s)=>s.size | _=>0
theorem cut_head (p q : List UInt8) : (⟨⟨p ++ 10 :: q⟩⟩ : ByteArray).extract 0 p.length = ⟨⟨p⟩⟩:=by
 apply ByteArray.ext
 simp [ByteArray.data_extract]
theorem cut_tail (p q : List UInt8) : (⟨⟨p ++ 10 :: q⟩⟩ : ByteArray).extract (p.length + 1) (p.length + (q.length + 1)) = ⟨⟨q⟩⟩:=by
 apply ByteArray.ext
 simp only [ByteArray.data_extract]
 apply Array.ext'
 simp
 rw [List.take_of_length_le (by omega)]
theorem boxes_next {W : World} {b : Nat} {r : List UInt8} (h : Boxes W.heap b r) (q : List UInt8) : Boxes (W.setCell ⟨b,0,none⟩ (.string ⟨⟨q⟩⟩)).heap b q ∧ strLen (W.setCell ⟨b,0,none⟩ (.string ⟨⟨q⟩⟩)) b = q.length:=by
 obtain ⟨g2,g1⟩:=setCells_heap b 9 [.string ⟨⟨q⟩⟩] 0 W ⟨[.string ⟨⟨r⟩⟩]⟩ h.s (by simp)
 have hsc : W.setCells b 0 [.string ⟨⟨q⟩⟩] = W.setCell ⟨b,0,none⟩ (.string ⟨⟨q⟩⟩):=rfl
 rw [hsc] at g1 g2
 have hs : (W.setCell ⟨b,0,none⟩ (.string ⟨⟨q⟩⟩)).heap[b]? = some (.cells #[.string ⟨⟨q⟩⟩] 9 (0,0)):=by rw [g2]; rfl
 refine ⟨⟨hs,by rw [g1.same _ (by omega)]; exact h.p,by rw [g1.same _ (by omega)]; exact h.v⟩,?_⟩
 unfold strLen
 rw [Lib.cell_of_heap hs]
 simp [ByteArray.size]
set_option maxHeartbeats 1600000 in
theorem split_run (l b : Nat) (J : List (List UInt8) → World → Prop) (Jx : World → Prop) (hJs : ∀ pre W v,J pre W → J pre (W.setCell ⟨b,0,none⟩ v))
  (s : List UInt8) (hY : ∀ pre x W r,pre ++ [x] <+: pieces s → J pre W → Boxes W.heap b r → YieldAt Fence.wide 3 Tryz.prog l #[.string ⟨⟨x⟩⟩] W fun e W'=>(e = .returned (.bool true) ∧ J (pre ++ [x]) W' ∧ Boxes W'.heap b r) ∨ (e = .returned (.bool false) ∧ Jx W'))
  (W : World) (h0 : J [] W) (hB : Boxes W.heap b s) (hlen : s.length ≤ 200000) :
  CallsIn Fence.wide 4 Tryz.prog 69 #[.func (.yield l) #[] #[],.pointer (some ⟨b + 1,0,none⟩),.pointer (some ⟨b,0,none⟩),.pointer (some ⟨b + 2,0,none⟩)] W fun e W' =>
   (∃ v,e = .returned v) ∧ ((∃ r,J (pieces s) W' ∧ Boxes W'.heap b r) ∨ Jx W'):=by
 refine callsIn_of_wp Tryz.func69 rfl trivial ?_ rfl
 simp only [Tryz.ntmps69,List.size_toArray,List.length_cons,List.length_nil,Nat.reduceAdd,Nat.reduceSub,Array.replicate_succ,Array.replicate_zero,List.push_toArray,List.append_toArray,List.nil_append,List.cons_append]
 have k1 : W.cell? ⟨b + 1,0,none⟩ = some (.string ⟨#[10]⟩):=by rw [Lib.cell_of_heap hB.p]; rfl
 gi_wp2
 gi_loopw [] (fun wr=>∃ (pre : List (List UInt8)) (r : List UInt8),Boxes wr.heap b r ∧ J pre wr ∧ pieces s = pre ++ pieces r ∧ r.length ≤ 200000) (fun wr=>strLen wr b)
 case atStart=>exact ⟨[],s,hB,h0,rfl,hlen⟩
 case round =>
  obtain ⟨pre,r,hb,hj,hp,hl⟩:=hrel
  have c0 : wr.cell? ⟨b,0,none⟩ = some (.string ⟨⟨r⟩⟩):=by rw [Lib.cell_of_heap hb.s]; rfl
  have c1 : wr.cell? ⟨b + 1,0,none⟩ = some (.string ⟨#[10]⟩):=by rw [Lib.cell_of_heap hb.p]; rfl
  have c2 : wr.cell? ⟨b + 2,0,none⟩ = some (.int .i64 0):=by rw [Lib.cell_of_heap hb.v]; rfl
  rcases piece_split r with hn | ⟨p,q,rfl,hn⟩
  ·have hidx:=idx_none hn
   obtain ⟨fn,tmps,assign,body,hy,hR⟩:=hY pre r wr r ⟨[],by rw [hp,pieces_one hn]; simp⟩ hj hb
   gi_wp2_with (refine ⟨trivial,?_⟩; gi_at_call 51; refine (callsIn_wide.2 (Tryz.strings_Index_one ⟨⟨r⟩⟩ 10 _)).mono ?_; rintro e w' ⟨rfl,rfl⟩; simp only [hidx])
   refine hR.mono ?_
   rintro e W3 (⟨rfl,hJ3,hk3⟩ | ⟨rfl,hJx3⟩)
   ·gi_wp2
    go_end0
    exact ⟨⟨_,rfl⟩,.inl ⟨r,by rw [hp,pieces_one hn]; exact hJ3,hk3⟩⟩
   ·gi_wp2
    go_end0
    exact ⟨⟨_,rfl⟩,.inr hJx3⟩
  ·have hidx:=idx_some (r:=q) hn
   obtain ⟨fn,tmps,assign,body,hy,hR⟩:=hY pre p wr (p ++ 10 :: q) ⟨pieces q,by rw [hp,pieces_line hn]; simp⟩ hj hb
   have hl2 : p.length + (q.length + 1) ≤ 200000:=by simpa using hl
   have i0 : (0 : Int) ≤ (p.length : Int):=Int.natCast_nonneg _
   have e1:=cut_head p q
   have e2:=cut_tail p q
   gi_wp2_with (refine ⟨trivial,?_⟩; gi_at_call 51; refine (callsIn_wide.2 (Tryz.strings_Index_one ⟨⟨p ++ 10 :: q⟩⟩ 10 _)).mono ?_; rintro e w' ⟨rfl,rfl⟩; simp only [hidx])
   refine hR.mono ?_
   rintro e W3 (⟨rfl,hJ3,hk3⟩ | ⟨rfl,hJx3⟩)
   ·have d0 : W3.cell? ⟨b,0,none⟩ = some (.string ⟨⟨p ++ 10 :: q⟩⟩):=by rw [Lib.cell_of_heap hk3.s]; rfl
    have d1 : W3.cell? ⟨b + 1,0,none⟩ = some (.string ⟨#[10]⟩):=by rw [Lib.cell_of_heap hk3.p]; rfl
    have df : W3.frozen? ⟨b,0,none⟩ = false:=Lib.frozen_of_heap hk3.s 0
    have hnew:=boxes_next hk3 q
    have hJ4:=hJs _ _ (.string ⟨⟨q⟩⟩) hJ3
    gi_wp2
    go_roundw
    case rel=>exact ⟨pre ++ [p],q,hnew.1,hJ4,by rw [hp,pieces_line hn,List.append_assoc]; rfl,by omega⟩
    case measure =>
     rw [hnew.2]
     unfold strLen
     rw [c0]
     simp only [ByteArray.size]
     simp
     omega
   ·gi_wp2
    refine bodyPost_ret (results_none rfl _ _ _) rfl ?_
    exact ⟨⟨_,rfl⟩,.inr hJx3⟩
end Go.Fbs

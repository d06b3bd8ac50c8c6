import Derived.Test.YtpnflpbamlbpeaaGreatDoorVL
import Derived.Test.YtpnflpbamlbpeaaGreatDoorVShelfA
import Derived.Test.YtpnflpbamlbpeaaGreatDoorS2
import Derived.Shelf.Strings.Builder1
import Derived.Shelf.Strings.OnBuilder
import Derived.Below
import Derived.WalkKit
import Derived.WalkSpells
import Derived.WalkSmall
import Derived.StillTactics
import Derived.OwnWalk
import Derived.Laws.Pointers
import Derived.Laws.OwnMore
import Derived.Deep.RegionHeld3
import Derived.Deep.RegionLaw
import Derived.StillTailTactics
import Derived.Deep.AppendLies
set_option linter.unusedSimpArgs false
set_option linter.unusedVariables false
set_option linter.unusedSectionVars false
set_option maxRecDepth 100000
namespace Go.Fbs
open Go.Proofs Go.RowKit Go.Shelf Go.Sort
theorem flag_calls (b : Bool) (w : World) : Calls Tryz.prog 45 #[.bool b] w fun e w'=>e = .returned (.int .i64 (flagI b)) ∧ w' = w:=by
 go_enter Tryz.func45,Tryz.ntmps45
 go_wp2
 all_goals go_ret
 all_goals exact ⟨by simp_all [flagI],rfl⟩
theorem compareI_calls (x y : Int) (w : World) : Calls Tryz.prog 32 #[.int .i64 x,.int .i64 y] w fun e w'=>e = .returned (.int .i64 (Lib.compareInt x y)) ∧ w' = w:=Any.cmp_Compare_int Tryz.lays122 x y w
theorem compareS_calls (x y : List UInt8) (w : World) : Calls Tryz.prog 34 #[.string ⟨⟨x⟩⟩,.string ⟨⟨y⟩⟩] w fun e w'=>e = .returned (.int .i64 (Lib.compareBytes x y)) ∧ w' = w:=Any.strings_Compare Tryz.lays106 ⟨⟨x⟩⟩ ⟨⟨y⟩⟩ w
def or3 (x y z : Int) : Int:=if x = 0 then if y = 0 then z else y else x
set_option maxHeartbeats 1000000 in
theorem or_calls (x y z : Int) (b off c : Nat) (w : World) (h0 : w.cell? ⟨b,off,none⟩ = some (.int .i64 x)) (h1 : w.cell? ⟨b,off + 1,none⟩ = some (.int .i64 y)) (h2 : w.cell? ⟨b,off + 2,none⟩ = some (.int .i64 z)) :
  Calls Tryz.prog 31 #[.slice (some ⟨b,off,none⟩) 3 c] w fun e w'=>e = .returned (.int .i64 (or3 x y z)) ∧ w' = w:=by
 go_enter Tryz.func31,Tryz.ntmps31
 go_wp2
 go_loopw [8] (fun i wr=>∃ k : Nat,i = .int .i64 k ∧ k ≤ 3 ∧ wr = w ∧ (1 ≤ k → x = 0) ∧ (2 ≤ k → y = 0) ∧ (3 ≤ k → z = 0)) (fun i _=>3 - (Go.Proofs.intOf i).toNat)
 case atStart=>exact ⟨0,rfl,by omega,rfl,fun h=>by omega,fun h=>by omega,fun h=>by omega⟩
 case round =>
  obtain ⟨k,rfl,hk,rfl,k1,k2,k3⟩:=hrel
  match k,hk,k1,k2,k3 with
  | 0,_,_,_,_ =>
   by_cases hx : x = 0
   ·go_wp2
    exact ⟨⟨1,rfl,by omega,trivial,fun _=>hx,fun h=>by omega,fun h=>by omega⟩,by simp [Go.Proofs.intOf]⟩
   ·go_wp2
    go_ret
    exact ⟨by simp [or3,hx],rfl⟩
  | 1,_,k1,_,_ =>
   have hx:=k1 (by omega)
   by_cases hy : y = 0
   ·go_wp2
    exact ⟨⟨2,rfl,by omega,trivial,fun _=>hx,fun _=>hy,fun h=>by omega⟩,by simp [Go.Proofs.intOf]⟩
   ·go_wp2
    go_ret
    exact ⟨by simp [or3,hx,hy],rfl⟩
  | 2,_,k1,k2,_ =>
   have hx:=k1 (by omega)
   have hy:=k2 (by omega)
   by_cases hz : z = 0
   ·go_wp2
    exact ⟨⟨3,rfl,by omega,trivial,fun _=>hx,fun _=>hy,fun _=>hz⟩,by simp [Go.Proofs.intOf]⟩
   ·go_wp2
    go_ret
    exact ⟨by simp [or3,hx,hy],rfl⟩
  | 3,_,k1,k2,k3 =>
   have hx:=k1 (by omega)
   have hy:=k2 (by omega)
   have hz:=k3 (by omega)
   go_wp2
   go_ret
   exact ⟨by simp [or3,hx,hy,hz],rfl⟩
theorem or3_cmp (x y : Ent) : or3 (Lib.compareInt (flagI x.dflt) (flagI y.dflt)) (Lib.compareInt x.kind y.kind) (Lib.compareBytes x.name y.name) = cmpE x y:=by
 unfold or3 cmpE lexC
 rfl
def encE (e : Ent) : List Value:=[.int .i64 e.kind,.bool e.dflt,.string ⟨⟨e.name⟩⟩,.int .i64 e.bits]
set_option maxHeartbeats 2000000 in
theorem compare_calls (x y : Ent) (w : World) : Calls Tryz.prog 19 #[.agg (encE x).toArray,.agg (encE y).toArray] w fun e w'=>e = .returned (.int .i64 (cmpE x y)) ∧ ∃ q os',w' = grow (w.drewN q) os':=by
 rw [← or3_cmp]
 obtain ⟨k1,d1,n1,b1⟩:=x
 obtain ⟨k2,d2,n2,b2⟩:=y
 dsimp only
 have f1:=fun W=>flag_calls d1 W
 have f2:=fun W=>flag_calls d2 W
 generalize flagI d1 = A at f1 ⊢
 generalize flagI d2 = B at f2 ⊢
 have f3:=fun W=>compareI_calls A B W
 have f4:=fun W=>compareI_calls k1 k2 W
 have f5:=fun W=>compareS_calls n1 n2 W
 generalize Lib.compareInt A B = C at f3 ⊢
 generalize Lib.compareInt k1 k2 = D at f4 ⊢
 generalize Lib.compareBytes n1 n2 = E at f5 ⊢
 have f6:=fun b W h0 h1 h2=>or_calls C D E b 0 3 W h0 h1 h2
 generalize or3 C D E = R at f6 ⊢
 unfold encE
 go_enter Tryz.func19,Tryz.ntmps19
 go_wp2
 obtain ⟨W,hW⟩ : ∃ W,W = ((w.alloc (.cells #[.int .i64 k1,.bool d1,.string ⟨⟨n1⟩⟩,.int .i64 b1] 28)).alloc (.cells #[.int .i64 k2,.bool d2,.string ⟨⟨n2⟩⟩,.int .i64 b2] 28)):=⟨_,rfl⟩
 have x0 : W.cell? ⟨w.heap.size,0,none⟩ = some (.int .i64 k1):=by rw [hW]; go_simp
 have x1 : W.cell? ⟨w.heap.size,1,none⟩ = some (.bool d1):=by rw [hW]; go_simp
 have x2 : W.cell? ⟨w.heap.size,2,none⟩ = some (.string ⟨⟨n1⟩⟩):=by rw [hW]; go_simp
 have y0 : W.cell? ⟨w.heap.size + 1,0,none⟩ = some (.int .i64 k2):=by rw [hW]; go_simp
 have y1 : W.cell? ⟨w.heap.size + 1,1,none⟩ = some (.bool d2):=by rw [hW]; go_simp
 have y2 : W.cell? ⟨w.heap.size + 1,2,none⟩ = some (.string ⟨⟨n2⟩⟩):=by rw [hW]; go_simp
 rw [← hW]
 refine wp_region_still_tail 17 (by kernel_rfl) (by kernel_rfl) ?_
 simp only [List.take_succ_cons,List.take_zero,List.drop_succ_cons,List.drop_zero]
 have hg : grow (w.drewN 1) #[.cells #[.int .i64 k1,.bool d1,.string ⟨⟨n1⟩⟩,.int .i64 b1] 28,.cells #[.int .i64 k2,.bool d2,.string ⟨⟨n2⟩⟩,.int .i64 b2] 28] = W.drew:=by
  rw [hW,alloc_eq_grow,alloc_eq_grow,grow_grow]; rfl
 change wpStill _ _ W.drew _ _ _
 replace x0 : W.drew.cell? ⟨w.heap.size,0,none⟩ = some (.int .i64 k1):=x0
 replace x1 : W.drew.cell? ⟨w.heap.size,1,none⟩ = some (.bool d1):=x1
 replace x2 : W.drew.cell? ⟨w.heap.size,2,none⟩ = some (.string ⟨⟨n1⟩⟩):=x2
 replace y0 : W.drew.cell? ⟨w.heap.size + 1,0,none⟩ = some (.int .i64 k2):=y0
 replace y1 : W.drew.cell? ⟨w.heap.size + 1,1,none⟩ = some (.bool d2):=y1
 replace y2 : W.drew.cell? ⟨w.heap.size + 1,2,none⟩ = some (.string ⟨⟨n2⟩⟩):=y2
 change wpStill _ _ W.drew (fun a'=>wpList _ _ _ _ a' W.drew) _ _
 clear hW
 generalize W.drew = W2 at hg x0 x1 x2 y0 y1 y2 ⊢
 still_step
 still_step
 still_call (f1 _)
 still_step
 still_step
 still_call (f2 _)
 still_call (f3 _)
 iterate 4 still_step
 still_call (f4 _)
 iterate 4 still_step
 still_call (f5 _)
 refine wpStill_nil ?_
 have hlist : ∀ j u,[Value.int .i64 C,.int .i64 D,.int .i64 E][j]? = some u → (W2.alloc (.cells #[.int .i64 C,.int .i64 D,.int .i64 E] 3)).cell? ((⟨W2.heap.size,0,none⟩ : Addr).add j) = some u :=
  World.news_of_block (cs:=#[.int .i64 C,.int .i64 D,.int .i64 E]) (heap_alloc_new W2 _)
 go_wp2_with (go_at_call 31; refine (f6 _ _ (hlist 0 _ rfl) (hlist 1 _ rfl) (hlist 2 _ rfl)).mono ?_; rintro e w' ⟨rfl,rfl⟩)
 go_ret
 exact ⟨rfl,1,_,by rw [← hg,alloc_eq_grow,grow_grow]⟩
end Go.Fbs

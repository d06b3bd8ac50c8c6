import Derived.Test.YtpnflpbamlbpeaaGreatDoorVZC
import Derived.Deep.RegionHeld3
set_option linter.unusedSimpArgs false
set_option linter.unusedVariables false
set_option linter.unusedSectionVars false
set_option maxRecDepth 100000
namespace Go.Fbs
open Go.Proofs Go.RowKit Go.Shelf Go.Sort Go.Maps
def or2 (x y : Int) : Int:=if x = 0 then y else x
set_option maxHeartbeats 1000000 in
theorem or2_calls (x y : Int) (b off c : Nat) (w : World) (h0 : w.cell? ⟨b,off,none⟩ = some (.int .i64 x)) (h1 : w.cell? ⟨b,off + 1,none⟩ = some (.int .i64 y)) :
  Calls Tryz.prog 31 #[.slice (some ⟨b,off,none⟩) 2 c] w fun e w'=>e = .returned (.int .i64 (or2 x y)) ∧ w' = w:=by
 go_enter Tryz.func31,Tryz.ntmps31
 go_wp2
 go_loopw [8] (fun i wr=>∃ k : Nat,i = .int .i64 k ∧ k ≤ 2 ∧ wr = w ∧ (1 ≤ k → x = 0) ∧ (2 ≤ k → y = 0)) (fun i _=>2 - (Go.Proofs.intOf i).toNat)
 case atStart=>exact ⟨0,rfl,by omega,rfl,fun h=>by omega,fun h=>by omega⟩
 case round =>
  obtain ⟨k,rfl,hk,rfl,k1,k2⟩:=hrel
  match k,hk,k1,k2 with
  | 0,_,_,_ =>
   by_cases hx : x = 0
   ·go_wp2
    exact ⟨⟨1,rfl,by omega,trivial,fun _=>hx,fun h=>by omega⟩,by simp [Go.Proofs.intOf]⟩
   ·go_wp2
    go_ret
    exact ⟨by simp [or2,hx],rfl⟩
  | 1,_,k1,_ =>
   have hx:=k1 (by omega)
   by_cases hy : y = 0
   ·go_wp2
    exact ⟨⟨2,rfl,by omega,trivial,fun _=>hx,fun _=>hy⟩,by simp [Go.Proofs.intOf]⟩
   ·go_wp2
    go_ret
    exact ⟨by simp [or2,hx],rfl⟩
  | 2,_,k1,k2 =>
   have hx:=k1 (by omega)
   have hy:=k2 (by omega)
   go_wp2
   go_ret
   exact ⟨by simp [or2,hx,hy],rfl⟩
def cmpN (x y : FR) : Int:=or2 (Lib.compareInt (min x.kind 3) (min y.kind 3)) (Lib.compareBytes x.name y.name)
set_option maxHeartbeats 4000000 in
theorem cmpN_calls (x y : FR) (w : World) : Calls Tryz.prog 30 #[.agg (encF x).toArray,.agg (encF y).toArray] w fun e w'=>e = .returned (.int .i64 (cmpN x y)) ∧ ∃ q os',w' = grow (w.drewN q) os':=by
 unfold cmpN
 have r1:=fun W=>rank_calls x W
 have r2:=fun W=>rank_calls y W
 generalize min x.kind 3 = A at r1 ⊢
 generalize min y.kind 3 = B at r2 ⊢
 have f3:=fun W=>compareI_calls A B W
 generalize Lib.compareInt A B = C at f3 ⊢
 have f5:=fun W=>compareS_calls x.name y.name W
 generalize Lib.compareBytes x.name y.name = D at f5 ⊢
 have f6:=fun b W h0 h1=>or2_calls C D b 0 2 W h0 h1
 generalize or2 C D = R at f6 ⊢
 obtain ⟨k,n,a1,n1,c1,o,g1,a2,n2,c2,t⟩:=x
 obtain ⟨k',n',a1',n1',c1',o',g1',a2',n2',c2',t'⟩:=y
 unfold encF at r1 r2 ⊢
 dsimp only at r1 r2 f5 ⊢
 go_enter Tryz.func30,Tryz.ntmps30
 go_wp2_with fail
 obtain ⟨W,hW⟩ : ∃ W,W = ((w.alloc (.cells #[.int .i64 k,.string ⟨⟨n⟩⟩,.slice a1 n1 c1,.string ⟨⟨o⟩⟩,.string ⟨⟨g1⟩⟩,.slice a2 n2 c2,.int .i64 t] 37)).alloc (.cells #[.int .i64 k',.string ⟨⟨n'⟩⟩,.slice a1' n1' c1',.string ⟨⟨o'⟩⟩,.string ⟨⟨g1'⟩⟩,.slice a2' n2' c2',.int .i64 t'] 37)):=⟨_,rfl⟩
 have x0 : W.cell? ⟨w.heap.size,0,none⟩ = some (.int .i64 k):=by rw [hW]; go_simp
 have x1 : W.cell? ⟨w.heap.size,1,none⟩ = some (.string ⟨⟨n⟩⟩):=by rw [hW]; go_simp
 have x2 : W.cell? ⟨w.heap.size,2,none⟩ = some (.slice a1 n1 c1):=by rw [hW]; go_simp
 have x3 : W.cell? ⟨w.heap.size,3,none⟩ = some (.string ⟨⟨o⟩⟩):=by rw [hW]; go_simp
 have x4 : W.cell? ⟨w.heap.size,4,none⟩ = some (.string ⟨⟨g1⟩⟩):=by rw [hW]; go_simp
 have x5 : W.cell? ⟨w.heap.size,5,none⟩ = some (.slice a2 n2 c2):=by rw [hW]; go_simp
 have x6 : W.cell? ⟨w.heap.size,6,none⟩ = some (.int .i64 t):=by rw [hW]; go_simp
 have y0 : W.cell? ⟨w.heap.size + 1,0,none⟩ = some (.int .i64 k'):=by rw [hW]; go_simp
 have y1 : W.cell? ⟨w.heap.size + 1,1,none⟩ = some (.string ⟨⟨n'⟩⟩):=by rw [hW]; go_simp
 have y2 : W.cell? ⟨w.heap.size + 1,2,none⟩ = some (.slice a1' n1' c1'):=by rw [hW]; go_simp
 have y3 : W.cell? ⟨w.heap.size + 1,3,none⟩ = some (.string ⟨⟨o'⟩⟩):=by rw [hW]; go_simp
 have y4 : W.cell? ⟨w.heap.size + 1,4,none⟩ = some (.string ⟨⟨g1'⟩⟩):=by rw [hW]; go_simp
 have y5 : W.cell? ⟨w.heap.size + 1,5,none⟩ = some (.slice a2' n2' c2'):=by rw [hW]; go_simp
 have y6 : W.cell? ⟨w.heap.size + 1,6,none⟩ = some (.int .i64 t'):=by rw [hW]; go_simp
 rw [← hW]
 have hWg : ∃ q os',W = grow (w.drewN q) os':=⟨0,_,by rw [hW,alloc_eq_grow,alloc_eq_grow,grow_grow]; rfl⟩
 clear hW
 have hd0 : Sam W W.drew:=⟨rfl,rfl,Nat.le_refl _,fun _ _=>rfl⟩
 have hd1 : ∀ o1,Sam W (W.alloc o1).drew:=fun o1=>(sam_alloc W o1).trans ⟨rfl,rfl,Nat.le_refl _,fun _ _=>rfl⟩
 have hd2 : ∀ o1 o2,Sam W ((W.alloc o1).alloc o2).drew:=fun o1 o2=>((sam_alloc W o1).trans (sam_alloc _ o2)).trans ⟨rfl,rfl,Nat.le_refl _,fun _ _=>rfl⟩
 have hd3 : ∀ o1 o2 o3,Sam W (((W.alloc o1).alloc o2).alloc o3).drew:=fun o1 o2 o3=>(((sam_alloc W o1).trans (sam_alloc _ o2)).trans (sam_alloc _ o3)).trans ⟨rfl,rfl,Nat.le_refl _,fun _ _=>rfl⟩
 generalize w.heap.size = B0 at x0 x1 x2 x3 x4 x5 x6 y0 y1 y2 y3 y4 y5 y6 ⊢
 go_region_held3 (fun w'=>w'.cell? ⟨B0,0,none⟩ = some (.int .i64 k) ∧ w'.cell? ⟨B0,1,none⟩ = some (.string ⟨⟨n⟩⟩) ∧ w'.cell? ⟨B0,2,none⟩ = some (.slice a1 n1 c1) ∧ w'.cell? ⟨B0,3,none⟩ = some (.string ⟨⟨o⟩⟩) ∧ w'.cell? ⟨B0,4,none⟩ = some (.string ⟨⟨g1⟩⟩) ∧ w'.cell? ⟨B0,5,none⟩ = some (.slice a2 n2 c2) ∧ w'.cell? ⟨B0,6,none⟩ = some (.int .i64 t)
   ∧ w'.cell? ⟨B0 + 1,0,none⟩ = some (.int .i64 k') ∧ w'.cell? ⟨B0 + 1,1,none⟩ = some (.string ⟨⟨n'⟩⟩) ∧ w'.cell? ⟨B0 + 1,2,none⟩ = some (.slice a1' n1' c1') ∧ w'.cell? ⟨B0 + 1,3,none⟩ = some (.string ⟨⟨o'⟩⟩) ∧ w'.cell? ⟨B0 + 1,4,none⟩ = some (.string ⟨⟨g1'⟩⟩) ∧ w'.cell? ⟨B0 + 1,5,none⟩ = some (.slice a2' n2' c2') ∧ w'.cell? ⟨B0 + 1,6,none⟩ = some (.int .i64 t'))
  (exact ⟨Sam.cell (W:=W) (by first | exact hd0 | exact hd1 _ | exact hd2 _ _ | exact hd3 _ _ _) x0,Sam.cell (W:=W) (by first | exact hd0 | exact hd1 _ | exact hd2 _ _ | exact hd3 _ _ _) x1,Sam.cell (W:=W) (by first | exact hd0 | exact hd1 _ | exact hd2 _ _ | exact hd3 _ _ _) x2,Sam.cell (W:=W) (by first | exact hd0 | exact hd1 _ | exact hd2 _ _ | exact hd3 _ _ _) x3,Sam.cell (W:=W) (by first | exact hd0 | exact hd1 _ | exact hd2 _ _ | exact hd3 _ _ _) x4,Sam.cell (W:=W) (by first | exact hd0 | exact hd1 _ | exact hd2 _ _ | exact hd3 _ _ _) x5,Sam.cell (W:=W) (by first | exact hd0 | exact hd1 _ | exact hd2 _ _ | exact hd3 _ _ _) x6,Sam.cell (W:=W) (by first | exact hd0 | exact hd1 _ | exact hd2 _ _ | exact hd3 _ _ _) y0,Sam.cell (W:=W) (by first | exact hd0 | exact hd1 _ | exact hd2 _ _ | exact hd3 _ _ _) y1,Sam.cell (W:=W) (by first | exact hd0 | exact hd1 _ | exact hd2 _ _ | exact hd3 _ _ _) y2,Sam.cell (W:=W) (by first | exact hd0 | exact hd1 _ | exact hd2 _ _ | exact hd3 _ _ _) y3,Sam.cell (W:=W) (by first | exact hd0 | exact hd1 _ | exact hd2 _ _ | exact hd3 _ _ _) y4,Sam.cell (W:=W) (by first | exact hd0 | exact hd1 _ | exact hd2 _ _ | exact hd3 _ _ _) y5,Sam.cell (W:=W) (by first | exact hd0 | exact hd1 _ | exact hd2 _ _ | exact hd3 _ _ _) y6⟩)
  (first
   | (go_at_call 33; refine (r1 _).mono ?_; rintro _ _ ⟨rfl,rfl⟩)
   | (go_at_call 33; refine (r2 _).mono ?_; rintro _ _ ⟨rfl,rfl⟩)
   | (go_at_call 32; refine (f3 _).mono ?_; rintro _ _ ⟨rfl,rfl⟩)
   | (go_at_call 34; refine (f5 _).mono ?_; rintro _ _ ⟨rfl,rfl⟩)
   | (go_at_call 31; refine (f6 _ _ (by go_simp) (by go_simp)).mono ?_; rintro _ _ ⟨rfl,rfl⟩))
 go_wp2
 go_ret
 obtain ⟨q,os,rfl⟩:=hWg
 exact ⟨rfl,q + 1,_,by rw [alloc_eq_grow,alloc_eq_grow,alloc_eq_grow,grow_grow,grow_grow,grow_grow]; rfl⟩
end Go.Fbs

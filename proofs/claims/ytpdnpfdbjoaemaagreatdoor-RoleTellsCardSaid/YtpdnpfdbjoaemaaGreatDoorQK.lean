import Derived.Test.YtpdnpfdbjoaemaaGreatDoorQJ
import Derived.Deep.RegionLaw
set_option linter.unusedSimpArgs false
set_option linter.unusedVariables false
set_option linter.unusedSectionVars false
set_option maxRecDepth 100000
namespace Go.Fbs
open Go.Proofs Go.RowKit Go.Shelf
attribute [local go_sem] Oper.semAt_some
theorem loadVar_one {P : Program} {w : World} {t : TypeId} {b : Nat} {v : Value} (h1 : aggT P t = some false) (h2 : w.cell? ⟨b,0,none⟩ = some v) : (loadVar t ⟨b,0,none⟩).run P w = .ok v w:=by
 simp [loadVar,aggT_run w h1,h2]
theorem results_cell3 {P : Program} {w : World} {fn : Func} {tmps : Array Value} {t u v ty1 ty2 ty3 b1 b2 b3 : Nat} {x y z : Value} (h : fn.results = #[.cell t ty1,.cell u ty2,.cell v ty3])
  (g1 : aggT P ty1 = some false) (g2 : aggT P ty2 = some false) (g3 : aggT P ty3 = some false)
  (e1 : tmps.getD t undef = .pointer (some ⟨b1,0,none⟩)) (e2 : tmps.getD u undef = .pointer (some ⟨b2,0,none⟩)) (e3 : tmps.getD v undef = .pointer (some ⟨b3,0,none⟩))
  (c1 : w.cell? ⟨b1,0,none⟩ = some x) (c2 : w.cell? ⟨b2,0,none⟩ = some y) (c3 : w.cell? ⟨b3,0,none⟩ = some z) :
  (results fn tmps).run P w = .ok (.tuple #[x,y,z]) w:=by
 have l1:=loadVar_one (P:=P) g1 c1
 have l2:=loadVar_one (P:=P) g2 c2
 have l3:=loadVar_one (P:=P) g3 c3
 simp only [Array.getD_eq_getD_getElem?] at e1 e2 e3
 simp [results,h,asAddr,e1,e2,e3,l1,l2,l3]
theorem agg61 : aggT Tryz.prog 61 = some false:=by kernel_rfl
theorem agg3 : aggT Tryz.prog 3 = some false:=by kernel_rfl
theorem agg32 : aggT Tryz.prog 32 = some false:=by kernel_rfl
theorem bel_alloc {B : Nat} {w X : World} (h : Bel B w X) (hb : B ≤ X.heap.size) (o : Obj) : Bel B w (X.alloc o) :=
 h.trans ⟨rfl,rfl,by simp,fun k hk=>heap_alloc_old X _ _ (by omega)⟩
theorem big_end {w : World} {tmps : Array Value} (e1 : tmps.getD 2 undef = .pointer (some ⟨w.heap.size,0,none⟩)) (e2 : tmps.getD 3 undef = .pointer (some ⟨w.heap.size + 1,0,none⟩)) (e3 : tmps.getD 4 undef = .pointer (some ⟨w.heap.size + 1 + 1,0,none⟩)) :
  bodyPostM Fence.wide 5 Tryz.prog Tryz.f20 (fun e W'=>e = .returned (.tuple #[.slice none 0 0,.int .i64 0,.int .i64 8]) ∧ Bel w.heap.size w W') .ret { tmps:=tmps,defers:=[] }
   (((w.alloc (.cells #[.slice none 0 0] 61)).alloc (.cells #[.int .i64 0] 3)).alloc (.cells #[.int .i64 8] 32)):=by
 refine ⟨_,results_cell3 (x:=.slice none 0 0) (y:=.int .i64 0) (z:=.int .i64 8) rfl agg61 agg3 agg32 e1 e2 e3 ?_ ?_ ?_,rfl,?_⟩
 ·go_simp
 ·go_simp
 ·go_simp
 ·exact bel_alloc (bel_alloc (bel_alloc (Bel.refl _ _) (Nat.le_refl _) _) (by simp) _) (by simp; omega) _
set_option maxHeartbeats 1600000 in
theorem lines_big (s : List UInt8) (h : 200000 < s.length ∨ 5000 < s.count 10) (w : World) : CallsIn Fence.wide 5 Tryz.prog 20 #[.string ⟨⟨s⟩⟩] w fun e W' =>
  e = .returned (.tuple #[.slice none 0 0,.int .i64 0,.int .i64 8]) ∧ Bel w.heap.size w W':=by
 refine callsIn_of_wp_marks Tryz.func20 rfl trivial ?_
 simp only [Tryz.ntmps20,List.size_toArray,List.length_cons,List.length_nil,Nat.reduceAdd,Nat.reduceSub,Array.replicate_succ,Array.replicate_zero,List.push_toArray,List.append_toArray,List.nil_append,List.cons_append]
 by_cases h1 : 200000 < s.length
 ·have i0 : (200000 : Int) < (s.length : Int):=by omega
  gi_wp2
  refine ⟨trivial,?_⟩
  gi_wp2
  exact big_end rfl rfl rfl
 ·have i0 : ¬ (200000 : Int) < (s.length : Int):=by omega
  have i1 : (5000 : Int) < ((s.count 10 : Nat) : Int):=by omega
  gi_wp2_with (refine ⟨trivial,?_⟩; gi_at_call 33; refine (callsIn_wide.2 (count_calls s _)).mono ?_; rintro e w' ⟨rfl,rfl⟩; simp only [countByte_eq])
  exact big_end rfl rfl rfl
end Go.Fbs

import Derived.Test.YtpnflpbamlbpeaaGreatDoorVZB
import Derived.Shelf.Strings.LastIndex
import Derived.Shelf.Strings.Count
import Derived.Shelf.Strings.Search3
import Derived.Deep.OwnRows
set_option linter.unusedSimpArgs false
set_option linter.unusedVariables false
set_option linter.unusedSectionVars false
set_option maxRecDepth 100000
namespace Go.Fbs
open Go.Proofs Go.RowKit Go.Shelf Go.Sort Go.Maps
theorem count_calls (w : World) : Calls Tryz.prog 132 #[.string ⟨⟨[47,97]⟩⟩,.string ⟨#[47]⟩] w fun e w'=>e = .returned (.int .i64 1) ∧ w' = w:=Any.strings_Count_one Tryz.lays138 ⟨⟨[47,97]⟩⟩ 47 w
theorem index_calls (w : World) : Calls Tryz.prog 133 #[.string ⟨⟨[47,97]⟩⟩,.string ⟨#[47]⟩] w fun e w'=>e = .returned (.int .i64 0) ∧ w' = w:=Any.strings_Index_one Tryz.lays143 ⟨⟨[47,97]⟩⟩ 47 w
set_option maxHeartbeats 3200000 in
theorem genSplit_calls (w : World) : Calls Tryz.prog 121 #[.string ⟨⟨[47,97]⟩⟩,.string ⟨#[47]⟩,.int .i64 0,.int .i64 (-1)] w fun e w'=>e = .returned (.slice (some ⟨w.heap.size,0,none⟩) 2 2) ∧ Sam w w' ∧ w'.cell? ⟨w.heap.size,0,none⟩ = some (.string ⟨⟨[]⟩⟩) ∧ w'.cell? ⟨w.heap.size,1,none⟩ = some (.string ⟨⟨[97]⟩⟩):=by
 have hmin : min (2 : Int) 3 = 2:=rfl
 have hmk : ∀ X : World,(Instr.makeSlice 35 (.int .i64 2) (.int .i64 2)).run Tryz.prog X = .ok (.slice (some ⟨X.heap.size,0,none⟩) 2 2) (X.alloc (.cells #[.string ⟨#[]⟩,.string ⟨#[]⟩] 9)):=fun X=>(run_make_row' 35 9 (.string ⟨#[]⟩) 16 Tryz.underlying35 (by kernel_rfl) rfl .i64 .i64 2 (by decide) (by decide) X).trans (by rw [show madeCells #[Value.string ⟨#[]⟩] 2 = #[.string ⟨#[]⟩,.string ⟨#[]⟩] from by kernel_rfl])
 have hx1 : (⟨⟨[47,97]⟩⟩ : ByteArray).extract 1 2 = ⟨⟨[97]⟩⟩:=by rfl
 have hx0 : (⟨⟨[47,97]⟩⟩ : ByteArray).extract 0 0 = ⟨⟨[]⟩⟩:=by rfl
 go_enter Tryz.func121,Tryz.ntmps121
 go_wp2_with (first | (go_at_call 132; refine (count_calls _).mono ?_; rintro _ _ ⟨rfl,h⟩; rw [h]; clear h))
 go_loopw [0,10,11] (fun s i m wr=>(s = .string ⟨⟨[47,97]⟩⟩ ∧ i = .int .i64 0 ∧ wr = w.alloc (.cells #[.string ⟨#[]⟩,.string ⟨#[]⟩] 9)) ∨ (s = .string ⟨⟨[97]⟩⟩ ∧ i = .int .i64 1 ∧ wr = w.alloc (.cells #[.string ByteArray.empty,.string ⟨#[]⟩] 9))) (fun s i m _=>1 - (Go.Proofs.intOf i).toNat)
 case atStart=>exact .inl ⟨rfl,rfl,rfl⟩
 case round =>
  rcases hrel with ⟨rfl,rfl,rfl⟩ | ⟨rfl,rfl,rfl⟩
  ·go_wp2_with (first | (go_at_call 133; refine (index_calls _).mono ?_; rintro _ _ ⟨rfl,h⟩; rw [h]; clear h))
   exact ⟨.inr ⟨rfl,rfl,trivial⟩,by simp [Go.Proofs.intOf]⟩
  ·go_wp2
   go_ret
   exact ⟨rfl,sam_alloc _ _,by go_simp; rfl,by go_simp⟩
theorem split_calls (w : World) : Calls Tryz.prog 97 #[.string ⟨⟨[47,97]⟩⟩,.string ⟨#[47]⟩] w fun e w'=>e = .returned (.slice (some ⟨w.heap.size,0,none⟩) 2 2) ∧ Sam w w' ∧ w'.cell? ⟨w.heap.size,0,none⟩ = some (.string ⟨⟨[]⟩⟩) ∧ w'.cell? ⟨w.heap.size,1,none⟩ = some (.string ⟨⟨[97]⟩⟩):=by
 go_enter Tryz.func97,Tryz.ntmps97
 go_wp2_with (go_at_call 121; refine (genSplit_calls _).mono ?_; rintro _ X ⟨rfl,h1,h2,h3⟩)
 go_ret
 exact ⟨rfl,h1,h2,h3⟩
theorem last_calls (w : World) : Calls Tryz.prog 68 #[.string ⟨⟨[47,97]⟩⟩,.string ⟨#[47]⟩] w fun e w'=>e = .returned (.int .i64 0) ∧ w' = w:=Any.strings_LastIndex_one Tryz.lays148 ⟨⟨[47,97]⟩⟩ ⟨#[47]⟩ rfl (by decide) w
theorem name_calls (w : World) : Calls Tryz.prog 46 #[.string ⟨⟨[97]⟩⟩] w fun e w'=>e = .returned (.bool true) ∧ Sam w w':=by
 refine ((ok_atom_Name.call [.str [97]] (.bool true) (by rfl)).1 empty (sealedCtx w.heap) w _ (sealed_mem _) (Reps.cons (.str _) Reps.nil)).mono ?_
 rintro e w' ⟨y,κ',he,hx,hv⟩
 exact ⟨by rw [he,rep_bool hv],sam_of hx fun b=>sealed_owned⟩
theorem c99_calls (w : World) : Calls Tryz.prog 99 #[.string ⟨⟨[97]⟩⟩] w fun e w'=>e = .returned (.bool false) ∧ Sam w w':=by
 go_enter Tryz.func99,Tryz.ntmps99
 go_wp2_with (go_at_call 46; refine (name_calls _).mono ?_; rintro _ X ⟨rfl,h⟩)
 go_ret
 exact ⟨rfl,h⟩
theorem index1_calls (w : World) (B : Nat) (h : w.cell? ⟨B,1,none⟩ = some (.string ⟨⟨[97]⟩⟩)) : Calls Tryz.prog 122 #[.slice (some ⟨B,1,none⟩) 1 1,.func (.func 99) #[] #[]] w fun e w'=>e = .returned (.int .i64 (-1)) ∧ Sam w w':=by
 go_enter Tryz.func122,Tryz.ntmps122
 go_wp2
 go_loopw [8] (fun i wr=>(i = .int .i64 0 ∧ wr = w) ∨ (i = .int .i64 1 ∧ Sam w wr)) (fun i _=>1 - (Go.Proofs.intOf i).toNat)
 case atStart=>exact .inl ⟨rfl,rfl⟩
 case round =>
  rcases hrel with ⟨rfl,rfl⟩ | ⟨rfl,h1⟩
  ·have hc:=fun W=>c99_calls W
   go_wp2_with (first | (go_at_call 99; refine (hc _).mono ?_; rintro _ X ⟨rfl,hX⟩) | (go_at_fn 99; refine (hc _).mono ?_; rintro _ X ⟨rfl,hX⟩))
   exact ⟨.inr ⟨rfl,hX⟩,by simp [Go.Proofs.intOf]⟩
  ·go_wp2
   go_ret
   exact ⟨rfl,h1⟩
theorem has1_calls (w : World) (B : Nat) (h : w.cell? ⟨B,1,none⟩ = some (.string ⟨⟨[97]⟩⟩)) : Calls Tryz.prog 98 #[.slice (some ⟨B,1,none⟩) 1 1,.func (.func 99) #[] #[]] w fun e w'=>e = .returned (.bool false) ∧ Sam w w':=by
 go_enter Tryz.func98,Tryz.ntmps98
 go_wp2_with (go_at_call 122; refine (index1_calls _ _ h).mono ?_; rintro _ X ⟨rfl,hX⟩)
 go_ret
 exact ⟨rfl,hX⟩
theorem path_calls (w : World) : Calls Tryz.prog 67 #[.string ⟨⟨[47,97]⟩⟩] w fun e w'=>e = .returned (.bool true) ∧ Sam w w':=by
 go_enter Tryz.func67,Tryz.ntmps67
 go_wp2_with (first
  | (go_at_call 97; refine (split_calls _).mono ?_; rintro _ X ⟨rfl,h1,h2,h3⟩)
  | (go_at_call 98; refine (has1_calls _ _ h3).mono ?_; rintro _ Y ⟨rfl,hY⟩))
 go_ret
 exact ⟨rfl,h1.trans hY⟩
theorem parent_calls (w : World) : Calls Tryz.prog 40 #[.string ⟨⟨[47,97]⟩⟩] w fun e w'=>e = .returned (.string ⟨⟨[47]⟩⟩) ∧ Sam w w':=by
 have hx1 : (⟨⟨[47,97]⟩⟩ : ByteArray).extract 0 1 = ⟨⟨[47]⟩⟩:=by rfl
 have hmax : max (0 : Int) 1 = 1:=rfl
 go_enter Tryz.func40,Tryz.ntmps40
 go_wp2_with (first
  | (go_at_call 67; refine (path_calls _).mono ?_; rintro _ X ⟨rfl,h1⟩)
  | (go_at_call 68; refine (last_calls _).mono ?_; rintro _ Y ⟨rfl,hY⟩; rw [hY]; clear hY))
 go_ret
 exact ⟨rfl,h1⟩
end Go.Fbs

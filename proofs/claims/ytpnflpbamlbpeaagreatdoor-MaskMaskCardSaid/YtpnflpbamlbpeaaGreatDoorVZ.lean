import Derived.Test.YtpnflpbamlbpeaaGreatDoorVX
import Derived.Test.YtpnflpbamlbpeaaGreatDoorVY
set_option linter.unusedSimpArgs false
set_option linter.unusedVariables false
set_option linter.unusedSectionVars false
set_option maxRecDepth 100000
namespace Go.Fbs
open Go.Proofs Go.RowKit Go.Shelf Go.Sort Go.Maps
theorem zero3T (w : World) : (zeroValue 3).run Tryz.prog w = .ok (.int .i64 0) w:=by go_simp
theorem tells_look {w : World} {B n : Nat} {S : List (List UInt8)} (h : TellsM w B n S) (s : List UInt8) (hs : s.length ≤ 1000) : (Instr.lookup 68 (.map (some B)) (.string ⟨⟨s⟩⟩) false).run Tryz.prog w = .ok (.int .i64 (if S.contains s then 1 else 0)) w:=by
 obtain ⟨D,w1,w2,w3⟩:=h
 have hkey:=Go.WideMaps.keyOf_string_mk (P:=Tryz.prog) (s:=⟨⟨s⟩⟩) Tryz.underlying9 (by show s.length ≤ _; unfold maxLen; omega)
 obtain ⟨c,hrun,hat,_⟩:=w1.lookup_int law9 Tryz.underlying68 Tryz.underlying3 (zero3T _) hkey
 have e:=w3 s
 unfold zeroD at e
 rw [show (.string s : Lit) = Lit.string (⟨⟨s⟩⟩ : ByteArray).data.toList from rfl,hat] at e
 rw [hrun]
 split at e
 ·rename_i hc
  rw [if_pos hc]
  unfold oneD at e
  simp at e
  rw [e]
 ·rename_i hc
  rw [if_neg hc]
  simp at e
  rw [e]
theorem c64_calls (x f : FR) (h : x.name ≠ f.name) {B : Nat} {fz : Nat × Nat} (w : World) (hB : w.heap[B]? = some (.cells (encF f).toArray 37 fz)) : Calls Tryz.prog 64 #[.agg (encF x).toArray,.pointer (some ⟨B,0,none⟩)] w fun e w'=>e = .returned (.bool false) ∧ w' = ((w.alloc (.cells (encF x).toArray 37)).alloc (.cells (encF x).toArray 37)).alloc (.cells (encF f).toArray 37):=by
 have hu:=fun W=>unlike_calls x f h W
 have hc : ∀ c v,(encF f)[c]? = some v → w.cell? ⟨B,c,none⟩ = some v:=fun c v hv=>by
  rw [Lib.cell_of_heap hB c]; simpa using hv
 have hlt : B < w.heap.size:=(Array.getElem?_eq_some_iff.1 hB).1
 obtain ⟨k,n,a1,n1,c1,o,g1,a2,n2,c2,t⟩:=f
 obtain ⟨k',n',a1',n1',c1',o',g1',a2',n2',c2',t'⟩:=x
 have d0:=hc 0 _ rfl
 have d1:=hc 1 _ rfl
 have d2:=hc 2 _ rfl
 have d3:=hc 3 _ rfl
 have d4:=hc 4 _ rfl
 have d5:=hc 5 _ rfl
 have d6:=hc 6 _ rfl
 clear hc hB
 unfold encF at hu ⊢
 dsimp only at h hu d0 d1 d2 d3 d4 d5 d6 ⊢
 go_enter Tryz.func64,Tryz.ntmps64
 go_wp2_with (go_at_call 65; refine (hu _).mono ?_; rintro _ _ ⟨rfl,rfl⟩)
 go_ret
 exact ⟨rfl,rfl⟩
def EntsAt (w : World) (f : FR) (E : List Ent) : Prop:=f.an = E.length ∧ (E = [] ∨ ∃ b off,f.aa = some ⟨b,off,none⟩ ∧ ∀ i e,E[i]? = some e → ∀ c v,(encE e)[c]? = some v → w.cell? ⟨b,off + i * 4 + c,none⟩ = some v)
def namesB (S1 S2 : List (List UInt8)) (f : FR) : Bool:=!isF f.kind || (S1.contains f.owner && S2.contains f.group)
set_option maxHeartbeats 3200000 in
theorem names_calls {B1 B2 B3 n : Nat} {S1 S2 : List (List UInt8)} {f : FR} {E : List Ent} {w : World} (m1 : TellsM w B1 n S1) (m2 : TellsM w B2 n S2) (hu : f.un = 0) (ho : f.owner.length ≤ 1000) (hg : f.group.length ≤ 1000)
  (hE : EntsAt w f E) (h24 : ∀ e ∈ E,e.kind ≠ 2 ∧ e.kind ≠ 4) (h200 : E.length ≤ 1000) : Calls Tryz.prog 66 #[.agg #[.map (some B1),.map (some B2),.map (some B3)],.agg (encF f).toArray] w fun e w'=>e = .returned (.bool (namesB S1 S2 f)) ∧ Sam w w':=by
 have hisf:=fun W=>isFile_calls f W
 obtain ⟨k,nm,a1,n1,c1,o,g,a2,n2,c2,t⟩:=f
 obtain ⟨hE1,hE2⟩:=hE
 unfold namesB
 unfold encF at hisf ⊢
 dsimp only at hu ho hg hisf hE1 hE2 ⊢
 subst hu hE1
 go_enter Tryz.func66,Tryz.ntmps66
 go_wp2
 obtain ⟨W,hW⟩ : ∃ W,W = (w.alloc (.cells #[.map (some B1),.map (some B2),.map (some B3)] 70)).alloc (.cells #[.int .i64 k,.string ⟨⟨nm⟩⟩,.slice a1 0 c1,.string ⟨⟨o⟩⟩,.string ⟨⟨g⟩⟩,.slice a2 E.length c2,.int .i64 t] 37):=⟨_,rfl⟩
 have x0 : W.cell? ⟨w.heap.size,0,none⟩ = some (.map (some B1)):=by rw [hW]; go_simp
 have x1 : W.cell? ⟨w.heap.size,1,none⟩ = some (.map (some B2)):=by rw [hW]; go_simp
 have x2 : W.cell? ⟨w.heap.size,2,none⟩ = some (.map (some B3)):=by rw [hW]; go_simp
 have y0 : W.cell? ⟨w.heap.size + 1,0,none⟩ = some (.int .i64 k):=by rw [hW]; go_simp
 have y1 : W.cell? ⟨w.heap.size + 1,1,none⟩ = some (.string ⟨⟨nm⟩⟩):=by rw [hW]; go_simp
 have y2 : W.cell? ⟨w.heap.size + 1,2,none⟩ = some (.slice a1 0 c1):=by rw [hW]; go_simp
 have y3 : W.cell? ⟨w.heap.size + 1,3,none⟩ = some (.string ⟨⟨o⟩⟩):=by rw [hW]; go_simp
 have y4 : W.cell? ⟨w.heap.size + 1,4,none⟩ = some (.string ⟨⟨g⟩⟩):=by rw [hW]; go_simp
 have y5 : W.cell? ⟨w.heap.size + 1,5,none⟩ = some (.slice a2 E.length c2):=by rw [hW]; go_simp
 have y6 : W.cell? ⟨w.heap.size + 1,6,none⟩ = some (.int .i64 t):=by rw [hW]; go_simp
 have n1 : TellsM W B1 n S1:=by rw [hW]; exact tells_alloc (tells_alloc m1 _) _
 have n2 : TellsM W B2 n S2:=by rw [hW]; exact tells_alloc (tells_alloc m2 _) _
 have hs : Sam w W:=by
  rw [hW]
  refine ⟨rfl,rfl,by simp; omega,fun b hb=>(heap_alloc_old _ _ (by simp; omega)).trans (heap_alloc_old _ _ hb)⟩
 have hz : W.heap.size = w.heap.size + 1 + 1:=by rw [hW]; simp
 rw [← hW]
 clear hW m1 m2
 go_loopw [12] (fun i wr=>i = .int .i64 0 ∧ wr = W) (fun _ _=>0)
 case atStart=>exact ⟨rfl,rfl⟩
 case round =>
  obtain ⟨rfl,rfl⟩:=hrel
  cases hf : isF k with
  | false =>
   rw [hf] at hisf
   go_wp2_with (go_at_call 39; refine (hisf _).mono ?_; rintro _ _ ⟨rfl,rfl⟩)
   go_ret
   exact ⟨by rw [hf]; rfl,hs.trans (sam_alloc _ _)⟩
  | true =>
   rw [hf] at hisf
   have key : ∀ X : World,Sam wr X → (X.cell? ⟨w.heap.size,0,none⟩ = some (.map (some B1))) ∧ X.cell? ⟨w.heap.size,1,none⟩ = some (.map (some B2)) ∧ X.cell? ⟨w.heap.size + 1,3,none⟩ = some (.string ⟨⟨o⟩⟩) ∧ X.cell? ⟨w.heap.size + 1,4,none⟩ = some (.string ⟨⟨g⟩⟩) ∧ X.cell? ⟨w.heap.size + 1,5,none⟩ = some (.slice a2 E.length c2) :=
    fun X h=>⟨h.cell x0,h.cell x1,h.cell y3,h.cell y4,h.cell y5⟩
   have hal : ∀ X : World,X = wr.alloc (.cells #[.int .i64 k,.string ⟨⟨nm⟩⟩,.slice a1 0 c1,.string ⟨⟨o⟩⟩,.string ⟨⟨g⟩⟩,.slice a2 E.length c2,.int .i64 t] 37) → Sam wr X ∧ TellsM X B1 n S1 ∧ TellsM X B2 n S2:=by
    rintro _ rfl
    exact ⟨⟨rfl,rfl,by simp,fun b hb=>heap_alloc_old _ _ hb⟩,tells_alloc n1 _,tells_alloc n2 _⟩
   have hend : ∀ X : World,Sam wr X → Sam w X:=fun X h=>hs.trans h
   cases hc1 : S1.contains o with
   | false =>
    go_wp2_with (go_at_call 39; refine (hisf _).mono ?_; rintro _ X ⟨rfl,hX⟩; obtain ⟨hX1,hX2,hX3⟩:=hal X hX; obtain ⟨k1,k2,k3,k4,k5⟩:=key X hX1; have l1:=tells_look hX2 o ho; rw [hc1,if_neg (by decide)] at l1; clear hX)
    go_ret
    exact ⟨by rw [hf,hc1]; rfl,hend _ hX1⟩
   | true =>
    cases hc2 : S2.contains g with
    | false =>
     go_wp2_with (go_at_call 39; refine (hisf _).mono ?_; rintro _ X ⟨rfl,hX⟩; obtain ⟨hX1,hX2,hX3⟩:=hal X hX; obtain ⟨k1,k2,k3,k4,k5⟩:=key X hX1; have l1:=tells_look hX2 o ho; rw [hc1,if_pos rfl] at l1; have l2:=tells_look hX3 g hg; rw [hc2,if_neg (by decide)] at l2; clear hX)
     go_ret
     exact ⟨by rw [hf,hc1,hc2]; rfl,hend _ hX1⟩
    | true =>
     go_wp2_with (go_at_call 39; refine (hisf _).mono ?_; rintro _ X ⟨rfl,hX⟩; obtain ⟨hX1,hX2,hX3⟩:=hal X hX; obtain ⟨k1,k2,k3,k4,k5⟩:=key X hX1; have l1:=tells_look hX2 o ho; rw [hc1,if_pos rfl] at l1; have l2:=tells_look hX3 g hg; rw [hc2,if_pos rfl] at l2; clear hX)
     clear l1 l2 hX3 hX2 key hal
     have hX4:=hs.trans hX1
     clear x0 x1 x2 y0 y1 y2 y3 y4 y5 y6 k1 k2 k3 k4 k5 n1 n2
     go_loopw [42] (fun i wr'=>∃ m : Nat,m ≤ E.length ∧ i = .int .i64 m ∧ Sam w wr') (fun i _=>E.length - (Go.Proofs.intOf i).toNat)
     case atStart=>exact ⟨0,Nat.zero_le _,rfl,hX4⟩
     case round =>
      obtain ⟨m,hm,rfl,hsr⟩:=hrel
      have hm0 : (0 : Int) ≤ (m : Int):=Int.natCast_nonneg _
      by_cases hmn : m < E.length
      ·have hm1 : (m : Int) < (E.length : Int):=by omega
       obtain ⟨e,he⟩ : ∃ e,E[m]? = some e:=⟨E[m],List.getElem?_eq_getElem hmn⟩
       obtain ⟨e2,e4⟩:=h24 e (List.mem_of_getElem? he)
       rcases hE2 with rfl | ⟨b,off,rfl,hcl⟩
       ·simp at hmn
       obtain ⟨ke,de,ne,be⟩:=e
       have z0:=hsr.cell (hcl m _ he 0 _ rfl)
       rw [Nat.add_zero] at z0
       have z1:=hsr.cell (hcl m _ he 1 _ rfl)
       have z2:=hsr.cell (hcl m _ he 2 _ rfl)
       have z3:=hsr.cell (hcl m _ he 3 _ rfl)
       dsimp only at e2 e4 z0 z1 z2 z3
       have b2 : (ke == 2) = false:=by simpa using e2
       have b4 : (ke == 4) = false:=by simpa using e4
       go_wp2
       exact ⟨⟨m + 1,by omega,by simp,hsr.trans (sam_alloc _ _)⟩,by simp [Go.Proofs.intOf]; omega⟩
      ·have hm1 : ¬ (m : Int) < (E.length : Int):=by omega
       go_wp2
       go_ret
       exact ⟨by show Ending.returned (.bool true) = _; simp [show o ∈ S1 by simpa using hc1,show g ∈ S2 by simpa using hc2],hsr⟩
end Go.Fbs

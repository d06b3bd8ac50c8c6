import Derived.Test.YtpnflpbamlbpeaaGreatDoorVW
set_option linter.unusedSimpArgs false
set_option linter.unusedVariables false
set_option linter.unusedSectionVars false
set_option maxRecDepth 100000
namespace Go.Fbs
open Go.Proofs Go.RowKit Go.Shelf Go.Sort Go.Maps
structure FCell (w : World) (b o : Nat) (p : Int × List UInt8) : Prop where
 c0 : w.cell? ⟨b,o,none⟩ = some (.int .i64 p.1)
 c1 : w.cell? ⟨b,o + 1,none⟩ = some (.string ⟨⟨p.2⟩⟩)
 c2 : ∃ a m c,w.cell? ⟨b,o + 2,none⟩ = some (.slice a m c)
 c3 : ∃ s,w.cell? ⟨b,o + 3,none⟩ = some (.string s)
 c4 : ∃ s,w.cell? ⟨b,o + 4,none⟩ = some (.string s)
 c5 : ∃ a m c,w.cell? ⟨b,o + 5,none⟩ = some (.slice a m c)
 c6 : ∃ i,w.cell? ⟨b,o + 6,none⟩ = some (.int .i64 i)
def toldN (k : Int) (l : List (Int × List UInt8)) : List (List UInt8):=l.foldl (fun S p=>if p.1 = k then p.2 :: S else S) []
theorem toldN_snoc (k : Int) (l : List (Int × List UInt8)) (p : Int × List UInt8) : toldN k (l ++ [p]) = if p.1 = k then p.2 :: toldN k l else toldN k l:=by unfold toldN; rw [List.foldl_append]; rfl
theorem bel_keep {B : Nat} {w X w' : World} {row : Nat} (h : Bel B w X) (g : X.grownBy w' (some row)) (hb : B ≤ X.heap.size) (hr : B ≤ row) : Bel B w w':=bel_grown h g hb fun k hk=>by cases hk; exact hr
set_option maxHeartbeats 3200000 in
theorem tells_calls {L : List (Int × List UInt8)} {b off n cap : Nat} {w : World} (hn : L.length = n) (hn1 : n ≤ 5000) (hb : b < w.heap.size) (hlen : ∀ p ∈ L,p.2.length ≤ 1000) (hcell : ∀ i p,L[i]? = some p → FCell w b (off + i * 7) p) :
  Calls Tryz.prog 37 #[.slice (some ⟨b,off,none⟩) n cap] w fun e w'=>∃ B1 B2 B3,e = .returned (.agg #[.map (some B1),.map (some B2),.map (some B3)]) ∧ TellsM w' B1 n (toldN 1 L) ∧ TellsM w' B2 n (toldN 2 L) ∧ TellsM w' B3 n (toldN 3 L) ∧ Bel w.heap.size w w' ∧ w.heap.size ≤ B1 ∧ w.heap.size ≤ B2 ∧ w.heap.size ≤ B3:=by
 have hmm:=@run_makeMap Tryz.prog
 go_enter Tryz.func37,Tryz.ntmps37
 go_wp2
 obtain ⟨W,hW⟩ : ∃ W,W = (((((w.alloc (.cells #[.map none,.map none,.map none] 70)).alloc (.map #[] 0)).alloc (.map #[] 0)).alloc (.map #[] 0)).alloc (.cells #[.map (some (w.heap.size + 1)),.map (some (w.heap.size + 1 + 1)),.map (some (w.heap.size + 1 + 1 + 1))] 70)):=⟨_,rfl⟩
 have hs1 : (w.alloc (.cells #[.map none,.map none,.map none] 70)).heap.size = w.heap.size + 1:=by simp
 have hs2 : ((w.alloc (.cells #[.map none,.map none,.map none] 70)).alloc (.map #[] 0)).heap.size = w.heap.size + 1 + 1:=by simp
 have hs3 : (((w.alloc (.cells #[.map none,.map none,.map none] 70)).alloc (.map #[] 0)).alloc (.map #[] 0)).heap.size = w.heap.size + 1 + 1 + 1:=by simp
 have hs4 : ((((w.alloc (.cells #[.map none,.map none,.map none] 70)).alloc (.map #[] 0)).alloc (.map #[] 0)).alloc (.map #[] 0)).heap.size = w.heap.size + 1 + 1 + 1 + 1:=by simp
 have m1 : TellsM W (w.heap.size + 1) 0 []:=by rw [hW,← hs1]; exact tells_alloc (tells_alloc (tells_alloc (tells_made _) _) _) _
 have m2 : TellsM W (w.heap.size + 1 + 1) 0 []:=by rw [hW,← hs2]; exact tells_alloc (tells_alloc (tells_made _) _) _
 have m3 : TellsM W (w.heap.size + 1 + 1 + 1) 0 []:=by rw [hW,← hs3]; exact tells_alloc (tells_made _) _
 have b0 : W.heap[w.heap.size]? = some (.cells #[.map none,.map none,.map none] 70 (0,0)):=by
  rw [hW]
  exact (heap_alloc_old _ _ (by omega)).trans ((heap_alloc_old _ _ (by omega)).trans ((heap_alloc_old _ _ (by omega)).trans ((heap_alloc_old _ _ (by omega)).trans (heap_alloc_new w _))))
 have b4 : W.heap[w.heap.size + 1 + 1 + 1 + 1]? = some (.cells #[.map (some (w.heap.size + 1)),.map (some (w.heap.size + 1 + 1)),.map (some (w.heap.size + 1 + 1 + 1))] 70 (0,0)):=by rw [hW,← hs4]; exact heap_alloc_new _ _
 have hbW : Bel w.heap.size w W:=by rw [hW]; exact bel_alloc (bel_alloc (bel_alloc (bel_alloc (bel_alloc (Bel.refl _ _) (Nat.le_refl _) _) (by simp) _) (by simp; omega) _) (by simp; omega) _) (by simp; omega) _
 rw [← hW]
 clear hW hs1 hs2 hs3 hs4
 have hBW : w.heap.size + 1 + 1 + 1 + 1 < W.heap.size:=(Array.getElem?_eq_some_iff.1 b4).1
 go_loopw [12] (fun i wr=>∃ k : Nat,k ≤ n ∧ i = .int .i64 k ∧ TellsM wr (w.heap.size + 1) k (toldN 1 (L.take k)) ∧ TellsM wr (w.heap.size + 1 + 1) k (toldN 2 (L.take k)) ∧ TellsM wr (w.heap.size + 1 + 1 + 1) k (toldN 3 (L.take k))
   ∧ wr.heap[w.heap.size]? = some (.cells #[.map none,.map none,.map none] 70 (0,0))
   ∧ wr.heap[w.heap.size + 1 + 1 + 1 + 1]? = some (.cells #[.map (some (w.heap.size + 1)),.map (some (w.heap.size + 1 + 1)),.map (some (w.heap.size + 1 + 1 + 1))] 70 (0,0)) ∧ Bel w.heap.size w wr) (fun i _=>n - (Go.Proofs.intOf i).toNat)
 case atStart=>exact ⟨0,Nat.zero_le _,rfl,m1,m2,m3,b0,b4,hbW⟩
 case round =>
  obtain ⟨k,hk,rfl,m1,m2,m3,b0,b4,hbel⟩:=hrel
  have hk0 : (0 : Int) ≤ (k : Int):=Int.natCast_nonneg _
  have t0 : wr.cell? ⟨w.heap.size + 1 + 1 + 1 + 1,0,none⟩ = some (.map (some (w.heap.size + 1))):=Lib.cell_of_heap b4 ..
  have t1 : wr.cell? ⟨w.heap.size + 1 + 1 + 1 + 1,1,none⟩ = some (.map (some (w.heap.size + 1 + 1))):=Lib.cell_of_heap b4 ..
  have t2 : wr.cell? ⟨w.heap.size + 1 + 1 + 1 + 1,2,none⟩ = some (.map (some (w.heap.size + 1 + 1 + 1))):=Lib.cell_of_heap b4 ..
  have hlt4 : w.heap.size + 1 + 1 + 1 + 1 < wr.heap.size:=(Array.getElem?_eq_some_iff.1 b4).1
  have z0 : wr.cell? ⟨w.heap.size,0,none⟩ = some (.map none):=Lib.cell_of_heap b0 ..
  have z1 : wr.cell? ⟨w.heap.size,1,none⟩ = some (.map none):=Lib.cell_of_heap b0 ..
  have z2 : wr.cell? ⟨w.heap.size,2,none⟩ = some (.map none):=Lib.cell_of_heap b0 ..
  have f0 : ∀ o,wr.frozen? ⟨w.heap.size,o,none⟩ = false:=fun o=>Lib.frozen_of_heap b0 o
  by_cases hkn : k < n
  ·have hk1 : (k : Int) < (n : Int):=by omega
   obtain ⟨⟨kd,nm⟩,hp⟩ : ∃ p,L[k]? = some p:=⟨L[k],List.getElem?_eq_getElem (by omega)⟩
   obtain ⟨c0,c1,⟨a2,n2,q2,c2⟩,⟨s3,c3⟩,⟨s4,c4⟩,⟨a5,n5,q5,c5⟩,⟨i6,c6⟩⟩:=hcell k _ hp
   have hbc : ∀ {o : Nat} {v : Value},w.cell? ⟨b,o,none⟩ = some v → wr.cell? ⟨b,o,none⟩ = some v:=fun h=>(World.cell?_of_block (hbel.block b hb)).trans h
   replace c0:=hbc c0
   replace c1:=hbc c1
   replace c2:=hbc c2
   replace c3:=hbc c3
   replace c4:=hbc c4
   replace c5:=hbc c5
   replace c6:=hbc c6
   dsimp only at c0 c1
   have hkey:=Go.WideMaps.keyOf_string_mk (P:=Tryz.prog) (s:=⟨⟨nm⟩⟩) Tryz.underlying9 (by show nm.length ≤ _; have:=hlen _ (List.mem_of_getElem? hp); unfold maxLen; simp at this; omega)
   by_cases h1 : kd = 1
   ·subst h1
    obtain ⟨D,w1,w2,w3⟩:=m1
    go_wp2_with (first
     | (at_mapUpdate; refine wpList_mapUpdate_own _ rfl _ _ _ 68 rfl 9 3 law9 Tryz.underlying68 _ (w.heap.size + 1) k _ rfl (w1.alloc _) (by unfold maxLen; omega) _ _ (.string nm) rfl rfl hkey _ [] (plainElem_int Tryz.underlying3 (by decide)) ?_; intro w4 hown4 hgrow4)
     | go_in)
    have e1 : toldN 1 (L.take (k + 1)) = nm :: toldN 1 (L.take k):=by rw [List.take_add_one,hp]; exact toldN_snoc 1 _ _
    have e2 : toldN 2 (L.take (k + 1)) = toldN 2 (L.take k):=by rw [List.take_add_one,hp]; exact toldN_snoc 2 _ _
    have e3 : toldN 3 (L.take (k + 1)) = toldN 3 (L.take k):=by rw [List.take_add_one,hp]; exact toldN_snoc 3 _ _
    refine ⟨⟨k + 1,by omega,by simp,?_,?_,?_,?_,?_,?_⟩,by simp [Go.Proofs.intOf]; omega⟩
    ·rw [e1]; exact ⟨_,hown4,w2.put _ _,tells_put w2 w3⟩
    ·rw [e2]; exact tells_mono (tells_kept (tells_alloc m2 _) hgrow4 (fun e=>absurd (Option.some.inj e) (by omega))) (by omega)
    ·rw [e3]; exact tells_mono (tells_kept (tells_alloc m3 _) hgrow4 (fun e=>absurd (Option.some.inj e) (by omega))) (by omega)
    ·exact (hgrow4.block _ (by simp; omega) (fun e=>absurd (Option.some.inj e) (by omega))).trans ((heap_alloc_old _ _ (by omega)).trans b0)
    ·exact (hgrow4.block _ (by simp; omega) (fun e=>absurd (Option.some.inj e) (by omega))).trans ((heap_alloc_old _ _ (by omega)).trans b4)
    ·exact bel_keep (bel_alloc hbel (by omega) _) hgrow4 (by simp; omega) (by omega)
   ·by_cases h2 : kd = 2
    ·subst h2
     obtain ⟨D,w1,w2,w3⟩:=m2
     go_wp2_with (first
      | (at_mapUpdate; refine wpList_mapUpdate_own _ rfl _ _ _ 68 rfl 9 3 law9 Tryz.underlying68 _ (w.heap.size + 1 + 1) k _ rfl (w1.alloc _) (by unfold maxLen; omega) _ _ (.string nm) rfl rfl hkey _ [] (plainElem_int Tryz.underlying3 (by decide)) ?_; intro w4 hown4 hgrow4)
      | go_in)
     have e1 : toldN 1 (L.take (k + 1)) = toldN 1 (L.take k):=by rw [List.take_add_one,hp]; exact toldN_snoc 1 _ _
     have e2 : toldN 2 (L.take (k + 1)) = nm :: toldN 2 (L.take k):=by rw [List.take_add_one,hp]; exact toldN_snoc 2 _ _
     have e3 : toldN 3 (L.take (k + 1)) = toldN 3 (L.take k):=by rw [List.take_add_one,hp]; exact toldN_snoc 3 _ _
     refine ⟨⟨k + 1,by omega,by simp,?_,?_,?_,?_,?_,?_⟩,by simp [Go.Proofs.intOf]; omega⟩
     ·rw [e1]; exact tells_mono (tells_kept (tells_alloc m1 _) hgrow4 (fun e=>absurd (Option.some.inj e) (by omega))) (by omega)
     ·rw [e2]; exact ⟨_,hown4,w2.put _ _,tells_put w2 w3⟩
     ·rw [e3]; exact tells_mono (tells_kept (tells_alloc m3 _) hgrow4 (fun e=>absurd (Option.some.inj e) (by omega))) (by omega)
     ·exact (hgrow4.block _ (by simp; omega) (fun e=>absurd (Option.some.inj e) (by omega))).trans ((heap_alloc_old _ _ (by omega)).trans b0)
     ·exact (hgrow4.block _ (by simp; omega) (fun e=>absurd (Option.some.inj e) (by omega))).trans ((heap_alloc_old _ _ (by omega)).trans b4)
     ·exact bel_keep (bel_alloc hbel (by omega) _) hgrow4 (by simp; omega) (by omega)
    ·by_cases h3 : kd = 3
     ·subst h3
      obtain ⟨D,w1,w2,w3⟩:=m3
      go_wp2_with (first
       | (at_mapUpdate; refine wpList_mapUpdate_own _ rfl _ _ _ 68 rfl 9 3 law9 Tryz.underlying68 _ (w.heap.size + 1 + 1 + 1) k _ rfl (w1.alloc _) (by unfold maxLen; omega) _ _ (.string nm) rfl rfl hkey _ [] (plainElem_int Tryz.underlying3 (by decide)) ?_; intro w4 hown4 hgrow4)
       | go_in)
      have e1 : toldN 1 (L.take (k + 1)) = toldN 1 (L.take k):=by rw [List.take_add_one,hp]; exact toldN_snoc 1 _ _
      have e2 : toldN 2 (L.take (k + 1)) = toldN 2 (L.take k):=by rw [List.take_add_one,hp]; exact toldN_snoc 2 _ _
      have e3 : toldN 3 (L.take (k + 1)) = nm :: toldN 3 (L.take k):=by rw [List.take_add_one,hp]; exact toldN_snoc 3 _ _
      refine ⟨⟨k + 1,by omega,by simp,?_,?_,?_,?_,?_,?_⟩,by simp [Go.Proofs.intOf]; omega⟩
      ·rw [e1]; exact tells_mono (tells_kept (tells_alloc m1 _) hgrow4 (fun e=>absurd (Option.some.inj e) (by omega))) (by omega)
      ·rw [e2]; exact tells_mono (tells_kept (tells_alloc m2 _) hgrow4 (fun e=>absurd (Option.some.inj e) (by omega))) (by omega)
      ·rw [e3]; exact ⟨_,hown4,w2.put _ _,tells_put w2 w3⟩
      ·exact (hgrow4.block _ (by simp; omega) (fun e=>absurd (Option.some.inj e) (by omega))).trans ((heap_alloc_old _ _ (by omega)).trans b0)
      ·exact (hgrow4.block _ (by simp; omega) (fun e=>absurd (Option.some.inj e) (by omega))).trans ((heap_alloc_old _ _ (by omega)).trans b4)
      ·exact bel_keep (bel_alloc hbel (by omega) _) hgrow4 (by simp; omega) (by omega)
     ·have g1 : (kd == 1) = false:=by simpa using h1
      have g2 : (kd == 2) = false:=by simpa using h2
      have g3 : (kd == 3) = false:=by simpa using h3
      go_wp2
      have e1 : toldN 1 (L.take (k + 1)) = toldN 1 (L.take k):=by rw [List.take_add_one,hp]; exact (toldN_snoc 1 _ _).trans (if_neg h1)
      have e2 : toldN 2 (L.take (k + 1)) = toldN 2 (L.take k):=by rw [List.take_add_one,hp]; exact (toldN_snoc 2 _ _).trans (if_neg h2)
      have e3 : toldN 3 (L.take (k + 1)) = toldN 3 (L.take k):=by rw [List.take_add_one,hp]; exact (toldN_snoc 3 _ _).trans (if_neg h3)
      exact ⟨⟨k + 1,by omega,by simp,by rw [e1]; exact tells_mono (tells_alloc m1 _) (by omega),by rw [e2]; exact tells_mono (tells_alloc m2 _) (by omega),by rw [e3]; exact tells_mono (tells_alloc m3 _) (by omega),(heap_alloc_old _ _ (by omega)).trans b0,(heap_alloc_old _ _ (by omega)).trans b4,bel_alloc hbel (by omega) _⟩,by simp [Go.Proofs.intOf]; omega⟩
  ·have hk1 : ¬ (k : Int) < (n : Int):=by omega
   go_wp2
   obtain ⟨X,hX⟩ : ∃ X,X = ((wr.setCell ⟨w.heap.size,0,none⟩ (.map (some (w.heap.size + 1)))).setCell ⟨w.heap.size,1,none⟩ (.map (some (w.heap.size + 1 + 1)))).setCell ⟨w.heap.size,2,none⟩ (.map (some (w.heap.size + 1 + 1 + 1))):=⟨_,rfl⟩
   have y0 : X.cell? ⟨w.heap.size,0,none⟩ = some (.map (some (w.heap.size + 1))):=by rw [hX]; go_simp
   have y1 : X.cell? ⟨w.heap.size,1,none⟩ = some (.map (some (w.heap.size + 1 + 1))):=by rw [hX]; go_simp
   have y2 : X.cell? ⟨w.heap.size,2,none⟩ = some (.map (some (w.heap.size + 1 + 1 + 1))):=by rw [hX]; go_simp
   rw [← hX]
   have hld : Sem.run Tryz.prog (loadCellsFrom ⟨w.heap.size,0,none⟩ 0 3 #[]) X = .ok #[.map (some (w.heap.size + 1)),.map (some (w.heap.size + 1 + 1)),.map (some (w.heap.size + 1 + 1 + 1))] X :=
    run_loadCellsFrom_list _ X _ [.map (some (w.heap.size + 1)),.map (some (w.heap.size + 1 + 1)),.map (some (w.heap.size + 1 + 1 + 1))] 3 rfl (fun j v hj=>by
     match j,hj with
     | 0,hj=>cases hj; exact y0
     | 1,hj=>cases hj; exact y1
     | 2,hj=>cases hj; exact y2)
   have hres : ∀ tmps : Array Value,tmps.getD 2 undef = .pointer (some ⟨w.heap.size,0,none⟩) → Sem.run Tryz.prog (results Tryz.f37 tmps) X = .ok (.agg #[.map (some (w.heap.size + 1)),.map (some (w.heap.size + 1 + 1)),.map (some (w.heap.size + 1 + 1 + 1))]) X:=fun tmps e=>by
    have hr : Tryz.f37.results = #[.cell 2 70]:=rfl
    simp only [Array.getD_eq_getD_getElem?] at e
    simp [results,hr,asAddr,e,loadVar,Tryz.isAgg70,Tryz.sizeOf70,loadCells,hld]
   have hlen : L.take k = L:=List.take_of_length_le (by omega)
   rw [hlen] at m1 m2 m3
   have hkn' : k = n:=by omega
   have hset : ∀ i,i ≠ w.heap.size → X.heap[i]? = wr.heap[i]?:=fun i hi=>by
    rw [hX]
    exact (setCell_other _ _ _ _ hi).trans ((setCell_other _ _ _ _ hi).trans (setCell_other _ _ _ _ hi))
   have hsz : X.heap.size = wr.heap.size:=by rw [hX]; simp [World.setCell]
   have hg : wr.grownBy X (some w.heap.size):=⟨by rw [hX]; rfl,by rw [hX]; rfl,by rw [hX]; rfl,by omega,fun i _ hi=>hset i (fun e=>hi (by rw [e]))⟩
   refine ⟨rfl,_,hres _ rfl,_,_,_,rfl,?_,?_,?_,?_,by omega,by omega,by omega⟩
   ·exact tells_mono (tells_kept m1 hg (fun e=>absurd (Option.some.inj e) (by omega))) (by omega)
   ·exact tells_mono (tells_kept m2 hg (fun e=>absurd (Option.some.inj e) (by omega))) (by omega)
   ·exact tells_mono (tells_kept m3 hg (fun e=>absurd (Option.some.inj e) (by omega))) (by omega)
   ·exact bel_keep hbel hg (by omega) (Nat.le_refl _)
end Go.Fbs

import Derived.Test.YtpnflpbamlbpeaaGreatDoorVZE
set_option linter.unusedSimpArgs false
set_option linter.unusedVariables false
set_option linter.unusedSectionVars false
set_option maxRecDepth 100000
namespace Go.Fbs
open Go.Proofs Go.RowKit Go.Shelf Go.Sort Go.Maps
theorem eg30 : ∀ args w,(callFunc 30 args).run Tryz.prog w = .ok (.enter 30 args) w:=enters_of Tryz.func30 (by kernel_rfl) rfl
theorem permF_list {l : List FR} {d' : Array FR} (h : PermIn 0 l.toArray.size l.toArray d') : d'.toList.Perm l:=by
 obtain ⟨h1,_,h3⟩:=h
 have e1 : d'.extract 0 l.toArray.size = d':=by rw [← h1]; simp
 have e2 : l.toArray.extract 0 l.toArray.size = l.toArray:=by simp
 rw [e1,e2] at h3
 exact h3
theorem cmpN_ok : Cmp cmpN:=show Cmp (lexC (fun x y : FR=>Lib.compareInt (min x.kind 3) (min y.kind 3)) (fun x y : FR=>Lib.compareBytes x.name y.name)) from (cmpI_ok.on _).lex (cmpB_ok.on _)
set_option maxHeartbeats 1000000 in
theorem ins_calls {l : List FR} {base : Nat} {v : Value} {w : World} (hl : l.length ≤ 1000) (h : w.ownsRow base 37 7 v l.length (flatF l)) (hne : l ≠ []) :
  Calls Tryz.prog 90 #[v,.int .i64 0,.int .i64 l.length,.func (.func 30) #[] #[]] w fun e w'=>e = .returned (.tuple #[]) ∧ ∃ d : List FR,d.Perm l ∧ Bel base w w' ∧ w'.ownsRow base 37 7 v d.length (flatF d):=by
 obtain ⟨_,h⟩:=h
 rcases h with ⟨_,h0⟩ | ⟨g,cap,cur,rfl,hb,hg,hn,hcap,hsz,ht⟩
 ·exact absurd (List.length_eq_zero_iff.1 h0) hne
 ·have hcon:=AnyQ.insertionSortCmpFunc Tryz.insFile 7 Tryz.isAgg37 Tryz.sizeOf37 encF (fun _=>rfl) encF_one cmpN 30 #[] g 0 cap 0 l.length l.toArray w eg30 (fun _ _ _ _ x y=>cmpN_calls x y _) (holdF_of hg rfl ht) (Array.getElem?_eq_some_iff.1 hg).1 (Nat.zero_le _) (Nat.le_refl _) (by show l.length < _; omega)
  change Calls Tryz.prog 90 _ _ _ at hcon
  refine hcon.mono ?_
  rintro e w' ⟨rfl,N,os,rfl⟩
  have hp:=insertionSort_holds (lt:=ltOf cmpN) cmpN_ok.swo l.toArray 0 l.length (Nat.zero_le _) (Nat.le_refl _)
  have hp':=permF_list (show PermIn 0 l.toArray.size l.toArray _ from hp.1)
  have hlen:=hp'.length_eq
  obtain ⟨b1,cur',c1,c2,c3⟩:=sortedF_world (N:=N) (os:=os) (d:=(insertionSort (ltOf cmpN) l.toArray 0 l.length).toList) hg hlen hsz hn hb
  refine ⟨rfl,(insertionSort (ltOf cmpN) l.toArray 0 l.length).toList,hp',b1,by rw [flatF_len],.inr ⟨g,cap,cur',by rw [hlen],hb,c1,by omega,hcap,c2,by rw [hlen]; exact c3⟩⟩
set_option maxHeartbeats 1000000 in
theorem stable_calls {l : List FR} {base : Nat} {v : Value} {w : World} (hl : l.length < 20) (h : w.ownsRow base 37 7 v l.length (flatF l)) (hne : l ≠ []) :
  Calls Tryz.prog 58 #[v,.int .i64 l.length,.func (.func 30) #[] #[]] w fun e w'=>e = .returned (.tuple #[]) ∧ ∃ d : List FR,d.Perm l ∧ Bel base w w' ∧ w'.ownsRow base 37 7 v d.length (flatF d):=by
 have hins:=ins_calls (by omega) h hne
 have h1 : ¬ (20 : Int) ≤ (l.length : Int):=by omega
 have h2 : ¬ (20 : Int) < (l.length : Int):=by omega
 clear h
 go_enter Tryz.func58,Tryz.ntmps58
 go_wp2
 go_loopw [7,8] (fun a b wr=>a = .int .i64 0 ∧ b = .int .i64 20 ∧ wr = w) (fun _ _ _=>0)
 case atStart=>exact ⟨rfl,rfl,rfl⟩
 case round =>
  obtain ⟨rfl,rfl,e⟩:=hrel
  rw [e]
  go_wp2_with (go_at_call 90; refine hins.mono ?_; rintro _ w1 ⟨rfl,d,hp,hb,ho⟩)
  go_loopw [6,7,8,9] (fun s a b m wr=>s = .int .i64 20 ∧ wr = w1) (fun _ _ _ _ _=>0)
  case atStart=>exact ⟨rfl,rfl⟩
  case round =>
   obtain ⟨rfl,e⟩:=hrel
   rw [e]
   go_wp2
   exact ⟨rfl,.tuple #[],by kernel_rfl,rfl,d,hp,hb,ho⟩
theorem sortS_calls {l : List FR} {base : Nat} {v : Value} {w : World} (hl : l.length < 20) (h : w.ownsRow base 37 7 v l.length (flatF l)) (hne : l ≠ []) :
  Calls Tryz.prog 29 #[v,.func (.func 30) #[] #[]] w fun e w'=>e = .returned (.tuple #[]) ∧ ∃ d : List FR,d.Perm l ∧ Bel base w w' ∧ w'.ownsRow base 37 7 v d.length (flatF d):=by
 have hst:=stable_calls hl h hne
 obtain ⟨ad,cp,rfl⟩:=own_form h
 clear h
 go_enter Tryz.func29,Tryz.ntmps29
 go_wp2_with (go_at_call 58; refine hst.mono ?_; rintro _ w1 ⟨rfl,d,hp,hb,ho⟩)
 exact ⟨rfl,.tuple #[],by kernel_rfl,rfl,d,hp,hb,ho⟩
attribute [local irreducible] wpQuiet
set_option maxHeartbeats 2000000 in
theorem eqN_calls (x y : FR) (hne : x.name ≠ y.name) (w : World) : Calls Tryz.prog 36 #[.agg (encF x).toArray,.agg (encF y).toArray] w fun e w'=>e = .returned (.bool false) ∧ Sam w w':=by
 have r1:=fun W=>rank_calls x W
 have r2:=fun W=>rank_calls y W
 generalize min x.kind 3 = A at r1 ⊢
 generalize min y.kind 3 = B at r2 ⊢
 obtain ⟨k,n,a1,n1,c1,o,g1,a2,n2,c2,t⟩:=x
 obtain ⟨k',n',a1',n1',c1',o',g1',a2',n2',c2',t'⟩:=y
 unfold encF at r1 r2 ⊢
 dsimp only at r1 r2 hne ⊢
 have hb : ¬ (⟨⟨n⟩⟩ : ByteArray) = ⟨⟨n'⟩⟩:=by simpa using hne
 go_enter Tryz.func36,Tryz.ntmps36
 go_wp2_with fail
 obtain ⟨W,hW⟩ : ∃ W,W = ((w.alloc (.cells #[.int .i64 k,.string ⟨⟨n⟩⟩,.slice a1 n1 c1,.string ⟨⟨o⟩⟩,.string ⟨⟨g1⟩⟩,.slice a2 n2 c2,.int .i64 t] 37)).alloc (.cells #[.int .i64 k',.string ⟨⟨n'⟩⟩,.slice a1' n1' c1',.string ⟨⟨o'⟩⟩,.string ⟨⟨g1'⟩⟩,.slice a2' n2' c2',.int .i64 t'] 37)):=⟨_,rfl⟩
 have hs : Sam w W:=by rw [hW]; exact (sam_alloc _ _).trans (sam_alloc _ _)
 have x0 : W.cell? ⟨w.heap.size,0,none⟩ = some (.int .i64 k):=by rw [hW]; go_simp
 have x1 : W.cell? ⟨w.heap.size,1,none⟩ = some (.string ⟨⟨n⟩⟩):=by rw [hW]; go_simp
 have x2 : W.cell? ⟨w.heap.size,2,none⟩ = some (.slice a1 n1 c1):=by rw [hW]; go_simp
 have x3 : W.cell? ⟨w.heap.size,3,none⟩ = some (.string ⟨⟨o⟩⟩):=by rw [hW]; go_simp
 have x4 : W.cell? ⟨w.heap.size,4,none⟩ = some (.string ⟨⟨g1⟩⟩):=by rw [hW]; go_simp
 have x5 : W.cell? ⟨w.heap.size,5,none⟩ = some (.slice a2 n2 c2):=by rw [hW]; go_simp
 have x6 : W.cell? ⟨w.heap.size,6,none⟩ = some (.int .i64 t):=by rw [hW]; go_simp
 have y0 : W.cell? ⟨w.heap.size + 1,0,none⟩ = some (.int .i64 k'):=by rw [hW]; go_simp
 have y1 : W.cell? ⟨w.heap.size + 1,1,none⟩ = some (.string ⟨⟨n'⟩⟩):=by rw [hW]; go_simp
 have y2 : W.cell? ⟨w.heap.size + 1,2,none⟩ = some (.slice a1' n1' c1'):=by rw [hW]; go_simp
 have y3 : W.cell? ⟨w.heap.size + 1,3,none⟩ = some (.string ⟨⟨o'⟩⟩):=by rw [hW]; go_simp
 have y4 : W.cell? ⟨w.heap.size + 1,4,none⟩ = some (.string ⟨⟨g1'⟩⟩):=by rw [hW]; go_simp
 have y5 : W.cell? ⟨w.heap.size + 1,5,none⟩ = some (.slice a2' n2' c2'):=by rw [hW]; go_simp
 have y6 : W.cell? ⟨w.heap.size + 1,6,none⟩ = some (.int .i64 t'):=by rw [hW]; go_simp
 rw [← hW]
 clear hW
 generalize w.heap.size = B0 at x0 x1 x2 x3 x4 x5 x6 y0 y1 y2 y3 y4 y5 y6 ⊢
 replace x0:=fun p : WS W=>ws_cell x0 p
 replace x1:=fun p : WS W=>ws_cell x1 p
 replace x2:=fun p : WS W=>ws_cell x2 p
 replace x3:=fun p : WS W=>ws_cell x3 p
 replace x4:=fun p : WS W=>ws_cell x4 p
 replace x5:=fun p : WS W=>ws_cell x5 p
 replace x6:=fun p : WS W=>ws_cell x6 p
 replace y0:=fun p : WS W=>ws_cell y0 p
 replace y1:=fun p : WS W=>ws_cell y1 p
 replace y2:=fun p : WS W=>ws_cell y2 p
 replace y3:=fun p : WS W=>ws_cell y3 p
 replace y4:=fun p : WS W=>ws_cell y4 p
 replace y5:=fun p : WS W=>ws_cell y5 p
 replace y6:=fun p : WS W=>ws_cell y6 p
 replace r1:=fun p : WS W=>ws_call (fun X=>(r1 X).mono (R':=fun e w'=>e = .returned (.int .i64 A) ∧ Sam X w') fun e w' ⟨he,hw⟩=>⟨he,by rw [hw]; exact sam_alloc _ _⟩) p
 replace r2:=fun p : WS W=>ws_call (fun X=>(r2 X).mono (R':=fun e w'=>e = .returned (.int .i64 B) ∧ Sam X w') fun e w' ⟨he,hw⟩=>⟨he,by rw [hw]; exact sam_alloc _ _⟩) p
 by_cases hAB : A = B
 ·subst hAB
  refine region_ws (by kernel_rfl) (by kernel_rfl) ?_
  repeat (quiet_step (first | exact r2 _ | exact r1 _))
  refine wpQuiet_nil ?_
  rintro _ ⟨p,rfl⟩
  go_wp2
  go_ret
  exact ⟨by show Ending.returned (.bool (n == n')) = _; simp [hne],hs.trans p.s⟩
 ·have hab : (A == B) = false:=by simpa using hAB
  refine region_ws (by kernel_rfl) (by kernel_rfl) ?_
  repeat (quiet_step (first | exact r2 _ | exact r1 _))
  refine wpQuiet_nil ?_
  rintro _ ⟨p,rfl⟩
  go_wp2
  go_ret
  exact ⟨rfl,hs.trans p.s⟩
theorem cellsF {w : World} {base g n : Nat} {l : List FR} {j : Nat} {x : FR} (h : w.ownsRow base 37 7 (.slice (some ⟨g,0,none⟩) l.length n) l.length (flatF l)) (hj : l[j]? = some x) :
  ∀ c v,(encF x)[c]? = some v → w.cell? ⟨g,j * 7 + c,none⟩ = some v:=by
 intro c v hv
 obtain ⟨_,⟨e,h0⟩ | ⟨g',cap',cur,e,hb,hg,hn,hcap,hsz,ht⟩⟩:=h
 ·cases e
 ·obtain ⟨⟨rfl⟩,rfl⟩ : g = g' ∧ n = cap':=by simpa using e
  have h1:=flatF_at hj hv
  rw [← ht,List.getElem?_take] at h1
  split at h1
  ·rw [Lib.cell_of_heap hg]; rw [← Array.getElem?_toList]; exact h1
  ·cases h1
set_option maxHeartbeats 4000000 in
theorem compact_calls {l : List FR} {base : Nat} {v : Value} {w : World} (hl : l.length ≤ 1000) (h : w.ownsRow base 37 7 v l.length (flatF l)) (hd : (l.map (·.name)).Nodup) :
  Calls Tryz.prog 35 #[v,.func (.func 36) #[] #[]] w fun e w'=>e = .returned v ∧ Sam w w':=by
 obtain ⟨ad,cp,rfl⟩:=own_form h
 by_cases h2 : l.length < 2
 ·have h2' : (l.length : Int) < 2:=by omega
  go_enter Tryz.func35,Tryz.ntmps35
  go_wp2
  go_ret
  exact ⟨rfl,Sam.refl _⟩
 ·have h2' : ¬ (l.length : Int) < 2:=by omega
  obtain ⟨g,cp',e,hg1,hg2,hg3⟩:=own_some h (by omega)
  obtain ⟨rfl,rfl⟩ : ad = some ⟨g,0,none⟩ ∧ cp = cp':=by simpa using e
  go_enter Tryz.func35,Tryz.ntmps35
  go_wp2
  go_loopw [5] (fun i wr=>∃ k : Nat,1 ≤ k ∧ k ≤ l.length ∧ i = .int .i64 k ∧ Sam w wr) (fun i _=>l.length - (Go.Proofs.intOf i).toNat)
  case atStart=>exact ⟨1,Nat.le_refl _,by omega,rfl,Sam.refl _⟩
  case round =>
   obtain ⟨k,hk1,hk,rfl,hsr⟩:=hrel
   have hk0 : (0 : Int) ≤ (k : Int):=Int.natCast_nonneg _
   by_cases hkn : k < l.length
   ·have hki : (k : Int) < (l.length : Int):=by omega
    obtain ⟨m,rfl⟩ : ∃ m,k = m + 1:=⟨k - 1,by omega⟩
    obtain ⟨x,hx⟩ : ∃ x,l[m + 1]? = some x:=⟨l[m + 1],List.getElem?_eq_getElem hkn⟩
    obtain ⟨y,hy⟩ : ∃ y,l[m]? = some y:=⟨l[m],List.getElem?_eq_getElem (by omega)⟩
    have hxy : x.name ≠ y.name:=fun e=>by
     have:=nodup_take hd (i:=m + 1) (a:=x.name) (by rw [List.getElem?_map,hx]; rfl)
     refine this ?_
     rw [e]
     refine List.mem_of_getElem? (i:=m) ?_
     rw [List.getElem?_take,if_pos (by omega),List.getElem?_map,hy]; rfl
    have heq:=fun X=>eqN_calls x y hxy X
    have hcx:=cellsF h hx
    have hcy:=cellsF h hy
    replace hcx:=fun c v hv=>hsr.cell (hcx c v hv)
    replace hcy:=fun c v hv=>hsr.cell (hcy c v hv)
    clear hx hy
    obtain ⟨kx,nx,a1,n1,c1,o,g1,a2,n2,c2,t⟩:=x
    obtain ⟨ky,ny,a1',n1',c1',o',g1',a2',n2',c2',t'⟩:=y
    unfold encF at heq
    dsimp only at heq
    have x0:=fun p : WS wr=>ws_cell (hcx 0 _ rfl) p
    have x1:=fun p : WS wr=>ws_cell (hcx 1 _ rfl) p
    have x2:=fun p : WS wr=>ws_cell (hcx 2 _ rfl) p
    have x3:=fun p : WS wr=>ws_cell (hcx 3 _ rfl) p
    have x4:=fun p : WS wr=>ws_cell (hcx 4 _ rfl) p
    have x5:=fun p : WS wr=>ws_cell (hcx 5 _ rfl) p
    have x6:=fun p : WS wr=>ws_cell (hcx 6 _ rfl) p
    have y0:=fun p : WS wr=>ws_cell (hcy 0 _ rfl) p
    have y1:=fun p : WS wr=>ws_cell (hcy 1 _ rfl) p
    have y2:=fun p : WS wr=>ws_cell (hcy 2 _ rfl) p
    have y3:=fun p : WS wr=>ws_cell (hcy 3 _ rfl) p
    have y4:=fun p : WS wr=>ws_cell (hcy 4 _ rfl) p
    have y5:=fun p : WS wr=>ws_cell (hcy 5 _ rfl) p
    have y6:=fun p : WS wr=>ws_cell (hcy 6 _ rfl) p
    simp only [Nat.add_zero] at x0 y0
    clear hcx hcy
    have hq:=fun p : WS wr=>ws_call heq p
    have hm1 : (m : Int) < (l.length : Int):=by omega
    have hm0 : (0 : Int) ≤ (m : Int):=Int.natCast_nonneg _
    have hme : (m : Int) + 1 - 1 = (m : Int):=by omega
    have hw1 : IntKind.i64.wrap (m : Int) = m:=by simp [IntKind.wrap,IntKind.signed,IntKind.bits]; omega
    have hm2 : (0 : Int) ≤ (m : Int) + 1:=by omega
    have hki' : (m : Int) + 1 < (l.length : Int):=by omega
    have hmt : ((m : Int) + 1).toNat = m + 1:=by omega
    go_wp2_with fail
    refine region_ws (by kernel_rfl) (by kernel_rfl) ?_
    repeat (quiet_step (exact hq _))
    refine wpQuiet_nil ?_
    rintro _ ⟨p,rfl⟩
    go_wp2
    exact ⟨⟨m + 1 + 1,by omega,by omega,by simp,hsr.trans p.s⟩,by simp [Go.Proofs.intOf]; omega⟩
   ·have hki : ¬ (k : Int) < (l.length : Int):=by omega
    go_wp2
    go_ret
    exact ⟨rfl,hsr⟩
end Go.Fbs

import Derived.Test.YtpnflpbamlbpeaaGreatDoorVZA
set_option linter.unusedSimpArgs false
set_option linter.unusedVariables false
set_option linter.unusedSectionVars false
set_option maxRecDepth 100000
namespace Go.Fbs
open Go.Proofs Go.RowKit Go.Shelf Go.Sort Go.Maps
def S1of (l : List FR) (k : Int) : List (List UInt8):=toldN k (l.map fun f=>(f.kind,f.name))
theorem facts_cell {w : World} {b off : Nat} {l : List FR} (h : FactsAt w b off l) : ∀ i p,(l.map fun f=>(f.kind,f.name))[i]? = some p → FCell w b (off + i * 7) p:=by
 intro i p hp
 rw [List.getElem?_map] at hp
 cases hf : l[i]? with
 | none=>rw [hf] at hp; cases hp
 | some f =>
  rw [hf] at hp
  cases hp
  have h0:=h i f hf 0 _ rfl
  exact ⟨h0,h i f hf 1 _ rfl,⟨_,_,_,h i f hf 2 _ rfl⟩,⟨_,h i f hf 3 _ rfl⟩,⟨_,h i f hf 4 _ rfl⟩,⟨_,_,_,h i f hf 5 _ rfl⟩,⟨_,h i f hf 6 _ rfl⟩⟩
structure FOk (w : World) (f : FR) (E : List Ent) : Prop where
 un : f.un = 0
 name : f.name.length ≤ 1000
 owner : f.owner.length ≤ 1000
 group : f.group.length ≤ 1000
 ents : EntsAt w f E
 no24 : ∀ e ∈ E,e.kind ≠ 2 ∧ e.kind ≠ 4
 le : E.length ≤ 1000
 file : f.kind = 4 → E ≠ []
 acl : ∀ X,Sam w X → Calls Tryz.prog 7 #[.slice f.aa f.an f.ac] X fun e w'=>Sam X w' ∧ ∃ v',e = .returned (aclR v' (aclM E))
def POk (w : World) (S : List (List UInt8)) (f : FR) : Prop:=isF f.kind = true → (f.name = [47] ∧ f.kind ≠ 4) ∨ (f.name ≠ [47] ∧ ∃ p,S.contains p = true ∧ p.length ≤ 1000 ∧ ∀ X,Sam w X → Calls Tryz.prog 40 #[.string ⟨⟨f.name⟩⟩] X fun e w'=>e = .returned (.string ⟨⟨p⟩⟩) ∧ Sam X w')
def errF (S1 S2 : List (List UInt8)) : List (FR × List Ent) → Option (Int × Int)
 | []=>none
 | p :: r=>if oneE S1 S2 p.1 p.2 = 0 then errF S1 S2 r else some (p.1.pos,oneE S1 S2 p.1 p.2)
theorem errF_skip {S1 S2 : List (List UInt8)} : ∀ {l : List (FR × List Ent)} {k : Nat},(∀ p ∈ l.take k,oneE S1 S2 p.1 p.2 = 0) → errF S1 S2 l = errF S1 S2 (l.drop k)
 | l,0,_=>rfl
 | [],k + 1,_=>by simp
 | p :: r,k + 1,h=>by
  rw [errF,if_pos (h p (by simp)),List.drop_succ_cons]
  exact errF_skip fun q hq=>h q (by simp [hq])
theorem nodup_take {α : Type} {l : List α} {i : Nat} {a : α} (h : l.Nodup) (hi : l[i]? = some a) : a ∉ l.take i:=by
 intro ha
 obtain ⟨hk,rfl⟩:=List.getElem?_eq_some_iff.1 hi
 obtain ⟨j,hj,e⟩:=List.getElem_of_mem ha
 rw [List.getElem_take] at e
 have hj' : j < i:=by simp at hj; omega
 exact List.pairwise_iff_getElem.1 h j i (by omega) hk hj' e
theorem drop_cons' {α : Type} {l : List α} {k : Nat} {x : α} (h : l[k]? = some x) : l.drop k = x :: l.drop (k + 1):=by
 obtain ⟨hk,rfl⟩:=List.getElem?_eq_some_iff.1 h
 exact List.drop_eq_getElem_cons hk
def resF (o : Option (Int × Int)) : Int × Int:=o.getD (0,0)
attribute [local irreducible] wpQuiet
set_option maxHeartbeats 6400000 in
theorem valid_calls {fs : List (FR × List Ent)} {b off n cap : Nat} {w : World} (hn : fs.length = n) (hn1 : n ≤ 1000) (hcap : n ≤ cap) (hb : b < w.heap.size) (hl : FactsAt w b off (fs.map Prod.fst)) (hok : ∀ p ∈ fs,FOk w p.1 p.2)
  (hdis : (fs.map fun p=>p.1.name).Nodup) (hp : errF (S1of (fs.map Prod.fst) 1) (S1of (fs.map Prod.fst) 2) fs = none → ∀ p ∈ fs,POk w (S1of (fs.map Prod.fst) 3) p.1) :
  Calls Tryz.prog 12 #[.slice (some ⟨b,off,none⟩) n cap] w fun e w'=>e = .returned (.tuple #[.int .i64 (resF (errF (S1of (fs.map Prod.fst) 1) (S1of (fs.map Prod.fst) 2) fs)).1,.int .i64 (resF (errF (S1of (fs.map Prod.fst) 1) (S1of (fs.map Prod.fst) 2) fs)).2]) ∧ Sam w w':=by
 have htell:=tells_calls (cap:=cap) (L:=(fs.map Prod.fst).map fun f=>(f.kind,f.name)) (n:=n) (by simp [hn]) (by omega) hb (by
  intro p hp
  obtain ⟨f,hf,rfl⟩:=List.mem_map.1 hp
  obtain ⟨q,hq,rfl⟩:=List.mem_map.1 hf
  exact (hok q hq).name) (facts_cell hl)
 change Calls _ _ _ _ (fun e w'=>∃ B1 B2 B3,e = _ ∧ TellsM w' B1 n (S1of (fs.map Prod.fst) 1) ∧ TellsM w' B2 n (S1of (fs.map Prod.fst) 2) ∧ TellsM w' B3 n (S1of (fs.map Prod.fst) 3) ∧ _) at htell
 generalize S1of (fs.map Prod.fst) 1 = S1 at htell hp ⊢
 generalize S1of (fs.map Prod.fst) 2 = S2 at htell hp ⊢
 generalize S1of (fs.map Prod.fst) 3 = S3 at htell hp ⊢
 go_enter Tryz.func12,Tryz.ntmps12
 go_wp2_with (go_at_call 37; refine htell.mono ?_; rintro _ w1 ⟨B1,B2,B3,rfl,m1,m2,m3,hbel,hB1,hB2,hB3⟩)
 have hs1 : Sam w w1:=⟨hbel.os,hbel.output,hbel.size,hbel.block⟩
 obtain ⟨W,hW⟩ : ∃ W,W = w1.alloc (.cells #[.map (some B1),.map (some B2),.map (some B3)] 70):=⟨_,rfl⟩
 have hs : Sam w W:=by rw [hW]; exact hs1.trans (sam_alloc _ _)
 have x0 : W.cell? ⟨w1.heap.size,0,none⟩ = some (.map (some B1)):=by rw [hW]; go_simp
 have x1 : W.cell? ⟨w1.heap.size,1,none⟩ = some (.map (some B2)):=by rw [hW]; go_simp
 have x2 : W.cell? ⟨w1.heap.size,2,none⟩ = some (.map (some B3)):=by rw [hW]; go_simp
 have n1:=tells_alloc m1 (.cells #[.map (some B1),.map (some B2),.map (some B3)] 70)
 have n2:=tells_alloc m2 (.cells #[.map (some B1),.map (some B2),.map (some B3)] 70)
 have n3:=tells_alloc m3 (.cells #[.map (some B1),.map (some B2),.map (some B3)] 70)
 rw [← hW] at n1 n2 n3 ⊢
 clear hW m1 m2 m3 hs1 htell hbel
 generalize w1.heap.size = B at x0 x1 x2 ⊢
 go_loopw [14] (fun i wr=>∃ k : Nat,k ≤ n ∧ i = .int .i64 k ∧ Sam W wr ∧ ∀ p ∈ fs.take k,oneE S1 S2 p.1 p.2 = 0) (fun i _=>n - (Go.Proofs.intOf i).toNat)
 case atStart=>exact ⟨0,Nat.zero_le _,rfl,Sam.refl _,fun p hp=>by simp at hp⟩
 case round =>
  obtain ⟨k,hk,rfl,hsr,hz⟩:=hrel
  have hk0 : (0 : Int) ≤ (k : Int):=Int.natCast_nonneg _
  by_cases hkn : k < n
  ·have hk1 : (k : Int) < (n : Int):=by omega
   have hk2 : (k : Int) ≤ (n : Int):=by omega
   obtain ⟨⟨f,E⟩,hfk⟩ : ∃ p,fs[k]? = some p:=⟨fs[k],List.getElem?_eq_getElem (by omega)⟩
   have hfo:=hok _ (List.mem_of_getElem? hfk)
   have hfl : (fs.map Prod.fst)[k]? = some f:=by rw [List.getElem?_map,hfk]; rfl
   have hfc:=fun c v hv=>(hs.trans hsr).cell (hl k f hfl c v hv)
   have hone:=fun X (h : Sam wr X)=>one_calls (c:=cap) (B3:=B3) (l:=(fs.map Prod.fst).take k) (b:=b) (off:=off) (tells_sam n1 (hsr.trans h)) (tells_sam n2 (hsr.trans h)) hfo.un hfo.owner hfo.group (ents_sam hfo.ents ((hs.trans hsr).trans h)) hfo.no24 hfo.le hfo.file
    (fun Y hY=>hfo.acl Y (((hs.trans hsr).trans h).trans hY)) (fun j x hj c v hv=>((hs.trans hsr).trans h).cell (hl j x (by rw [List.getElem?_take] at hj; split at hj; exact hj; cases hj) c v hv))
    (fun x hx e=>nodup_take hdis (i:=k) (a:=f.name) (by rw [List.getElem?_map,hfk]; rfl) (by rw [← List.map_take,List.mem_map]; rw [← List.map_take] at hx; obtain ⟨q,hq,rfl⟩:=List.mem_map.1 hx; exact ⟨q,hq,e⟩)) (by simp; omega) (Nat.lt_of_lt_of_le hb ((hs.trans hsr).trans h).size)
   have htl : ((fs.map Prod.fst).take k).length = k:=by simp; omega
   rw [htl] at hone
   have hnext : fs.drop k = (f,E) :: fs.drop (k + 1):=(drop_cons' hfk)
   have herr:=errF_skip hz
   rw [hnext,errF] at herr
   dsimp only at herr
   have t0:=hsr.cell x0
   have t1:=hsr.cell x1
   have t2:=hsr.cell x2
   obtain ⟨ad,hfe⟩ : ∃ R,oneE S1 S2 f E = R:=⟨_,rfl⟩
   rw [hfe] at hone herr
   have hkc : k ≤ cap:=by omega
   have hfE : ∀ p ∈ fs.take (k + 1),p ∈ fs.take k ∨ p = (f,E):=fun p hp=>by
    rw [List.take_add_one,hfk] at hp
    simpa using hp
   obtain ⟨kd,nm,a1,l1,c1,o,g,a2,l2,c2,t⟩:=f
   have y0:=hfc 0 _ rfl
   have y1:=hfc 1 _ rfl
   have y2:=hfc 2 _ rfl
   have y3:=hfc 3 _ rfl
   have y4:=hfc 4 _ rfl
   have y5:=hfc 5 _ rfl
   have y6:=hfc 6 _ rfl
   rw [Nat.add_zero] at y0
   clear hfc
   unfold encF at hone
   dsimp only at hone y0 y1 y2 y3 y4 y5 y6 herr
   by_cases he : ad = 0
   ·subst he
    go_wp2_with fail
    obtain ⟨X,hX⟩ : ∃ X,X = wr.alloc (.cells #[.int .i64 kd,.string ⟨⟨nm⟩⟩,.slice a1 l1 c1,.string ⟨⟨o⟩⟩,.string ⟨⟨g⟩⟩,.slice a2 l2 c2,.int .i64 t] 37):=⟨_,rfl⟩
    have z0 : X.drew.cell? ⟨wr.heap.size,0,none⟩ = some (.int .i64 kd):=by rw [hX]; go_simp
    have z1 : X.drew.cell? ⟨wr.heap.size,1,none⟩ = some (.string ⟨⟨nm⟩⟩):=by rw [hX]; go_simp
    have z2 : X.drew.cell? ⟨wr.heap.size,2,none⟩ = some (.slice a1 l1 c1):=by rw [hX]; go_simp
    have z3 : X.drew.cell? ⟨wr.heap.size,3,none⟩ = some (.string ⟨⟨o⟩⟩):=by rw [hX]; go_simp
    have z4 : X.drew.cell? ⟨wr.heap.size,4,none⟩ = some (.string ⟨⟨g⟩⟩):=by rw [hX]; go_simp
    have z5 : X.drew.cell? ⟨wr.heap.size,5,none⟩ = some (.slice a2 l2 c2):=by rw [hX]; go_simp
    have z6 : X.drew.cell? ⟨wr.heap.size,6,none⟩ = some (.int .i64 t):=by rw [hX]; go_simp
    have hwX : Sam wr X.drew:=by rw [hX]; exact (sam_alloc _ _).trans ⟨rfl,rfl,Nat.le_refl _,fun _ _=>rfl⟩
    have v0:=hwX.cell t0
    have v1:=hwX.cell t1
    have v2:=hwX.cell t2
    rw [← hX]
    refine wp_region_still_tail 5 (by kernel_rfl) (by kernel_rfl) ?_
    simp only [List.take_succ_cons,List.take_zero,List.drop_succ_cons,List.drop_zero]
    change wpStill _ _ X.drew (fun a'=>wpList _ _ _ _ a' X.drew) _ _
    clear hX
    generalize X.drew = X2 at z0 z1 z2 z3 z4 z5 z6 hwX v0 v1 v2 ⊢
    iterate 5 still_step
    refine wpStill_nil ?_
    go_wp2_with (go_at_call 38; refine (hone _ (by assumption)).mono ?_; rintro _ Y ⟨rfl,hY⟩)
    refine ⟨⟨k + 1,by omega,by simp,(hsr.trans hwX).trans hY,fun p hp=>?_⟩,by simp [Go.Proofs.intOf]; omega⟩
    rcases hfE p hp with h | rfl
    ·exact hz p h
    ·exact hfe
   ·have hb0 : (ad == 0) = false:=by simpa using he
    go_wp2_with fail
    obtain ⟨X,hX⟩ : ∃ X,X = wr.alloc (.cells #[.int .i64 kd,.string ⟨⟨nm⟩⟩,.slice a1 l1 c1,.string ⟨⟨o⟩⟩,.string ⟨⟨g⟩⟩,.slice a2 l2 c2,.int .i64 t] 37):=⟨_,rfl⟩
    have z0 : X.drew.cell? ⟨wr.heap.size,0,none⟩ = some (.int .i64 kd):=by rw [hX]; go_simp
    have z1 : X.drew.cell? ⟨wr.heap.size,1,none⟩ = some (.string ⟨⟨nm⟩⟩):=by rw [hX]; go_simp
    have z2 : X.drew.cell? ⟨wr.heap.size,2,none⟩ = some (.slice a1 l1 c1):=by rw [hX]; go_simp
    have z3 : X.drew.cell? ⟨wr.heap.size,3,none⟩ = some (.string ⟨⟨o⟩⟩):=by rw [hX]; go_simp
    have z4 : X.drew.cell? ⟨wr.heap.size,4,none⟩ = some (.string ⟨⟨g⟩⟩):=by rw [hX]; go_simp
    have z5 : X.drew.cell? ⟨wr.heap.size,5,none⟩ = some (.slice a2 l2 c2):=by rw [hX]; go_simp
    have z6 : X.drew.cell? ⟨wr.heap.size,6,none⟩ = some (.int .i64 t):=by rw [hX]; go_simp
    have hwX : Sam wr X.drew:=by rw [hX]; exact (sam_alloc _ _).trans ⟨rfl,rfl,Nat.le_refl _,fun _ _=>rfl⟩
    have v0:=hwX.cell t0
    have v1:=hwX.cell t1
    have v2:=hwX.cell t2
    rw [← hX]
    refine wp_region_still_tail 5 (by kernel_rfl) (by kernel_rfl) ?_
    simp only [List.take_succ_cons,List.take_zero,List.drop_succ_cons,List.drop_zero]
    change wpStill _ _ X.drew (fun a'=>wpList _ _ _ _ a' X.drew) _ _
    clear hX
    generalize X.drew = X2 at z0 z1 z2 z3 z4 z5 z6 hwX v0 v1 v2 ⊢
    iterate 5 still_step
    refine wpStill_nil ?_
    go_wp2_with (go_at_call 38; refine (hone _ (by assumption)).mono ?_; rintro _ Y ⟨rfl,hY⟩; have q6:=hY.cell z6)
    go_ret2
    refine ⟨?_,((hs.trans hsr).trans hwX).trans hY⟩
    rw [herr,if_neg he]
    rfl
  ·have hk1 : ¬ (k : Int) < (n : Int):=by omega
   have hzz : errF S1 S2 fs = none:=by
    rw [errF_skip hz,List.drop_eq_nil_of_le (by omega)]; rfl
   have hpp:=hp hzz
   clear hp hz
   obtain ⟨W3,rfl⟩ : ∃ X,X = wr:=⟨_,rfl⟩
   go_wp2_with fail
   go_loopw [33] (fun i w3=>∃ m : Nat,m ≤ n ∧ i = .int .i64 m ∧ Sam W3 w3) (fun i _=>n - (Go.Proofs.intOf i).toNat)
   case atStart=>exact ⟨0,Nat.zero_le _,rfl,Sam.refl _⟩
   case round =>
    obtain ⟨m,hm,rfl,hsq⟩:=hrel
    have hm0 : (0 : Int) ≤ (m : Int):=Int.natCast_nonneg _
    by_cases hmn : m < n
    ·have hm1 : (m : Int) < (n : Int):=by omega
     obtain ⟨⟨f,E⟩,hfk⟩ : ∃ p,fs[m]? = some p:=⟨fs[m],List.getElem?_eq_getElem (by omega)⟩
     have hpf:=hpp _ (List.mem_of_getElem? hfk)
     have hfl : (fs.map Prod.fst)[m]? = some f:=by rw [List.getElem?_map,hfk]; rfl
     have hfc:=fun c v hv=>((hs.trans hsr).trans hsq).cell (hl m f hfl c v hv)
     have hisf:=fun X=>isFile_calls f X
     unfold POk at hpf
     obtain ⟨kd,nm,a1,l1,c1,o,g,a2,l2,c2,t⟩:=f
     have y0:=hfc 0 _ rfl
     have y1:=hfc 1 _ rfl
     have y2:=hfc 2 _ rfl
     have y3:=hfc 3 _ rfl
     have y4:=hfc 4 _ rfl
     have y5:=hfc 5 _ rfl
     have y6:=hfc 6 _ rfl
     rw [Nat.add_zero] at y0
     clear hfc
     unfold encF at hisf
     dsimp only at hisf y0 y1 y2 y3 y4 y5 y6 hpf
     cases hf : isF kd with
     | false =>
      rw [hf] at hisf
      go_wp2_with (go_at_call 39; refine (hisf _).mono ?_; rintro _ X ⟨rfl,rfl⟩)
      exact ⟨⟨m + 1,by omega,by simp,hsq.trans ((sam_alloc _ _).trans (sam_alloc _ _))⟩,by simp [Go.Proofs.intOf]; omega⟩
     | true =>
      rw [hf] at hisf
      go_wp2_with (go_at_call 39; refine (hisf _).mono ?_; rintro _ X ⟨rfl,hX⟩)
      rw [← hX]
      have hsX : Sam wr X:=by rw [hX]; exact (sam_alloc _ _).trans (sam_alloc _ _)
      have z0 : X.cell? ⟨wr.heap.size,0,none⟩ = some (.int .i64 kd):=by rw [hX]; go_simp
      have z1 : X.cell? ⟨wr.heap.size,1,none⟩ = some (.string ⟨⟨nm⟩⟩):=by rw [hX]; go_simp
      have v2:=((hsr.trans hsq).trans hsX).cell x2
      have n3X:=tells_sam n3 ((hsr.trans hsq).trans hsX)
      clear hX
      replace z0:=fun p : WS X=>ws_cell z0 p
      replace z1:=fun p : WS X=>ws_cell z1 p
      replace v2:=fun p : WS X=>ws_cell v2 p
      have hnext : ∀ p : WS X,(∃ m' : Nat,m' ≤ n ∧ Value.int .i64 ((m : Int) + 1) = .int .i64 m' ∧ Sam W3 p.w):=fun p=>⟨m + 1,by omega,by simp,(hsq.trans hsX).trans p.s⟩
      rcases hpf hf with ⟨rfl,h4⟩ | ⟨h47,p1,hp1,hp2,hp3⟩
      ·obtain rfl : kd = 3:=by
        rcases Bool.or_eq_true _ _ ▸ hf with h | h
        ·simpa using h
        ·exact absurd (by simpa using h) h4
       refine region_ws (by kernel_rfl) (by kernel_rfl) ?_
       repeat (quiet_step (assumption))
       refine wpQuiet_nil ?_
       rintro _ ⟨p,rfl⟩
       go_wp2
       exact ⟨hnext p,by simp [Go.Proofs.intOf]; omega⟩
      ·have hb47 : ¬ (⟨⟨nm⟩⟩ : ByteArray) = ⟨⟨[47]⟩⟩:=by simpa using h47
       have hpar:=fun p : WS X=>(hp3 p.w (((hs.trans hsr).trans hsq).trans (hsX.trans p.s))).mono (R':=fun e w'=>e = .returned (.string ⟨⟨p1⟩⟩) ∧ ∃ q : WS X,w' = q.w) fun _ _ ⟨he,hs'⟩=>⟨he,⟨_,p.s.trans hs'⟩,rfl⟩
       have hlk:=fun p : WS X=>tells_look (tells_sam n3X p.s) p1 hp2
       rw [hp1,if_pos rfl] at hlk
       refine region_ws (by kernel_rfl) (by kernel_rfl) ?_
       repeat (quiet_step (exact hpar _))
       refine wpQuiet_nil ?_
       rintro _ ⟨p,rfl⟩
       go_wp2
       exact ⟨hnext p,by simp [Go.Proofs.intOf]; omega⟩
    ·have hm1 : ¬ (m : Int) < (n : Int):=by omega
     go_wp2
     go_ret2
     exact ⟨rfl,(hs.trans hsr).trans hsq⟩
end Go.Fbs

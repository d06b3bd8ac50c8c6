import Derived.Test.YtpnflpbamlbpeaaGreatDoorVQ
set_option linter.unusedSimpArgs false
set_option linter.unusedVariables false
set_option linter.unusedSectionVars false
set_option maxRecDepth 100000
namespace Go.Fbs
open Go.Proofs Go.RowKit Go.Shelf Go.Sort
theorem adj_snoc : ∀ {l : List Ent} {x : Ent},adjE (l ++ [x]) = (adjE l && (match l.getLast? with | none=>true | some y=>decide (cmpE y x ≠ 0)))
 | [],x=>rfl
 | [y],x=>by simp [adjE]
 | y :: z :: r,x=>by
  have ih:=adj_snoc (l:=z :: r) (x:=x)
  have e1 : adjE (y :: z :: r ++ [x]) = (decide (cmpE y z ≠ 0) && adjE (z :: r ++ [x])):=rfl
  have e2 : adjE (y :: z :: r) = (decide (cmpE y z ≠ 0) && adjE (z :: r)):=rfl
  have e3 : (y :: z :: r).getLast? = (z :: r).getLast?:=by simp
  rw [e1,ih,e2,e3,Bool.and_assoc]
theorem ok_snoc (l : List Ent) (x : Ent) : okE (l ++ [x]) = (okE l && (goodE x && (match l.getLast? with | none=>true | some y=>decide (cmpE y x ≠ 0)))):=by
 unfold okE
 rw [adj_snoc,List.all_append]
 simp only [List.all_cons,List.all_nil,Bool.and_true]
 cases l.all goodE <;> cases goodE x <;> cases adjE l <;> rfl
theorem ok_app : ∀ {t l : List Ent},okE (l ++ t) = true → okE l = true
 | [],l,h=>by rw [List.append_nil] at h; exact h
 | x :: t,l,h=>by
  have e : l ++ x :: t = (l ++ [x]) ++ t:=by simp
  rw [e] at h
  have h1:=ok_app h
  rw [ok_snoc] at h1
  cases hh : okE l
  ·rw [hh] at h1; cases h1
  ·rfl
theorem ok_take {l : List Ent} {k : Nat} (h : okE (l.take k) = false) : okE l = false:=by
 cases hh : okE l
 ·rfl
 ·rw [← List.take_append_drop k l] at hh
  rw [ok_app hh] at h; cases h
theorem ok_same {l d : List Ent} (p : d.Perm l) (s : d.Pairwise leE) : okE d = okE (sortE l):=by
 unfold okE
 rw [all_perm p,all_perm (sortE_perm l),adj_sort p s]
theorem acl_bad {l d : List Ent} (p : d.Perm l) (s : d.Pairwise leE) (h : okE d = false) : aclM l = none:=by
 rw [ok_same p s] at h
 unfold aclM
 rw [h]; rfl
theorem ok_sort {l d : List Ent} (p : d.Perm l) (s : d.Pairwise leE) (h : okE d = true) : d = sortE l:=by
 refine sort_one p s ?_
 unfold okE at h
 rw [Bool.and_eq_true,adj_dis s] at h
 exact (dis_perm p).1 h.2
theorem sam_grow (w : World) (q : Nat) (os : Array Obj) : Sam w (grow (w.drewN q) os):=by
 refine ⟨rfl,rfl,?_,fun b hb=>?_⟩
 ·show w.heap.size ≤ (w.heap ++ os).size
  simp
 ·show (w.heap ++ os)[b]? = _
  rw [Array.getElem?_append_left hb]
structure WS (W : World) where
 w : World
 s : Sam W w
instance (W : World) : Inhabited (WS W):=⟨⟨W,⟨rfl,rfl,Nat.le_refl _,fun _ _=>rfl⟩⟩⟩
theorem region_ws {P : Program} {W : World} {id : Nat} {Q : Exit → Act → World → Prop} {a : Act} {l : List Oper} (hm : P.follows .mixedOrders = true) (hB : Region.lexB .any l.toArray = true)
  (h : wpQuiet P l.toArray (fun w'=>∃ p : WS W,w' = p.w) (fun a'=>∀ w',(∃ p : WS W,w' = p.w) → Q .normal a' w') l a) : (Code.region id l.toArray true).wp P Q a W :=
 wp_region_quiet (C:=fun w'=>∃ p : WS W,w' = p.w) hm hB ⟨⟨W.drew,⟨rfl,rfl,Nat.le_refl _,fun _ _=>rfl⟩⟩,rfl⟩ (by simpa using h)
theorem ws_cell {W : World} {a : Addr} {v : Value} (h : W.cell? a = some v) (p : WS W) : p.w.cell? a = some v:=p.s.cell h
theorem ws_call {W : World} {f : FuncId} {args : Array Value} {v : Value} (h : ∀ X,Calls Tryz.prog f args X fun e w'=>e = .returned v ∧ Sam X w') (p : WS W) : Calls Tryz.prog f args p.w fun e w'=>e = .returned v ∧ ∃ q : WS W,w' = q.w :=
 (h p.w).mono fun _ _ ⟨he,hs⟩=>⟨he,⟨_,p.s.trans hs⟩,rfl⟩
theorem compare_sam (x y : Ent) (X : World) : Calls Tryz.prog 19 #[.agg (encE x).toArray,.agg (encE y).toArray] X fun e w'=>e = .returned (.int .i64 (cmpE x y)) ∧ Sam X w' :=
 (compare_calls x y X).mono fun _ _ ⟨he,q,os,hw⟩=>⟨he,by rw [hw]; exact sam_grow X q os⟩
attribute [local irreducible] wpQuiet
def aclR (v : Value) (o : Option (List Ent)) : Value:=match o with | some _=>.tuple #[v,.bool true] | none=>.tuple #[.slice none 0 0,.bool false]
set_option maxHeartbeats 6400000 in
theorem acl_walk {κ : Ctx} {l : List Ent} {v : Value} {w : World} (hl : SmallE l) (r : Rep κ w.heap (entsV l) v) :
  Calls Tryz.prog 7 #[v] w fun e w'=>Bel w.heap.size w w' ∧ ∃ v',e = .returned (aclR v' (aclM l)) ∧ ∀ a,aclM l = some a → w'.ownsRow w.heap.size 28 4 v' a.length (flatE a):=by
 obtain ⟨h200,hnm⟩:=hl
 have hcl:=clone_calls (by omega) r
 obtain ⟨n0,hn0⟩ : ∃ n0,n0 = w.heap.size:=⟨_,rfl⟩
 rw [← hn0] at hcl ⊢
 clear r
 go_enter Tryz.func7,Tryz.ntmps7
 go_wp2_with (first
  | (go_at_call 17; refine hcl.mono ?_; rintro e w1 ⟨v1,rfl,ho1,hb1⟩; obtain ⟨ad,cp,rfl⟩:=own_form ho1)
  | (go_at_call 18; refine (sort_all (by omega) ho1).mono ?_; rintro e w2 ⟨rfl,d,hp,hs,hb2,ho2⟩; have hdl:=hp.length_eq; rw [← hdl] at ho1 ho2 ⊢))
 have hb:=hb1.trans hb2
 clear hb1 hb2 ho1 hcl
 have hd200 : d.length ≤ 200:=by omega
 have hdn : ∀ e ∈ d,e.name.length ≤ 100:=fun e he=>hnm e (hp.mem_iff.1 he)
 have hnw : n0 ≤ w2.heap.size:=by have:=hb.size; omega
 go_loopw [14] (fun i wr=>∃ k : Nat,k ≤ d.length ∧ i = .int .i64 k ∧ okE (d.take k) = true ∧ wr.ownsRow n0 28 4 (.slice ad d.length cp) d.length (flatE d) ∧ Bel n0 w wr ∧ n0 ≤ wr.heap.size) (fun i _=>d.length - (Go.Proofs.intOf i).toNat)
 case atStart=>exact ⟨0,Nat.zero_le _,rfl,rfl,ho2,hb,hnw⟩
 case round =>
  obtain ⟨k,hk,rfl,hok,hown,hbel,hnr⟩:=hrel
  have hk0 : (0 : Int) ≤ (k : Int):=Int.natCast_nonneg _
  by_cases hkn : k < d.length
  ·have hk1 : (k : Int) < (d.length : Int):=by omega
   obtain ⟨y,hy⟩:=mem_some hkn
   obtain ⟨g,cp',e,hg1,hg2,hg3⟩:=own_some hown (by omega)
   obtain ⟨rfl,rfl⟩ : ad = some ⟨g,0,none⟩ ∧ cp = cp':=by simpa using e
   obtain ⟨c0,c1,c2,c3⟩:=ent_cells hown hy
   have hym : y.name.length ≤ 100:=hdn y (List.mem_of_getElem? hy)
   go_wp2
   obtain ⟨W,hW⟩ : ∃ W,W = (wr.alloc (.cells #[.int .i64 y.kind,.bool y.dflt,.string ⟨⟨y.name⟩⟩,.int .i64 y.bits] 28)):=⟨_,rfl⟩
   have x0 : W.cell? ⟨wr.heap.size,0,none⟩ = some (.int .i64 y.kind):=by rw [hW]; go_simp
   have x1 : W.cell? ⟨wr.heap.size,1,none⟩ = some (.bool y.dflt):=by rw [hW]; go_simp
   have x2 : W.cell? ⟨wr.heap.size,2,none⟩ = some (.string ⟨⟨y.name⟩⟩):=by rw [hW]; go_simp
   have x3 : W.cell? ⟨wr.heap.size,3,none⟩ = some (.int .i64 y.bits):=by rw [hW]; go_simp
   have hoW : W.ownsRow n0 28 4 (.slice (some ⟨g,0,none⟩) d.length cp) d.length (flatE d):=by rw [hW]; exact hown.alloc _
   have hbW : Bel n0 w W:=by rw [hW]; exact bel_alloc hbel hnr _
   have hnW : n0 ≤ W.heap.size:=by rw [hW]; simp; omega
   rw [← hW]
   clear hW c0 c1 c2 c3 hown hbel
   generalize wr.heap.size = B at x0 x1 x2 x3 ⊢
   replace x0:=fun p : WS W=>ws_cell x0 p
   replace x1:=fun p : WS W=>ws_cell x1 p
   replace x2:=fun p : WS W=>ws_cell x2 p
   replace x3:=fun p : WS W=>ws_cell x3 p
   have hgood:=fun p : WS W=>ws_call (fun X=>good_calls y (by omega) X) p
   cases hgd : goodE y
   ·rw [hgd] at hgood
    unfold encE at hgood
    refine region_ws (by kernel_rfl) (by kernel_rfl) ?_
    repeat (quiet_step (exact hgood _))
    refine wpQuiet_nil ?_
    rintro _ ⟨p,rfl⟩
    go_wp2
    have hn : aclM l = none:=acl_bad hp hs (ok_take (k:=k + 1) (by rw [take_succ' hy,ok_snoc,hgd]; simp))
    go_ret2
    exact ⟨hbW.trans (p.s.bel hnW),.slice none 0 0,by rw [hn]; rfl,fun a ha=>by rw [hn] at ha; cases ha⟩
   ·rw [hgd] at hgood
    unfold encE at hgood
    cases k with
    | zero =>
     have hnext : okE (d.take (0 + 1)) = true:=by rw [take_succ' hy,ok_snoc,hgd]; rfl
     refine region_ws (by kernel_rfl) (by kernel_rfl) ?_
     repeat (quiet_step (exact hgood _))
     refine wpQuiet_nil ?_
     rintro _ ⟨p,rfl⟩
     go_wp2
     exact ⟨⟨1,by omega,rfl,hnext,own_sam hoW p.s.same,hbW.trans (p.s.bel hnW),by have:=p.s.size; omega⟩,by simp [Go.Proofs.intOf]; omega⟩
    | succ m =>
     have hmn : m < d.length:=by omega
     obtain ⟨z,hz⟩:=mem_some hmn
     obtain ⟨c0,c1,c2,c3⟩:=ent_cells hoW hz
     replace c0:=fun p : WS W=>ws_cell c0 p
     replace c1:=fun p : WS W=>ws_cell c1 p
     replace c2:=fun p : WS W=>ws_cell c2 p
     replace c3:=fun p : WS W=>ws_cell c3 p
     have hcmp:=fun p : WS W=>ws_call (fun X=>compare_sam z y X) p
     have hlast : (d.take (m + 1)).getLast? = some z:=by rw [take_succ' hz]; simp
     have hokn : okE (d.take (m + 1 + 1)) = decide (cmpE z y ≠ 0):=by rw [take_succ' hy,ok_snoc,hok,hgd,hlast]; simp
     generalize cmpE z y = c at hcmp hokn
     unfold encE at hcmp
     have hm1 : (m : Int) < (d.length : Int):=by omega
     have hm0 : (0 : Int) ≤ (m : Int):=Int.natCast_nonneg _
     have hmp : (0 : Int) < (m : Int) + 1:=by omega
     have hme : (m : Int) + 1 - 1 = (m : Int):=by omega
     have hw1 : IntKind.i64.wrap (m : Int) = m:=by simp [IntKind.wrap,IntKind.signed,IntKind.bits]; omega
     have hm2 : (m : Int) < (l.length : Int):=by omega
     by_cases hc : c = 0
     ·subst hc
      refine region_ws (by kernel_rfl) (by kernel_rfl) ?_
      repeat (quiet_step (first | exact hgood _ | exact hcmp _))
      refine wpQuiet_nil ?_
      rintro _ ⟨p,rfl⟩
      go_wp2
      have hn : aclM l = none:=acl_bad hp hs (ok_take (k:=m + 1 + 1) (by rw [hokn]; rfl))
      go_ret2
      exact ⟨hbW.trans (p.s.bel hnW),.slice none 0 0,by rw [hn]; rfl,fun a ha=>by rw [hn] at ha; cases ha⟩
     ·have hcb : (c == 0) = false:=by simpa using hc
      have hnext : okE (d.take (m + 1 + 1)) = true:=by rw [hokn]; simpa using hc
      refine region_ws (by kernel_rfl) (by kernel_rfl) ?_
      repeat (quiet_step (first | exact hgood _ | exact hcmp _))
      refine wpQuiet_nil ?_
      rintro _ ⟨p,rfl⟩
      go_wp2
      exact ⟨⟨m + 1 + 1,by omega,by simp,hnext,own_sam hoW p.s.same,hbW.trans (p.s.bel hnW),by have:=p.s.size; omega⟩,by simp [Go.Proofs.intOf]; omega⟩
  ·have hk1 : ¬ (k : Int) < (d.length : Int):=by omega
   rw [take_all hkn] at hok
   have hds:=ok_sort hp hs hok
   have haM : aclM l = if wholeL d = true then (if (masksM d).length ≤ 100 then some (sortE (masksM d)) else none) else none:=by
    unfold aclM
    rw [← hds,hok,Bool.true_and]
   have hdis : Dis d:=((adj_dis hs).1 (by unfold okE at hok; rw [Bool.and_eq_true] at hok; exact hok.2))
   clear hds
   have hnone : aclM l = none → ∀ w',Bel n0 w w' → Bel n0 w w' ∧ ∃ v',Ending.returned (.tuple #[.slice none 0 0,.bool false]) = .returned (aclR v' (aclM l)) ∧ ∀ a,aclM l = some a → w'.ownsRow n0 28 4 v' a.length (flatE a) :=
    fun hn w' hb=>⟨hb,.slice none 0 0,by rw [hn]; rfl,fun a ha=>by rw [hn] at ha; cases ha⟩
   have hsome : ∀ (d2 : List Ent) (v' : Value) w',d2.Perm (masksM d) → d2.Pairwise leE → wholeL d = true → (masksM d).length ≤ 100 → Bel n0 w w' → w'.ownsRow n0 28 4 v' d2.length (flatE d2) →
     Bel n0 w w' ∧ ∃ v'',Ending.returned (.tuple #[v',.bool true]) = .returned (aclR v'' (aclM l)) ∧ ∀ a,aclM l = some a → w'.ownsRow n0 28 4 v'' a.length (flatE a):=fun d2 v' w' p2 s2 hw h100 hb ho=>by
    have e : d2 = sortE (masksM d):=sort_one p2 s2 (masks_dis hdis)
    rw [if_pos hw,if_pos h100,← e] at haM
    exact ⟨hb,v',by rw [haM]; rfl,fun a ha=>by rw [haM] at ha; cases ha; exact ho⟩
   have hbig : wholeL d = true → ¬ (masksM d).length ≤ 100 → aclM l = none:=fun h g=>by rw [haM,if_pos h,if_neg g]
   have hwf:=whole_calls false (by omega) hown
   by_cases hz : d.length = 0
   ·obtain rfl : d = []:=List.length_eq_zero_iff.1 hz
    have hn : aclM l = none:=by rw [haM]; rfl
    have hl0 : l.length = 0:=by simpa using hdl.symm
    obtain rfl : k = 0:=by simpa using hk
    rw [show wholeM [] false = false from rfl] at hwf
    go_wp2_with (go_at_call 21; refine hwf.mono ?_; rintro e w3 ⟨rfl,hs3⟩)
    go_ret2
    exact hnone hn _ (hbel.trans (hs3.bel hnr))
   ·obtain ⟨m,hm⟩ : ∃ m,d.length = m + 1:=⟨d.length - 1,by omega⟩
    obtain ⟨z,hzz⟩:=mem_some (l:=d) (i:=m) (by omega)
    obtain ⟨g,cp',e,hg1,hg2,hg3⟩:=own_some hown hz
    obtain ⟨rfl,rfl⟩ : ad = some ⟨g,0,none⟩ ∧ cp = cp':=by simpa using e
    obtain ⟨c0,c1,c2,c3⟩:=ent_cells hown hzz
    have hlD : lastD d = z.dflt:=by unfold lastD; rw [List.getLast?_eq_getElem?,hm,Nat.add_sub_cancel,hzz]
    have hwL : wholeL d = (wholeM d false && (!z.dflt || wholeM d true)):=by unfold wholeL; rw [hlD]
    have hMM : masksM d = if z.dflt = true then addM true (addM false d) else addM false d:=by unfold masksM; rw [hlD]
    obtain ⟨kz,dz,nz,bz⟩:=z
    dsimp only at c0 c1 c2 c3 hwL hMM
    have hlm : l.length = m + 1:=by omega
    have hkm : k = m + 1:=by omega
    have hm1 : (m : Int) < (m : Int) + 1:=by omega
    have hm0 : (0 : Int) ≤ (m : Int):=Int.natCast_nonneg _
    have hmp : (0 : Int) < (m : Int) + 1:=by omega
    have hme : (m : Int) + 1 - 1 = (m : Int):=by omega
    have hw1 : IntKind.i64.wrap (m : Int) = m:=by simp [IntKind.wrap,IntKind.signed,IntKind.bits]; omega
    have hwt : ∀ W : World,W.ownsRow n0 28 4 (.slice (some ⟨g,0,none⟩) d.length cp) d.length (flatE d) → Calls Tryz.prog 21 #[.slice (some ⟨g,0,none⟩) (m + 1) cp,.bool true] W fun e w'=>e = .returned (.bool (wholeM d true)) ∧ Sam W w':=fun W h=>by
     have:=whole_calls true (by omega) h
     rw [hm] at this; exact this
    have hmk : ∀ W : World,n0 ≤ W.heap.size → W.ownsRow n0 28 4 (.slice (some ⟨g,0,none⟩) d.length cp) d.length (flatE d) → Calls Tryz.prog 22 #[.slice (some ⟨g,0,none⟩) (m + 1) cp,.bool false] W fun e w'=>∃ v',e = .returned v' ∧ Bel n0 W w' ∧ w'.ownsRow n0 28 4 v' (addM false d).length (flatE (addM false d)):=fun W hb h=>by
     have:=masked_calls false (by omega) hb h
     rw [hm] at this; exact this
    rw [hm] at hwf
    generalize wholeM d false = A at hwf hwL
    generalize wholeM d true = E at hwt hwL
    cases A
    ·have hn : aclM l = none:=by rw [haM,hwL]; rfl
     cases dz
     ·go_wp2_with (go_at_call 21; refine hwf.mono ?_; rintro e w3 ⟨rfl,hs3⟩)
      go_ret2
      exact hnone hn _ (hbel.trans (hs3.bel hnr))
     ·go_wp2_with (go_at_call 21; refine hwf.mono ?_; rintro e w3 ⟨rfl,hs3⟩)
      go_ret2
      exact hnone hn _ (hbel.trans (hs3.bel hnr))
    ·cases dz
     ·have hwok : wholeL d = true:=by rw [hwL]; rfl
      have hM : masksM d = addM false d:=hMM
      have hMl:=masksM_len d
      have hsrt:=fun (v' : Value) (W : World) (h : W.ownsRow n0 28 4 v' (masksM d).length (flatE (masksM d)))=>sort_all (by omega) h
      have hmsk:=hmk
      rw [← hM] at hmsk
      generalize masksM d = M at hmsk hsrt hMl hsome hbig
      have hmi : ∀ n : Nat,¬ n ≤ 100 → (100 : Int) < (n : Int):=fun n h=>by omega
      have hmj : ∀ n : Nat,n ≤ 100 → ¬ (100 : Int) < (n : Int):=fun n h=>by omega
      by_cases h100 : M.length ≤ 100
      ·have h1:=hmj _ h100
       go_wp2_with (first
        | (go_at_call 21; refine hwf.mono ?_; rintro e w3 ⟨rfl,hs3⟩)
        | (go_at_call 22; refine (hmsk _ (by have:=hs3.size; omega) (own_sam hown hs3.same)).mono ?_; rintro e w4 ⟨v4,rfl,hb4,ho4⟩; obtain ⟨ad4,cp4,rfl⟩:=own_form ho4)
        | (go_at_call 18; refine (hsrt _ _ ho4).mono ?_; rintro e w5 ⟨rfl,d2,hp2,hs2,hb5,ho5⟩))
       go_ret2
       exact hsome d2 _ _ hp2 hs2 hwok h100 (((hbel.trans (hs3.bel hnr)).trans hb4).trans hb5) ho5
      ·have h1:=hmi _ h100
       go_wp2_with (first
        | (go_at_call 21; refine hwf.mono ?_; rintro e w3 ⟨rfl,hs3⟩)
        | (go_at_call 22; refine (hmsk _ (by have:=hs3.size; omega) (own_sam hown hs3.same)).mono ?_; rintro e w4 ⟨v4,rfl,hb4,ho4⟩; obtain ⟨ad4,cp4,rfl⟩:=own_form ho4)
        | (go_at_call 18; refine (hsrt _ _ ho4).mono ?_; rintro e w5 ⟨rfl,d2,hp2,hs2,hb5,ho5⟩))
       go_ret2
       exact hnone (hbig hwok h100) _ (((hbel.trans (hs3.bel hnr)).trans hb4).trans hb5)
     ·cases E
      ·have hn : aclM l = none:=by rw [haM,hwL]; rfl
       go_wp2_with (first
        | (go_at_call 21; refine (hwt _ (own_sam hown hs3.same)).mono ?_; rintro e w4 ⟨rfl,hs4⟩)
        | (go_at_call 21; refine hwf.mono ?_; rintro e w3 ⟨rfl,hs3⟩))
       go_ret2
       exact hnone hn _ ((hbel.trans (hs3.bel hnr)).trans (hs4.bel (by have:=hs3.size; omega)))
      ·have hwok : wholeL d = true:=by rw [hwL]; rfl
       have hM : masksM d = addM true (addM false d):=hMM
       have hMl:=masksM_len d
       have hM0:=addM_len false d
       have hsrt:=fun (v' : Value) (W : World) (h : W.ownsRow n0 28 4 v' (masksM d).length (flatE (masksM d)))=>sort_all (by omega) h
       have hmk2:=fun (v' : Value) (W : World) (hb : n0 ≤ W.heap.size) (h : W.ownsRow n0 28 4 v' (addM false d).length (flatE (addM false d)))=>masked_calls true (by omega) hb h
       rw [← hM] at hmk2
       generalize masksM d = M at hmk2 hsrt hMl hsome hbig
       clear hM hMM
       generalize addM false d = M0 at hmk2 hmk hM0
       have hmi : ∀ n : Nat,¬ n ≤ 100 → (100 : Int) < (n : Int):=fun n h=>by omega
       have hmj : ∀ n : Nat,n ≤ 100 → ¬ (100 : Int) < (n : Int):=fun n h=>by omega
       by_cases h100 : M.length ≤ 100
       ·have h1:=hmj _ h100
        go_wp2_with (first
         | (go_at_call 21; refine (hwt _ (own_sam hown hs3.same)).mono ?_; rintro e w4 ⟨rfl,hs4⟩; have hz4:=hs4.size; have hz3:=hs3.size)
         | (go_at_call 21; refine hwf.mono ?_; rintro e w3 ⟨rfl,hs3⟩)
         | (go_at_call 22; refine (hmk2 _ _ (by omega) ho5).mono ?_; rintro e w6 ⟨v6,rfl,hb6,ho6⟩; obtain ⟨ad6,cp6,rfl⟩:=own_form ho6)
         | (go_at_call 22; refine (hmk _ (by omega) (own_sam (own_sam hown hs3.same) hs4.same)).mono ?_; rintro e w5 ⟨v5,rfl,hb5,ho5⟩; have hz5:=hb5.size)
         | (go_at_call 18; refine (hsrt _ _ ho6).mono ?_; rintro e w7 ⟨rfl,d2,hp2,hs2,hb7,ho7⟩))
        go_ret2
        exact hsome d2 _ _ hp2 hs2 hwok h100 (((((hbel.trans (hs3.bel hnr)).trans (hs4.bel (by omega))).trans hb5).trans hb6).trans hb7) ho7
       ·have h1:=hmi _ h100
        go_wp2_with (first
         | (go_at_call 21; refine (hwt _ (own_sam hown hs3.same)).mono ?_; rintro e w4 ⟨rfl,hs4⟩; have hz4:=hs4.size; have hz3:=hs3.size)
         | (go_at_call 21; refine hwf.mono ?_; rintro e w3 ⟨rfl,hs3⟩)
         | (go_at_call 22; refine (hmk2 _ _ (by omega) ho5).mono ?_; rintro e w6 ⟨v6,rfl,hb6,ho6⟩; obtain ⟨ad6,cp6,rfl⟩:=own_form ho6)
         | (go_at_call 22; refine (hmk _ (by omega) (own_sam (own_sam hown hs3.same) hs4.same)).mono ?_; rintro e w5 ⟨v5,rfl,hb5,ho5⟩; have hz5:=hb5.size)
         | (go_at_call 18; refine (hsrt _ _ ho6).mono ?_; rintro e w7 ⟨rfl,d2,hp2,hs2,hb7,ho7⟩))
        go_ret2
        exact hnone (hbig hwok h100) _ (((((hbel.trans (hs3.bel hnr)).trans (hs4.bel (by omega))).trans hb5).trans hb6).trans hb7)
theorem ok_mask_Acl : SpecL Tryz.prog n_mask_Acl F_mask_Acl:=by
 refine ⟨⟨_,_,Tryz.func7,rfl,by kernel_rfl⟩,fun args v hv=>?_⟩
 obtain ⟨l,rfl,hl,rfl⟩:=specOf_inv hv
 refine ⟨fun m κ w xs k r=>?_,(cano_plain (show (aclV (aclM l)).cano = true by cases aclM l <;> simp [aclV,V.cano,canos,entsV_cano])).2⟩
 obtain ⟨x,ys,rfl,r1,r2⟩:=r.inv_cons
 obtain rfl:=r2.inv_nil
 refine (acl_walk hl r1).mono ?_
 rintro e w' ⟨hb,v',rfl,ho⟩
 refine ⟨_,_,rfl,newHw_ext k hb.size hb.block hb.os hb.output,?_⟩
 cases hA : aclM l with
 | none =>
  refine .tup _ [_,_] rfl fun i c x h1 h2=>?_
  match i,h1,h2 with
  | 0,h1,h2=>cases h1; cases h2; exact .slnil .ro (fun i h=>by cases h)
  | 1,h1,h2=>cases h1; cases h2; exact .bool _
 | some a =>
  have:=own_new (κ:=κ) (ho a hA)
  refine .tup _ [_,_] rfl fun i c x h1 h2=>?_
  match i,h1,h2 with
  | 0,h1,h2=>cases h1; cases h2; exact this
  | 1,h1,h2=>cases h1; cases h2; exact .bool _
end Go.Fbs

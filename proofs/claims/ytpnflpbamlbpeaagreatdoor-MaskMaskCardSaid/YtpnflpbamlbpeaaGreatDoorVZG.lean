import Derived.Test.YtpnflpbamlbpeaaGreatDoorVZF
import Derived.Shelf.Slices.In.SortNone
set_option linter.unusedSimpArgs false
set_option linter.unusedVariables false
set_option linter.unusedSectionVars false
set_option maxRecDepth 100000
namespace Go.Fbs
open Go.Proofs Go.RowKit Go.Shelf Go.Sort Go.Maps
theorem Tryz.info9 : (Tryz.prog.info? 9).map (fun i=>(i.zero,i.size,i.bytes)) = some (some (.string ⟨⟨[]⟩⟩),1,16):=by kernel_rfl
theorem Tryz.info37 : (Tryz.prog.info? 37).map (fun i=>(i.zero,i.size,i.bytes)) = some (some (.agg #[.int .i64 0,.string ⟨⟨[]⟩⟩,.slice none 0 0,.string ⟨⟨[]⟩⟩,.string ⟨⟨[]⟩⟩,.slice none 0 0,.int .i64 0]),7,112):=by kernel_rfl
def Flat (u : Option Addr) : Prop:=u = none ∨ ∃ b off,u = some ⟨b,off,none⟩
theorem cloneS_calls {ua : Option Addr} (hu : Flat ua) (uc : Nat) (w : World) : Calls Tryz.prog 55 #[.slice ua 0 uc] w fun e w'=>∃ a c,e = .returned (.slice a 0 c) ∧ Sam w w':=by
 rcases hu with rfl | ⟨b,off,rfl⟩
 ·have hcon:=AnyE.slices_Clone_nil Tryz.cloneStr 0 uc w
  change Calls Tryz.prog 55 _ _ _ at hcon
  exact hcon.mono fun e w' ⟨he,hw⟩=>⟨_,_,he,by rw [hw]; exact Sam.refl _⟩
 ·obtain ⟨i0,hi,hz0,hz1,hz2⟩:=info_parts Tryz.info9
  have hcon:=AnyE.slices_Clone Tryz.cloneStr i0 _ 1 16 hi hz0 hz1 hz2 rfl (by decide) Tryz.sizeOf9 b off 0 uc [] w rfl (by decide) (by decide) (fun j u h=>by simp at h) (fun u h=>by simp at h)
  change Calls Tryz.prog 55 _ _ _ at hcon
  refine hcon.mono ?_
  rintro e w' ⟨v',rfl,ho,_,hb⟩
  obtain ⟨ad,cp,rfl⟩:=own_form ho
  exact ⟨ad,cp,rfl,sam_below hb⟩
theorem once_calls {ua : Option Addr} (hu : Flat ua) (uc : Nat) (w : World) : Calls Tryz.prog 28 #[.slice ua 0 uc] w fun e w'=>∃ a c,e = .returned (.slice a 0 c) ∧ Sam w w':=by
 have h1:=cloneS_calls hu uc w
 have h2:=fun a c X=>Any.slices_Sort_string_none Tryz.lays190 a c X
 change ∀ a c X,Calls Tryz.prog 56 _ _ _ at h2
 have h3 : ∀ a c X,Calls Tryz.prog 57 #[.slice a 0 c] X fun e w'=>e = .returned (.slice a 0 c) ∧ w' = X:=fun a c X=>by
  go_enter Tryz.func57,Tryz.ntmps57
  go_wp2
  go_ret
  exact ⟨rfl,rfl⟩
 go_enter Tryz.func28,Tryz.ntmps28
 go_wp2_with (first
  | (go_at_call 55; refine h1.mono ?_; rintro _ X ⟨a,c,rfl,hX⟩)
  | (go_at_call 56; refine (h2 _ _ _).mono ?_; rintro _ _ ⟨rfl,h⟩; rw [h]; clear h)
  | (go_at_call 57; refine (h3 _ _ _).mono ?_; rintro _ _ ⟨rfl,h⟩; rw [h]; clear h))
 go_ret
 exact ⟨_,_,rfl,hX⟩
theorem own_samF {W W' : World} {base n : Nat} {v : Value} {xs : List Value} (h : W.ownsRow base 37 7 v n xs) (hs : ∀ b,b < W.heap.size → W'.heap[b]? = W.heap[b]?) : W'.ownsRow base 37 7 v n xs:=by
 obtain ⟨h1,h2⟩:=h
 refine ⟨h1,?_⟩
 rcases h2 with h2 | ⟨g,cap,cur,rfl,hb,hg,r⟩
 ·exact .inl h2
 ·exact .inr ⟨g,cap,cur,rfl,hb,(hs g (Array.getElem?_eq_some_iff.1 hg).1).trans hg,r⟩
theorem sam_set {W X : World} {b o : Nat} {v : Value} (h : Sam W X) (hb : W.heap.size ≤ b) : Sam W (X.setCell ⟨b,o,none⟩ v) :=
 ⟨h.os,h.output,by have:=h.size; simpa [World.setCell] using this,fun k hk=>(setCell_other X b o v (by omega)).trans (h.same k hk)⟩
structure NOk (w : World) (f : FR) : Prop where
 un : f.un = 0
 flat : Flat f.ua
 acl : ∀ X,Sam w X → Calls Tryz.prog 7 #[.slice f.aa f.an f.ac] X fun e w'=>Sam X w' ∧ ∃ ad n c b,e = .returned (.tuple #[.slice ad n c,.bool b])
set_option maxHeartbeats 6400000 in
theorem normal_calls {l : List FR} {b off n cap : Nat} {w : World} (hn : l.length = n) (hn0 : 0 < n) (hn1 : n < 20) (hb : b < w.heap.size) (hl : FactsAt w b off l) (hok : ∀ f ∈ l,NOk w f) (hdis : (l.map (·.name)).Nodup) :
  Calls Tryz.prog 11 #[.slice (some ⟨b,off,none⟩) n cap] w fun e w'=>Sam w w' ∧ ∃ v' out,e = .returned v' ∧ out.length = n ∧ w'.ownsRow w.heap.size 37 7 v' out.length (flatF out):=by
 obtain ⟨i0,hi,hz0,hz1,hz2⟩:=info_parts Tryz.info37
 go_enter Tryz.func11,Tryz.ntmps11
 go_wp2
 go_loopw [3,9] (fun ov i wr=>∃ k : Nat,∃ out : List FR,k ≤ n ∧ i = .int .i64 k ∧ out.map (·.name) = (l.take k).map (·.name) ∧ wr.ownsRow w.heap.size 37 7 ov out.length (flatF out) ∧ Sam w wr) (fun _ i _=>n - (Go.Proofs.intOf i).toNat)
 case atStart=>exact ⟨0,[],Nat.zero_le _,rfl,rfl,World.ownsRow_nil _ _ _ _,Sam.refl _⟩
 case round =>
  obtain ⟨k,out,hk,rfl,hnm,hown,hsr⟩:=hrel
  have hk0 : (0 : Int) ≤ (k : Int):=Int.natCast_nonneg _
  obtain ⟨oa,oc,rfl⟩:=own_form hown
  have hol : out.length = k:=by have:=congrArg List.length hnm; simp at this; omega
  rw [hol] at hown
  by_cases hkn : k < n
  ·have hk1 : (k : Int) < (n : Int):=by omega
   obtain ⟨f,hf⟩ : ∃ f,l[k]? = some f:=⟨l[k],List.getElem?_eq_getElem (by omega)⟩
   have hfo:=hok f (List.mem_of_getElem? hf)
   have hfc:=fun c v hv=>hsr.cell (hl k f hf c v hv)
   obtain ⟨h1,h2,h3⟩:=hfo
   have hon:=fun X=>once_calls h2 f.uc X
   obtain ⟨kd,nm,a1,l1,c1,o,g,a2,l2,c2,t⟩:=f
   have y0:=hfc 0 _ rfl
   have y1:=hfc 1 _ rfl
   have y2:=hfc 2 _ rfl
   have y3:=hfc 3 _ rfl
   have y4:=hfc 4 _ rfl
   have y5:=hfc 5 _ rfl
   have y6:=hfc 6 _ rfl
   simp only [Nat.add_zero] at y0
   clear hfc
   dsimp only at h1 h2 h3 y0 y1 y2 y3 y4 y5 y6 hon
   subst h1
   go_wp2_with fail
   obtain ⟨W,hW⟩ : ∃ W,W = wr.alloc (.cells #[.int .i64 kd,.string ⟨⟨nm⟩⟩,.slice a1 0 c1,.string ⟨⟨o⟩⟩,.string ⟨⟨g⟩⟩,.slice a2 l2 c2,.int .i64 t] 37):=⟨_,rfl⟩
   have z0 : W.cell? ⟨wr.heap.size,0,none⟩ = some (.int .i64 kd):=by rw [hW]; go_simp
   have z1 : W.cell? ⟨wr.heap.size,1,none⟩ = some (.string ⟨⟨nm⟩⟩):=by rw [hW]; go_simp
   have z2 : W.cell? ⟨wr.heap.size,2,none⟩ = some (.slice a1 0 c1):=by rw [hW]; go_simp
   have z3 : W.cell? ⟨wr.heap.size,3,none⟩ = some (.string ⟨⟨o⟩⟩):=by rw [hW]; go_simp
   have z4 : W.cell? ⟨wr.heap.size,4,none⟩ = some (.string ⟨⟨g⟩⟩):=by rw [hW]; go_simp
   have z5 : W.cell? ⟨wr.heap.size,5,none⟩ = some (.slice a2 l2 c2):=by rw [hW]; go_simp
   have hsW : Sam w W:=by rw [hW]; exact hsr.trans (sam_alloc _ _)
   have hoW : W.ownsRow w.heap.size 37 7 (.slice oa k oc) k (flatF out):=by rw [hW]; exact hown.alloc _
   rw [← hW]
   have hBW : wr.heap.size < W.heap.size:=by rw [hW]; simp
   clear hW hown
   generalize wr.heap.size = B0 at z0 z1 z2 z3 z4 z5 hBW ⊢
   have hd0 : Sam W W.drew:=⟨rfl,rfl,Nat.le_refl _,fun _ _=>rfl⟩
   have hd1 : ∀ o1,Sam W (W.alloc o1).drew:=fun o1=>(sam_alloc W o1).trans ⟨rfl,rfl,Nat.le_refl _,fun _ _=>rfl⟩
   have hd2 : ∀ X o1,Sam W X → Sam W (X.alloc o1):=fun X o1 h=>h.trans (sam_alloc X o1)
   have hset : ∀ X o v,Sam W X → Sam W (X.setCell ⟨W.heap.size,o,none⟩ v):=fun X o v h=>⟨h.os,h.output,by have:=h.size; simpa [World.setCell] using this,fun b hb=>(setCell_other X _ o v (by omega)).trans (h.same b hb)⟩
   go_region_held3 (fun w'=>w'.cell? ⟨B0,0,none⟩ = some (.int .i64 kd) ∧ w'.cell? ⟨B0,1,none⟩ = some (.string ⟨⟨nm⟩⟩) ∧ w'.cell? ⟨B0,2,none⟩ = some (.slice a1 0 c1) ∧ w'.cell? ⟨B0,3,none⟩ = some (.string ⟨⟨o⟩⟩) ∧ w'.cell? ⟨B0,4,none⟩ = some (.string ⟨⟨g⟩⟩))
    (refine ⟨Sam.cell (W:=W) ?_ z0,Sam.cell (W:=W) ?_ z1,Sam.cell (W:=W) ?_ z2,Sam.cell (W:=W) ?_ z3,Sam.cell (W:=W) ?_ z4⟩ <;> first | with_reducible exact hd0 | with_reducible exact hd1 _ | with_reducible assumption | (with_reducible refine hd2 _ _ ?_; with_reducible assumption) | ((iterate 7 with_reducible refine hset _ _ _ ?_); with_reducible assumption))
    (first
     | (go_at_call 28; refine (hon _).mono ?_; rintro _ X ⟨a',c',rfl,hX⟩; have hWX : Sam W X:=Sam.trans (by first | exact hd0 | exact hd1 _) hX; first | (have hzz:=(hX.same W.heap.size (by simp [World.drew])).trans (heap_alloc_new W _); have q0:=Lib.cell_of_heap hzz 0; have q1:=Lib.cell_of_heap hzz 1; have q2:=Lib.cell_of_heap hzz 2; have q3:=Lib.cell_of_heap hzz 3; have q4:=Lib.cell_of_heap hzz 4; have q5:=Lib.cell_of_heap hzz 5; have q6:=Lib.cell_of_heap hzz 6; simp at q0 q1 q2 q3 q4 q5 q6; have r0:=Lib.frozen_of_heap hzz 0; have r1:=Lib.frozen_of_heap hzz 1; have r2:=Lib.frozen_of_heap hzz 2; have r3:=Lib.frozen_of_heap hzz 3; have r4:=Lib.frozen_of_heap hzz 4; have r5:=Lib.frozen_of_heap hzz 5; have r6:=Lib.frozen_of_heap hzz 6) | skip))
   ·have hY : Sam W (X.alloc (.cells #[.int .i64 kd,.string ⟨⟨nm⟩⟩,.slice a' 0 c',.string ⟨⟨o⟩⟩,.string ⟨⟨g⟩⟩,.slice none 0 0,.int .i64 0] 37)):=hd2 _ _ hWX
    have hN:=heap_alloc_new X (.cells #[.int .i64 kd,.string ⟨⟨nm⟩⟩,.slice a' 0 c',.string ⟨⟨o⟩⟩,.string ⟨⟨g⟩⟩,.slice none 0 0,.int .i64 0] 37)
    have hB1:=hWX.size
    generalize X.alloc (.cells #[.int .i64 kd,.string ⟨⟨nm⟩⟩,.slice a' 0 c',.string ⟨⟨o⟩⟩,.string ⟨⟨g⟩⟩,.slice none 0 0,.int .i64 0] 37) = Y at hY hN ⊢
    generalize X.heap.size = B1 at hN hB1 ⊢
    clear hX hWX
    have hsY:=hsW.trans hY
    have z5Y:=hY.cell z5
    have hA:=h3 Y hsY
    have hlt:=(Array.getElem?_eq_some_iff.1 hN).1
    have hkM : k + 1 ≤ maxLen:=by unfold maxLen; omega
    go_wp2_with (first
     | (go_at_call 7; refine hA.mono ?_; rintro _ Z ⟨hZ,ad,na,ca,ba,rfl⟩; have hNZ:=(hZ.same B1 hlt).trans hN; have fr5:=Lib.frozen_of_heap hNZ 5; have c5:=Lib.cell_of_heap hNZ 5; have c0:=Lib.cell_of_heap hNZ 0; have c1':=Lib.cell_of_heap hNZ 1; have c2':=Lib.cell_of_heap hNZ 2; have c3:=Lib.cell_of_heap hNZ 3; have c4:=Lib.cell_of_heap hNZ 4; have c6:=Lib.cell_of_heap hNZ 6; simp at c0 c1' c2' c3 c4 c5 c6; have hZs : Sam W (Z.setCell ⟨B1,5,none⟩ (.slice ad na ca)):=sam_set (hY.trans hZ) hB1; have hoZ:=own_samF hoW hZs.same; have hnews : ∀ j u,[Value.int .i64 kd,.string ⟨⟨nm⟩⟩,.slice a' 0 c',.string ⟨⟨o⟩⟩,.string ⟨⟨g⟩⟩,.slice ad na ca,.int .i64 0][j]? = some u → ((Z.setCell ⟨B1,5,none⟩ (.slice ad na ca)).alloc (.cells #[.int .i64 kd,.string ⟨⟨nm⟩⟩,.slice a' 0 c',.string ⟨⟨o⟩⟩,.string ⟨⟨g⟩⟩,.slice ad na ca,.int .i64 0] 37)).cell? ((⟨Z.heap.size,0,none⟩ : Addr).add j) = some u:=by have:=World.news_of_block (cs:=#[.int .i64 kd,.string ⟨⟨nm⟩⟩,.slice a' 0 c',.string ⟨⟨o⟩⟩,.string ⟨⟨g⟩⟩,.slice ad na ca,.int .i64 0]) (heap_alloc_new (Z.setCell ⟨B1,5,none⟩ (.slice ad na ca)) (.cells #[.int .i64 kd,.string ⟨⟨nm⟩⟩,.slice a' 0 c',.string ⟨⟨o⟩⟩,.string ⟨⟨g⟩⟩,.slice ad na ca,.int .i64 0] 37)); rwa [show (Z.setCell ⟨B1,5,none⟩ (.slice ad na ca)).heap.size = Z.heap.size by simp [World.setCell]] at this)
     | (at_builtin; refine wpList_append_lies _ rfl _ _ 33 rfl w.heap.size 37 i0 _ 7 112 Tryz.underlying33 hi hz0 hz1 hz2 rfl (by decide) _ _ _ rfl (hoZ.alloc _) ⟨Z.heap.size,0,none⟩ 1 1 [.int .i64 kd,.string ⟨⟨nm⟩⟩,.slice a' 0 c',.string ⟨⟨o⟩⟩,.string ⟨⟨g⟩⟩,.slice ad na ca,.int .i64 0] rfl rfl hnews (by intro u hu; simp at hu; rcases hu with rfl | rfl | rfl | rfl | rfl | rfl | rfl <;> rfl) (by decide) hkM (by omega) (by have:=(hsW.trans hZs).size; simp at this ⊢; omega) (Z.heap.size + 1) (by simp [World.setCell]) ?_; intro g' cp' w2 hown' hgrow hat hlt2)
     | go_in)
    have hbb:=own_base hoZ
    have hfin : Sam w w2:=by
     have:=bel_grown (bel_alloc ((hsW.trans hZs).bel (Nat.le_refl _)) (hsW.trans hZs).size _) hgrow (by have:=(hsW.trans hZs).size; simp at this ⊢; omega) hbb
     exact ⟨this.os,this.output,this.size,this.block⟩
    refine ⟨⟨k + 1,out ++ [⟨kd,nm,a',0,c',o,g,ad,na,ca,0⟩],by omega,by simp,?_,?_,hfin⟩,by simp [Go.Proofs.intOf]; omega⟩
    ·rw [List.map_append,hnm,List.take_add_one,hf,List.map_append]; rfl
    ·rw [show (out ++ [(⟨kd,nm,a',0,c',o,g,ad,na,ca,0⟩ : FR)]).length = k + 1 by simp [hol],flatF_app]; exact hown'
   ·have hY : Sam W (((((((X.setCell ⟨W.heap.size,0,none⟩ (.int .i64 kd)).setCell ⟨W.heap.size,1,none⟩ (.string ⟨⟨nm⟩⟩)).setCell ⟨W.heap.size,2,none⟩ (.slice a' 0 c')).setCell ⟨W.heap.size,3,none⟩ (.string ⟨⟨o⟩⟩)).setCell ⟨W.heap.size,4,none⟩ (.string ⟨⟨g⟩⟩)).setCell ⟨W.heap.size,5,none⟩ (.slice none 0 0)).setCell ⟨W.heap.size,6,none⟩ (.int .i64 0)):=hset _ _ _ (hset _ _ _ (hset _ _ _ (hset _ _ _ (hset _ _ _ (hset _ _ _ (hset _ _ _ hWX))))))
    have hN : (((((((X.setCell ⟨W.heap.size,0,none⟩ (.int .i64 kd)).setCell ⟨W.heap.size,1,none⟩ (.string ⟨⟨nm⟩⟩)).setCell ⟨W.heap.size,2,none⟩ (.slice a' 0 c')).setCell ⟨W.heap.size,3,none⟩ (.string ⟨⟨o⟩⟩)).setCell ⟨W.heap.size,4,none⟩ (.string ⟨⟨g⟩⟩)).setCell ⟨W.heap.size,5,none⟩ (.slice none 0 0)).setCell ⟨W.heap.size,6,none⟩ (.int .i64 0)).heap[W.heap.size]? = some (.cells #[.int .i64 kd,.string ⟨⟨nm⟩⟩,.slice a' 0 c',.string ⟨⟨o⟩⟩,.string ⟨⟨g⟩⟩,.slice none 0 0,.int .i64 0] 37 (0,0)):=by
     simp [World.setCell,Array.getElem?_modify,hzz]
    generalize (((((((X.setCell ⟨W.heap.size,0,none⟩ (.int .i64 kd)).setCell ⟨W.heap.size,1,none⟩ (.string ⟨⟨nm⟩⟩)).setCell ⟨W.heap.size,2,none⟩ (.slice a' 0 c')).setCell ⟨W.heap.size,3,none⟩ (.string ⟨⟨o⟩⟩)).setCell ⟨W.heap.size,4,none⟩ (.string ⟨⟨g⟩⟩)).setCell ⟨W.heap.size,5,none⟩ (.slice none 0 0)).setCell ⟨W.heap.size,6,none⟩ (.int .i64 0)) = Y at hY hN ⊢
    clear hX hWX hzz q0 q1 q2 q3 q4 q5 q6 r0 r1 r2 r3 r4 r5 r6
    have hB1 : W.heap.size ≤ W.heap.size:=Nat.le_refl _
    obtain ⟨B1,hBe⟩ : ∃ B1,B1 = W.heap.size:=⟨_,rfl⟩
    replace hB1 : W.heap.size ≤ B1:=Nat.le_of_eq hBe.symm
    rw [← hBe] at hN ⊢
    clear hBe
    have hsY:=hsW.trans hY
    have z5Y:=hY.cell z5
    have hA:=h3 Y hsY
    have hlt:=(Array.getElem?_eq_some_iff.1 hN).1
    have hkM : k + 1 ≤ maxLen:=by unfold maxLen; omega
    go_wp2_with (first
     | (go_at_call 7; refine hA.mono ?_; rintro _ Z ⟨hZ,ad,na,ca,ba,rfl⟩; have hNZ:=(hZ.same B1 hlt).trans hN; have fr5:=Lib.frozen_of_heap hNZ 5; have c5:=Lib.cell_of_heap hNZ 5; have c0:=Lib.cell_of_heap hNZ 0; have c1':=Lib.cell_of_heap hNZ 1; have c2':=Lib.cell_of_heap hNZ 2; have c3:=Lib.cell_of_heap hNZ 3; have c4:=Lib.cell_of_heap hNZ 4; have c6:=Lib.cell_of_heap hNZ 6; simp at c0 c1' c2' c3 c4 c5 c6; have hZs : Sam W (Z.setCell ⟨B1,5,none⟩ (.slice ad na ca)):=sam_set (hY.trans hZ) hB1; have hoZ:=own_samF hoW hZs.same; have hnews : ∀ j u,[Value.int .i64 kd,.string ⟨⟨nm⟩⟩,.slice a' 0 c',.string ⟨⟨o⟩⟩,.string ⟨⟨g⟩⟩,.slice ad na ca,.int .i64 0][j]? = some u → ((Z.setCell ⟨B1,5,none⟩ (.slice ad na ca)).alloc (.cells #[.int .i64 kd,.string ⟨⟨nm⟩⟩,.slice a' 0 c',.string ⟨⟨o⟩⟩,.string ⟨⟨g⟩⟩,.slice ad na ca,.int .i64 0] 37)).cell? ((⟨Z.heap.size,0,none⟩ : Addr).add j) = some u:=by have:=World.news_of_block (cs:=#[.int .i64 kd,.string ⟨⟨nm⟩⟩,.slice a' 0 c',.string ⟨⟨o⟩⟩,.string ⟨⟨g⟩⟩,.slice ad na ca,.int .i64 0]) (heap_alloc_new (Z.setCell ⟨B1,5,none⟩ (.slice ad na ca)) (.cells #[.int .i64 kd,.string ⟨⟨nm⟩⟩,.slice a' 0 c',.string ⟨⟨o⟩⟩,.string ⟨⟨g⟩⟩,.slice ad na ca,.int .i64 0] 37)); rwa [show (Z.setCell ⟨B1,5,none⟩ (.slice ad na ca)).heap.size = Z.heap.size by simp [World.setCell]] at this)
     | (at_builtin; refine wpList_append_lies _ rfl _ _ 33 rfl w.heap.size 37 i0 _ 7 112 Tryz.underlying33 hi hz0 hz1 hz2 rfl (by decide) _ _ _ rfl (hoZ.alloc _) ⟨Z.heap.size,0,none⟩ 1 1 [.int .i64 kd,.string ⟨⟨nm⟩⟩,.slice a' 0 c',.string ⟨⟨o⟩⟩,.string ⟨⟨g⟩⟩,.slice ad na ca,.int .i64 0] rfl rfl hnews (by intro u hu; simp at hu; rcases hu with rfl | rfl | rfl | rfl | rfl | rfl | rfl <;> rfl) (by decide) hkM (by omega) (by have:=(hsW.trans hZs).size; simp at this ⊢; omega) (Z.heap.size + 1) (by simp [World.setCell]) ?_; intro g' cp' w2 hown' hgrow hat hlt2)
     | go_in)
    have hbb:=own_base hoZ
    have hfin : Sam w w2:=by
     have:=bel_grown (bel_alloc ((hsW.trans hZs).bel (Nat.le_refl _)) (hsW.trans hZs).size _) hgrow (by have:=(hsW.trans hZs).size; simp at this ⊢; omega) hbb
     exact ⟨this.os,this.output,this.size,this.block⟩
    refine ⟨⟨k + 1,out ++ [⟨kd,nm,a',0,c',o,g,ad,na,ca,0⟩],by omega,by simp,?_,?_,hfin⟩,by simp [Go.Proofs.intOf]; omega⟩
    ·rw [List.map_append,hnm,List.take_add_one,hf,List.map_append]; rfl
    ·rw [show (out ++ [(⟨kd,nm,a',0,c',o,g,ad,na,ca,0⟩ : FR)]).length = k + 1 by simp [hol],flatF_app]; exact hown'
  ·have hk1 : ¬ (k : Int) < (n : Int):=by omega
   obtain rfl : k = n:=by omega
   rw [show l.take k = l from List.take_of_length_le (by omega)] at hnm
   have hne : out ≠ []:=fun e=>by rw [e] at hol; simp at hol; omega
   have hsort:=sortS_calls (v:=.slice oa k oc) (by omega) (by rw [hol]; exact hown) hne
   have hcm:=fun (d : List FR) (X : World) (hp : d.Perm out) (ho : X.ownsRow w.heap.size 37 7 (.slice oa k oc) d.length (flatF d))=>compact_calls (by have:=hp.length_eq; omega) ho (((hp.map (·.name)).nodup_iff).2 (by rw [hnm]; exact hdis))
   go_wp2_with (first
    | (go_at_call 29; refine hsort.mono ?_; rintro _ X ⟨rfl,d,hp,hbX,hoX⟩)
    | (go_at_call 35; refine (hcm d _ hp hoX).mono ?_; rintro _ Y ⟨rfl,hY⟩))
   go_ret
   refine ⟨⟨hY.os.trans (hbX.os.trans hsr.os),hY.output.trans (hbX.output.trans hsr.output),by have:=hY.size; have:=hbX.size; have:=hsr.size; omega,fun b' hb'=>?_⟩,_,d,rfl,by rw [hp.length_eq,hol],own_samF hoX hY.same⟩
   have s1:=hsr.size
   have s2:=hbX.size
   exact (hY.same b' (by omega)).trans ((hbX.block b' hb').trans (hsr.same b' hb'))
end Go.Fbs

import Derived.Test.YtpnflpbamlbpeaaGreatDoorVZ
import Derived.Test.YtpnflpbamlbpeaaGreatDoorVS
set_option linter.unusedSimpArgs false
set_option linter.unusedVariables false
set_option linter.unusedSectionVars false
set_option maxRecDepth 100000
namespace Go.Fbs
open Go.Proofs Go.RowKit Go.Shelf Go.Sort Go.Maps
theorem tells_sam {w X : World} {B n : Nat} {S : List (List UInt8)} (h : TellsM w B n S) (s : Sam w X) : TellsM X B n S:=by
 obtain ⟨D,⟨es,clock,hb,F,hs,hD⟩,h2⟩:=h
 exact ⟨D,⟨es,clock,(s.same _ (Array.getElem?_eq_some_iff.1 hb).1).trans hb,F,hs,hD⟩,h2⟩
theorem ents_sam {w X : World} {f : FR} {E : List Ent} (h : EntsAt w f E) (s : Sam w X) : EntsAt X f E:=by
 obtain ⟨h1,h2⟩:=h
 refine ⟨h1,h2.imp_right ?_⟩
 rintro ⟨b,off,h3,h4⟩
 exact ⟨b,off,h3,fun i e he c v hv=>s.cell (h4 i e he c v hv)⟩
def FactsAt (w : World) (b off : Nat) (l : List FR) : Prop:=∀ j x,l[j]? = some x → ∀ c v,(encF x)[c]? = some v → w.cell? ⟨b,off + j * 7 + c,none⟩ = some v
theorem facts_sam {w X : World} {b off : Nat} {l : List FR} (h : FactsAt w b off l) (s : Sam w X) : FactsAt X b off l:=fun j x hj c v hv=>s.cell (h j x hj c v hv)
theorem below_alloc {B : Nat} {w X : World} (h : Below B w X) (hb : B ≤ X.heap.size) (o : Obj) : Below B w (X.alloc o) :=
 h.trans ⟨rfl,rfl,rfl,by simp,fun k hk=>heap_alloc_old X _ (by omega)⟩
theorem sam_below {w X : World} (h : Below w.heap.size w X) : Sam w X:=⟨h.os,h.output,h.size,h.block⟩
theorem eg62 : ∀ args w,(callFunc 62 args).run Tryz.prog w = .ok (.enter 62 args) w:=enters_of Tryz.func62 (by kernel_rfl) rfl
theorem eg64 : ∀ args w,(callFunc 64 args).run Tryz.prog w = .ok (.enter 64 args) w:=enters_of Tryz.func64 (by kernel_rfl) rfl
theorem anyD_calls {E : List Ent} {b off c : Nat} {w : World} (hn : E.length ≤ 1000) (h : ∀ i e,E[i]? = some e → ∀ c v,(encE e)[c]? = some v → w.cell? ⟨b,off + i * 4 + c,none⟩ = some v) (hb : b < w.heap.size) :
  Calls Tryz.prog 61 #[.slice (some ⟨b,off,none⟩) E.length c,.func (.func 62) #[] #[]] w fun e w'=>e = .returned (.bool (E.any (·.dflt))) ∧ Sam w w':=by
 have hcon:=AnyQ.slices_ContainsFunc Tryz.hasEnt 4 Tryz.isAgg28 Tryz.sizeOf28 encE (fun _=>rfl) (·.dflt) 62 #[] eg62 b off E.length c E w
  (fun W x hB=>(dflt_calls x W).mono fun e w' ⟨he,hw⟩=>⟨he,by rw [hw]; exact below_alloc hB hB.size _⟩) (Nat.le_refl _) (by omega) hb
  (fun j hj i v hv=>h j _ (by rw [getElem!_pos _ j hj]; exact List.getElem?_eq_getElem hj) i v hv)
 change Calls Tryz.prog 61 _ _ _ at hcon
 rw [List.take_length] at hcon
 exact hcon.mono fun e w' ⟨he,hB⟩=>⟨he,sam_below hB⟩
theorem anyU_calls {f : FR} {l : List FR} {b off c B : Nat} {fz : Nat × Nat} {w : World} (hn : l.length ≤ 1000) (h : FactsAt w b off l) (hb : b < w.heap.size) (hne : ∀ x ∈ l,x.name ≠ f.name) (hB : w.heap[B]? = some (.cells (encF f).toArray 37 fz)) :
  Calls Tryz.prog 63 #[.slice (some ⟨b,off,none⟩) l.length c,.func (.func 64) #[] #[.pointer (some ⟨B,0,none⟩)]] w fun e w'=>e = .returned (.bool false) ∧ Sam w w':=by
 have hBl : B < w.heap.size:=(Array.getElem?_eq_some_iff.1 hB).1
 letI : Inhabited {x : FR // x.name ≠ f.name}:=⟨⟨⟨0,0 :: f.name,none,0,0,[],[],none,0,0,0⟩,fun e=>absurd (congrArg List.length e) (by simp)⟩⟩
 obtain ⟨zs,hzs⟩ : ∃ zs : List {x : FR // x.name ≠ f.name},zs.map Subtype.val = l:=⟨l.attach.map fun x=>⟨x.1,hne x.1 x.2⟩,by rw [List.map_map]; exact List.attach_map_subtype_val l⟩
 have hzl : zs.length = l.length:=by rw [← hzs]; simp
 have hcon:=AnyQ.slices_ContainsFunc Tryz.hasFile 7 Tryz.isAgg37 Tryz.sizeOf37 (fun x : {x : FR // x.name ≠ f.name}=>encF x.1) (fun _=>rfl) (fun _=>false) 64 #[.pointer (some ⟨B,0,none⟩)] eg64 b off l.length c zs w
  (fun W x hW=>(c64_calls x.1 f x.2 W ((hW.block B hBl).trans hB)).mono fun e w' ⟨he,hw⟩=>⟨he,by
   have s1:=hW.size
   rw [hw]; exact below_alloc (below_alloc (below_alloc hW s1 _) (by simp; omega) _) (by simp; omega) _⟩) (by omega) (by omega) hb
  (fun j hj i v hv=>by
   refine h j zs[j].1 (by rw [← hzs,List.getElem?_map,List.getElem?_eq_getElem hj]; rfl) i v ?_
   rw [getElem!_pos _ j hj] at hv; exact hv)
 change Calls Tryz.prog 63 _ _ _ at hcon
 rw [show ((zs.take l.length).any fun _=>false) = false by simp] at hcon
 exact hcon.mono fun e w' ⟨he,hB⟩=>⟨he,sam_below hB⟩
def oneE (S1 S2 : List (List UInt8)) (f : FR) (E : List Ent) : Int :=
 if namesB S1 S2 f = true then (if isF f.kind = true ∧ (aclM E = none) ∨ f.kind = 4 ∧ E.any (·.dflt) = true then 20 else 0) else 12
set_option maxHeartbeats 3200000 in
theorem one_calls {B1 B2 B3 n b off c : Nat} {S1 S2 : List (List UInt8)} {f : FR} {E : List Ent} {l : List FR} {w : World} (m1 : TellsM w B1 n S1) (m2 : TellsM w B2 n S2) (hu : f.un = 0) (ho : f.owner.length ≤ 1000) (hg : f.group.length ≤ 1000)
  (hE : EntsAt w f E) (h24 : ∀ e ∈ E,e.kind ≠ 2 ∧ e.kind ≠ 4) (h200 : E.length ≤ 1000) (h4 : f.kind = 4 → E ≠ []) (hA : ∀ X,Sam w X → Calls Tryz.prog 7 #[.slice f.aa f.an f.ac] X fun e w'=>Sam X w' ∧ ∃ v',e = .returned (aclR v' (aclM E)))
  (hl : FactsAt w b off l) (hne : ∀ x ∈ l,x.name ≠ f.name) (hl1 : l.length ≤ 1000) (hb : b < w.heap.size) :
  Calls Tryz.prog 38 #[.agg #[.map (some B1),.map (some B2),.map (some B3)],.agg (encF f).toArray,.slice (some ⟨b,off,none⟩) l.length c] w fun e w'=>e = .returned (.int .i64 (oneE S1 S2 f E)) ∧ Sam w w':=by
 obtain ⟨W,hW⟩ : ∃ W,W = (w.alloc (.cells #[.map (some B1),.map (some B2),.map (some B3)] 70)).alloc (.cells (encF f).toArray 37):=⟨_,rfl⟩
 have hs : Sam w W:=by rw [hW]; exact (sam_alloc _ _).trans (sam_alloc _ _)
 have hBf : W.heap[w.heap.size + 1]? = some (.cells (encF f).toArray 37 (0,0)):=by
  rw [hW]
  have:=heap_alloc_new (w.alloc (.cells #[.map (some B1),.map (some B2),.map (some B3)] 70)) (.cells (encF f).toArray 37)
  simpa using this
 have hz : W.heap.size = w.heap.size + 1 + 1:=by rw [hW]; simp
 have x0 : W.cell? ⟨w.heap.size,0,none⟩ = some (.map (some B1)):=by rw [hW]; go_simp
 have x1 : W.cell? ⟨w.heap.size,1,none⟩ = some (.map (some B2)):=by rw [hW]; go_simp
 have x2 : W.cell? ⟨w.heap.size,2,none⟩ = some (.map (some B3)):=by rw [hW]; go_simp
 have hu1:=fun X (h : Sam W X)=>anyU_calls (c:=c) hl1 (facts_sam hl (hs.trans h)) (Nat.lt_of_lt_of_le hb (hs.trans h).size) hne ((h.same _ (by omega)).trans hBf)
 have hnm:=fun X (h : Sam W X)=>names_calls (B3:=B3) (tells_sam m1 (hs.trans h)) (tells_sam m2 (hs.trans h)) hu ho hg (ents_sam hE (hs.trans h)) h24 h200
 have hisf:=fun X=>isFile_calls f X
 have hA':=fun X (h : Sam W X)=>hA X (hs.trans h)
 have hD : f.kind = 4 → ∀ X,Sam W X → Calls Tryz.prog 61 #[.slice f.aa f.an f.ac,.func (.func 62) #[] #[]] X fun e w'=>e = .returned (.bool (E.any (·.dflt))) ∧ Sam X w':=fun h X hX=>by
  obtain ⟨e1,e2⟩:=hE
  rcases e2 with e2 | ⟨b',off',e3,e4⟩
  ·exact absurd e2 (h4 h)
  ·rw [e1,e3]
   refine anyD_calls h200 (fun i e he c v hv=>(hs.trans hX).cell (e4 i e he c v hv)) ?_
   cases hEE : E with
   | nil=>exact absurd hEE (h4 h)
   | cons e r =>
    have:=e4 0 e (by rw [hEE]; rfl) 0 _ rfl
    have hlt : b' < w.heap.size:=by
     unfold World.cell? at this
     rcases Nat.lt_or_ge b' w.heap.size with h | h
     ·exact h
     ·rw [Array.getElem?_eq_none h] at this; cases this
    exact Nat.lt_of_lt_of_le hlt (hs.trans hX).size
 have y : ∀ c v,(encF f)[c]? = some v → W.cell? ⟨w.heap.size + 1,c,none⟩ = some v:=fun c v hv=>by rw [Lib.cell_of_heap hBf c]; simpa using hv
 have hgoal : oneE S1 S2 f E = if namesB S1 S2 f = true then (if isF f.kind = true ∧ (aclM E = none) ∨ f.kind = 4 ∧ E.any (·.dflt) = true then 20 else 0) else 12:=rfl
 generalize oneE S1 S2 f E = R at hgoal ⊢
 generalize namesB S1 S2 f = N at hnm hgoal
 generalize (E.any (·.dflt)) = D at hD hgoal
 clear hE h24 h4 hA hl hne m1 m2 hBf
 obtain ⟨k,nm,a1,n1,c1,o,g,a2,n2,c2,t⟩:=f
 have y0:=y 0 _ rfl
 have y1:=y 1 _ rfl
 have y2:=y 2 _ rfl
 have y3:=y 3 _ rfl
 have y4:=y 4 _ rfl
 have y5:=y 5 _ rfl
 have y6:=y 6 _ rfl
 clear y
 unfold encF at hW hisf hnm ⊢
 dsimp only at hu ho hg hisf hnm hA' hD hW hgoal y0 y1 y2 y3 y4 y5 y6 ⊢
 subst hu
 have key : ∀ X : World,Sam W X → X.cell? ⟨w.heap.size,0,none⟩ = some (.map (some B1)) ∧ X.cell? ⟨w.heap.size,1,none⟩ = some (.map (some B2)) ∧ X.cell? ⟨w.heap.size,2,none⟩ = some (.map (some B3)) ∧ X.cell? ⟨w.heap.size + 1,0,none⟩ = some (.int .i64 k) ∧ X.cell? ⟨w.heap.size + 1,1,none⟩ = some (.string ⟨⟨nm⟩⟩) ∧ X.cell? ⟨w.heap.size + 1,2,none⟩ = some (.slice a1 0 c1) ∧ X.cell? ⟨w.heap.size + 1,3,none⟩ = some (.string ⟨⟨o⟩⟩) ∧ X.cell? ⟨w.heap.size + 1,4,none⟩ = some (.string ⟨⟨g⟩⟩) ∧ X.cell? ⟨w.heap.size + 1,5,none⟩ = some (.slice a2 n2 c2) ∧ X.cell? ⟨w.heap.size + 1,6,none⟩ = some (.int .i64 t) :=
  fun X h=>⟨h.cell x0,h.cell x1,h.cell x2,h.cell y0,h.cell y1,h.cell y2,h.cell y3,h.cell y4,h.cell y5,h.cell y6⟩
 go_enter Tryz.func38,Tryz.ntmps38
 go_wp2_with fail
 rw [← hW]
 refine (hA' W (Sam.refl _)).mono ?_
 rintro _ X ⟨hX,v',rfl⟩
 obtain ⟨k0,k1,k2,k3,k4,k5,k6,k7,k8,k9⟩:=key X hX
 cases hacl : aclM E with
 | none =>
  rw [hacl] at hgoal
  unfold aclR
  dsimp only
  by_cases h4 : k = 4
  ·subst h4
   have hD4:=hD rfl
   cases D <;> cases N <;> go_wp2_with (first
    | (go_at_call 61; refine (hD4 _ (by assumption)).mono ?_; rintro _ Y ⟨rfl,hY⟩; have hY' : Sam W Y:=Sam.trans (by assumption) hY; obtain ⟨k0,k1,k2,k3,k4,k5,k6,k7,k8,k9⟩:=key _ hY')
    | (go_at_call 63; refine (hu1 _ (by assumption)).mono ?_; rintro _ Z ⟨rfl,hZ⟩; have hZ' : Sam W Z:=Sam.trans (by assumption) hZ; obtain ⟨k0,k1,k2,k3,k4,k5,k6,k7,k8,k9⟩:=key _ hZ')
    | (go_at_call 66; refine (hnm _ (by assumption)).mono ?_; rintro _ U ⟨rfl,hU⟩; have hU' : Sam W U:=Sam.trans (by assumption) hU; obtain ⟨k0,k1,k2,k3,k4,k5,k6,k7,k8,k9⟩:=key _ hU')
    | (go_at_call 39; refine (hisf _).mono ?_; rintro _ V ⟨rfl,hV⟩; have hV' : Sam W V:=Sam.trans (by assumption) (by rw [hV]; exact sam_alloc _ _); clear hV))
   all_goals go_ret
   all_goals exact ⟨by rw [hgoal]; rfl,hs.trans (by assumption)⟩
  ·have b4 : (k == 4) = false:=by simpa using h4
   by_cases h3 : k = 3
   ·subst h3
    cases N <;> go_wp2_with (first
    | (go_at_call 63; refine (hu1 _ (by assumption)).mono ?_; rintro _ Z ⟨rfl,hZ⟩; have hZ' : Sam W Z:=Sam.trans (by assumption) hZ; obtain ⟨k0,k1,k2,k3,k4,k5,k6,k7,k8,k9⟩:=key _ hZ')
    | (go_at_call 66; refine (hnm _ (by assumption)).mono ?_; rintro _ U ⟨rfl,hU⟩; have hU' : Sam W U:=Sam.trans (by assumption) hU; obtain ⟨k0,k1,k2,k3,k4,k5,k6,k7,k8,k9⟩:=key _ hU')
    | (go_at_call 39; refine (hisf _).mono ?_; rintro _ V ⟨rfl,hV⟩; have hV' : Sam W V:=Sam.trans (by assumption) (by rw [hV]; exact sam_alloc _ _); clear hV))
    all_goals go_ret
    all_goals exact ⟨by rw [hgoal]; rfl,hs.trans (by assumption)⟩
   ·have b3 : (k == 3) = false:=by simpa using h3
    have hi : isF k = false:=by simp [isF,h3,h4]
    rw [hi] at hisf hgoal
    cases N <;> go_wp2_with (first
    | (go_at_call 63; refine (hu1 _ (by assumption)).mono ?_; rintro _ Z ⟨rfl,hZ⟩; have hZ' : Sam W Z:=Sam.trans (by assumption) hZ; obtain ⟨k0,k1,k2,k3,k4,k5,k6,k7,k8,k9⟩:=key _ hZ')
    | (go_at_call 66; refine (hnm _ (by assumption)).mono ?_; rintro _ U ⟨rfl,hU⟩; have hU' : Sam W U:=Sam.trans (by assumption) hU; obtain ⟨k0,k1,k2,k3,k4,k5,k6,k7,k8,k9⟩:=key _ hU')
    | (go_at_call 39; refine (hisf _).mono ?_; rintro _ V ⟨rfl,hV⟩; have hV' : Sam W V:=Sam.trans (by assumption) (by rw [hV]; exact sam_alloc _ _); clear hV))
    all_goals go_ret
    all_goals exact ⟨by rw [hgoal]; simp [h4],hs.trans (by assumption)⟩
 | some a =>
  rw [hacl] at hgoal
  unfold aclR
  dsimp only
  by_cases h4 : k = 4
  ·subst h4
   have hD4:=hD rfl
   cases D <;> cases N <;> go_wp2_with (first
    | (go_at_call 61; refine (hD4 _ (by assumption)).mono ?_; rintro _ Y ⟨rfl,hY⟩; have hY' : Sam W Y:=Sam.trans (by assumption) hY; obtain ⟨k0,k1,k2,k3,k4,k5,k6,k7,k8,k9⟩:=key _ hY')
    | (go_at_call 63; refine (hu1 _ (by assumption)).mono ?_; rintro _ Z ⟨rfl,hZ⟩; have hZ' : Sam W Z:=Sam.trans (by assumption) hZ; obtain ⟨k0,k1,k2,k3,k4,k5,k6,k7,k8,k9⟩:=key _ hZ')
    | (go_at_call 66; refine (hnm _ (by assumption)).mono ?_; rintro _ U ⟨rfl,hU⟩; have hU' : Sam W U:=Sam.trans (by assumption) hU; obtain ⟨k0,k1,k2,k3,k4,k5,k6,k7,k8,k9⟩:=key _ hU')
    | (go_at_call 39; refine (hisf _).mono ?_; rintro _ V ⟨rfl,hV⟩; have hV' : Sam W V:=Sam.trans (by assumption) (by rw [hV]; exact sam_alloc _ _); clear hV))
   all_goals go_ret
   all_goals exact ⟨by rw [hgoal]; rfl,hs.trans (by assumption)⟩
  ·have b4 : (k == 4) = false:=by simpa using h4
   by_cases h3 : k = 3
   ·subst h3
    cases N <;> go_wp2_with (first
    | (go_at_call 63; refine (hu1 _ (by assumption)).mono ?_; rintro _ Z ⟨rfl,hZ⟩; have hZ' : Sam W Z:=Sam.trans (by assumption) hZ; obtain ⟨k0,k1,k2,k3,k4,k5,k6,k7,k8,k9⟩:=key _ hZ')
    | (go_at_call 66; refine (hnm _ (by assumption)).mono ?_; rintro _ U ⟨rfl,hU⟩; have hU' : Sam W U:=Sam.trans (by assumption) hU; obtain ⟨k0,k1,k2,k3,k4,k5,k6,k7,k8,k9⟩:=key _ hU')
    | (go_at_call 39; refine (hisf _).mono ?_; rintro _ V ⟨rfl,hV⟩; have hV' : Sam W V:=Sam.trans (by assumption) (by rw [hV]; exact sam_alloc _ _); clear hV))
    all_goals go_ret
    all_goals exact ⟨by rw [hgoal]; rfl,hs.trans (by assumption)⟩
   ·have b3 : (k == 3) = false:=by simpa using h3
    have hi : isF k = false:=by simp [isF,h3,h4]
    rw [hi] at hisf hgoal
    cases N <;> go_wp2_with (first
    | (go_at_call 63; refine (hu1 _ (by assumption)).mono ?_; rintro _ Z ⟨rfl,hZ⟩; have hZ' : Sam W Z:=Sam.trans (by assumption) hZ; obtain ⟨k0,k1,k2,k3,k4,k5,k6,k7,k8,k9⟩:=key _ hZ')
    | (go_at_call 66; refine (hnm _ (by assumption)).mono ?_; rintro _ U ⟨rfl,hU⟩; have hU' : Sam W U:=Sam.trans (by assumption) hU; obtain ⟨k0,k1,k2,k3,k4,k5,k6,k7,k8,k9⟩:=key _ hU')
    | (go_at_call 39; refine (hisf _).mono ?_; rintro _ V ⟨rfl,hV⟩; have hV' : Sam W V:=Sam.trans (by assumption) (by rw [hV]; exact sam_alloc _ _); clear hV))
    all_goals go_ret
    all_goals exact ⟨by rw [hgoal]; simp [h4],hs.trans (by assumption)⟩
end Go.Fbs

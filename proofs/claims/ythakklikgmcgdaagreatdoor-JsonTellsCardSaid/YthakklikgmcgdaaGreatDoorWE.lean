import Derived.Test.YthakklikgmcgdaaGreatDoorWEA
set_option linter.unusedSimpArgs false
set_option linter.unusedVariables false
set_option linter.unusedSectionVars false
set_option maxRecDepth 100000
namespace Go.Fbs
open Go.Proofs Go.RowKit
set_option maxHeartbeats 3200000 in
theorem aV1 {w0 U:World} {B Bo Bp:Nat} {p p':aE} {jk:Int} {jt:List UInt8} {jks jls:List V} {W:World} {acc:List V} (hB:B < w0.heap.size) (hBo:w0.heap.size≤Bo∧Bo < w0.heap.size+3) (hBp:w0.heap.size≤Bp∧Bp < w0.heap.size+3) (hne:Bo≠Bp) (hval:aVz p p' (jn jk jt jks jls)) (hlen:acc.length≤100000000) (hpl:bT (flat acc)=true) (hjp:bT [.int .i64 jk,.str jt,.sl .ro jks,.sl .ro jls]=true) (hw:dQ W B p) (hi:aAy w0 U B Bo Bp 6 W acc) :
  Calls Tryz.prog 56 #[.pointer (some ⟨Bo,0,none⟩),.pointer (some ⟨Bp,0,none⟩)] W fun e W'=>e = .returned (.tuple #[])∧dQ W' B p'∧aAy w0 U B Bo Bp 6 W' (acc++[jn jk jt jks jls]):=by
 obtain ⟨hfr,⟨_,lv,xs,E,rfl,hbo,hown,hrep⟩,⟨E2,hbp⟩,hlW,hkp,htb⟩:=hi
 obtain ⟨i0,hi0,hz0,hz1,hz2⟩ : ∃ i0,Tryz.prog.info? 27 = some i0 ∧ i0.zero = some (.agg #[.int .i64 0,.string ⟨⟨[]⟩⟩,.slice none 0 0,.slice none 0 0]) ∧ i0.size = 4 ∧ i0.bytes = 72:=by
  have:=Tryz.aLb
  cases h : Tryz.prog.info? 27 with
  | none=>rw [h] at this; cases this
  | some i0=>rw [h] at this; simp at this; exact ⟨i0,rfl,this.1,this.2.1,this.2.2⟩
 have z1 : W.cell? ⟨Bo,3,none⟩ = some lv:=by rw [Lib.cell_of_heap hbo]; rfl
 have z2 : W.cell? ⟨Bp,0,none⟩ = some (.pointer (some ⟨B,0,none⟩)):=by rw [Lib.cell_of_heap hbp]; rfl
 have hsz:=hfr.size
 have hlv:∃ oa oc,lv = .slice oa acc.length oc:=by
  obtain ⟨_,h2⟩:=hown
  rcases h2 with ⟨rfl,h0⟩ | ⟨g',cap',cur,rfl,_⟩
  ·exact ⟨none,0,by rw [h0]⟩
  ·exact ⟨_,_,rfl⟩
 obtain ⟨oa,oc,rfl⟩:=hlv
 have hcall:=fun X (h:dQ X B p)=>hval X B h
 have hlo:∀ k,(Value.slice oa acc.length oc).ownBlock=some k→w0.heap.size+3≤k:=fun k hk=>by
  obtain ⟨_,h2⟩:=hown
  rcases h2 with ⟨e,h0⟩ | ⟨g',cap',cur,e,h1,_⟩
  ·simp only [Value.slice.injEq] at e; rw [e.1] at hk; cases hk
  ·simp only [Value.slice.injEq] at e; rw [e.1] at hk; simp [Value.ownBlock] at hk; omega
 have s0:dQ W.drew B p:=hw
 have hBW:B < W.heap.size:=by omega
 have s1:∀ o,dQ (W.alloc o).drew B p:=fun o=>by
  obtain ⟨⟨E',h⟩,hT⟩:=hw
  exact ⟨⟨E',(heap_alloc_old W o hBW).trans h⟩,hT.same (by show _≤(W.alloc o).heap.size; simp) fun b hb _=>heap_alloc_old W o hb⟩
 have d0:W.drew.ownsRow (w0.heap.size+3) 27 4 (.slice oa acc.length oc) acc.length xs:=hown
 have d1:∀ o,(W.alloc o).drew.ownsRow (w0.heap.size+3) 27 4 (.slice oa acc.length oc) acc.length xs:=fun o=>hown.alloc o
 have hBoW:Bo < W.heap.size:=(Array.getElem?_eq_some_iff.1 hbo).1
 have hBpW:Bp < W.heap.size:=(Array.getElem?_eq_some_iff.1 hbp).1
 have hBoN:¬ Bo=W.heap.size:=by omega
 have hBpN:¬ Bp=W.heap.size:=by omega
 have n1:Bo≠B:=by omega
 have n2:Bp≠B:=by omega
 have n3:Bp≠Bo:=fun e=>hne e.symm
 have o0:fN W W.drew B:=⟨rfl,rfl,Nat.le_refl _,fun _ _ _=>rfl⟩
 have o1:∀ o,fN W (W.alloc o).drew B:=fun o=>⟨rfl,rfl,by show _≤(W.alloc o).heap.size; simp,fun b hb _=>heap_alloc_old W o hb⟩
 have hz63:acc.length+1≤maxLen:=by unfold maxLen; omega
 have hb1:(acc.length:Int) < (acc.length:Int)+1:=by omega
 go_enter Tryz.func56,Tryz.ntmps56
 go_region_law (first
   | (have _:=oX; refine step_append_lies _ (by rfl) _ _ 25 (by rfl) (w0.heap.size + 3) 27 i0 _ 4 72 Tryz.underlying25 hi0 hz0 hz1 hz2 rfl (by decide) (.slice oa acc.length oc) acc.length xs (by rfl) (oX.alloc _) ⟨X.heap.size,0,none⟩ 1 1 [.int .i64 0,.string ⟨⟨[]⟩⟩,.slice none 0 0,.slice none 0 0] (by rfl) (by rfl) (World.news_of_block (cs:=#[.int .i64 0,.string ⟨⟨[]⟩⟩,.slice none 0 0,.slice none 0 0]) (heap_alloc_new X _)) (by intro u hu; simp at hu; rcases hu with rfl | rfl | rfl | rfl <;> rfl) (by decide) hz63 (by omega) (by have:=oWX.size; simp; omega) (X.heap.size + 1) (by simp) ?_; intro g' cp' w2 hown' hgrow hat hlt2; have pB : w2.heap[Bp]? = _:=(hgrow.block Bp (by have:=oWX.size; simp; omega) (fun e=>by have:=hlo _ e.symm; omega)).trans ((heap_alloc_old X _ (by have:=oWX.size; omega)).trans pX); have bB : w2.heap[Bo]? = _:=(hgrow.block Bo (by have:=oWX.size; simp; omega) (fun e=>by have:=hlo _ e.symm; omega)).trans ((heap_alloc_old X _ (by have:=oWX.size; omega)).trans bX); have qp : w2.cell? ⟨Bp,0,none⟩ = some (.pointer (some ⟨B,0,none⟩)):=(by rw [Lib.cell_of_heap pB]; rfl); obtain ⟨cur,hg2,hcs,hcn,hct,hgb,hcm⟩:=a8h hown'; obtain ⟨q0,q1,q2,q3⟩:=a8i hg2 hct hown.1; have q30:=(a8j bB); have fz:=fun o=>Lib.frozen_of_heap hg2 o; have fo:=Lib.frozen_of_heap bB 3; have gne : ¬ g' = Bp:=(by omega); have gne2 : ¬ g' = Bo:=(by omega); have gne3 : ¬ Bp = g':=(by omega); have gne4 : ¬ Bo = g':=(by omega); have fin:=aH1 (k:=6) (kv:=.slice none 0 0) (E:=E) (ja:=ja) (jm:=jm) (jc:=jc) (jb:=jb) (jl:=jn3) (jd:=jd) hB hBo hBp hBoW hBpW n3 hfr hown hrep hpl oWX hx2 hjp hxN (g:=g') (w2:=w2) (⟨_,hgrow,(by simp),rfl,rfl,(fun b hb=>heap_alloc_old X _ hb),(by simpa using hat)⟩) hg2 hcs hcn hct hgb hcm pB hkp hlW rfl htb)
   | (have _:=oX; refine step_append_lies _ (by rfl) _ _ 25 (by rfl) (w0.heap.size + 3) 27 i0 _ 4 72 Tryz.underlying25 hi0 hz0 hz1 hz2 rfl (by decide) (.slice oa acc.length oc) acc.length xs (by rfl) oX ⟨W.heap.size,0,none⟩ 1 1 [.int .i64 0,.string ⟨⟨[]⟩⟩,.slice none 0 0,.slice none 0 0] (by rfl) (by rfl) (World.news_of_block (cs:=#[.int .i64 0,.string ⟨⟨[]⟩⟩,.slice none 0 0,.slice none 0 0]) hzz) (by intro u hu; simp at hu; rcases hu with rfl | rfl | rfl | rfl <;> rfl) (by decide) hz63 (by omega) (by have:=oWX.size; omega) X.heap.size rfl ?_; intro g' cp' w2 hown' hgrow hat hlt2; have pB : w2.heap[Bp]? = _:=(hgrow.block Bp (by have:=oWX.size; omega) (fun e=>by have:=hlo _ e.symm; omega)).trans pX; have bB : w2.heap[Bo]? = _:=(hgrow.block Bo (by have:=oWX.size; omega) (fun e=>by have:=hlo _ e.symm; omega)).trans bX; have qp : w2.cell? ⟨Bp,0,none⟩ = some (.pointer (some ⟨B,0,none⟩)):=(by rw [Lib.cell_of_heap pB]; rfl); obtain ⟨cur,hg2,hcs,hcn,hct,hgb,hcm⟩:=a8h hown'; obtain ⟨q0,q1,q2,q3⟩:=a8i hg2 hct hown.1; have q30:=(a8j bB); have fz:=fun o=>Lib.frozen_of_heap hg2 o; have fo:=Lib.frozen_of_heap bB 3; have gne : ¬ g' = Bp:=(by omega); have gne2 : ¬ g' = Bo:=(by omega); have gne3 : ¬ Bp = g':=(by omega); have gne4 : ¬ Bo = g':=(by omega); have fin:=aH1 (k:=6) (kv:=.slice none 0 0) (E:=E) (ja:=ja) (jm:=jm) (jc:=jc) (jb:=jb) (jl:=jn3) (jd:=jd) hB hBo hBp hBoW hBpW n3 hfr hown hrep hpl oWX hx2 hjp hxN (g:=g') (w2:=w2) (⟨X,hgrow,Nat.le_refl _,rfl,rfl,(fun _ _=>rfl),hat⟩) hg2 hcs hcn hct hgb hcm pB hkp hlW rfl htb)
   | (go_simp; refine (hcall _ (by first | with_reducible exact s0 | with_reducible exact s1 _)).mono ?_; rintro _ X ⟨x,rfl,hx1,hx2,hx3⟩; obtain ⟨ja,jm,jc,jb,jn3,jd,rfl,hxr⟩:=aAx hx1; have hxN : ∃ N,W.heap.size ≤ N ∧ Reps (pK N X.heap) X.heap [.int .i64 jk,.str jt,.sl .ro jks,.sl .ro jls] (jx jk jt ja jm jc jb jn3 jd):=⟨_,(by first | with_reducible exact Nat.le_refl W.heap.size | exact (o0.size : W.heap.size ≤ W.drew.heap.size) | exact (o1 _).size),hxr⟩; have oWX : fN W X B:=(by first | with_reducible exact o0.trans hx3 | with_reducible exact (o1 _).trans hx3); have oX:=aLc hown oWX (by omega); have lX : Bo < X.heap.size:=(by have:=oWX.size; omega); have lXn : ¬ Bo = X.heap.size:=(by omega); have lXp : ¬ Bp = X.heap.size:=(by have:=oWX.size; omega); have bX : X.heap[Bo]? = _:=(oWX.same Bo hBoW n1).trans hbo; have pX : X.heap[Bp]? = _:=(oWX.same Bp hBpW n2).trans hbp; have cX3 : X.cell? ⟨Bo,3,none⟩ = some (.slice oa acc.length oc):=(by rw [Lib.cell_of_heap bX]; rfl); have cXp : X.cell? ⟨Bp,0,none⟩ = some (.pointer (some ⟨B,0,none⟩)):=(by rw [Lib.cell_of_heap pX]; rfl); first | (have hzz:=(hx3.same W.heap.size (by simp [World.drew]) (by omega)).trans (heap_alloc_new W _)) | skip)
   | fail)
 all_goals (
  refine ⟨rfl,.tuple #[],by kernel_rfl,rfl,?_⟩
  first
   | with_reducible exact fin _ (aX5 _ _ _ _ _ hg2 bB gne2)
   | with_reducible exact fin _ (aX6 _ _ _ _ _ hg2 bB gne2)
   | fail)
end Go.Fbs

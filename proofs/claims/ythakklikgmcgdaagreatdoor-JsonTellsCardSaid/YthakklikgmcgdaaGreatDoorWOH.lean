import Derived.Test.YthakklikgmcgdaaGreatDoorWOG
set_option linter.unusedSimpArgs false
set_option linter.unusedVariables false
set_option linter.unusedSectionVars false
set_option maxRecDepth 100000
namespace Go.Fbs
open Go.Proofs Go.RowKit Go.Maps
theorem Tryz.b21 : (Tryz.prog.info? 9).map (fun i=>(i.zero,i.size,i.bytes)) = some (some (.string ⟨⟨[]⟩⟩),1,16):=by kernel_rfl
theorem aNf : ∃ i0,Tryz.prog.info? 9 = some i0 ∧ i0.zero = some (.string ⟨⟨[]⟩⟩) ∧ i0.size = 1 ∧ i0.bytes = 16:=by
 have:=Tryz.b21
 cases h : Tryz.prog.info? 9 with
 | none=>rw [h] at this; cases this
 | some i0=>rw [h] at this; simp at this; exact ⟨i0,rfl,this.1,this.2.1,this.2.2⟩
theorem a2r {W:World} {b0 n el sz:Nat} {lv:Value} {xs:List Value} (h:W.ownsRow b0 el sz lv n xs):∃ oa oc,lv = .slice oa n oc:=by
 obtain ⟨_,h2⟩:=h
 rcases h2 with ⟨rfl,h0⟩ | ⟨g',cap',cur,rfl,_⟩
 ·exact ⟨none,0,by rw [h0]⟩
 ·exact ⟨_,_,rfl⟩
theorem aOf {W:World} {b0 n el sz:Nat} {lv:Value} {xs:List Value} (h:W.ownsRow b0 el sz lv n xs):∀ k,lv.ownBlock=some k→b0≤k:=fun k hk=>by
 obtain ⟨_,h2⟩:=h
 rcases h2 with ⟨rfl,h0⟩ | ⟨g',cap',cur,rfl,h1,hg,_⟩
 ·cases hk
 ·have:k=g':=by simpa [Value.ownBlock] using hk.symm
  rw [this]; exact h1
set_option maxHeartbeats 6400000 in
theorem aWi {w0 U:World} {B Bo Bp Bm M:Nat} {p p1:aE} {key:List UInt8} {W:World} {acc:qR} (hB:B < w0.heap.size) (hBp:w0.heap.size≤Bp∧Bp < w0.heap.size+5) (hBo:w0.heap.size≤Bo∧Bo < w0.heap.size+5) (hM:w0.heap.size≤M∧M < w0.heap.size+5) (hBm:w0.heap.size≤Bm∧Bm < w0.heap.size+5) (n1:Bp≠Bo) (n2:Bp≠M) (n3:Bp≠Bm) (n4:Bo≠M) (n5:Bo≠Bm) (n6:M≠Bm) (hd:aZ p) (htx:mW p=some (key,p1)) (hlen:acc.seen.length≤100000000) (hkl:key.length≤maxLen) (hw:dQ W B p) (hi:sG w0 U B Bo Bp Bm M W acc) (hk:p1.e=0) (hks:key ∉ acc.seen) (hpl:bT (flat acc.ls)=true) (hn:(aV (aF p1) 58).1=true) (hkl2:acc.keys.length≤100000000) (hll:acc.ls.length≤100000000) {p':aE} {jk:Int} {jt:List UInt8} {jks jls:List V} (hval:aVz (aF (aV (aF p1) 58).2) p' (jn jk jt jks jls)) (hjp:bT [.int .i64 jk,.str jt,.sl .ro jks,.sl .ro jls]=true) :
  Calls Tryz.prog 54 #[.pointer (some ⟨Bp,0,none⟩),.pointer (some ⟨Bm,0,none⟩),.pointer (some ⟨Bo,0,none⟩)] W fun e W'=>e = .returned (.tuple #[])∧dQ W' B p'∧sG w0 U B Bo Bp Bm M W' { keys:=acc.keys++[key],ls:=acc.ls++[jn jk jt jks jls],seen:=key::acc.seen }:=by
 have hi0:=hi
 obtain ⟨hfr,⟨kv,lv,xs,E,hbo,hkv,hlv,hrep⟩,⟨E2,hbp⟩,⟨E3,hbm⟩,hmp,hlen2,hkp,htb⟩:=hi
 have htc:=a2q hd htx
 have hd1:aZ p1:=(kO hd htx).aO
 have hkey:keyOf Tryz.prog 9 (.string ⟨⟨key⟩⟩)=some (.string key):=Go.WideMaps.keyOf_string_mk Tryz.underlying9 (s:=⟨⟨key⟩⟩) hkl
 have hd2:=iY hd1
 have hd3:=a0j hd2 58 (by decide)
 obtain ⟨ka,kc,rfl⟩:=a2r hkv
 obtain ⟨la,lc,rfl⟩:=a2r hlv
 have hkb:=aOf hkv
 have lBo:=(Array.getElem?_eq_some_iff.1 hbo).1
 obtain ⟨i0,hi9,hz0,hz1,hz2⟩:=aNf
 obtain ⟨c0,c1,c2,c3,c4,cf⟩:=jD hw
 have z1 : W.cell? ⟨Bp,0,none⟩ = some (.pointer (some ⟨B,0,none⟩)):=by rw [Lib.cell_of_heap hbp]; rfl
 have z2 : W.cell? ⟨Bm,0,none⟩ = some (.map (some M)):=by rw [Lib.cell_of_heap hbm]; rfl
 have lBp:=(Array.getElem?_eq_some_iff.1 hbp).1
 have lBm:=(Array.getElem?_eq_some_iff.1 hbm).1
 go_enter Tryz.func54,Tryz.ntmps54
 go_wp2_with (first
  | (go_at_call 33; refine (htc _ B hw).mono ?_; rintro _ W1 ⟨rfl,s1,o1⟩; obtain ⟨d0,d1,d2,d3,d4,df⟩:=jD s1; rw [hk] at d3; have b1 : W1.heap[Bp]? = _:=(o1.same Bp lBp (by omega)).trans hbp; have m1 : W1.heap[Bm]? = _:=(o1.same Bm lBm (by omega)).trans hbm; have z11 : W1.cell? ⟨Bp,0,none⟩ = some (.pointer (some ⟨B,0,none⟩)):=(by rw [Lib.cell_of_heap b1]; rfl); have z12 : W1.cell? ⟨Bm,0,none⟩ = some (.map (some M)):=(by rw [Lib.cell_of_heap m1]; rfl); have mp1 : W1.ownsMap Tryz.prog 9 (plainElem Tryz.prog 3) M acc.seen.length (mX acc.seen):=j7 hmp (o1.same M hmp.lt (by omega)); obtain ⟨cc,hrun,hat,_⟩:=mp1.lookup_int a3t Tryz.underlying88 Tryz.underlying3 (aQt _) hkey; rw [aBz,if_neg hks] at hat; obtain rfl : cc = 0:=(by injection hat with hat; injection hat with _ hat; exact hat.symm))
  | (go_at_call 16; refine hsk2.mono ?_; rintro _ W6 ⟨rfl,s6,o6⟩; have ho : fU W W6 B M:=((((fU.of M o1).trans (fU.grown B g3)).trans (fU.of M o4)).trans (fU.of M o5)).trans (fU.of M o6); have bo6 : W6.heap[Bo]? = _:=(ho.same Bo lBo (by omega) (by omega)).trans hbo; have bp6 : W6.heap[Bp]? = _:=(ho.same Bp lBp (by omega) (by omega)).trans hbp; have z61 : W6.cell? ⟨Bp,0,none⟩ = some (.pointer (some ⟨B,0,none⟩)):=(by rw [Lib.cell_of_heap bp6]; rfl); have z62 : W6.cell? ⟨Bo,2,none⟩ = some (.slice ka acc.keys.length kc):=(by rw [Lib.cell_of_heap bo6]; rfl); have hk6:=a1i hkv ho (by omega) hM.2; have hl6:=a1i hlv ho (by omega) hM.2; have hs6:=ho.size; have mp6 : W6.ownsMap Tryz.prog 9 (plainElem Tryz.prog 3) M (key :: acc.seen).length (mX (key :: acc.seen)):=j7 (j7 (j7 mp3 (o4.same M (by have:=g3.size; have:=o1.size; have:=hmp.lt; omega) (by omega))) (o5.same M (by have:=o4.size; have:=g3.size; have:=o1.size; have:=hmp.lt; omega) (by omega))) (o6.same M (by have:=o5.size; have:=o4.size; have:=g3.size; have:=o1.size; have:=hmp.lt; omega) (by omega)); have hi6 : sG w0 U B Bo Bp Bm M W6 { acc with seen:=key :: acc.seen }:=a1j hB hBp.1 hBo.1 hM hBm.1 n2 n4 n6 hpl hi0 ho mp6)
  | (at_builtin; have _:=hk6; refine wpList_append_lies _ rfl _ _ 23 rfl (w0.heap.size + 5) 9 i0 _ 1 16 Tryz.underlying23 hi9 hz0 hz1 hz2 rfl (by decide) (.slice ka acc.keys.length kc) acc.keys.length (acc.keys.map fun k=>Value.string ⟨⟨k⟩⟩) rfl (hk6.alloc _) ⟨W6.heap.size,0,none⟩ 1 1 [.string ⟨⟨key⟩⟩] rfl rfl (World.news_of_block (cs:=#[.string ⟨⟨key⟩⟩]) (heap_alloc_new W6 _)) (by intro u hu; simp at hu; rcases hu with rfl; rfl) (by decide) (by unfold maxLen; omega) (by omega) (by simp; omega) (W6.heap.size + 1) (by simp) ?_; intro g7 cp7 W7 hk7 g7r hat7 hlt7; have bp7 : W7.heap[Bp]? = _:=(g7r.block Bp (by simp; omega) (fun e=>by have:=hkb _ e.symm; omega)).trans ((heap_alloc_old W6 _ (by omega)).trans bp6); have bo7 : W7.heap[Bo]? = _:=(g7r.block Bo (by simp; omega) (fun e=>by have:=hkb _ e.symm; omega)).trans ((heap_alloc_old W6 _ (by omega)).trans bo6); have z71 : W7.cell? ⟨Bp,0,none⟩ = some (.pointer (some ⟨B,0,none⟩)):=(by rw [Lib.cell_of_heap bp7]; rfl); have z72 : W7.cell? ⟨Bo,2,none⟩ = some (.slice ka acc.keys.length kc):=(by rw [Lib.cell_of_heap bo7]; rfl); have z73 : W7.cell? ⟨Bo,3,none⟩ = some (.slice la acc.ls.length lc):=(by rw [Lib.cell_of_heap bo7]; rfl); have f7:=fun o=>Lib.frozen_of_heap bo7 o)
  | (at_mapUpdate; refine wpList_mapUpdate_own _ rfl _ _ _ 88 rfl 9 3 a3t Tryz.underlying88 _ M acc.seen.length (mX acc.seen) rfl mp1 (by unfold maxLen; omega) _ _ (.string key) rfl rfl hkey (.lit (.int .i64 1)) [] (plainElem_int Tryz.underlying3 (by decide)) ?_; intro W3 mp3 g3; have t3 : ∀ b,b < W1.heap.size → b ≠ M → W3.heap[b]? = W1.heap[b]?:=(fun b h1 h2=>g3.block b h1 (by intro e; injection e with e; exact h2 e)); have b3 : W3.heap[Bp]? = _:=(t3 Bp (by have:=o1.size; omega) (by omega)).trans b1; have z31 : W3.cell? ⟨Bp,0,none⟩ = some (.pointer (some ⟨B,0,none⟩)):=(by rw [Lib.cell_of_heap b3]; rfl); have s3 : dQ W3 B p1:=(by obtain ⟨⟨E',h⟩,_⟩:=s1; exact ⟨⟨E',(t3 B (by have:=o1.size; have:=hfr.size; omega) (by omega)).trans h⟩,htb.same (by have:=g3.size; have:=o1.size; have:=hfr.size; omega) fun b hb hn=>(t3 b (by have:=o1.size; have:=hfr.size; omega) (by omega)).trans ((o1.same b (by have:=hfr.size; omega) hn).trans (hfr.same b hb hn))⟩); have hsk:=lN hd1 W3 B s3)
  | (go_at_call 55; refine (hnd _ B s4).mono ?_; rintro _ W5 ⟨rfl,s5,o5⟩; have b5 : W5.heap[Bp]? = _:=(o5.same Bp (by have:=o4.size; have:=g3.size; have:=o1.size; omega) (by omega)).trans b4; have z51 : W5.cell? ⟨Bp,0,none⟩ = some (.pointer (some ⟨B,0,none⟩)):=(by rw [Lib.cell_of_heap b5]; rfl); have hsk2:=lN hd3 W5 B s5)
  | (go_at_call 16; refine hsk.mono ?_; rintro _ W4 ⟨rfl,s4,o4⟩; have b4 : W4.heap[Bp]? = _:=(o4.same Bp (by have:=g3.size; have:=o1.size; omega) (by omega)).trans b3; have z41 : W4.cell? ⟨Bp,0,none⟩ = some (.pointer (some ⟨B,0,none⟩)):=(by rw [Lib.cell_of_heap b4]; rfl); have hnd:=yR hd2 58; rw [hn] at hnd)
  | fail)
 obtain ⟨hi8,to8,bo8⟩:=aWh (acc:={ acc with seen:=key::acc.seen }) (key:=key) (Z:=W7.setCell ⟨Bo,2,none⟩ (.slice (some ⟨g7,0,none⟩) (acc.keys.length+1) cp7)) hB hBp hBo hM hBm n1 n4 n5 hpl hi6 bo6 (Y:=W6.alloc (.cells #[.string ⟨⟨key⟩⟩] 9 (0,0))) (by simp) rfl rfl (fun b hb=>heap_alloc_old W6 _ hb) g7r (by simpa using hat7) hk7 rfl
 generalize hW8:W7.setCell ⟨Bo,2,none⟩ (.slice (some ⟨g7,0,none⟩) (acc.keys.length+1) cp7)=W8 at *
 have hkb6:=uM hk6
 have hlb6:=uM hl6
 have hl8:W8.ownsRow (w0.heap.size+5) 27 4 (.slice la acc.ls.length lc) acc.ls.length xs:=aFj hl6 fun k hk=>by
  obtain ⟨h1,cur,h2⟩:=hlb6 k hk
  refine to8 k (Array.getElem?_eq_some_iff.1 h2).1 (fun e=>?_) (by omega)
  obtain ⟨_,cur',h3⟩:=hkb6 k e
  rw [h2] at h3; simp at h3
 have low8:∀ b,b < w0.heap.size+5→(Value.slice ka acc.keys.length kc).ownBlock≠some b:=fun b hb e=>by have:=(hkb6 b e).1; omega
 have s8:dQ W8 B (aF (aV (aF p1) 58).2):=by
  obtain ⟨⟨E',h⟩,_⟩:=s6
  exact ⟨⟨E',(to8 B (by have:=hi6.len; omega) (low8 B (by omega)) (by omega)).trans h⟩,hi8.tb.only hi8.fr⟩
 have bp8 : W8.heap[Bp]? = some (.cells #[.pointer (some ⟨B,0,none⟩)] E2 (0,0)):=(to8 Bp (by have:=hi6.len; omega) (low8 Bp hBp.2) n1).trans bp6
 have hs8:w0.heap.size+5≤W8.heap.size:=hi8.len
 clear to8 low8 hkb6 hlb6 hW8 g7r hat7 hlt7 hk7 bp7 bo7 z71 z72 z73 f7 hi6
 obtain ⟨i7,hj0,hy0,hy1,hy2⟩ : ∃ i0,Tryz.prog.info? 27 = some i0 ∧ i0.zero = some (.agg #[.int .i64 0,.string ⟨⟨[]⟩⟩,.slice none 0 0,.slice none 0 0]) ∧ i0.size = 4 ∧ i0.bytes = 72:=by
  have:=Tryz.aLb
  cases h : Tryz.prog.info? 27 with
  | none=>rw [h] at this; cases this
  | some i0=>rw [h] at this; simp at this; exact ⟨i0,rfl,this.1,this.2.1,this.2.2⟩
 have y1 : W8.cell? ⟨Bo,3,none⟩ = some (.slice la acc.ls.length lc):=by rw [Lib.cell_of_heap bo8]; rfl
 have y2 : W8.cell? ⟨Bp,0,none⟩ = some (.pointer (some ⟨B,0,none⟩)):=by rw [Lib.cell_of_heap bp8]; rfl
 have hcall:=fun X (h:dQ X B (aF (aV (aF p1) 58).2))=>hval X B h
 have hlo:=aOf hl8
 have ss0:dQ W8.drew B (aF (aV (aF p1) 58).2):=s8
 have hBW:B < W8.heap.size:=by omega
 have ss1:∀ o,dQ (W8.alloc o).drew B (aF (aV (aF p1) 58).2):=fun o=>by
  obtain ⟨⟨E',h⟩,hT8⟩:=s8
  exact ⟨⟨E',(heap_alloc_old W8 o hBW).trans h⟩,hT8.same (by show _≤(W8.alloc o).heap.size; simp) fun b hb _=>heap_alloc_old W8 o hb⟩
 have hBoW:Bo < W8.heap.size:=(Array.getElem?_eq_some_iff.1 bo8).1
 have hBpW:Bp < W8.heap.size:=(Array.getElem?_eq_some_iff.1 bp8).1
 have hBoN:¬ Bo=W8.heap.size:=by omega
 have hBpN:¬ Bp=W8.heap.size:=by omega
 have nb1:Bo≠B:=by omega
 have nb2:Bp≠B:=by omega
 have nb3:Bo≠Bp:=fun e=>n1 e.symm
 have oo0:fN W8 W8.drew B:=⟨rfl,rfl,Nat.le_refl _,fun _ _ _=>rfl⟩
 have oo1:∀ o,fN W8 (W8.alloc o).drew B:=fun o=>⟨rfl,rfl,by show _≤(W8.alloc o).heap.size; simp,fun b hb _=>heap_alloc_old W8 o hb⟩
 have hz63:acc.ls.length+1≤maxLen:=by unfold maxLen; omega
 have hb1:(acc.ls.length:Int) < (acc.ls.length:Int)+1:=by omega
 go_region_law (first
   | (have _:=oX; refine step_append_lies _ (by rfl) _ _ 25 (by rfl) (w0.heap.size + 5) 27 i7 _ 4 72 Tryz.underlying25 hj0 hy0 hy1 hy2 rfl (by decide) (.slice la acc.ls.length lc) acc.ls.length xs (by rfl) (oX.alloc _) ⟨X.heap.size,0,none⟩ 1 1 [.int .i64 0,.string ⟨⟨[]⟩⟩,.slice none 0 0,.slice none 0 0] (by rfl) (by rfl) (World.news_of_block (cs:=#[.int .i64 0,.string ⟨⟨[]⟩⟩,.slice none 0 0,.slice none 0 0]) (heap_alloc_new X _)) (by intro u hu; simp at hu; rcases hu with rfl | rfl | rfl | rfl <;> rfl) (by decide) hz63 (by omega) (by have:=oWX.size; simp; omega) (X.heap.size + 1) (by simp) ?_; intro g' cp' w2 hown' hgrow hat hlt2; have pB : w2.heap[Bp]? = _:=(hgrow.block Bp (by have:=oWX.size; simp; omega) (fun e=>by have:=hlo _ e.symm; omega)).trans ((heap_alloc_old X _ (by have:=oWX.size; omega)).trans pX); have bB : w2.heap[Bo]? = _:=(hgrow.block Bo (by have:=oWX.size; simp; omega) (fun e=>by have:=hlo _ e.symm; omega)).trans ((heap_alloc_old X _ (by have:=oWX.size; omega)).trans bX); have qp : w2.cell? ⟨Bp,0,none⟩ = some (.pointer (some ⟨B,0,none⟩)):=(by rw [Lib.cell_of_heap pB]; rfl); obtain ⟨cur,hg2,hcs,hcn,hct,hgb,hcm⟩:=a8h hown'; obtain ⟨q0,q1,q2,q3⟩:=a8i hg2 hct hl8.1; have q30:=(a8j bB); have fz:=fun o=>Lib.frozen_of_heap hg2 o; have fo:=Lib.frozen_of_heap bB 3; have gne : ¬ g' = Bp:=(by omega); have gne2 : ¬ g' = Bo:=(by omega); have gne3 : ¬ Bp = g':=(by omega); have gne4 : ¬ Bo = g':=(by omega); have fin:=aLl (acc:={ keys:=acc.keys ++ [key],ls:=acc.ls,seen:=key :: acc.seen }) (E:=E) (ja:=ja) (jm:=jm) (jc:=jc) (jb:=jb) (jl:=jn3) (jd:=jd) hB hBp hBo hM hBm n1 n4 n5 hpl hi8 bo8 hl8 oWX hx2 hjp hxN (g:=g') (w2:=w2) (⟨_,hgrow,(by simp),rfl,rfl,(fun b hb=>heap_alloc_old X _ hb),(by simpa using hat)⟩) hg2 hcs hcn hct hgb hcm)
   | (have _:=oX; refine step_append_lies _ (by rfl) _ _ 25 (by rfl) (w0.heap.size + 5) 27 i7 _ 4 72 Tryz.underlying25 hj0 hy0 hy1 hy2 rfl (by decide) (.slice la acc.ls.length lc) acc.ls.length xs (by rfl) oX ⟨W8.heap.size,0,none⟩ 1 1 [.int .i64 0,.string ⟨⟨[]⟩⟩,.slice none 0 0,.slice none 0 0] (by rfl) (by rfl) (World.news_of_block (cs:=#[.int .i64 0,.string ⟨⟨[]⟩⟩,.slice none 0 0,.slice none 0 0]) hzz) (by intro u hu; simp at hu; rcases hu with rfl | rfl | rfl | rfl <;> rfl) (by decide) hz63 (by omega) (by have:=oWX.size; omega) X.heap.size rfl ?_; intro g' cp' w2 hown' hgrow hat hlt2; have pB : w2.heap[Bp]? = _:=(hgrow.block Bp (by have:=oWX.size; omega) (fun e=>by have:=hlo _ e.symm; omega)).trans pX; have bB : w2.heap[Bo]? = _:=(hgrow.block Bo (by have:=oWX.size; omega) (fun e=>by have:=hlo _ e.symm; omega)).trans bX; have qp : w2.cell? ⟨Bp,0,none⟩ = some (.pointer (some ⟨B,0,none⟩)):=(by rw [Lib.cell_of_heap pB]; rfl); obtain ⟨cur,hg2,hcs,hcn,hct,hgb,hcm⟩:=a8h hown'; obtain ⟨q0,q1,q2,q3⟩:=a8i hg2 hct hl8.1; have q30:=(a8j bB); have fz:=fun o=>Lib.frozen_of_heap hg2 o; have fo:=Lib.frozen_of_heap bB 3; have gne : ¬ g' = Bp:=(by omega); have gne2 : ¬ g' = Bo:=(by omega); have gne3 : ¬ Bp = g':=(by omega); have gne4 : ¬ Bo = g':=(by omega); have fin:=aLl (acc:={ keys:=acc.keys ++ [key],ls:=acc.ls,seen:=key :: acc.seen }) (E:=E) (ja:=ja) (jm:=jm) (jc:=jc) (jb:=jb) (jl:=jn3) (jd:=jd) hB hBp hBo hM hBm n1 n4 n5 hpl hi8 bo8 hl8 oWX hx2 hjp hxN (g:=g') (w2:=w2) (⟨X,hgrow,Nat.le_refl _,rfl,rfl,(fun _ _=>rfl),hat⟩) hg2 hcs hcn hct hgb hcm)
   | (go_simp; refine (hcall _ (by first | with_reducible exact ss0 | with_reducible exact ss1 _)).mono ?_; rintro _ X ⟨x,rfl,hx1,hx2,hx3⟩; obtain ⟨ja,jm,jc,jb,jn3,jd,rfl,hxr⟩:=aAx hx1; have hxN : ∃ N,W8.heap.size ≤ N ∧ Reps (pK N X.heap) X.heap [.int .i64 jk,.str jt,.sl .ro jks,.sl .ro jls] (jx jk jt ja jm jc jb jn3 jd):=⟨_,(by first | with_reducible exact Nat.le_refl W8.heap.size | exact (oo0.size : W8.heap.size ≤ W8.drew.heap.size) | exact (oo1 _).size),hxr⟩; have oWX : fN W8 X B:=(by first | with_reducible exact oo0.trans hx3 | with_reducible exact (oo1 _).trans hx3); have oX:=a1i hl8 (fU.of M oWX) (by omega) hM.2; have lX : Bo < X.heap.size:=(by have:=oWX.size; omega); have lXn : ¬ Bo = X.heap.size:=(by omega); have lXp : ¬ Bp = X.heap.size:=(by have:=oWX.size; omega); have bX : X.heap[Bo]? = _:=(oWX.same Bo hBoW nb1).trans bo8; have pX : X.heap[Bp]? = _:=(oWX.same Bp hBpW nb2).trans bp8; have cX3 : X.cell? ⟨Bo,3,none⟩ = some (.slice la acc.ls.length lc):=(by rw [Lib.cell_of_heap bX]; rfl); have cXp : X.cell? ⟨Bp,0,none⟩ = some (.pointer (some ⟨B,0,none⟩)):=(by rw [Lib.cell_of_heap pX]; rfl); first | (have hzz:=(hx3.same W8.heap.size (by simp [World.drew]) (by omega)).trans (heap_alloc_new W8 _)) | skip)
   | fail)
 all_goals (
  refine ⟨rfl,.tuple #[],by kernel_rfl,rfl,?_⟩
  first
   | with_reducible exact fin _ (aX5 _ _ _ _ _ hg2 bB gne2)
   | with_reducible exact fin _ (aX6 _ _ _ _ _ hg2 bB gne2)
   | fail)
end Go.Fbs

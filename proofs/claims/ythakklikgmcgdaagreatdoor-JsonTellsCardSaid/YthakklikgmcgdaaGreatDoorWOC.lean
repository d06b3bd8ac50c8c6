import Derived.Test.YthakklikgmcgdaaGreatDoorWOB
set_option linter.unusedSimpArgs false
set_option linter.unusedVariables false
set_option linter.unusedSectionVars false
set_option maxRecDepth 100000
namespace Go.Fbs
open Go.Proofs Go.RowKit Go.Maps
set_option maxHeartbeats 3200000 in
theorem aTa {w0 U:World} {B Bo Bp Bm M:Nat} {p p1:aE} {key:List UInt8} {W:World} {acc:qR} (hB:B < w0.heap.size) (hBp:w0.heap.size≤Bp∧Bp < w0.heap.size+5) (hBo:w0.heap.size≤Bo∧Bo < w0.heap.size+5) (hM:w0.heap.size≤M∧M < w0.heap.size+5) (hBm:w0.heap.size≤Bm∧Bm < w0.heap.size+5) (n1:Bp≠Bo) (n2:Bp≠M) (n3:Bp≠Bm) (n4:Bo≠M) (n5:Bo≠Bm) (n6:M≠Bm) (hd:aZ p) (htx:mW p=some (key,p1)) (hlen:acc.seen.length≤100000000) (hkl:key.length≤maxLen) (hw:dQ W B p) (hi:sG w0 U B Bo Bp Bm M W acc) (hk:p1.e≠0) (hpl:bT (flat acc.ls)=true) (hn:(aV (aF p1) 58).1=false) :
  Calls Tryz.prog 54 #[.pointer (some ⟨Bp,0,none⟩),.pointer (some ⟨Bm,0,none⟩),.pointer (some ⟨Bo,0,none⟩)] W fun e W'=>e = .returned (.tuple #[])∧dQ W' B (aV (aF p1) 58).2∧sG w0 U B Bo Bp Bm M W' { acc with seen:=key::acc.seen }:=by
 have hi0:=hi
 obtain ⟨hfr,⟨kv,lv,xs,E,hbo,hkv,hlv,hrep⟩,⟨E2,hbp⟩,⟨E3,hbm⟩,hmp,hlen2,hkp,htb⟩:=hi
 have htc:=a2q hd htx
 have hd1:aZ p1:=(kO hd htx).aO
 have hkey:keyOf Tryz.prog 9 (.string ⟨⟨key⟩⟩)=some (.string key):=Go.WideMaps.keyOf_string_mk Tryz.underlying9 (s:=⟨⟨key⟩⟩) hkl
 have hd2:=iY hd1
 obtain ⟨c0,c1,c2,c3,c4,cf⟩:=jD hw
 have z1 : W.cell? ⟨Bp,0,none⟩ = some (.pointer (some ⟨B,0,none⟩)):=by rw [Lib.cell_of_heap hbp]; rfl
 have z2 : W.cell? ⟨Bm,0,none⟩ = some (.map (some M)):=by rw [Lib.cell_of_heap hbm]; rfl
 have lBp:=(Array.getElem?_eq_some_iff.1 hbp).1
 have lBm:=(Array.getElem?_eq_some_iff.1 hbm).1
 go_enter Tryz.func54,Tryz.ntmps54
 go_wp2_with (first
  | (go_at_call 33; refine (htc _ B hw).mono ?_; rintro _ W1 ⟨rfl,s1,o1⟩; obtain ⟨d0,d1,d2,d3,d4,df⟩:=jD s1; have hkb : (p1.e == 0) = false:=(by simpa using hk); have hkd : ¬ p1.e = 0:=hk; have b1 : W1.heap[Bp]? = _:=(o1.same Bp lBp (by omega)).trans hbp; have m1 : W1.heap[Bm]? = _:=(o1.same Bm lBm (by omega)).trans hbm; have z11 : W1.cell? ⟨Bp,0,none⟩ = some (.pointer (some ⟨B,0,none⟩)):=(by rw [Lib.cell_of_heap b1]; rfl); have z12 : W1.cell? ⟨Bm,0,none⟩ = some (.map (some M)):=(by rw [Lib.cell_of_heap m1]; rfl); have mp1 : W1.ownsMap Tryz.prog 9 (plainElem Tryz.prog 3) M acc.seen.length (mX acc.seen):=j7 hmp (o1.same M hmp.lt (by omega)))
  | (at_mapUpdate; refine wpList_mapUpdate_own _ rfl _ _ _ 88 rfl 9 3 a3t Tryz.underlying88 _ M acc.seen.length (mX acc.seen) rfl mp1 (by unfold maxLen; omega) _ _ (.string key) rfl rfl hkey (.lit (.int .i64 1)) [] (plainElem_int Tryz.underlying3 (by decide)) ?_; intro W3 mp3 g3; have t3 : ∀ b,b < W1.heap.size → b ≠ M → W3.heap[b]? = W1.heap[b]?:=(fun b h1 h2=>g3.block b h1 (by intro e; injection e with e; exact h2 e)); have b3 : W3.heap[Bp]? = _:=(t3 Bp (by have:=o1.size; omega) (by omega)).trans b1; have z31 : W3.cell? ⟨Bp,0,none⟩ = some (.pointer (some ⟨B,0,none⟩)):=(by rw [Lib.cell_of_heap b3]; rfl); have s3 : dQ W3 B p1:=(by obtain ⟨⟨E',h⟩,_⟩:=s1; exact ⟨⟨E',(t3 B (by have:=o1.size; have:=hfr.size; omega) (by omega)).trans h⟩,htb.same (by have:=g3.size; have:=o1.size; have:=hfr.size; omega) fun b hb hn=>(t3 b (by have:=o1.size; have:=hfr.size; omega) (by omega)).trans ((o1.same b (by have:=hfr.size; omega) hn).trans (hfr.same b hb hn))⟩); have hsk:=lN hd1 W3 B s3)
  | (go_at_call 55; refine (hnd _ B s4).mono ?_; rintro _ W5 ⟨rfl,s5,o5⟩; have b5 : W5.heap[Bp]? = _:=(o5.same Bp (by have:=o4.size; have:=g3.size; have:=o1.size; omega) (by omega)).trans b4; have z51 : W5.cell? ⟨Bp,0,none⟩ = some (.pointer (some ⟨B,0,none⟩)):=(by rw [Lib.cell_of_heap b5]; rfl))
  | (go_at_call 16; refine hsk.mono ?_; rintro _ W4 ⟨rfl,s4,o4⟩; have b4 : W4.heap[Bp]? = _:=(o4.same Bp (by have:=g3.size; have:=o1.size; omega) (by omega)).trans b3; have z41 : W4.cell? ⟨Bp,0,none⟩ = some (.pointer (some ⟨B,0,none⟩)):=(by rw [Lib.cell_of_heap b4]; rfl); have hnd:=yR hd2 58; rw [hn] at hnd)
  | fail)
 have o5':fU W3 W5 B M:=(fU.of M o4).trans (fU.of M o5)
 have ho:fU W W5 B M:=((fU.of M o1).trans (fU.grown B g3)).trans o5'
 have mp5:W5.ownsMap Tryz.prog 9 (plainElem Tryz.prog 3) M (key::acc.seen).length (mX (key::acc.seen)):=j7 (j7 mp3 (o4.same M (by have:=g3.size; have:=o1.size; have:=hmp.lt; omega) (by omega))) (o5.same M (by have:=o4.size; have:=g3.size; have:=o1.size; have:=hmp.lt; omega) (by omega))
 exact ⟨rfl,.tuple #[],by kernel_rfl,rfl,s5,a1j hB hBp.1 hBo.1 hM hBm.1 n2 n4 n6 hpl hi0 ho mp5⟩
set_option maxHeartbeats 3200000 in
theorem aTb {w0 U:World} {B Bo Bp Bm M:Nat} {p p1:aE} {key:List UInt8} {W:World} {acc:qR} (hB:B < w0.heap.size) (hBp:w0.heap.size≤Bp∧Bp < w0.heap.size+5) (hBo:w0.heap.size≤Bo∧Bo < w0.heap.size+5) (hM:w0.heap.size≤M∧M < w0.heap.size+5) (hBm:w0.heap.size≤Bm∧Bm < w0.heap.size+5) (n1:Bp≠Bo) (n2:Bp≠M) (n3:Bp≠Bm) (n4:Bo≠M) (n5:Bo≠Bm) (n6:M≠Bm) (hd:aZ p) (htx:mW p=some (key,p1)) (hlen:acc.seen.length≤100000000) (hkl:key.length≤maxLen) (hw:dQ W B p) (hi:sG w0 U B Bo Bp Bm M W acc) (hk:p1.e=0) (hks:key ∈ acc.seen) (hpl:bT (flat acc.ls)=true) (hn:(aV (aF (aU p1 p.a 11)) 58).1=false) :
  Calls Tryz.prog 54 #[.pointer (some ⟨Bp,0,none⟩),.pointer (some ⟨Bm,0,none⟩),.pointer (some ⟨Bo,0,none⟩)] W fun e W'=>e = .returned (.tuple #[])∧dQ W' B (aV (aF (aU p1 p.a 11)) 58).2∧sG w0 U B Bo Bp Bm M W' { acc with seen:=key::acc.seen }:=by
 have hi0:=hi
 obtain ⟨hfr,⟨kv,lv,xs,E,hbo,hkv,hlv,hrep⟩,⟨E2,hbp⟩,⟨E3,hbm⟩,hmp,hlen2,hkp,htb⟩:=hi
 have htc:=a2q hd htx
 have hd1:aZ p1:=(kO hd htx).aO
 have hkey:keyOf Tryz.prog 9 (.string ⟨⟨key⟩⟩)=some (.string key):=Go.WideMaps.keyOf_string_mk Tryz.underlying9 (s:=⟨⟨key⟩⟩) hkl
 have hdf:=x8 hd1 p.a 11
 have hd2:=iY hdf
 obtain ⟨c0,c1,c2,c3,c4,cf⟩:=jD hw
 have z1 : W.cell? ⟨Bp,0,none⟩ = some (.pointer (some ⟨B,0,none⟩)):=by rw [Lib.cell_of_heap hbp]; rfl
 have z2 : W.cell? ⟨Bm,0,none⟩ = some (.map (some M)):=by rw [Lib.cell_of_heap hbm]; rfl
 have lBp:=(Array.getElem?_eq_some_iff.1 hbp).1
 have lBm:=(Array.getElem?_eq_some_iff.1 hbm).1
 go_enter Tryz.func54,Tryz.ntmps54
 go_wp2_with (first
  | (go_at_call 33; refine (htc _ B hw).mono ?_; rintro _ W1 ⟨rfl,s1,o1⟩; obtain ⟨d0,d1,d2,d3,d4,df⟩:=jD s1; rw [hk] at d3; have b1 : W1.heap[Bp]? = _:=(o1.same Bp lBp (by omega)).trans hbp; have m1 : W1.heap[Bm]? = _:=(o1.same Bm lBm (by omega)).trans hbm; have z11 : W1.cell? ⟨Bp,0,none⟩ = some (.pointer (some ⟨B,0,none⟩)):=(by rw [Lib.cell_of_heap b1]; rfl); have z12 : W1.cell? ⟨Bm,0,none⟩ = some (.map (some M)):=(by rw [Lib.cell_of_heap m1]; rfl); have mp1 : W1.ownsMap Tryz.prog 9 (plainElem Tryz.prog 3) M acc.seen.length (mX acc.seen):=j7 hmp (o1.same M hmp.lt (by omega)); obtain ⟨cc,hrun,hat,_⟩:=mp1.lookup_int a3t Tryz.underlying88 Tryz.underlying3 (aQt _) hkey; rw [aBz,if_pos hks] at hat; obtain rfl : cc = 1:=(by injection hat with hat; injection hat with _ hat; exact hat.symm))
  | (go_at_call 18; refine (aFa p1 p.a 11 _ B s1).mono ?_; rintro _ W2 ⟨rfl,s2,o2⟩; have b2 : W2.heap[Bp]? = _:=(o2.same Bp (by have:=o1.size; omega) (by omega)).trans b1; have m2 : W2.heap[Bm]? = _:=(o2.same Bm (by have:=o1.size; omega) (by omega)).trans m1; have z21 : W2.cell? ⟨Bp,0,none⟩ = some (.pointer (some ⟨B,0,none⟩)):=(by rw [Lib.cell_of_heap b2]; rfl); have z22 : W2.cell? ⟨Bm,0,none⟩ = some (.map (some M)):=(by rw [Lib.cell_of_heap m2]; rfl); have mp2 : W2.ownsMap Tryz.prog 9 (plainElem Tryz.prog 3) M acc.seen.length (mX acc.seen):=j7 mp1 (o2.same M mp1.lt (by omega)))
  | (at_mapUpdate; refine wpList_mapUpdate_own _ rfl _ _ _ 88 rfl 9 3 a3t Tryz.underlying88 _ M acc.seen.length (mX acc.seen) rfl mp2 (by unfold maxLen; omega) _ _ (.string key) rfl rfl hkey (.lit (.int .i64 1)) [] (plainElem_int Tryz.underlying3 (by decide)) ?_; intro W3 mp3 g3; have t3 : ∀ b,b < W2.heap.size → b ≠ M → W3.heap[b]? = W2.heap[b]?:=(fun b h1 h2=>g3.block b h1 (by intro e; injection e with e; exact h2 e)); have b3 : W3.heap[Bp]? = _:=(t3 Bp (by have:=o1.size; have:=o2.size; omega) (by omega)).trans b2; have z31 : W3.cell? ⟨Bp,0,none⟩ = some (.pointer (some ⟨B,0,none⟩)):=(by rw [Lib.cell_of_heap b3]; rfl); have s3 : dQ W3 B (aU p1 p.a 11):=(by obtain ⟨⟨E',h⟩,_⟩:=s2; exact ⟨⟨E',(t3 B (by have:=o1.size; have:=o2.size; have:=hfr.size; omega) (by omega)).trans h⟩,htb.same (by have:=g3.size; have:=o2.size; have:=o1.size; have:=hfr.size; omega) fun b hb hn=>(t3 b (by have:=o2.size; have:=o1.size; have:=hfr.size; omega) (by omega)).trans ((o2.same b (by have:=o1.size; have:=hfr.size; omega) hn).trans ((o1.same b (by have:=hfr.size; omega) hn).trans (hfr.same b hb hn)))⟩); have hsk:=lN hdf W3 B s3)
  | (go_at_call 55; refine (hnd _ B s4).mono ?_; rintro _ W5 ⟨rfl,s5,o5⟩; have b5 : W5.heap[Bp]? = _:=(o5.same Bp (by have:=o4.size; have:=g3.size; have:=o1.size; have:=o2.size; omega) (by omega)).trans b4; have z51 : W5.cell? ⟨Bp,0,none⟩ = some (.pointer (some ⟨B,0,none⟩)):=(by rw [Lib.cell_of_heap b5]; rfl))
  | (go_at_call 16; refine hsk.mono ?_; rintro _ W4 ⟨rfl,s4,o4⟩; have b4 : W4.heap[Bp]? = _:=(o4.same Bp (by have:=g3.size; have:=o1.size; have:=o2.size; omega) (by omega)).trans b3; have z41 : W4.cell? ⟨Bp,0,none⟩ = some (.pointer (some ⟨B,0,none⟩)):=(by rw [Lib.cell_of_heap b4]; rfl); have hnd:=yR hd2 58; rw [hn] at hnd)
  | fail)
 have o5':fU W3 W5 B M:=(fU.of M o4).trans (fU.of M o5)
 have ho:fU W W5 B M:=(((fU.of M o1).trans (fU.of M o2)).trans (fU.grown B g3)).trans o5'
 have mp5:W5.ownsMap Tryz.prog 9 (plainElem Tryz.prog 3) M (key::acc.seen).length (mX (key::acc.seen)):=j7 (j7 mp3 (o4.same M (by have:=g3.size; have:=o1.size; have:=o2.size; have:=hmp.lt; omega) (by omega))) (o5.same M (by have:=o4.size; have:=g3.size; have:=o1.size; have:=o2.size; have:=hmp.lt; omega) (by omega))
 exact ⟨rfl,.tuple #[],by kernel_rfl,rfl,s5,a1j hB hBp.1 hBo.1 hM hBm.1 n2 n4 n6 hpl hi0 ho mp5⟩
end Go.Fbs

import Derived.Test.YthakklikgmcgdaaGreatDoorWOA
set_option linter.unusedSimpArgs false
set_option linter.unusedVariables false
set_option linter.unusedSectionVars false
set_option maxRecDepth 100000
namespace Go.Fbs
open Go.Proofs Go.RowKit Go.Maps
def b2z (p p':aE) (t:List UInt8):Prop:=∀ w B,dQ w B p→Calls Tryz.prog 33 #[.pointer (some ⟨B,0,none⟩)] w fun e w'=>e = .returned (.string ⟨⟨t⟩⟩)∧dQ w' B p'∧fN w w' B
theorem a2q {p:aE} {r:List UInt8×aE} (hd:aZ p) (h:mW p=some r):b2z p r.2 r.1:=by
 intro w B hw
 refine (vN aH5 (p:=p) (p':=r.2) (args:=[]) (rs:=[.str r.1]) (aH9 hd h) rfl rfl rfl rfl rfl rfl w B [] hw (fun _ _=>Reps.nil)).mono ?_
 rintro e w' ⟨x,rfl,hr,h1,h2⟩
 exact ⟨by rw [rep_str hr],h1,h2⟩
structure qR where
 keys:List (List UInt8)
 ls:List V
 seen:List (List UInt8)
structure sG (w0 U:World) (B Bo Bp Bm M:Nat) (W:World) (acc:qR):Prop where
 fr:fN w0 W B
 bo : ∃ kv lv xs E,W.heap[Bo]? = some (.cells #[.int .i64 7,.string ⟨⟨[]⟩⟩,kv,lv] E (0,0)) ∧ W.ownsRow (w0.heap.size + 5) 9 1 kv acc.keys.length (acc.keys.map fun k=>.string ⟨⟨k⟩⟩) ∧ W.ownsRow (w0.heap.size + 5) 27 4 lv acc.ls.length xs ∧ Reps (rX tK w0.heap.size W.heap fun b=>decide (b < w0.heap.size + 5) || (kv.ownBlock == some b || lv.ownBlock == some b)) W.heap (flat acc.ls) xs
 bp : ∃ E,W.heap[Bp]? = some (.cells #[.pointer (some ⟨B,0,none⟩)] E (0,0))
 bm : ∃ E,W.heap[Bm]? = some (.cells #[.map (some M)] E (0,0))
 mp:W.ownsMap Tryz.prog 9 (plainElem Tryz.prog 3) M acc.seen.length (mX acc.seen)
 len:w0.heap.size+5≤W.heap.size
 kp : ∀ b,b < w0.heap.size + 5 → b ≠ Bo → b ≠ B → b ≠ M → W.heap[b]? = U.heap[b]?
 tb:qN w0 B
structure fU (w w':World) (B M:Nat):Prop where
 os:w'.os=w.os
 output:w'.output=w.output
 size:w.heap.size≤w'.heap.size
 same : ∀ b,b < w.heap.size → b ≠ B → b ≠ M → w'.heap[b]? = w.heap[b]?
theorem fU.of {w w':World} {B:Nat} (M:Nat) (h:fN w w' B):fU w w' B M:=⟨h.os,h.output,h.size,fun b h1 h2 _=>h.same b h1 h2⟩
theorem fU.grown {w w':World} {M:Nat} (B:Nat) (h:w.grownBy w' (some M)):fU w w' B M:=⟨h.os,h.output,h.size,fun b h1 _ h2=>h.block b h1 (by intro e; injection e with e; exact h2 e)⟩
theorem fU.trans {a b c:World} {B M:Nat} (h:fU a b B M) (k:fU b c B M):fU a c B M :=
 ⟨k.os.trans h.os,k.output.trans h.output,Nat.le_trans h.size k.size,fun i h1 h2 h3=>(k.same i (by have:=h.size; omega) h2 h3).trans (h.same i h1 h2 h3)⟩
theorem a1i {W W':World} {B M base n el sz:Nat} {v:Value} {xs:List Value} (h:W.ownsRow base el sz v n xs) (o:fU W W' B M) (hB:B < base) (hM:M < base):W'.ownsRow base el sz v n xs:=by
 obtain ⟨h1,h2⟩:=h
 refine ⟨h1,?_⟩
 rcases h2 with h2 | ⟨g,cap,cur,rfl,hb,hg,r⟩
 ·exact .inl h2
 ·exact .inr ⟨g,cap,cur,rfl,hb,(o.same g (Array.getElem?_eq_some_iff.1 hg).1 (by omega) (by omega)).trans hg,r⟩
theorem a1j {w0 U W W':World} {B Bo Bp Bm M:Nat} {acc:qR} (hB:B < w0.heap.size) (hBp:w0.heap.size≤Bp) (hBo:w0.heap.size≤Bo) (hM:w0.heap.size≤M∧M < w0.heap.size+5) (hBm:w0.heap.size≤Bm) (n2:Bp≠M) (n4:Bo≠M) (n6:M≠Bm) (hpl:bT (flat acc.ls)=true)
  (hi:sG w0 U B Bo Bp Bm M W acc) (o:fU W W' B M) {seen:List (List UInt8)} (hm:W'.ownsMap Tryz.prog 9 (plainElem Tryz.prog 3) M seen.length (mX seen)):sG w0 U B Bo Bp Bm M W' { acc with seen:=seen }:=by
 obtain ⟨hfr,⟨kv,lv,xs,E,hbo,hkv,hlv,hrep⟩,⟨E2,hbp⟩,⟨E3,hbm⟩,hmp,hlen2,hkp,htb⟩:=hi
 have s1:=hfr.size
 have lo:=(Array.getElem?_eq_some_iff.1 hbo).1
 have lp:=(Array.getElem?_eq_some_iff.1 hbp).1
 have lm:=(Array.getElem?_eq_some_iff.1 hbm).1
 refine ⟨⟨o.os.trans hfr.os,o.output.trans hfr.output,Nat.le_trans s1 o.size,fun b h1 h2=>(o.same b (by omega) h2 (by omega)).trans (hfr.same b h1 h2)⟩,⟨kv,lv,xs,E,(o.same Bo lo (by omega) n4).trans hbo,a1i hkv o (by omega) hM.2,a1i hlv o (by omega) hM.2,?_⟩,⟨E2,(o.same Bp lp (by omega) n2).trans hbp⟩,⟨E3,(o.same Bm lm (by omega) (fun e=>n6 e.symm)).trans hbm⟩,hm,Nat.le_trans hlen2 o.size,fun b h1 h2 h3 h4=>(o.same b (by omega) h3 h4).trans (hkp b h1 h2 h3 h4),htb⟩
 refine qM (κ:=rX tK w0.heap.size W.heap fun b=>decide (b < w0.heap.size+5) || (kv.ownBlock == some b || lv.ownBlock == some b)) (fun b i y h1 h2=>?_) hrep fun v hv=>bS.1 hpl v hv
 have hb0:w0.heap.size≤b:=by
  rcases Nat.lt_or_ge b w0.heap.size with h | h
  ·rw [uK h] at h1; exact absurd h1 (Nat.not_lt_zero _)
  ·exact h
 have hG:(decide (b < w0.heap.size+5) || (kv.ownBlock == some b || lv.ownBlock == some b))=false:=by
  cases hq:(decide (b < w0.heap.size+5) || (kv.ownBlock == some b || lv.ownBlock == some b)) with
  | false=>rfl
  | true=>rw [aAw hb0 hq] at h1; exact absurd h1 (Nat.not_lt_zero _)
 have hg:=hG
 simp only [Bool.or_eq_false_iff,decide_eq_false_iff_not] at hg
 have hbW:=gW h2
 have e1 : W'.heap[b]? = W.heap[b]?:=o.same b hbW (by omega) (by omega)
 have h3:aW W'.heap b i=some y:=by unfold aW at h2 ⊢; rw [e1]; exact h2
 exact ⟨mL hb0 hG h3,h3⟩
theorem j7 {W W' : World} {M n : Nat} {D : DataW Unit} (h : W.ownsMap Tryz.prog 9 (plainElem Tryz.prog 3) M n D) (e : W'.heap[M]? = W.heap[M]?) : W'.ownsMap Tryz.prog 9 (plainElem Tryz.prog 3) M n D:=by
 obtain ⟨es,clock,hb,F,hs,hD⟩:=h
 exact ⟨es,clock,e.trans hb,F,hs,hD⟩
set_option maxHeartbeats 3200000 in
theorem aWg {w0 U:World} {B Bo Bp Bm M:Nat} {p p1:aE} {key:List UInt8} {W:World} {acc:qR} (hB:B < w0.heap.size) (hBp:w0.heap.size≤Bp∧Bp < w0.heap.size+5) (hBo:w0.heap.size≤Bo∧Bo < w0.heap.size+5) (hM:w0.heap.size≤M∧M < w0.heap.size+5) (hBm:w0.heap.size≤Bm∧Bm < w0.heap.size+5) (n1:Bp≠Bo) (n2:Bp≠M) (n3:Bp≠Bm) (n4:Bo≠M) (n5:Bo≠Bm) (n6:M≠Bm) (hd:aZ p) (htx:mW p=some (key,p1)) (hlen:acc.seen.length≤100000000) (hkl:key.length≤maxLen) (hw:dQ W B p) (hi:sG w0 U B Bo Bp Bm M W acc) (hk:p1.e=0) (hks:key ∉ acc.seen) (hpl:bT (flat acc.ls)=true) (hn:(aV (aF p1) 58).1=false) :
  Calls Tryz.prog 54 #[.pointer (some ⟨Bp,0,none⟩),.pointer (some ⟨Bm,0,none⟩),.pointer (some ⟨Bo,0,none⟩)] W fun e W'=>e = .returned (.tuple #[])∧dQ W' B (aV (aF p1) 58).2∧sG w0 U B Bo Bp Bm M W' { acc with seen:=key::acc.seen }:=by
 have hi0:=hi
 obtain ⟨hfr,⟨kv,lv,xs,E,hbo,hkv,hlv,hrep⟩,⟨E2,hbp⟩,⟨E3,hbm⟩,hmp,hlen2,hkp,htb⟩:=hi
 have htc:=a2q hd htx
 have hd1:aZ p1:=(kO hd htx).aO
 have hkey:keyOf Tryz.prog 9 (.string ⟨⟨key⟩⟩)=some (.string key):=Go.WideMaps.keyOf_string_mk Tryz.underlying9 (s:=⟨⟨key⟩⟩) hkl
 have hd2:=iY hd1
 obtain ⟨c0,c1,c2,c3,c4,cf⟩:=jD hw
 have z1 : W.cell? ⟨Bp,0,none⟩ = some (.pointer (some ⟨B,0,none⟩)):=by rw [Lib.cell_of_heap hbp]; rfl
 have z2 : W.cell? ⟨Bm,0,none⟩ = some (.map (some M)):=by rw [Lib.cell_of_heap hbm]; rfl
 have lBp:=(Array.getElem?_eq_some_iff.1 hbp).1
 have lBm:=(Array.getElem?_eq_some_iff.1 hbm).1
 go_enter Tryz.func54,Tryz.ntmps54
 go_wp2_with (first
  | (go_at_call 33; refine (htc _ B hw).mono ?_; rintro _ W1 ⟨rfl,s1,o1⟩; obtain ⟨d0,d1,d2,d3,d4,df⟩:=jD s1; rw [hk] at d3; have b1 : W1.heap[Bp]? = _:=(o1.same Bp lBp (by omega)).trans hbp; have m1 : W1.heap[Bm]? = _:=(o1.same Bm lBm (by omega)).trans hbm; have z11 : W1.cell? ⟨Bp,0,none⟩ = some (.pointer (some ⟨B,0,none⟩)):=(by rw [Lib.cell_of_heap b1]; rfl); have z12 : W1.cell? ⟨Bm,0,none⟩ = some (.map (some M)):=(by rw [Lib.cell_of_heap m1]; rfl); have mp1 : W1.ownsMap Tryz.prog 9 (plainElem Tryz.prog 3) M acc.seen.length (mX acc.seen):=j7 hmp (o1.same M hmp.lt (by omega)); obtain ⟨cc,hrun,hat,_⟩:=mp1.lookup_int a3t Tryz.underlying88 Tryz.underlying3 (aQt _) hkey; rw [aBz,if_neg hks] at hat; obtain rfl : cc = 0:=(by injection hat with hat; injection hat with _ hat; exact hat.symm))
  | (at_mapUpdate; refine wpList_mapUpdate_own _ rfl _ _ _ 88 rfl 9 3 a3t Tryz.underlying88 _ M acc.seen.length (mX acc.seen) rfl mp1 (by unfold maxLen; omega) _ _ (.string key) rfl rfl hkey (.lit (.int .i64 1)) [] (plainElem_int Tryz.underlying3 (by decide)) ?_; intro W3 mp3 g3; have t3 : ∀ b,b < W1.heap.size → b ≠ M → W3.heap[b]? = W1.heap[b]?:=(fun b h1 h2=>g3.block b h1 (by intro e; injection e with e; exact h2 e)); have b3 : W3.heap[Bp]? = _:=(t3 Bp (by have:=o1.size; omega) (by omega)).trans b1; have z31 : W3.cell? ⟨Bp,0,none⟩ = some (.pointer (some ⟨B,0,none⟩)):=(by rw [Lib.cell_of_heap b3]; rfl); have s3 : dQ W3 B p1:=(by obtain ⟨⟨E',h⟩,_⟩:=s1; exact ⟨⟨E',(t3 B (by have:=o1.size; have:=hfr.size; omega) (by omega)).trans h⟩,htb.same (by have:=g3.size; have:=o1.size; have:=hfr.size; omega) fun b hb hn=>(t3 b (by have:=o1.size; have:=hfr.size; omega) (by omega)).trans ((o1.same b (by have:=hfr.size; omega) hn).trans (hfr.same b hb hn))⟩); have hsk:=lN hd1 W3 B s3)
  | (go_at_call 55; refine (hnd _ B s4).mono ?_; rintro _ W5 ⟨rfl,s5,o5⟩; have b5 : W5.heap[Bp]? = _:=(o5.same Bp (by have:=o4.size; have:=g3.size; have:=o1.size; omega) (by omega)).trans b4; have z51 : W5.cell? ⟨Bp,0,none⟩ = some (.pointer (some ⟨B,0,none⟩)):=(by rw [Lib.cell_of_heap b5]; rfl))
  | (go_at_call 16; refine hsk.mono ?_; rintro _ W4 ⟨rfl,s4,o4⟩; have b4 : W4.heap[Bp]? = _:=(o4.same Bp (by have:=g3.size; have:=o1.size; omega) (by omega)).trans b3; have z41 : W4.cell? ⟨Bp,0,none⟩ = some (.pointer (some ⟨B,0,none⟩)):=(by rw [Lib.cell_of_heap b4]; rfl); have hnd:=yR hd2 58; rw [hn] at hnd)
  | fail)
 have o5':fU W3 W5 B M:=(fU.of M o4).trans (fU.of M o5)
 have ho:fU W W5 B M:=((fU.of M o1).trans (fU.grown B g3)).trans o5'
 have mp5:W5.ownsMap Tryz.prog 9 (plainElem Tryz.prog 3) M (key::acc.seen).length (mX (key::acc.seen)):=j7 (j7 mp3 (o4.same M (by have:=g3.size; have:=o1.size; have:=hmp.lt; omega) (by omega))) (o5.same M (by have:=o4.size; have:=g3.size; have:=o1.size; have:=hmp.lt; omega) (by omega))
 exact ⟨rfl,.tuple #[],by kernel_rfl,rfl,s5,a1j hB hBp.1 hBo.1 hM hBm.1 n2 n4 n6 hpl hi0 ho mp5⟩
end Go.Fbs

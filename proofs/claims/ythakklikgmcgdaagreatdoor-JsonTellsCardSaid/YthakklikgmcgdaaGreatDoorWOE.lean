import Derived.Test.YthakklikgmcgdaaGreatDoorWOC
set_option linter.unusedSimpArgs false
set_option linter.unusedVariables false
set_option linter.unusedSectionVars false
set_option maxRecDepth 100000
namespace Go.Fbs
open Go.Proofs Go.RowKit Go.Maps
theorem uM {W : World} {b0 n el sz : Nat} {lv : Value} {xs : List Value} (h : W.ownsRow b0 el sz lv n xs) : ∀ k,lv.ownBlock = some k → b0 ≤ k ∧ ∃ cur,W.heap[k]? = some (.cells cur el (0,0)):=fun k hk=>by
 obtain ⟨_,h2⟩:=h
 rcases h2 with ⟨rfl,h0⟩ | ⟨g',cap',cur,rfl,h1,hg,_⟩
 ·cases hk
 ·have:k=g':=by simpa [Value.ownBlock] using hk.symm
  rw [this]; exact ⟨h1,cur,hg⟩
theorem aFj {W W' : World} {b0 n el sz : Nat} {lv : Value} {xs : List Value} (h : W.ownsRow b0 el sz lv n xs) (hs : ∀ k,lv.ownBlock = some k → W'.heap[k]? = W.heap[k]?) : W'.ownsRow b0 el sz lv n xs:=by
 obtain ⟨h1,h2⟩:=h
 refine ⟨h1,?_⟩
 rcases h2 with h2 | ⟨g,cap,cur,rfl,hb,hg,r⟩
 ·exact .inl h2
 ·exact .inr ⟨g,cap,cur,rfl,hb,(hs g rfl).trans hg,r⟩
theorem aDz {n b0:Nat} {W:World} {G:Nat→Bool} {b i:Nat} (h1:i < (rX tK n W.heap G).hw b):n≤b∧G b=false:=by
 have hb0:n≤b:=by
  rcases Nat.lt_or_ge b n with h | h
  ·rw [uK h] at h1; exact absurd h1 (Nat.not_lt_zero _)
  ·exact h
 refine ⟨hb0,?_⟩
 cases hq:G b with
 | false=>rfl
 | true=>rw [aAw hb0 hq] at h1; exact absurd h1 (Nat.not_lt_zero _)
theorem aWh {w0 U W Y W7 Z:World} {B Bo Bp Bm M g cp:Nat} {acc:qR} {kv lv:Value} {E:TypeId} {key:List UInt8} (hB:B < w0.heap.size) (hBp:w0.heap.size≤Bp∧Bp < w0.heap.size+5) (hBo:w0.heap.size≤Bo∧Bo < w0.heap.size+5) (hM:w0.heap.size≤M∧M < w0.heap.size+5) (hBm:w0.heap.size≤Bm∧Bm < w0.heap.size+5) (n1:Bp≠Bo) (n4:Bo≠M) (n5:Bo≠Bm) (hpl:bT (flat acc.ls)=true)
  (hi : sG w0 U B Bo Bp Bm M W acc) (hbo : W.heap[Bo]? = some (.cells #[.int .i64 7,.string ⟨⟨[]⟩⟩,kv,lv] E (0,0))) 
  (hYs : W.heap.size ≤ Y.heap.size) (hYo : Y.os = W.os) (hYu : Y.output = W.output) (hY : ∀ b,b < W.heap.size → Y.heap[b]? = W.heap[b]?) (hgr : Y.grownBy W7 kv.ownBlock) (hat : kv.ownBlock = some g ∨ g = Y.heap.size)
  (hk7:W7.ownsRow (w0.heap.size+5) 9 1 (.slice (some ⟨g,0,none⟩) (acc.keys.length+1) cp) (acc.keys.length+1) ((acc.keys.map fun k=>Value.string ⟨⟨k⟩⟩)++[.string ⟨⟨key⟩⟩]))
  (hZ:Z=W7.setCell ⟨Bo,2,none⟩ (.slice (some ⟨g,0,none⟩) (acc.keys.length+1) cp)) :
  sG w0 U B Bo Bp Bm M Z { acc with keys:=acc.keys ++ [key] } ∧ (∀ b,b < W.heap.size → kv.ownBlock ≠ some b → b ≠ Bo → Z.heap[b]? = W.heap[b]?) ∧ Z.heap[Bo]? = some (.cells #[.int .i64 7,.string ⟨⟨[]⟩⟩,.slice (some ⟨g,0,none⟩) (acc.keys.length + 1) cp,lv] E (0,0)):=by
 obtain ⟨hfr,⟨kv',lv',xs',E',hbo',hkv,hlv,hrep⟩,⟨E2,hbp⟩,⟨E3,hbm⟩,hmp,hlen2,hkp,htb⟩:=hi
 rw [hbo] at hbo'
 simp only [Option.some.injEq,Obj.cells.injEq,Array.mk.injEq,List.cons.injEq,and_true,true_and] at hbo'
 obtain ⟨⟨rfl,rfl⟩,rfl⟩:=hbo'
 have s1:=hfr.size
 have s3:=hgr.size
 have lo:=(Array.getElem?_eq_some_iff.1 hbo).1
 have lp:=(Array.getElem?_eq_some_iff.1 hbp).1
 have lm:=(Array.getElem?_eq_some_iff.1 hbm).1
 have lM:=hmp.lt
 have hkb:=uM hkv
 have hlb:=uM hlv
 have to7 : ∀ b,b < W.heap.size → kv.ownBlock ≠ some b → W7.heap[b]? = W.heap[b]?:=fun b hb hn=>(hgr.block b (by omega) (fun e=>hn e.symm)).trans (hY b hb)
 have toZ : ∀ b,b < W.heap.size → kv.ownBlock ≠ some b → b ≠ Bo → Z.heap[b]? = W.heap[b]?:=fun b hb hn hbo=>by rw [hZ,kM _ _ hbo]; exact to7 b hb hn
 have low:∀ b,b < w0.heap.size+5→kv.ownBlock≠some b:=fun b hb e=>by have:=(hkb b e).1; omega
 have hZs:Z.heap.size=W7.heap.size:=by rw [hZ]; exact nK _ _
 have hgb:w0.heap.size+5≤g:=(uM hk7 g rfl).1
 have hZo : Z.heap[Bo]? = some (.cells #[.int .i64 7,.string ⟨⟨[]⟩⟩,.slice (some ⟨g,0,none⟩) (acc.keys.length + 1) cp,lv] E (0,0)):=by
  rw [hZ]; exact nJ _ _ ((to7 Bo lo (low Bo hBo.2)).trans hbo)
 have hlne:∀ k,lv.ownBlock=some k→k < W.heap.size∧kv.ownBlock≠some k∧k≠Bo:=fun k hk=>by
  obtain ⟨h1,cur,h2⟩:=hlb k hk
  refine ⟨(Array.getElem?_eq_some_iff.1 h2).1,fun e=>?_,by omega⟩
  obtain ⟨_,cur',h3⟩:=hkb k e
  rw [h2] at h3; simp at h3
 refine ⟨⟨⟨?_,?_,by omega,fun b h1 h2=>?_⟩,⟨_,lv,xs',E,hZo,?_,aFj hlv (fun k hk=>toZ k (hlne k hk).1 (hlne k hk).2.1 (hlne k hk).2.2),?_⟩,⟨E2,(toZ Bp lp (low Bp hBp.2) n1).trans hbp⟩,⟨E3,(toZ Bm lm (low Bm hBm.2) (fun e=>n5 e.symm)).trans hbm⟩,j7 hmp (toZ M lM (low M hM.2) (fun e=>n4 e.symm)),by omega,fun b h1 h2 h3 h4=>(toZ b (by omega) (low b h1) h2).trans (hkp b h1 h2 h3 h4),htb⟩,toZ,hZo⟩
 ·rw [hZ]; exact (nL _ _).trans (hgr.os.trans (hYo.trans hfr.os))
 ·rw [hZ]; exact (lF _ _).trans (hgr.output.trans (hYu.trans hfr.output))
 ·rw [toZ b (by omega) (low b (by omega)) (by omega),hfr.same b h1 h2]
 ·show Z.ownsRow _ 9 1 _ (acc.keys++[key]).length ((acc.keys++[key]).map fun k=>Value.string ⟨⟨k⟩⟩)
  rw [List.length_append,List.map_append]
  refine aFj hk7 fun k hk=>?_
  have:k=g:=by simpa [Value.ownBlock] using hk.symm
  rw [hZ]; exact kM _ _ (by omega)
 ·refine qM (κ:=rX tK w0.heap.size W.heap fun b=>decide (b < w0.heap.size+5) || (kv.ownBlock == some b || lv.ownBlock == some b)) (fun b i y h1 h2=>?_) hrep fun v hv=>bS.1 hpl v hv
  obtain ⟨hb0,hG⟩:=aDz (b0:=0) h1
  simp only [Bool.or_eq_false_iff,decide_eq_false_iff_not,beq_eq_false_iff_ne] at hG
  have hbW:=gW h2
  have e1 : Z.heap[b]? = W.heap[b]?:=toZ b hbW hG.2.1 (by omega)
  have h3:aW Z.heap b i=some y:=by unfold aW at h2 ⊢; rw [e1]; exact h2
  refine ⟨mL hb0 ?_ h3,h3⟩
  have hne:¬ g=b:=fun e=>by
   rcases hat with h | h
   ·exact hG.2.1 (by rw [h,e])
   ·omega
  simp only [Bool.or_eq_false_iff,decide_eq_false_iff_not,beq_eq_false_iff_ne]
  exact ⟨hG.1,by simpa [Value.ownBlock] using hne,hG.2.2⟩
end Go.Fbs

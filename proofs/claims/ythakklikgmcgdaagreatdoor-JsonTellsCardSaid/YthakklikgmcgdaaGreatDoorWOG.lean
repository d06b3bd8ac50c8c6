import Derived.Test.YthakklikgmcgdaaGreatDoorWOE
set_option linter.unusedSimpArgs false
set_option linter.unusedVariables false
set_option linter.unusedSectionVars false
set_option maxRecDepth 100000
namespace Go.Fbs
open Go.Proofs Go.RowKit Go.Maps
theorem aLl {w0 U W X w2:World} {B Bo Bp Bm M g:Nat} {kv:Value} {E:TypeId} {cur:Array Value} {acc:qR} {p':aE} {jk:Int} {jt:List UInt8} {jks jls:List V} {ja jb:Option Addr} {jm jc jl jd cp oc:Nat} {oa:Option Addr} {y0 y1 y2 y3:Value} {xs0:List Value}
  (hB:B < w0.heap.size) (hBp:w0.heap.size≤Bp∧Bp < w0.heap.size+5) (hBo:w0.heap.size≤Bo∧Bo < w0.heap.size+5) (hM:w0.heap.size≤M∧M < w0.heap.size+5) (hBm:w0.heap.size≤Bm∧Bm < w0.heap.size+5) (n1:Bp≠Bo) (n4:Bo≠M) (n5:Bo≠Bm) (hpl:bT (flat acc.ls)=true)
  (hi : sG w0 U B Bo Bp Bm M W acc) (hbo : W.heap[Bo]? = some (.cells #[.int .i64 7,.string ⟨⟨[]⟩⟩,kv,.slice oa acc.ls.length oc] E (0,0)))
  (hown:W.ownsRow (w0.heap.size+5) 27 4 (.slice oa acc.ls.length oc) acc.ls.length xs0)
  (hWX:fN W X B) (hst:dQ X B p') (hjp:bT [.int .i64 jk,.str jt,.sl .ro jks,.sl .ro jls]=true)
  (hX:∃ N,W.heap.size≤N∧Reps (pK N X.heap) X.heap [.int .i64 jk,.str jt,.sl .ro jks,.sl .ro jls] (jx jk jt ja jm jc jb jl jd))
  (hY : ∃ Y : World,Y.grownBy w2 (Value.slice oa acc.ls.length oc).ownBlock ∧ X.heap.size ≤ Y.heap.size ∧ Y.os = X.os ∧ Y.output = X.output ∧ (∀ b,b < X.heap.size → Y.heap[b]? = X.heap[b]?) ∧ ((Value.slice oa acc.ls.length oc).ownBlock = some g ∨ g = Y.heap.size))
  (hg2 : w2.heap[g]? = some (.cells cur 27 (0,0))) (hcs : cur.size = cp * 4) (hcn : acc.ls.length + 1 ≤ cp) (hct : cur.toList.take ((acc.ls.length + 1) * 4) = xs0 ++ [y0,y1,y2,y3]) (hgb : w0.heap.size + 5 ≤ g) (hcm : cp ≤ maxLen) :
  ∀ Z,Put w2 Z Bo g acc.ls.length cur #[.int .i64 7,.string ⟨⟨[]⟩⟩,kv,.slice oa acc.ls.length oc] E (.slice (some ⟨g,0,none⟩) (acc.ls.length+1) cp) (.int .i64 jk) (.string ⟨⟨jt⟩⟩) (.slice ja jm jc) (.slice jb jl jd)→dQ Z B p'∧sG w0 U B Bo Bp Bm M Z { acc with ls:=acc.ls++[jn jk jt jks jls] }:=by
 intro Z hP
 obtain ⟨hZo,hZu,hZs,hZ,hZb,hZg⟩:=hP
 obtain ⟨hfr,⟨kv',lv',xs,E',hbo',hkv,hlv,hrep⟩,⟨E2,hbp⟩,⟨E3,hbm⟩,hmp,hlen2,hkp,htb⟩:=hi
 rw [hbo] at hbo'
 simp only [Option.some.injEq,Obj.cells.injEq,Array.mk.injEq,List.cons.injEq,and_true,true_and] at hbo'
 obtain ⟨⟨rfl,rfl⟩,rfl⟩:=hbo'
 obtain rfl:xs=xs0:=by
  obtain ⟨q1,q2⟩:=hlv
  obtain ⟨r1,r2⟩:=hown
  rcases q2 with ⟨e,h0⟩ | ⟨g1,cap1,cur1,e1,_,hg1,_,_,_,ht1⟩
  ·rw [h0] at q1 r1
   rw [List.length_eq_zero_iff.1 (by omega:xs.length=0),List.length_eq_zero_iff.1 (by omega:xs0.length=0)]
  ·rcases r2 with ⟨e,h0⟩ | ⟨g2',cap2,cur2,e2,_,hg2',_,_,_,ht2⟩
   ·rw [e] at e1; cases e1
   ·rw [e1] at e2
    simp only [Value.slice.injEq,Option.some.injEq,Addr.mk.injEq,and_true,true_and] at e2
    obtain ⟨rfl,_⟩:=e2
    rw [hg1] at hg2'
    simp only [Option.some.injEq,Obj.cells.injEq,and_true] at hg2'
    rw [← ht1,← ht2,hg2']
 obtain ⟨N,hN,hxr⟩:=hX
 obtain ⟨Y,hgr,hYs,hYo,hYu,hY,hat⟩:=hY
 have hlen:=hlv.1
 have s1:=hfr.size
 have s2:=hWX.size
 have s3:=hgr.size
 have lo:=(Array.getElem?_eq_some_iff.1 hbo).1
 have lp:=(Array.getElem?_eq_some_iff.1 hbp).1
 have lm:=(Array.getElem?_eq_some_iff.1 hbm).1
 have lM:=hmp.lt
 have hlb:=uM hlv
 have hkb:=uM hkv
 have gno:∀ b,b < X.heap.size→(Value.slice oa acc.ls.length oc).ownBlock≠some b→b≠g:=fun b hb hn e=>by
  rcases hat with h | h
  ·exact hn (by rw [h,e])
  ·omega
 have toZ : ∀ b,b < X.heap.size → (Value.slice oa acc.ls.length oc).ownBlock ≠ some b → b ≠ Bo → Z.heap[b]? = X.heap[b]?:=fun b hb hn hbo=>(hZ b hbo (gno b hb hn)).trans ((hgr.block b (by omega) (fun e=>hn e.symm)).trans (hY b hb))
 have toW : ∀ b,b < W.heap.size → (Value.slice oa acc.ls.length oc).ownBlock ≠ some b → b ≠ Bo → b ≠ B → Z.heap[b]? = W.heap[b]?:=fun b hb hn h1 h2=>(toZ b (by omega) hn h1).trans (hWX.same b hb h2)
 have low:∀ b,b < w0.heap.size+5→(Value.slice oa acc.ls.length oc).ownBlock≠some b:=fun b hb e=>by have:=(hlb b e).1; omega
 have hlw:∀ k,(Value.slice oa acc.ls.length oc).ownBlock=some k→k < W.heap.size:=fun k e=>by
  obtain ⟨_,cur,h⟩:=hlb k e
  exact (Array.getElem?_eq_some_iff.1 h).1
 have fr:fN w0 Z B:=by
  refine ⟨?_,?_,by omega,fun b h1 h2=>(toW b (by omega) (low b (by omega)) (by omega) h2).trans (hfr.same b h1 h2)⟩
  ·rw [hZo,hgr.os,hYo,hWX.os,hfr.os]
  ·rw [hZu,hgr.output,hYu,hWX.output,hfr.output]
 refine ⟨⟨?_,htb.only fr⟩,⟨fr,⟨kv,_,xs++jx jk jt ja jm jc jb jl jd,E,hZb,aFj hkv (fun k hk=>?_),?_,?_⟩,⟨E2,(toW Bp lp (low Bp hBp.2) n1 (by omega)).trans hbp⟩,⟨E3,(toW Bm lm (low Bm hBm.2) (fun e=>n5 e.symm) (by omega)).trans hbm⟩,j7 hmp (toW M lM (low M hM.2) (fun e=>n4 e.symm) (by omega)),by omega,fun b h1 h2 h3 h4=>(toW b (by omega) (low b h1) h2 h3).trans (hkp b h1 h2 h3 h4),htb⟩⟩
 ·obtain ⟨⟨E',h⟩,_⟩:=hst
  exact ⟨E',(toZ B (by omega) (low B (by omega)) (by omega)).trans h⟩
 ·obtain ⟨h1,cur',h2⟩:=hkb k hk
  refine toW k (Array.getElem?_eq_some_iff.1 h2).1 (fun e=>?_) (by omega) (by omega)
  obtain ⟨_,cur'',h3⟩:=hlb k e
  rw [h2] at h3; simp at h3
 ·show Z.ownsRow _ 27 4 _ (acc.ls++[jn jk jt jks jls]).length _
  refine ⟨?_,.inr ⟨g,cp,_,?_,hgb,hZg,?_,hcm,?_,?_⟩⟩
  ·rw [List.length_append,List.length_append,hlen]; show acc.ls.length*4+4=(acc.ls.length+1)*4; omega
  ·rw [List.length_append]; rfl
  ·rw [List.length_append]; exact hcn
  ·rw [aC2,hcs]
  ·rw [List.length_append]
   exact aC3 hct hlen (by rw [hcs]; omega)
 ·show Reps _ _ (flat (acc.ls++[jn jk jt jks jls])) _
  rw [aAz]
  refine Reps.append ?_ ?_
  ·refine qM (κ:=rX tK w0.heap.size W.heap fun b=>decide (b < w0.heap.size+5) || (kv.ownBlock == some b || (Value.slice oa acc.ls.length oc).ownBlock == some b)) (fun b i y h1 h2=>?_) hrep fun v hv=>bS.1 hpl v hv
   obtain ⟨hb0,hG⟩:=aDz (b0:=0) h1
   simp only [Bool.or_eq_false_iff,decide_eq_false_iff_not,beq_eq_false_iff_ne] at hG
   have hbW:=gW h2
   have e1 : Z.heap[b]? = W.heap[b]?:=toW b hbW hG.2.2 (by omega) (by omega)
   have h3:aW Z.heap b i=some y:=by unfold aW at h2 ⊢; rw [e1]; exact h2
   refine ⟨mL hb0 ?_ h3,h3⟩
   have:=gno b (by omega) hG.2.2
   simp only [Bool.or_eq_false_iff,decide_eq_false_iff_not,beq_eq_false_iff_ne]
   exact ⟨hG.1,hG.2.1,by simpa [Value.ownBlock] using fun e=>this e.symm⟩
  ·refine qM (κ:=pK N X.heap) (fun b i y h1 h2=>?_) hxr fun v hv=>bS.1 hjp v hv
   have hb0:N≤b:=by
    rcases Nat.lt_or_ge b N with h | h
    ·rw [show (pK N X.heap).hw b=0 from uK h] at h1; exact absurd h1 (Nat.not_lt_zero _)
    ·exact h
   have hbX:=gW h2
   have hno:(Value.slice oa acc.ls.length oc).ownBlock≠some b:=fun e=>by have:=hlw b e; omega
   have e1 : Z.heap[b]? = X.heap[b]?:=toZ b hbX hno (by omega)
   have h3:aW Z.heap b i=some y:=by unfold aW at h2 ⊢; rw [e1]; exact h2
   refine ⟨mL (by omega) ?_ h3,h3⟩
   have:=gno b hbX hno
   have hk9:kv.ownBlock≠some b:=fun e=>by
    obtain ⟨_,cur',h⟩:=hkb b e
    have:=(Array.getElem?_eq_some_iff.1 h).1; omega
   simp only [Bool.or_eq_false_iff,decide_eq_false_iff_not,beq_eq_false_iff_ne]
   exact ⟨by omega,hk9,by simpa [Value.ownBlock] using fun e=>this e.symm⟩
end Go.Fbs

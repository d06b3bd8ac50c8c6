import Derived.Test.YthakklikgmcgdaaGreatDoorWD
set_option linter.unusedSimpArgs false
set_option linter.unusedVariables false
set_option linter.unusedSectionVars false
set_option maxRecDepth 100000
namespace Go.Fbs
open Go.Proofs Go.RowKit
theorem Tryz.aLb : (Tryz.prog.info? 27).map (fun i=>(i.zero,i.size,i.bytes)) = some (some (.agg #[.int .i64 0,.string ⟨⟨[]⟩⟩,.slice none 0 0,.slice none 0 0]),4,72):=by kernel_rfl
theorem b3z:∀ args w,(callFunc 56 args).run Tryz.prog w = .ok (.enter 56 args) w:=enters_of Tryz.func56 (by kernel_rfl) rfl
theorem aLc {W W':World} {B base n:Nat} {v:Value} {xs:List Value} (h:W.ownsRow base 27 4 v n xs) (o:fN W W' B) (hB:B < base):W'.ownsRow base 27 4 v n xs:=by
 obtain ⟨h1,h2⟩:=h
 refine ⟨h1,?_⟩
 rcases h2 with h2 | ⟨g,cap,cur,rfl,hb,hg,r⟩
 ·exact .inl h2
 ·exact .inr ⟨g,cap,cur,rfl,hb,(o.same g (Array.getElem?_eq_some_iff.1 hg).1 (by omega)).trans hg,r⟩
theorem a8h {W : World} {base g n cp : Nat} {xs : List Value} (h : W.ownsRow base 27 4 (.slice (some ⟨g,0,none⟩) n cp) n xs) : ∃ cur : Array Value,W.heap[g]? = some (.cells cur 27 (0,0)) ∧ cur.size = cp * 4 ∧ n ≤ cp ∧ cur.toList.take (n * 4) = xs ∧ base ≤ g ∧ cp ≤ maxLen:=by
 obtain ⟨_,⟨e,_⟩ | ⟨g',cap',cur,e,hb,hg,hn,hcap,hsz,ht⟩⟩:=h
 ·cases e
 ·simp only [Value.slice.injEq,Option.some.injEq,Addr.mk.injEq,and_true,true_and] at e
  obtain ⟨rfl,rfl⟩:=e
  exact ⟨cur,hg,hsz,hn,ht,hb,hcap⟩
theorem a8i {W : World} {g n : Nat} {cur : Array Value} {xs : List Value} {y0 y1 y2 y3 : Value} (hg : W.heap[g]? = some (.cells cur 27 (0,0))) (ht : cur.toList.take ((n + 1) * 4) = xs ++ [y0,y1,y2,y3]) (hl : xs.length = n * 4) :
  W.cell? ⟨g,n * 4,none⟩ = some y0 ∧ W.cell? ⟨g,n * 4 + 1,none⟩ = some y1 ∧ W.cell? ⟨g,n * 4 + 2,none⟩ = some y2 ∧ W.cell? ⟨g,n * 4 + 3,none⟩ = some y3:=by
 have key : ∀ i,i < 4 → cur[n * 4 + i]? = [y0,y1,y2,y3][i]?:=fun i hi=>by
  have h1 : (cur.toList.take ((n + 1) * 4))[n * 4 + i]? = cur[n * 4 + i]?:=by rw [List.getElem?_take,if_pos (by omega),Array.getElem?_toList]
  rw [← h1,ht,List.getElem?_append_right (by omega)]
  congr 1; omega
 exact ⟨by rw [Lib.cell_of_heap hg]; exact key 0 (by decide),by rw [Lib.cell_of_heap hg]; exact key 1 (by decide),by rw [Lib.cell_of_heap hg]; exact key 2 (by decide),by rw [Lib.cell_of_heap hg]; exact key 3 (by decide)⟩
theorem a8j {W : World} {b E : Nat} {y0 y1 y2 y3 : Value} (h : W.heap[b]? = some (.cells #[y0,y1,y2,y3] E (0,0))) : W.cell? ⟨b,3,none⟩ = some y3:=by rw [Lib.cell_of_heap h]; rfl
def jn (k:Int) (t:List UInt8) (ks ls:List V):V:=.agg [.int .i64 k,.str t,.sl .ro ks,.sl .ro ls]
def jx (k:Int) (t:List UInt8) (a2:Option Addr) (n2 c2:Nat) (a3:Option Addr) (n3 c3:Nat):List Value:=[.int .i64 k,.string ⟨⟨t⟩⟩,.slice a2 n2 c2,.slice a3 n3 c3]
theorem aAx {κ:Ctx} {h:World} {k:Int} {t:List UInt8} {ks ls:List V} {x:Value} (r:Rep κ h.heap (jn k t ks ls) x):∃ a2 n2 c2 a3 n3 c3,x = .agg #[.int .i64 k,.string ⟨⟨t⟩⟩,.slice a2 n2 c2,.slice a3 n3 c3]∧Reps κ h.heap [.int .i64 k,.str t,.sl .ro ks,.sl .ro ls] (jx k t a2 n2 c2 a3 n3 c3):=by
 obtain ⟨ys,hr,ho,rfl⟩:=rep_agg r
 have hr0:=hr
 obtain ⟨x0,t0,e0,s0,r0⟩:=hr.inv_cons
 obtain ⟨x1,t1,e1,s1,r1⟩:=r0.inv_cons
 obtain ⟨x2,t2,e2,s2,r2⟩:=r1.inv_cons
 obtain ⟨x3,t3,e3,s3,r3⟩:=r2.inv_cons
 have e4:=r3.inv_nil
 have q:∀ {es:List V} {y:Value},Rep κ h.heap (.sl .ro es) y→∃ a n c,y = .slice a n c:=fun r=>by
  rcases rep_sl r with ⟨_,hx,_⟩ | ⟨b,off,cap,sz,vs,_,_,_,_,_,hx⟩
  ·exact ⟨_,_,_,hx⟩
  ·exact ⟨_,_,_,hx⟩
 obtain ⟨a2,n2,c2,f2⟩:=q s2
 obtain ⟨a3,n3,c3,f3⟩:=q s3
 have e:ys=jx k t a2 n2 c2 a3 n3 c3:=by rw [e0,e1,e2,e3,e4,f2,f3,rep_int s0,rep_str s1]; rfl
 rw [e] at hr0 ⊢
 exact ⟨a2,n2,c2,a3,n3,c3,rfl,hr0⟩
def aVz (p p':aE) (v:V):Prop:=∀ w B,dQ w B p→Calls Tryz.prog 17 #[.pointer (some ⟨B,0,none⟩)] w fun e w'=>∃ x,e = .returned x∧Rep (pK w.heap.size w'.heap) w'.heap v x∧dQ w' B p'∧fN w w' B
structure aAy (w0 U:World) (B Bo Bp:Nat) (k:Int) (W:World) (acc:List V):Prop where
 fr:fN w0 W B
 bo : ∃ kv lv xs E,kv = .slice none 0 0 ∧ W.heap[Bo]? = some (.cells #[.int .i64 k,.string ⟨⟨[]⟩⟩,kv,lv] E (0,0)) ∧ W.ownsRow (w0.heap.size + 3) 27 4 lv acc.length xs ∧ Reps (rX tK w0.heap.size W.heap fun b=>decide (b < w0.heap.size + 3) || lv.ownBlock == some b) W.heap (flat acc) xs
 bp : ∃ E,W.heap[Bp]? = some (.cells #[.pointer (some ⟨B,0,none⟩)] E (0,0))
 len:w0.heap.size+3≤W.heap.size
 kp : ∀ b,b < w0.heap.size + 3 → b ≠ Bo → b ≠ B → W.heap[b]? = U.heap[b]?
 tb:qN w0 B
def a6t (cur:Array Value) (o:Nat) (x0 x1 x2 x3:Value):Array Value:=(((cur.setIfInBounds o x0).setIfInBounds (o+1) x1).setIfInBounds (o+2) x2).setIfInBounds (o+3) x3
theorem aC2 (cur:Array Value) (o:Nat) (x0 x1 x2 x3:Value):(a6t cur o x0 x1 x2 x3).size=cur.size:=by simp [a6t]
theorem aC3 {cur:Array Value} {n:Nat} {xs:List Value} {y0 y1 y2 y3 x0 x1 x2 x3:Value} (ht:cur.toList.take ((n+1)*4)=xs++[y0,y1,y2,y3]) (hl:xs.length=n*4) (hs:(n+1)*4≤cur.size):(a6t cur (n*4) x0 x1 x2 x3).toList.take ((n+1)*4)=xs++[x0,x1,x2,x3]:=by
 apply List.ext_getElem?
 intro i
 rw [List.getElem?_take]
 have h0 : ∀ i,i < n * 4 → xs[i]? = cur[i]?:=fun i hi=>by
  have : (cur.toList.take ((n + 1) * 4))[i]? = cur[i]?:=by rw [List.getElem?_take,if_pos (by omega),Array.getElem?_toList]
  rw [← this,ht,List.getElem?_append_left (by omega)]
 split
 ·rename_i hi
  rw [Array.getElem?_toList]
  unfold a6t
  simp only [Array.getElem?_setIfInBounds,Array.size_setIfInBounds]
  by_cases h:i < n*4
  ·rw [List.getElem?_append_left (by omega),if_neg (by omega),if_neg (by omega),if_neg (by omega),if_neg (by omega),h0 i h]
  ·rw [List.getElem?_append_right (by omega),hl]
   obtain ⟨k,rfl⟩:∃ k,i=n*4+k:=⟨i - n*4,by omega⟩
   rw [Nat.add_sub_cancel_left]
   match k,(show k < 4 by omega) with
   | 0,_=>rw [if_neg (by omega),if_neg (by omega),if_neg (by omega),if_pos (by omega),if_pos (by omega)]; rfl
   | 1,_=>rw [if_neg (by omega),if_neg (by omega),if_pos (by omega),if_pos (by omega)]; rfl
   | 2,_=>rw [if_neg (by omega),if_pos (by omega),if_pos (by omega)]; rfl
   | 3,_=>rw [if_pos (by omega),if_pos (by omega)]; rfl
 ·rename_i hi
  rw [List.getElem?_eq_none]
  simp; omega
theorem aAz (acc:List V) (v:V):flat (acc++[v])=flat acc++v.cells:=by simp [flat]
structure Put (w2 Z:World) (Bo g n:Nat) (cur bo:Array Value) (E:TypeId) (lv' x0 x1 x2 x3:Value):Prop where
 os:Z.os=w2.os
 out:Z.output=w2.output
 size:Z.heap.size=w2.heap.size
 same : ∀ b,b ≠ Bo → b ≠ g → Z.heap[b]? = w2.heap[b]?
 bo : Z.heap[Bo]? = some (.cells (bo.setIfInBounds 3 lv') E (0,0))
 row : Z.heap[g]? = some (.cells (a6t cur (n * 4) x0 x1 x2 x3) 27 (0,0))
theorem nJ {w : World} {b : Nat} {c : Array Value} {E : TypeId} (o : Nat) (v : Value) (h : w.heap[b]? = some (.cells c E (0,0))) : (w.setCell ⟨b,o,none⟩ v).heap[b]? = some (.cells (c.setIfInBounds o v) E (0,0)):=by
 simp [World.setCell,Array.getElem?_modify,h]
theorem kM {w : World} {b b' : Nat} (o : Nat) (v : Value) (h : b' ≠ b) : (w.setCell ⟨b,o,none⟩ v).heap[b']? = w.heap[b']?:=by
 show (w.heap.modify b _)[b']? = _
 rw [Array.getElem?_modify,if_neg (fun e=>h e.symm)]
theorem nK {w:World} {b:Nat} (o:Nat) (v:Value):(w.setCell ⟨b,o,none⟩ v).heap.size=w.heap.size:=by simp [World.setCell]
theorem lF {w:World} (a:Addr) (v:Value):(w.setCell a v).output=w.output:=rfl
theorem nL {w:World} (a:Addr) (v:Value):(w.setCell a v).os=w.os:=rfl
theorem b1h {w : World} {g : Nat} {cur : Array Value} (n : Nat) (x0 x1 x2 x3 : Value) (hg : w.heap[g]? = some (.cells cur 27 (0,0))) :
  (((((w.setCell ⟨g,n * 4,none⟩ x0).setCell ⟨g,n * 4 + 1,none⟩ x1).setCell ⟨g,n * 4 + 2,none⟩ x2).setCell ⟨g,n * 4 + 3,none⟩ x3)).heap[g]? = some (.cells (a6t cur (n * 4) x0 x1 x2 x3) 27 (0,0)) :=
 nJ _ _ (nJ _ _ (nJ _ _ (nJ _ _ hg)))
theorem a4x {w:World} {g b:Nat} (n:Nat) (x0 x1 x2 x3:Value) (h:b≠g) :
  (((((w.setCell ⟨g,n * 4,none⟩ x0).setCell ⟨g,n * 4 + 1,none⟩ x1).setCell ⟨g,n * 4 + 2,none⟩ x2).setCell ⟨g,n * 4 + 3,none⟩ x3)).heap[b]? = w.heap[b]? :=
 (kM _ _ h).trans ((kM _ _ h).trans ((kM _ _ h).trans (kM _ _ h)))
theorem aH0 {w:World} {g:Nat} (n:Nat) (x0 x1 x2 x3:Value) :
  (((((w.setCell ⟨g,n*4,none⟩ x0).setCell ⟨g,n*4+1,none⟩ x1).setCell ⟨g,n*4+2,none⟩ x2).setCell ⟨g,n*4+3,none⟩ x3)).heap.size=w.heap.size :=
 (nK _ _).trans ((nK _ _).trans ((nK _ _).trans (nK _ _)))
theorem aX5 {w2 : World} {Bo g n : Nat} {cur bo : Array Value} {E : TypeId} (lv' x0 x1 x2 x3 : Value) (hg : w2.heap[g]? = some (.cells cur 27 (0,0))) (hb : w2.heap[Bo]? = some (.cells bo E (0,0))) (hne : ¬ g = Bo) :
  Put w2 (((((w2.setCell ⟨g,n*4,none⟩ x0).setCell ⟨g,n*4+1,none⟩ x1).setCell ⟨g,n*4+2,none⟩ x2).setCell ⟨g,n*4+3,none⟩ x3).setCell ⟨Bo,3,none⟩ lv') Bo g n cur bo E lv' x0 x1 x2 x3 where
 os:=(nL _ _).trans ((nL _ _).trans ((nL _ _).trans ((nL _ _).trans (nL _ _))))
 out:=(lF _ _).trans ((lF _ _).trans ((lF _ _).trans ((lF _ _).trans (lF _ _))))
 size:=(nK _ _).trans (aH0 n x0 x1 x2 x3)
 same:=fun _ h1 h2=>(kM _ _ h1).trans (a4x n x0 x1 x2 x3 h2)
 bo:=nJ _ _ ((a4x n x0 x1 x2 x3 (fun e=>hne e.symm)).trans hb)
 row:=by rw [kM _ _ hne]; exact b1h n x0 x1 x2 x3 hg
theorem aX6 {w2 : World} {Bo g n : Nat} {cur bo : Array Value} {E : TypeId} (lv' x0 x1 x2 x3 : Value) (hg : w2.heap[g]? = some (.cells cur 27 (0,0))) (hb : w2.heap[Bo]? = some (.cells bo E (0,0))) (hne : ¬ g = Bo) :
  Put w2 (((((w2.setCell ⟨Bo,3,none⟩ lv').setCell ⟨g,n*4,none⟩ x0).setCell ⟨g,n*4+1,none⟩ x1).setCell ⟨g,n*4+2,none⟩ x2).setCell ⟨g,n*4+3,none⟩ x3) Bo g n cur bo E lv' x0 x1 x2 x3 where
 os:=(nL _ _).trans ((nL _ _).trans ((nL _ _).trans ((nL _ _).trans (nL _ _))))
 out:=(lF _ _).trans ((lF _ _).trans ((lF _ _).trans ((lF _ _).trans (lF _ _))))
 size:=(aH0 n x0 x1 x2 x3).trans (nK _ _)
 same:=fun _ h1 h2=>(a4x n x0 x1 x2 x3 h2).trans (kM _ _ h1)
 bo:=(a4x n x0 x1 x2 x3 (fun e=>hne e.symm)).trans (nJ _ _ hb)
 row:=by have h:=(kM (w:=w2) 3 lv' hne).trans hg; exact b1h n x0 x1 x2 x3 h
theorem aV0 {w0 U W X Y w2 Z:World} {B Bo Bp g N:Nat} {k:Int} {kv:Value} {E E2:TypeId} {cur:Array Value} {own:Option Nat} {acc:List V} {xs:List Value} {p':aE} {jk:Int} {jt:List UInt8} {jks jls:List V} {ja jb:Option Addr} {jm jc jl jd cp:Nat} {lv y0 y1 y2 y3:Value}
  (hB:B < w0.heap.size) (hB3:Bo < w0.heap.size+3) (hBo:w0.heap.size≤Bo∧Bo < W.heap.size) (hBp:w0.heap.size≤Bp∧Bp < W.heap.size) (hne:Bp≠Bo) (hfr:fN w0 W B) (hlv:lv.ownBlock=own) (hlo:∀ k,own=some k→w0.heap.size+3≤k) (hlw:∀ k,own=some k→k < W.heap.size) (hlB:∀ k,own=some k→k≠Bo∧k≠Bp)
  (hrep:Reps (rX tK w0.heap.size W.heap fun b=>decide (b < w0.heap.size+3) || lv.ownBlock == some b) W.heap (flat acc) xs) (hpl:bT (flat acc)=true) (hlen:xs.length=acc.length*4)
  (hWX:fN W X B) (hst:dQ X B p') (hN:W.heap.size≤N) (hxr:Reps (pK N X.heap) X.heap [.int .i64 jk,.str jt,.sl .ro jks,.sl .ro jls] (jx jk jt ja jm jc jb jl jd)) (hjp:bT [.int .i64 jk,.str jt,.sl .ro jks,.sl .ro jls]=true)
  (hYs : X.heap.size ≤ Y.heap.size) (hYo : Y.os = X.os) (hYu : Y.output = X.output) (hY : ∀ b,b < X.heap.size → Y.heap[b]? = X.heap[b]?) (hgr : Y.grownBy w2 own) (hat : own = some g ∨ g = Y.heap.size) (hgB : g ≠ Bo ∧ g ≠ Bp)
  (hg2 : w2.heap[g]? = some (.cells cur 27 (0,0))) (hcs : cur.size = cp * 4) (hcn : acc.length + 1 ≤ cp) (hct : cur.toList.take ((acc.length + 1) * 4) = xs ++ [y0,y1,y2,y3]) (hgb : w0.heap.size + 3 ≤ g) (hcm : cp ≤ maxLen)
  (pB : w2.heap[Bp]? = some (.cells #[.pointer (some ⟨B,0,none⟩)] E2 (0,0)))
  (hkp : ∀ b,b < w0.heap.size + 3 → b ≠ Bo → b ≠ B → W.heap[b]? = U.heap[b]?) (hlW : w0.heap.size + 3 ≤ W.heap.size) (hkv : kv = .slice none 0 0) (htb : qN w0 B) (hP : Put w2 Z Bo g acc.length cur #[.int .i64 k,.string ⟨⟨[]⟩⟩,kv,lv] E (.slice (some ⟨g,0,none⟩) (acc.length + 1) cp) (.int .i64 jk) (.string ⟨⟨jt⟩⟩) (.slice ja jm jc) (.slice jb jl jd)) :
  dQ Z B p'∧aAy w0 U B Bo Bp k Z (acc++[jn jk jt jks jls]):=by
 obtain ⟨hZo,hZu,hZs,hZ,hZb,hZg⟩:=hP
 have s1:=hfr.size
 have s2:=hWX.size
 have s3:=hgr.size
 have toW2 : ∀ b,b < X.heap.size → own ≠ some b → w2.heap[b]? = X.heap[b]?:=fun b hb hn=>(hgr.block b (by omega) (fun e=>hn e.symm)).trans (hY b hb)
 have gno:∀ b,b < X.heap.size→own≠some b→b≠g:=fun b hb hn e=>by
  rcases hat with h | h
  ·exact hn (by rw [h,e])
  ·omega
 have toZ : ∀ b,b < X.heap.size → own ≠ some b → b ≠ Bo → Z.heap[b]? = X.heap[b]?:=fun b hb hn hbo=>(hZ b hbo (gno b hb hn)).trans (toW2 b hb hn)
 have oldown:∀ b,b < w0.heap.size+3→own≠some b:=fun b hb e=>by have:=hlo b e; omega
 have fr:fN w0 Z B:=by
  refine ⟨?_,?_,?_,?_⟩
  ·rw [hZo,hgr.os,hYo,hWX.os,hfr.os]
  ·rw [hZu,hgr.output,hYu,hWX.output,hfr.output]
  ·omega
  ·intro b hb hn
   rw [toZ b (by omega) (oldown b (by omega)) (by omega),hWX.same b (by omega) hn,hfr.same b hb hn]
 refine ⟨⟨?_,htb.only fr⟩,fr,?_,?_,by omega,fun b h1 h2 h3=>((toZ b (by omega) (oldown b h1) h2).trans (hWX.same b (by omega) h3)).trans (hkp b h1 h2 h3),htb⟩
 ·obtain ⟨⟨E',h⟩,_⟩:=hst
  exact ⟨E',(toZ B (by omega) (oldown B (by omega)) (by omega)).trans h⟩
 ·refine ⟨kv,_,xs++jx jk jt ja jm jc jb jl jd,E,hkv,hZb,⟨?_,.inr ⟨g,cp,_,?_,hgb,hZg,?_,?_,?_,?_⟩⟩,?_⟩
  ·rw [List.length_append,List.length_append,hlen]; show acc.length*4+4=(acc.length+1)*4; omega
  ·rw [List.length_append]; rfl
  ·rw [List.length_append]; exact hcn
  ·exact hcm
  ·rw [aC2,hcs]
  ·rw [List.length_append]
   exact aC3 hct hlen (by rw [hcs]; omega)
  ·rw [aAz]
   refine Reps.append ?_ ?_
   ·refine qM (κ:=rX tK w0.heap.size W.heap fun b=>decide (b < w0.heap.size+3) || lv.ownBlock == some b) (fun b i y h1 h2=>?_) hrep fun v hv=>bS.1 hpl v hv
    have hb0:w0.heap.size≤b:=by
     rcases Nat.lt_or_ge b w0.heap.size with h | h
     ·rw [uK h] at h1; exact absurd h1 (Nat.not_lt_zero _)
     ·exact h
    have hG:(decide (b < w0.heap.size+3) || lv.ownBlock == some b)=false:=by
     cases hq:(decide (b < w0.heap.size+3) || lv.ownBlock == some b) with
     | false=>rfl
     | true=>rw [aAw hb0 hq] at h1; exact absurd h1 (Nat.not_lt_zero _)
    simp only [Bool.or_eq_false_iff,beq_eq_false_iff_ne,decide_eq_false_iff_not] at hG
    have hg1:=hG.1
    have hbW:=gW h2
    have hno:own≠some b:=by rw [← hlv]; exact hG.2
    have e1 : Z.heap[b]? = W.heap[b]?:=(toZ b (by omega) hno (by omega)).trans (hWX.same b hbW (by omega))
    have h3:aW Z.heap b i=some y:=by unfold aW at h2 ⊢; rw [e1]; exact h2
    refine ⟨mL hb0 ?_ h3,h3⟩
    have:=gno b (by omega) hno
    simp [Value.ownBlock]; omega
   ·refine qM (κ:=pK N X.heap) (fun b i y h1 h2=>?_) hxr fun v hv=>bS.1 hjp v hv
    have hb0:N≤b:=by
     rcases Nat.lt_or_ge b N with h | h
     ·rw [show (pK N X.heap).hw b=0 from uK h] at h1; exact absurd h1 (Nat.not_lt_zero _)
     ·exact h
    have hbX:=gW h2
    have hno:own≠some b:=fun e=>by have:=hlw b e; omega
    have e1 : Z.heap[b]? = X.heap[b]?:=toZ b hbX hno (by omega)
    have h3:aW Z.heap b i=some y:=by unfold aW at h2 ⊢; rw [e1]; exact h2
    refine ⟨mL (by omega) ?_ h3,h3⟩
    have:=gno b hbX hno
    simp [Value.ownBlock]; omega
 ·exact ⟨E2,(hZ Bp hne (fun e=>hgB.2 e.symm)).trans pB⟩
theorem aH1 {w0 U W X w2:World} {B Bo Bp g:Nat} {k:Int} {kv:Value} {E E2:TypeId} {cur:Array Value} {acc:List V} {xs:List Value} {p':aE} {jk:Int} {jt:List UInt8} {jks jls:List V} {ja jb:Option Addr} {jm jc jl jd cp oc:Nat} {oa:Option Addr} {y0 y1 y2 y3:Value}
  (hB:B < w0.heap.size) (hBo:w0.heap.size≤Bo∧Bo < w0.heap.size+3) (hBp:w0.heap.size≤Bp∧Bp < w0.heap.size+3) (hBoW:Bo < W.heap.size) (hBpW:Bp < W.heap.size) (hne:Bp≠Bo) (hfr:fN w0 W B)
  (hown:W.ownsRow (w0.heap.size+3) 27 4 (.slice oa acc.length oc) acc.length xs)
  (hrep:Reps (rX tK w0.heap.size W.heap fun b=>decide (b < w0.heap.size+3) || (Value.slice oa acc.length oc).ownBlock == some b) W.heap (flat acc) xs) (hpl:bT (flat acc)=true)
  (hWX:fN W X B) (hst:dQ X B p') (hjp:bT [.int .i64 jk,.str jt,.sl .ro jks,.sl .ro jls]=true)
  (hX:∃ N,W.heap.size≤N∧Reps (pK N X.heap) X.heap [.int .i64 jk,.str jt,.sl .ro jks,.sl .ro jls] (jx jk jt ja jm jc jb jl jd))
  (hY : ∃ Y : World,Y.grownBy w2 (Value.slice oa acc.length oc).ownBlock ∧ X.heap.size ≤ Y.heap.size ∧ Y.os = X.os ∧ Y.output = X.output ∧ (∀ b,b < X.heap.size → Y.heap[b]? = X.heap[b]?) ∧ ((Value.slice oa acc.length oc).ownBlock = some g ∨ g = Y.heap.size))
  (hg2 : w2.heap[g]? = some (.cells cur 27 (0,0))) (hcs : cur.size = cp * 4) (hcn : acc.length + 1 ≤ cp) (hct : cur.toList.take ((acc.length + 1) * 4) = xs ++ [y0,y1,y2,y3]) (hgb : w0.heap.size + 3 ≤ g) (hcm : cp ≤ maxLen)
  (pB : w2.heap[Bp]? = some (.cells #[.pointer (some ⟨B,0,none⟩)] E2 (0,0))) (hkp : ∀ b,b < w0.heap.size + 3 → b ≠ Bo → b ≠ B → W.heap[b]? = U.heap[b]?) (hlW : w0.heap.size + 3 ≤ W.heap.size) (hkv : kv = .slice none 0 0) (htb : qN w0 B) :
  ∀ Z,Put w2 Z Bo g acc.length cur #[.int .i64 k,.string ⟨⟨[]⟩⟩,kv,.slice oa acc.length oc] E (.slice (some ⟨g,0,none⟩) (acc.length+1) cp) (.int .i64 jk) (.string ⟨⟨jt⟩⟩) (.slice ja jm jc) (.slice jb jl jd)→dQ Z B p'∧aAy w0 U B Bo Bp k Z (acc++[jn jk jt jks jls]):=by
 intro Z hP
 have hlen:=hown.1
 have hlo:∀ k,(Value.slice oa acc.length oc).ownBlock=some k→w0.heap.size+3≤k∧k < W.heap.size:=fun k hk=>by
  obtain ⟨_,h2⟩:=hown
  rcases h2 with ⟨e,h0⟩ | ⟨g',cap',cur,e,h1,hg,_⟩
  ·simp only [Value.slice.injEq] at e; rw [e.1] at hk; cases hk
  ·simp only [Value.slice.injEq] at e
   rw [e.1] at hk
   have:k=g':=by simpa [Value.ownBlock] using hk.symm
   rw [this]; exact ⟨h1,(Array.getElem?_eq_some_iff.1 hg).1⟩
 obtain ⟨N,hN,hxr⟩:=hX
 obtain ⟨Y,y5,y1,y2,y3,y4,y6⟩:=hY
 exact aV0 hB hBo.2 ⟨hBo.1,hBoW⟩ ⟨hBp.1,hBpW⟩ hne hfr rfl (fun k h=>(hlo k h).1) (fun k h=>(hlo k h).2) (fun k h=>by have:=(hlo k h).1; omega) hrep hpl hlen hWX hst hN hxr hjp y1 y2 y3 y4 y5 y6 (by omega) hg2 hcs hcn hct hgb hcm pB hkp hlW hkv htb hP
end Go.Fbs

import Derived.Test.YtngdbicnabbplaaPV
set_option linter.unusedSimpArgs false
set_option linter.unusedVariables false
set_option linter.unusedSectionVars false
set_option maxRecDepth 100000
namespace Go.Fbs
open Go.Proofs Go.RowKit Go.Maps
attribute [local irreducible] bW cC opt kQ
variable {w w':World}
theorem nW.up {B C:Nat} {a:Option Addr} {sz:Nat} {rows:List (List Value)} (h:nW B w a sz rows) (hB:B≤C):nW C w a sz rows:=by
 obtain ⟨b,off,h1,h2⟩:=h
 exact ⟨b,off,fun hne=>⟨(h1 hne).1,zuz (h1 hne).2 hB⟩,h2⟩
theorem rN.up {B C:Nat} {a:Option Addr} {l:List TM} (h:rN B w a l) (hB:B≤C):rN C w a l:=⟨h.r.up hB,fun t ht=>⟨(h.all t ht).r.up hB,fun r hr=>⟨((h.all t ht).all r hr).s.up hB,((h.all t ht).all r hr).x.up hB⟩⟩⟩
theorem rN.to {B:Nat} {a:Option Addr} {l:List TM} (h:rN B w a l) (hb:fH B w w') (hB:B≤w.heap.size):rN w'.heap.size w' a l:=(h.fV hb).up (Nat.le_trans hB hb.size)
theorem rN.app {B:Nat} {a b c:Option Addr} {l m:List TM} (h1:rN B w a l) (h2:rN B w b m) (hr:nW B w c 2 ((l++m).map qW)):rN B w c (l++m):=⟨hr,fun t ht=>by
 rcases List.mem_append.1 ht with h | h
 ·exact h1.all t h
 ·exact h2.all t h⟩
theorem a8n {α : Type} {l : List α} {i : Nat} (h : i < l.length) (x : α) : (l.set i x)[i]? = some x:=by
 rw [List.getElem?_set,if_pos rfl,if_pos h]
theorem aRl {α:Type} (l:List α) (i:Nat) (x y:α):(l.set i x).set i y=l.set i y:=by rw [List.set_set]
theorem kW.c0 {n g c i : Nat} {κ : Ctx} {ρ : Nat → Nat × Nat} {L : List TM} {t : TM} (h : kW n κ w ρ (some ⟨g,0,none⟩) c L) (hi : L[i]? = some t) :
  w.cell? ⟨g,i * 2,none⟩ = some (.string ⟨⟨t.nm⟩⟩) ∧ w.cell? ⟨g,i * 2 + 1,none⟩ = some (.slice t.ra t.aS.length t.rc) ∧ ∀ o,w.frozen? ⟨g,o,none⟩ = false:=by
 have hl:=(zzy.1 hi).1
 refine ⟨?_,?_,World.ownsRow.frozenAt h.o⟩
 ·rw [World.ownsRow.cellAt h.o (i*2) (by omega)]
  have:=aN8 (f:=qW) (sz:=2) (fun _=>rfl) (o:=0) hi (by decide)
  rw [Nat.add_zero] at this
  exact this
 ·rw [World.ownsRow.cellAt h.o (i*2+1) (by omega)]
  exact aN8 (f:=qW) (sz:=2) (fun _=>rfl) (o:=1) hi (by decide)
theorem pQ.c1 {n c i k : Nat} {κ : Ctx} {ρ : Nat → Nat × Nat} {a : Option Addr} {rl : List RM} {r : RM} (h : pQ n κ w ρ i a c rl) (hk : rl[k]? = some r) : ∃ b,a = some ⟨b,0,none⟩ ∧ w.cell? ⟨b,k * 3 + 1,none⟩ = some (.slice r.sa r.aR.length r.sc):=by
 have hl:=(zzy.1 hk).1
 obtain ⟨b,cp,e,_,_,_⟩:=sR h.o (by omega)
 cases e
 refine ⟨b,rfl,?_⟩
 rw [World.ownsRow.cellAt h.o (k*3+1) (by omega)]
 exact aN8 (f:=yT) (sz:=3) (fun _=>rfl) (o:=1) hk (by decide)
theorem yX.c2 {n j : Nat} {κ : Ctx} {r : RM} {s : Sub} (h : yX n κ w r) (hj : r.aR[j]? = some s) : ∃ b,r.sa = some ⟨b,0,none⟩ ∧ w.cell? ⟨b,j * 3,none⟩ = some (.string ⟨⟨s.1⟩⟩) ∧ (∀ o,w.frozen? ⟨b,o,none⟩ = false) ∧ n ≤ b:=by
 have hl:=(zzy.1 hj).1
 have hs:=h.s
 obtain ⟨b,cp,e,hb,_,_⟩:=sR hs (by omega)
 simp only [Value.slice.injEq,true_and] at e
 rw [e.1] at hs
 refine ⟨b,e.1,?_,World.ownsRow.frozenAt hs,hb⟩
 rw [World.ownsRow.cellAt hs (j*3) (by omega)]
 have:=aN8 (f:=a0d) (sz:=3) (fun _=>rfl) (o:=0) hj (by decide)
 rw [Nat.add_zero] at this
 exact this
theorem aZo {n b o:Nat} {v:Value} (hb:n≤b):fH n w (w.setCell ⟨b,o,none⟩ v):=⟨rfl,rfl,by rw [lI]; exact zxy _,fun k hk=>eN _ _ (by omega)⟩
theorem set_self {α : Type} {l : List α} {i : Nat} {x : α} (h : l[i]? = some x) : l.set i x = l:=by
 refine List.ext_getElem? fun j=>?_
 rw [List.getElem?_set]
 split
 ·rename_i e
  subst e
  rw [h,if_pos (zzy.1 h).1]
 ·rfl
theorem kW.drew {n c:Nat} {κ:Ctx} {ρ:Nat→Nat×Nat} {a:Option Addr} {L:List TM} (h:kW n κ w ρ a c L):kW n κ w.drew ρ a c L:=h.aSc (ρ':=ρ) ⟨fun b _ _ hf=>⟨hf,rfl⟩,fun b i y h1 h2=>⟨h1,h2⟩⟩ fun _ _=>rfl
theorem aWo {C P:World→Prop} {G:Prop} (h1:(∀ wa,C wa→P wa)→G) (h2:∀ wa,C wa→P wa):G:=h1 h2
theorem b9x {n:Nat} (h:n≤3):0+n≤maxLen:=by unfold maxLen; omega
theorem b9y {n m:Nat} (h:n≤3) (k:m≤3):n+m≤maxLen:=by unfold maxLen; omega
theorem b9z {n:Nat} (h:n≤3):(0+n)*40≤140737488355328:=by omega
theorem b90 {n m:Nat} (h:n≤3) (k:m≤3):(n+m)*40≤140737488355328:=by omega
theorem b22 (w:World) (o:Obj):w.heap.size≤(w.alloc o).heap.size:=by simp
theorem aLl {o:Obj} {row:Option Nat} {w2:World} (hg:(w.alloc o).grownBy w2 row) (hr:∀ b,row=some b→w.heap.size≤b):fH w.heap.size w w2 :=
 ⟨hg.os,hg.output,by have:=hg.size; simp at this; omega,fun k hk=>(hg.block k (by simp; omega) fun e=>by have:=hr k e.symm; omega).trans (heap_alloc_old _ _ hk)⟩
theorem aHv {n:Nat} {row:Option Nat} {w2:World} (hg:w.grownBy w2 row) (hn:n≤w.heap.size) (hr:∀ b,row=some b→n≤b):fH n w w2 :=
 ⟨hg.os,hg.output,hg.size,fun k hk=>hg.block k (by omega) fun e=>by have:=hr k e.symm; omega⟩
theorem bBa (a:List UInt8):(ByteArray.mk ⟨a⟩)++(ByteArray.mk #[50])=ByteArray.mk ⟨a++[50]⟩:=by
 apply ByteArray.ext
 simp
set_option maxHeartbeats 6400000 in
theorem b91 {x y:Value} {l m:List Int} (hx:a0w w x l) (hy:a0w w y m):Calls Try.prog 3 #[x,y] w fun e w'=>e = .returned (.bool true)∧fH w.heap.size w w':=by
 obtain ⟨i0,hi,hz0,hz1,hz2⟩:=info_parts Try.b52
 obtain ⟨ts1,h1,M1⟩:=b6t l
 obtain ⟨ts2,h2,M2⟩:=b6t m
 have c6a:=aN9 hx
 have hl1:=aRb l
 have hl2:=aRb m
 go_enter Try.func3,Try.ntmps3
 go_wp2_with (first
  | (go_at_call 5; refine c5b.mono ?_; rintro e w4 ⟨κ4,ρ,b,cb,lb,rfl,hlb,s4,lay⟩)
  | (go_at_call 6; refine c6b.mono ?_; rintro e w3 ⟨rfl,b3⟩; have c5b:=aJv (by omega) h2 w3)
  | (go_at_call 5; refine c5a.mono ?_; rintro e w2 ⟨κ2,ρ2,a,ca,la,rfl,hla,s2,lay2⟩; have bel2:fH w.heap.size w w2:=b1.trans ((aRk s2).mono b1.size); have c6b:=aN9 (hy.fV bel2))
  | (go_at_call 6; refine c6a.mono ?_; rintro e w1 ⟨rfl,b1⟩; have c5a:=aJv (by omega) h1 w1))
 subst hla
 subst hlb
 obtain ⟨G1,G2,G3,l3,m3,hchk,hrank,hsh,hn2,hr4,hm4⟩:=b9w M1 M2
 have hA:=lay2.read
 have bel4:fH w2.heap.size w2 w4:=b3.trans ((aRk s4).mono b3.size)
 have hn23:=b3.size
 have hoa:=lay2.o
 obtain ⟨n3,hn3⟩:∃ n3,n3=w3.heap.size:=⟨_,rfl⟩
 rw [← hn3] at lay hn23
 have hs43:n3≤w4.heap.size:=by have:=s4.size; omega
 clear c5b c6b c5a c6a hn3 s4 s2 lay2 b3 M1 M2 h1 h2
 have m3a:0 < lb.length:=by omega
 have m3b:lb.length≤3:=by omega
 have l3a:0 < la.length:=by omega
 have l3b:la.length≤3:=by omega
 have l3c:((la.length:Int) == 3)=true:=by rw [l3]; rfl
 clear m3 l3
 obtain ⟨g,cb',e,hg1,hg2,_⟩:=sR lay.o (by omega)
 simp only [Value.slice.injEq,true_and] at e
 obtain ⟨rfl,rfl⟩:=e
 go_loopw [7] (fun i wr=>∃ q:Nat,q≤lb.length∧i = .int .i64 q∧fH n3 w4 wr∧kW n3 κ4 wr ρ (some ⟨g,0,none⟩) cb (upto rP q lb)) (fun i _=>lb.length - (iG i).toNat)
 case atStart=>exact ⟨0,Nat.zero_le _,rfl,fH.refl _ _,lay⟩
 case round =>
  obtain ⟨q,hq,rfl,hbw,hlay⟩:=hrel
  have hq0:(0:Int)≤(q:Int):=zrz _
  by_cases hql:q < lb.length
  ·have hq1:(q:Int) < (lb.length:Int):=by omega
   obtain ⟨⟨tn,trels,tra,trc⟩,ht⟩:=hU hql
   have htL:=aLi (f:=rP) ht
   have hLL:=a8m rP q lb
   obtain ⟨hm1,hm2,hm5⟩:=hm4 _ (zyx ht)
   obtain ⟨c0,c1,f0⟩:=hlay.c0 htL
   dsimp only at hm1 hm2 hm5 c0 c1
   have hcat:¬ 9223372036854775807 < List.length tn+1:=by omega
   have hset:=hlay.setName htL (tn++[50])
   have hbs:=hbw.trans (aZo (w:=wr) (n:=n3) (b:=g) (o:=q*2) (v:=.string ⟨⟨tn++[50]⟩⟩) hg1)
   rw [← bBa] at hset hbs
   clear hlay lay
   go_wp2
   obtain ⟨wo,hwo⟩:∃ wo,wo=wr:=⟨_,rfl⟩
   subst hwo
   go_loopw [8] (fun i wr=>∃ k:Nat,k≤trels.length∧i = .int .i64 k∧fH n3 w4 wr∧kW n3 κ4 wr ρ (some ⟨g,0,none⟩) cb ((upto rP q lb).set q ⟨tn++[50],upto z6 k trels,tra,trc⟩)) (fun i _=>trels.length - (iG i).toNat)
   case atStart=>exact ⟨0,Nat.zero_le _,rfl,hbs,hset⟩
   case round =>
    clear hset hbs c0 c1 f0
    obtain ⟨k,hk,rfl,hbk,hlk⟩:=hrel
    have hk0:(0:Int)≤(k:Int):=zrz _
    have hLi:=a8n (l:=upto rP q lb) (i:=q) (by omega) ⟨tn++[50],upto z6 k trels,tra,trc⟩
    obtain ⟨c0,c1,f0⟩:=hlk.c0 hLi
    dsimp only at c0 c1
    rw [a8m] at c1
    by_cases hkl:k < trels.length
    ·have hk1:(k:Int) < (trels.length:Int):=by omega
     obtain ⟨⟨rn,rsubs,rsteps,rsa,rsc,rxa,rxc⟩,hr⟩:=hU hkl
     have hrL:=aLi (f:=z6) hr
     obtain ⟨hs1,hs2⟩:=hm5 _ (zyx hr)
     dsimp only at hs1 hs2
     obtain ⟨rb,hrb,d1⟩:=(hlk.all q _ hLi).c1 hrL
     dsimp only at hrb d1
     subst hrb
     go_wp2
     obtain ⟨wp,hwp⟩:∃ wp,wp=wr:=⟨_,rfl⟩
     subst hwp
     go_loopw [9] (fun i wr=>∃ j:Nat,j≤rsubs.length∧i = .int .i64 j∧fH n3 w4 wr∧kW n3 κ4 wr ρ (some ⟨g,0,none⟩) cb ((upto rP q lb).set q ⟨tn++[50],(upto z6 k trels).set k ⟨rn,upto a3l j rsubs,rsteps,rsa,rsc,rxa,rxc⟩,some ⟨rb,0,none⟩,trc⟩)) (fun i _=>rsubs.length - (iG i).toNat)
     case atStart =>
      refine ⟨0,Nat.zero_le _,rfl,hbk,?_⟩
      have e:(upto z6 k trels).set k ⟨rn,upto a3l 0 rsubs,rsteps,rsa,rsc,rxa,rxc⟩=upto z6 k trels:=by
       rw [b6u]
       exact set_self hrL
      rw [e]
      exact hlk
     case round =>
      clear hlk hbk c0 c1 f0 d1 hLi
      obtain ⟨j,hj,rfl,hbj,hlj⟩:=hrel
      have hj0:(0:Int)≤(j:Int):=zrz _
      have hLi:=a8n (l:=upto rP q lb) (i:=q) (by omega) ⟨tn++[50],(upto z6 k trels).set k ⟨rn,upto a3l j rsubs,rsteps,rsa,rsc,rxa,rxc⟩,some ⟨rb,0,none⟩,trc⟩
      have hRk:=a8n (l:=upto z6 k trels) (i:=k) (by rw [a8m]; omega) ⟨rn,upto a3l j rsubs,rsteps,rsa,rsc,rxa,rxc⟩
      obtain ⟨c0,c1,f0⟩:=hlj.c0 hLi
      dsimp only at c0 c1
      rw [List.length_set,a8m] at c1
      obtain ⟨rb',hrb,d1⟩:=(hlj.all q _ hLi).c1 hRk
      dsimp only at hrb d1
      cases hrb
      rw [a8m] at d1
      by_cases hjl:j < rsubs.length
      ·have hj1:(j:Int) < (rsubs.length:Int):=by omega
       obtain ⟨⟨st,si,sr⟩,hs⟩:=hU hjl
       have hsL:=aLi (f:=a3l) hs
       obtain ⟨sb,hsb,e0,ef,hsn⟩:=yX.c2 ((hlj.all q _ hLi).all k _ hRk).1 hsL
       dsimp only at hsb e0
       subst hsb
       have hcs : ¬ 9223372036854775807 < List.length st + 1:=by have:=hs2 _ (zyx hs); dsimp only at this; omega
       have hk1:(k:Int) < (trels.length:Int):=by omega
       have hnew:=(kW.bF4 hlj hLi hRk rfl hsL (st++[50])).drew
       have hbs:=(hbj.trans (aZo (w:=wr) (n:=n3) (b:=sb) (o:=j*3) (v:=.string ⟨⟨st++[50]⟩⟩) hsn)).drew
       dsimp only at hnew
       rw [aRl,aRl,show (upto a3l j rsubs).set j (st++[50],si,sr)=upto a3l (j+1) rsubs from aLj (f:=a3l) hs] at hnew
       rw [← bBa] at hnew hbs
       go_wp2
       go_region
       go_wp2
       refine ⟨⟨j+1,by omega,by simp,hbs,hnew⟩,by simp [iG]; omega⟩
      ·have hj1:¬ (j:Int) < (rsubs.length:Int):=by omega
       obtain rfl:j=rsubs.length:=by omega
       go_wp2
       refine ⟨⟨k+1,by omega,by simp,hbj,?_⟩,by simp [iG]; omega⟩
       rw [aLh] at hlj
       have e:(upto z6 k trels).set k ⟨rn,rsubs.map a3l,rsteps,rsa,rsc,rxa,rxc⟩=upto z6 (k+1) trels:=aLj (f:=z6) hr
       rw [← e]
       exact hlj
    ·have hk1:¬ (k:Int) < (trels.length:Int):=by omega
     obtain rfl:k=trels.length:=by omega
     go_wp2
     refine ⟨⟨q+1,by omega,by simp,hbk,?_⟩,by simp [iG]; omega⟩
     rw [aLh] at hlk
     have e:(upto rP q lb).set q ⟨tn++[50],trels.map z6,tra,trc⟩=upto rP (q+1) lb:=aLj (f:=rP) ht
     rw [← e]
     exact hlk
  ·have hq1:¬ (q:Int) < (lb.length:Int):=by omega
   obtain rfl:q=lb.length:=by omega
   rw [aLh] at hlay
   have hLlen:(lb.map rP).length=lb.length:=zsy ..
   obtain ⟨ga,ca',e,_,_,_⟩:=sR hoa (by omega)
   simp only [Value.slice.injEq,true_and] at e
   obtain ⟨rfl,rfl⟩:=e
   have belr:fH w2.heap.size w2 wr:=bel4.trans (hbw.mono hn23)
   have hoar:=pE (w2:=wr) hoa fun b hb=>belr.block b (hoa.lt b hb).2
   have hoLr:=hlay.o
   rw [hLlen] at hoLr
   have hAr:=hA.to belr (zxy _)
   have hBr:=hlay.read
   have hbelw:fH w.heap.size w wr:=bel2.trans (belr.mono bel2.size)
   have one1:∀ u ∈ iR la,u.oneCell'=true:=by
    intro u hu
    obtain ⟨q,_,hq⟩:=List.mem_flatMap.1 hu
    exact aDx q u hq
   have one2:∀ u ∈ iR (lb.map rP),u.oneCell'=true:=by
    intro u hu
    obtain ⟨q,_,hq⟩:=List.mem_flatMap.1 hu
    exact aDx q u hq
   generalize lb.map rP=lc at *
   obtain ⟨wq,hwq⟩:∃ wq,wq=wr:=⟨_,rfl⟩
   subst hwq
   clear hlay hoa lay hA hq hq0 hbw belr bel4 hs43 hg1 hg2 hm4 bel2
   obtain ⟨ce,ze⟩:∃ ce,gM la=ce:=⟨_,rfl⟩
   obtain ⟨cf,zf⟩:∃ cf,gM lc=cf:=⟨_,rfl⟩
   obtain ⟨cg,zg⟩:∃ cg,gM (la++lc)=cg:=⟨_,rfl⟩
   rw [ze,zf,zg] at hchk
   rw [zg] at hrank
   by_cases ze0:ce=0
   ·by_cases zf0:cf=0
    ·have zg0:cg=0:=hchk.2 ⟨ze0,zf0⟩
     subst ze0
     subst zf0
     subst zg0
     have hrk0:=hrank rfl
     clear hchk hrank
     go_wp2_with (first
      | (go_at_call 7; refine K3.mono ?_; rintro e w9 ⟨rfl,b9⟩; rw [zg])
      | (go_at_call 7; refine K2.mono ?_; rintro e w8 ⟨rfl,b8⟩; rw [zf]; have C8:=(C6.to b7 (zxy _)).to b8 (zxy _); have K3:=pP (cp:=cp6) rfl (mX G3) C8; rw [zwy,hLlen] at K3)
      | (go_at_call 7; refine K1.mono ?_; rintro e w7 ⟨rfl,b7⟩; rw [ze]; have B7:=B6.to b7 (zxy _); have K2:=pP (cp:=cb) rfl (mX G2) B7; rw [hLlen] at K2)
      | (at_builtin; (refine wpList_append_lies _ rfl _ _ 23 rfl wq.heap.size 28 i0 _ 2 40 Try.underlying23 hi hz0 hz1 hz2 rfl (by decide) (.slice (some ⟨g5,0,none⟩) la.length cp5) la.length (iR la) (by first | rfl | (simp; done)) hown5 ⟨g,0,none⟩ lb.length cb (iR lc) (by rfl) (by rw [wK,hLlen]) (World.ownsRow.cells hoL5 rfl) one2 m3a (b9y l3b m3b) (b90 l3b m3b) hb5.size w5.heap.size rfl ?_; intro g6 cp6 w6 hown6 hgrow6 hat6 hlt6; have hb6:fH wq.heap.size wq w6:=hb5.trans (aHv hgrow6 hb5.size (fun b e=>(by cases e; exact (hown5.lt g5 rfl).1))); have A6:=hAr.to hb6 (zxy _); have B6:=hBr.to hb6 (zxy _); have C6:=rN.app A6 B6 (a7i (e:=28) (sz:=2) (rows:=(la++lc).map qW) (fun x hx=>by obtain ⟨t,_,rfl⟩:=List.mem_map.1 hx; rfl) (by rw [← a7j]; show World.ownsRow _ _ _ _ _ _ (iR (la++lc)); rw [a66]; exact hown6) (by rw [zsy,zwy,hLlen])); have K1:=pP (cp:=ca) rfl (mX G1) A6))
      | (at_builtin; (refine wpList_append_lies _ rfl _ _ 23 rfl wq.heap.size 28 i0 _ 2 40 Try.underlying23 hi hz0 hz1 hz2 rfl (by decide) (.slice (some ⟨wq.heap.size,0,none⟩) 0 0) 0 [] (by rfl) (World.ownsRow_lit wq #[] 0 (zxy _) (by decide) rfl) ⟨ga,0,none⟩ la.length ca (iR la) (by rfl) (wK la) (World.ownsRow.cells (hoar.alloc _) rfl) one1 l3a (b9x l3b) (b9z l3b) (b22 _ _) (wq.heap.size+1) (pF rfl _) ?_; intro g5 cp5 w5 hown5 hgrow5 hat5 hlt5; rw [Nat.zero_add,List.nil_append] at hown5; have hb5:fH wq.heap.size wq w5:=aLl hgrow5 (fun b e=>(by cases e; exact zxy _)); have hoL5:=pE (w2:=w5) hoLr fun b hb=>hb5.block b (hoLr.lt b hb).2))
      | go_in)
     clear K1 K2 K3 hown5 hown6 hgrow5 hgrow6 hat5 hat6 hoL5 hoLr hoar
     have A9:=((A6.to b7 (zxy _)).to b8 (zxy _)).to b9 (zxy _)
     have C9:=C8.to b9 (zxy _)
     go_loopw [14] (fun v wr=>∃ q:Nat,q≤la.length∧v = .int .i64 q∧fH w9.heap.size w9 wr) (fun v _=>la.length - (iG v).toNat)
     case atStart=>exact ⟨0,Nat.zero_le _,rfl,fH.refl _ _⟩
     case round =>
      obtain ⟨q,hq,rfl,hbl⟩:=hrel
      have hq0:(0:Int)≤(q:Int):=zrz _
      have AX:=A9.to hbl (zxy _)
      by_cases hql:q < la.length
      ·have hq1:(q:Int) < (la.length:Int):=by omega
       obtain ⟨⟨tn,trels,tra,trc⟩,ht⟩:=hU hql
       have htm:=zyx ht
       obtain ⟨hsh1,hsh2⟩:=hsh _ htm
       have hr4t:=hr4 _ htm
       have hrk:=hrk0 _ htm
       have hrows:=(AX.all _ htm).r
       have hrow9:=(A9.all _ htm).r
       dsimp only at hsh1 hsh2 hr4t hrk hrows hrow9
       go_wp2
       obtain ⟨wv,hwv⟩:∃ wv,wv=wr:=⟨_,rfl⟩
       subst hwv
       go_loopw [15] (fun v wr=>∃ k:Nat,k≤trels.length∧v = .int .i64 k∧fH w9.heap.size w9 wr) (fun v _=>trels.length - (iG v).toNat)
       case atStart=>exact ⟨0,Nat.zero_le _,rfl,hbl⟩
       case round =>
        clear hbl AX hrows
        obtain ⟨k,hk,rfl,hbl⟩:=hrel
        have hk0:(0:Int)≤(k:Int):=zrz _
        obtain ⟨b,off,hga,hb,c0,c1⟩:=(A9.fV hbl).r.b10 (nE ht)
        cases hga
        rw [Nat.zero_add] at c0 c1
        have hbr:ga < wr.heap.size:=zuz hb hbl.size
        by_cases hkl:k < trels.length
        ·have hk1:(k:Int) < (trels.length:Int):=by omega
         obtain ⟨r,hr⟩:=hU hkl
         obtain ⟨hr1,hr2⟩:=hrk r (zyx hr)
         have hrs:=hsh2 r (zyx hr)
         obtain ⟨b2,off2,rfl,hb2,d0,d1,d2⟩:=(hrow9.fV hbl).aDl (nE hr)
         have hb2r:b2 < wr.heap.size:=zuz hb2 hbl.size
         have R1:=aDr (w:=wr.drew) (cp:=ca) (t:=tn) (rel:=r.nm) rfl (mX G1) ((A9.fV (hbl.trans (fH.refl _ wr).drew)).up hbl.size) hsh1 hrs
         rw [hr2] at R1
         go_wp2
         apply aWo (C:=fun wa=>fH wr.heap.size wr wa)
         case h1 =>
          intro hfin
          go_region_law (first
           | (go_simp; go_at_call 8; refine R1.mono ?_; rintro e wa ⟨rfl,ba⟩))
          all_goals exact hfin _ ⟨ba.os,ba.output,ba.size,ba.block⟩
         case h2 =>
         intro wa ba0
         have hbla:=hbl.trans (ba0.mono hbl.size)
         have c0a:=ba0.cell (a:=⟨ga,q*2,none⟩) hbr c0
         have c1a:=ba0.cell (a:=⟨ga,q*2+1,none⟩) hbr c1
         have d0a:=ba0.cell (a:=⟨b2,off2+k*3,none⟩) hb2r d0
         have hbra:ga < wa.heap.size:=zuz hbr ba0.size
         have hb2a:b2 < wa.heap.size:=zuz hb2r ba0.size
         have R2:=aDr (w:=wa.drew) (cp:=cp6) (t:=tn) (rel:=r.nm) rfl (mX G3) ((C9.fV (hbla.trans (fH.refl _ wa).drew)).up hbla.size) hsh1 hrs
         rw [hr1,hr2,zwy,hLlen] at R2
         clear R1 c0 c1 d0 d1 d2 hr1 hr2
         go_wp2
         apply aWo (C:=fun wb=>fH wa.heap.size wa wb)
         case h1 =>
          intro hfin
          go_region_law (first
           | (go_simp; go_at_call 8; refine R2.mono ?_; rintro e wb ⟨rfl,bb⟩))
          all_goals exact hfin _ ⟨bb.os,bb.output,bb.size,bb.block⟩
         case h2 =>
         intro wb bb0
         have hblb:=hbla.trans (bb0.mono hbla.size)
         clear R2 c0a c1a d0a
         go_wp2
         go_simp
         exact ⟨⟨k+1,by omega,by simp⟩,by simp [iG]; omega⟩
        ·have hk1:¬ (k:Int) < (trels.length:Int):=by omega
         obtain rfl:k=trels.length:=by omega
         go_wp2
         exact ⟨⟨q+1,by omega,by simp,hbl⟩,by simp [iG]; omega⟩
      ·have hq1:¬ (q:Int) < (la.length:Int):=by omega
       obtain rfl:q=la.length:=by omega
       have N1:=aLk (rel:=[114]) (cp:=ca) AX (zxy _) (by omega) hn2
       go_wp2_with (first
        | (go_at_call 9; refine N1.mono ?_; rintro e w10 ⟨rfl,s10⟩)
        | (go_at_call 10; refine (aAr _).mono ?_; rintro e w12 ⟨rfl,b12⟩)
        | go_in)
       go_ret
       have hW:fH wq.heap.size wq wr:=hb6.trans (((b7.trans (b8.mono b7.size)).trans (b9.mono (Nat.le_trans b7.size b8.size)) |>.trans (hbl.mono (Nat.le_trans b7.size (Nat.le_trans b8.size b9.size)))).mono hb6.size)
       have hX:fH wr.heap.size wr w12:=((s10.trans (aK _ _)).fV (zxy _)).trans (b12.mono (s10.trans (aK _ _)).size)
       exact ⟨rfl,(hbelw.trans (hW.mono hbelw.size)).trans (hX.mono (Nat.le_trans hbelw.size hW.size))⟩
    ·have zg0:cg≠0:=fun e=>zf0 (hchk.1 e).2
     subst ze0
     have yf:(cf == 0)=false:=by simpa using zf0
     have yg:(cg == 0)=false:=by simpa using zg0
     clear hchk hrank
     go_wp2_with (first
      | (go_at_call 7; refine K3.mono ?_; rintro e w9 ⟨rfl,b9⟩; rw [zg])
      | (go_at_call 7; refine K2.mono ?_; rintro e w8 ⟨rfl,b8⟩; rw [zf]; have C8:=(C6.to b7 (zxy _)).to b8 (zxy _); have K3:=pP (cp:=cp6) rfl (mX G3) C8; rw [zwy,hLlen] at K3)
      | (go_at_call 7; refine K1.mono ?_; rintro e w7 ⟨rfl,b7⟩; rw [ze]; have B7:=B6.to b7 (zxy _); have K2:=pP (cp:=cb) rfl (mX G2) B7; rw [hLlen] at K2)
      | (at_builtin; (refine wpList_append_lies _ rfl _ _ 23 rfl wq.heap.size 28 i0 _ 2 40 Try.underlying23 hi hz0 hz1 hz2 rfl (by decide) (.slice (some ⟨g5,0,none⟩) la.length cp5) la.length (iR la) (by first | rfl | (simp; done)) hown5 ⟨g,0,none⟩ lb.length cb (iR lc) (by rfl) (by rw [wK,hLlen]) (World.ownsRow.cells hoL5 rfl) one2 m3a (b9y l3b m3b) (b90 l3b m3b) hb5.size w5.heap.size rfl ?_; intro g6 cp6 w6 hown6 hgrow6 hat6 hlt6; have hb6:fH wq.heap.size wq w6:=hb5.trans (aHv hgrow6 hb5.size (fun b e=>(by cases e; exact (hown5.lt g5 rfl).1))); have A6:=hAr.to hb6 (zxy _); have B6:=hBr.to hb6 (zxy _); have C6:=rN.app A6 B6 (a7i (e:=28) (sz:=2) (rows:=(la++lc).map qW) (fun x hx=>by obtain ⟨t,_,rfl⟩:=List.mem_map.1 hx; rfl) (by rw [← a7j]; show World.ownsRow _ _ _ _ _ _ (iR (la++lc)); rw [a66]; exact hown6) (by rw [zsy,zwy,hLlen])); have K1:=pP (cp:=ca) rfl (mX G1) A6))
      | (at_builtin; (refine wpList_append_lies _ rfl _ _ 23 rfl wq.heap.size 28 i0 _ 2 40 Try.underlying23 hi hz0 hz1 hz2 rfl (by decide) (.slice (some ⟨wq.heap.size,0,none⟩) 0 0) 0 [] (by rfl) (World.ownsRow_lit wq #[] 0 (zxy _) (by decide) rfl) ⟨ga,0,none⟩ la.length ca (iR la) (by rfl) (wK la) (World.ownsRow.cells (hoar.alloc _) rfl) one1 l3a (b9x l3b) (b9z l3b) (b22 _ _) (wq.heap.size+1) (pF rfl _) ?_; intro g5 cp5 w5 hown5 hgrow5 hat5 hlt5; rw [Nat.zero_add,List.nil_append] at hown5; have hb5:fH wq.heap.size wq w5:=aLl hgrow5 (fun b e=>(by cases e; exact zxy _)); have hoL5:=pE (w2:=w5) hoLr fun b hb=>hb5.block b (hoLr.lt b hb).2))
      | go_in)
     clear K1 K2 K3 hown5 hown6 hgrow5 hgrow6 hat5 hat6 hoL5 hoLr hoar
     have A9:=((A6.to b7 (zxy _)).to b8 (zxy _)).to b9 (zxy _)
     go_loopw [14] (fun v wr=>v = .int .i64 0∧fH w9.heap.size w9 wr) (fun _ _=>0)
     case atStart=>exact ⟨rfl,fH.refl _ _⟩
     case round =>
      obtain ⟨rfl,hbl⟩:=hrel
      have AX:=A9.to hbl (zxy _)
      have N1:=aLk (rel:=[114]) (cp:=ca) AX (zxy _) (by omega) hn2
      go_wp2_with (first
       | (go_at_call 9; refine N1.mono ?_; rintro e w10 ⟨rfl,s10⟩)
       | (go_at_call 10; refine (aAr _).mono ?_; rintro e w12 ⟨rfl,b12⟩)
       | go_in)
      go_ret
      have hW:fH wq.heap.size wq wr:=hb6.trans (((b7.trans (b8.mono b7.size)).trans (b9.mono (Nat.le_trans b7.size b8.size)) |>.trans (hbl.mono (Nat.le_trans b7.size (Nat.le_trans b8.size b9.size)))).mono hb6.size)
      have hX:fH wr.heap.size wr w12:=((s10.trans (aK _ _)).fV (zxy _)).trans (b12.mono (s10.trans (aK _ _)).size)
      exact ⟨rfl,(hbelw.trans (hW.mono hbelw.size)).trans (hX.mono (Nat.le_trans hbelw.size hW.size))⟩
   ·have zg0:cg≠0:=fun e=>ze0 (hchk.1 e).1
    have ye:(ce == 0)=false:=by simpa using ze0
    have yg:(cg == 0)=false:=by simpa using zg0
    clear hchk hrank
    go_wp2_with (first
     | (go_at_call 7; refine K3.mono ?_; rintro e w9 ⟨rfl,b9⟩; rw [zg])
     | (go_at_call 7; refine K2.mono ?_; rintro e w8 ⟨rfl,b8⟩; rw [zf]; have C8:=(C6.to b7 (zxy _)).to b8 (zxy _); have K3:=pP (cp:=cp6) rfl (mX G3) C8; rw [zwy,hLlen] at K3)
     | (go_at_call 7; refine K1.mono ?_; rintro e w7 ⟨rfl,b7⟩; rw [ze]; have B7:=B6.to b7 (zxy _); have K2:=pP (cp:=cb) rfl (mX G2) B7; rw [hLlen] at K2)
     | (at_builtin; (refine wpList_append_lies _ rfl _ _ 23 rfl wq.heap.size 28 i0 _ 2 40 Try.underlying23 hi hz0 hz1 hz2 rfl (by decide) (.slice (some ⟨g5,0,none⟩) la.length cp5) la.length (iR la) (by first | rfl | (simp; done)) hown5 ⟨g,0,none⟩ lb.length cb (iR lc) (by rfl) (by rw [wK,hLlen]) (World.ownsRow.cells hoL5 rfl) one2 m3a (b9y l3b m3b) (b90 l3b m3b) hb5.size w5.heap.size rfl ?_; intro g6 cp6 w6 hown6 hgrow6 hat6 hlt6; have hb6:fH wq.heap.size wq w6:=hb5.trans (aHv hgrow6 hb5.size (fun b e=>(by cases e; exact (hown5.lt g5 rfl).1))); have A6:=hAr.to hb6 (zxy _); have B6:=hBr.to hb6 (zxy _); have C6:=rN.app A6 B6 (a7i (e:=28) (sz:=2) (rows:=(la++lc).map qW) (fun x hx=>by obtain ⟨t,_,rfl⟩:=List.mem_map.1 hx; rfl) (by rw [← a7j]; show World.ownsRow _ _ _ _ _ _ (iR (la++lc)); rw [a66]; exact hown6) (by rw [zsy,zwy,hLlen])); have K1:=pP (cp:=ca) rfl (mX G1) A6))
     | (at_builtin; (refine wpList_append_lies _ rfl _ _ 23 rfl wq.heap.size 28 i0 _ 2 40 Try.underlying23 hi hz0 hz1 hz2 rfl (by decide) (.slice (some ⟨wq.heap.size,0,none⟩) 0 0) 0 [] (by rfl) (World.ownsRow_lit wq #[] 0 (zxy _) (by decide) rfl) ⟨ga,0,none⟩ la.length ca (iR la) (by rfl) (wK la) (World.ownsRow.cells (hoar.alloc _) rfl) one1 l3a (b9x l3b) (b9z l3b) (b22 _ _) (wq.heap.size+1) (pF rfl _) ?_; intro g5 cp5 w5 hown5 hgrow5 hat5 hlt5; rw [Nat.zero_add,List.nil_append] at hown5; have hb5:fH wq.heap.size wq w5:=aLl hgrow5 (fun b e=>(by cases e; exact zxy _)); have hoL5:=pE (w2:=w5) hoLr fun b hb=>hb5.block b (hoLr.lt b hb).2))
     | go_in)
    clear K1 K2 K3 hown5 hown6 hgrow5 hgrow6 hat5 hat6 hoL5 hoLr hoar
    have A9:=((A6.to b7 (zxy _)).to b8 (zxy _)).to b9 (zxy _)
    go_loopw [14] (fun v wr=>v = .int .i64 0∧fH w9.heap.size w9 wr) (fun _ _=>0)
    case atStart=>exact ⟨rfl,fH.refl _ _⟩
    case round =>
     obtain ⟨rfl,hbl⟩:=hrel
     have AX:=A9.to hbl (zxy _)
     have N1:=aLk (rel:=[114]) (cp:=ca) AX (zxy _) (by omega) hn2
     go_wp2_with (first
      | (go_at_call 9; refine N1.mono ?_; rintro e w10 ⟨rfl,s10⟩)
      | (go_at_call 10; refine (aAr _).mono ?_; rintro e w12 ⟨rfl,b12⟩)
      | go_in)
     go_ret
     have hW:fH wq.heap.size wq wr:=hb6.trans (((b7.trans (b8.mono b7.size)).trans (b9.mono (Nat.le_trans b7.size b8.size)) |>.trans (hbl.mono (Nat.le_trans b7.size (Nat.le_trans b8.size b9.size)))).mono hb6.size)
     have hX:fH wr.heap.size wr w12:=((s10.trans (aK _ _)).fV (zxy _)).trans (b12.mono (s10.trans (aK _ _)).size)
     exact ⟨rfl,(hbelw.trans (hW.mono hbelw.size)).trans (hX.mono (Nat.le_trans hbelw.size hW.size))⟩
end Go.Fbs

namespace Go.Fbs
open Go.Proofs
noncomputable def uR:Spec:=gV (fun q:List Int×List Int=>[gZ q.1,gZ q.2]) (fun _=>True) (fun _=>.bool true)
theorem b6w (l m:List Int):uR [gZ l,gZ m]=some (.bool true):=gD (a:=(l,m)) (fun a b h=>by
 simp only [List.cons.injEq,and_true] at h
 exact Prod.ext (a9o h.1) (a9o h.2)) trivial
theorem aAs:fS Try.prog 3 uR:=by
 refine ⟨⟨_,_,Try.func3,rfl,by kernel_rfl⟩,fun args v hv=>?_⟩
 obtain ⟨⟨l,m⟩,rfl,_,rfl⟩:=eO hv
 refine ⟨fun mm κ w xs k r=>?_,rfl⟩
 obtain ⟨x,ys,rfl,r1,r2⟩:=r.dP
 obtain ⟨y,ys2,rfl,r3,r4⟩:=r2.dP
 obtain rfl:=r4.sX
 refine (b91 (a0w.of r1) (a0w.of r3)).mono ?_
 rintro e w' ⟨rfl,hb⟩
 exact ⟨_,_,rfl,aGa k hb.size hb.block hb.os hb.output,.bool _⟩
end Go.Fbs

import Derived.Test.YthakklikgmcgdaaGreatDoorWOH
set_option linter.unusedSimpArgs false
set_option linter.unusedVariables false
set_option linter.unusedSectionVars false
set_option maxRecDepth 100000
namespace Go.Fbs
open Go.Proofs Go.RowKit Go.Maps
def gO (seen:List (List UInt8)) (p p1:aE) (key:List UInt8):aE:=if p1.e=0∧key ∈ seen then aU p1 p.a 11 else p1
def qS (aT:RM) (acc:qR) (p:aE):Option (qR×aE) :=
 match mW p with
 | none=>none
 | some (key,p1) =>
  if key.length≤1000000000∧acc.seen.length≤100000000∧acc.keys.length≤100000000∧acc.ls.length≤100000000 then
   if (aV (aF (gO acc.seen p p1 key)) 58).1=true then
    (aT (aF (aV (aF (gO acc.seen p p1 key)) 58).2)).map fun r=>(⟨acc.keys++[key],acc.ls++[r.1],key::acc.seen⟩,r.2)
   else some (⟨acc.keys,acc.ls,key::acc.seen⟩,(aV (aF (gO acc.seen p p1 key)) 58).2)
  else none
theorem aTc {p:aE} {c:UInt8} (h:(aV p c).1=true):p.e=0:=by
 unfold aV at h
 split at h
 ·cases h
 ·rename_i hc
  exact Decidable.byContradiction fun e=>hc (.inl e)
theorem sH {p:aE} (h:aZ p):eZ p (aF p):=⟨iY h,rfl,rfl,(vO kJ h.2.1 h.2.2).1⟩
theorem aC8 {seen:List (List UInt8)} {p p1:aE} {key:List UInt8} (h:aZ p1):eZ p1 (gO seen p p1 key):=by
 unfold gO; split
 ·exact pA h _ _
 ·exact mV h
def aB0 (acc:qR):Prop:=∀ e ∈ acc.ls,Good e
theorem aFk {aT:RM} (hv:p9 aT) {acc acc':qR} {p p':aE} (hd:aZ p) (hG:aB0 acc) (h:qS aT acc p=some (acc',p')):aZ p'∧p'.d=p.d∧p'.s=p.s∧aB0 acc':=by
 unfold qS at h
 split at h
 ·cases h
 ·rename_i key p1 htx
  have a1:=kO hd htx
  have a2:=a1.trans (aC8 (seen:=acc.seen) (p:=p) (key:=key) a1.aO)
  have a3:=a2.trans (sH a2.aO)
  have a4:=a3.trans (kN a3.aO 58 (by decide))
  have a5:=a4.trans (sH a4.aO)
  split at h
  ·split at h
   ·obtain ⟨r,h1,h2⟩:=Option.map_eq_some_iff.1 h
    cases h2
    obtain ⟨k1,k2,k3⟩:=hv.aO _ _ _ a5.aO h1
    refine ⟨k1,k2.trans a5.d,k3.trans a5.s,fun e he=>?_⟩
    rcases List.mem_append.1 he with h' | h'
    ·exact hG e h'
    ·rw [List.mem_singleton.1 h']; exact hv.shape _ _ _ a5.aO h1
   ·cases h
    exact ⟨a4.aO,a4.d,a4.s,hG⟩
  ·cases h
theorem a5w {ls:List V} (h:∀ e ∈ ls,Good e):bT (flat ls)=true:=by
 refine bS.2 fun v hv=>?_
 obtain ⟨e,he,hm⟩:=List.mem_flatMap.1 hv
 obtain ⟨k,t,ks,ls',rfl,hc⟩:=h e he
 have:bT [.int .i64 k,.str t,.sl .ro ks,.sl .ro ls']=true:=(iN hc).1
 exact bS.1 this v hm
theorem aLm {aT:RM} (hv:p9 aT) {w0 U:World} {B Bo Bp Bm M:Nat} (hB:B < w0.heap.size) (hBp:w0.heap.size≤Bp∧Bp < w0.heap.size+5) (hBo:w0.heap.size≤Bo∧Bo < w0.heap.size+5) (hM:w0.heap.size≤M∧M < w0.heap.size+5) (hBm:w0.heap.size≤Bm∧Bm < w0.heap.size+5) (n1:Bp≠Bo) (n2:Bp≠M) (n3:Bp≠Bm) (n4:Bo≠M) (n5:Bo≠Bm) (n6:M≠Bm) :
  ∀ W acc p acc' p',aZ p→qS aT acc p=some (acc',p')→dQ W B p→sG w0 U B Bo Bp Bm M W acc→aB0 acc →
   Calls Tryz.prog 54 #[.pointer (some ⟨Bp,0,none⟩),.pointer (some ⟨Bm,0,none⟩),.pointer (some ⟨Bo,0,none⟩)] W fun e W'=>e = .returned (.tuple #[])∧dQ W' B p'∧sG w0 U B Bo Bp Bm M W' acc':=by
 intro W acc p acc' p' hd h hw hi hG
 have hpl:=a5w hG
 unfold qS at h
 split at h
 ·cases h
 ·rename_i key p1 htx
  have a1:=kO hd htx
  split at h
  ·rename_i hb
   obtain ⟨b1,b2,b3,b4⟩:=hb
   have hkl:key.length≤maxLen:=by unfold maxLen; omega
   split at h
   ·rename_i hn
    obtain ⟨r,h1,h2⟩:=Option.map_eq_some_iff.1 h
    cases h2
    have he:(gO acc.seen p p1 key).e=0:=aTc (p:=aF (gO acc.seen p p1 key)) hn
    have hnt:¬ (p1.e=0∧key ∈ acc.seen):=fun hc=>by
     unfold gO at he
     rw [if_pos hc] at he
     unfold aU at he
     rw [if_pos hc.1] at he
     exact absurd (show (11:Int)=0 from he) (by decide)
    have ht:gO acc.seen p p1 key=p1:=if_neg hnt
    rw [ht] at hn h1 he
    have hks:key ∉ acc.seen:=fun hc=>hnt ⟨he,hc⟩
    have a5:=((sH a1.aO).trans (kN (sH a1.aO).aO 58 (by decide)))
    have a6:=a5.trans (sH a5.aO)
    obtain ⟨k,t,ks,ls,hv1,hc⟩:=hv.shape _ _ _ a6.aO h1
    have hval:=hv.call _ _ _ a6.aO h1
    rw [hv1] at hval ⊢
    exact aWi hB hBp hBo hM hBm n1 n2 n3 n4 n5 n6 hd htx b2 hkl hw hi he hks hpl hn b3 b4 hval (iN hc).1
   ·rename_i hn
    have hn':(aV (aF (gO acc.seen p p1 key)) 58).1=false:=by simpa using hn
    cases h
    by_cases he:p1.e=0
    ·by_cases hks:key ∈ acc.seen
     ·have ht:gO acc.seen p p1 key=aU p1 p.a 11:=if_pos ⟨he,hks⟩
      rw [ht] at hn' ⊢
      exact aTb hB hBp hBo hM hBm n1 n2 n3 n4 n5 n6 hd htx b2 hkl hw hi he hks hpl hn'
     ·have ht:gO acc.seen p p1 key=p1:=if_neg fun x=>hks x.2
      rw [ht] at hn' ⊢
      exact aWg hB hBp hBo hM hBm n1 n2 n3 n4 n5 n6 hd htx b2 hkl hw hi he hks hpl hn'
    ·have ht:gO acc.seen p p1 key=p1:=if_neg fun x=>he x.1
     rw [ht] at hn' ⊢
     exact aTa hB hBp hBo hM hBm n1 n2 n3 n4 n5 n6 hd htx b2 hkl hw hi he hpl hn'
  ·cases h
end Go.Fbs

namespace Go.Fbs
open Go.Proofs Go.RowKit Go.Maps
theorem aLn {aT:RM} (hv:p9 aT) {acc acc':qR} {p p':aE} (hd:aZ p) (h:qS aT acc p=some (acc',p')):aZ p'∧p'.d=p.d∧p'.s=p.s:=by
 unfold qS at h
 split at h
 ·cases h
 ·rename_i key p1 htx
  have a1:=kO hd htx
  have a2:=a1.trans (aC8 (seen:=acc.seen) (p:=p) (key:=key) a1.aO)
  have a3:=a2.trans (sH a2.aO)
  have a4:=a3.trans (kN a3.aO 58 (by decide))
  have a5:=a4.trans (sH a4.aO)
  split at h
  ·split at h
   ·obtain ⟨r,h1,h2⟩:=Option.map_eq_some_iff.1 h
    cases h2
    obtain ⟨k1,k2,k3⟩:=hv.aO _ _ _ a5.aO h1
    exact ⟨k1,k2.trans a5.d,k3.trans a5.s⟩
   ·cases h
    exact ⟨a4.aO,a4.d,a4.s⟩
  ·cases h
theorem aQu {aT:RM} (hv:p9 aT) {w0 U:World} {B Bo Bp Bm M:Nat} (hB:B < w0.heap.size) (hBp:w0.heap.size≤Bp∧Bp < w0.heap.size+5) (hBo:w0.heap.size≤Bo∧Bo < w0.heap.size+5) (hM:w0.heap.size≤M∧M < w0.heap.size+5) (hBm:w0.heap.size≤Bm∧Bm < w0.heap.size+5) (n1:Bp≠Bo) (n2:Bp≠M) (n3:Bp≠Bm) (n4:Bo≠M) (n5:Bo≠Bm) (n6:M≠Bm) :
  aFb (qS aT) 54 #[.pointer (some ⟨Bp,0,none⟩),.pointer (some ⟨Bm,0,none⟩),.pointer (some ⟨Bo,0,none⟩)] B fun W acc=>sG w0 U B Bo Bp Bm M W acc∧aB0 acc where
 aO:=fun acc p acc' p' hd h=>(aLn hv hd h).1
 cA:=fun acc p acc' p' hd h=>(aLn hv hd h).2
 inv:=fun W W' acc o h=>⟨a1j hB hBp.1 hBo.1 hM hBm.1 n2 n4 n6 (a5w h.2) h.1 (fU.of M o) (j7 h.1.mp (o.same M h.1.mp.lt (by omega))),h.2⟩
 call:=fun W acc p acc' p' hd h hw hi=>by
  refine (aLm hv hB hBp hBo hM hBm n1 n2 n3 n4 n5 n6 W acc p acc' p' hd h hw hi.1 hi.2).mono ?_
  rintro e X ⟨h1,h2,h3⟩
  exact ⟨h1,h2,h3,(aFk hv hd hi.2 h).2.2.2⟩
end Go.Fbs

namespace Go.Fbs
open Go.Proofs Go.RowKit Go.Maps
theorem b32:∀ args w,(callFunc 54 args).run Tryz.prog w = .ok (.enter 54 args) w:=enters_of Tryz.func54 (by kernel_rfl) rfl
theorem aQv {w:World} {B:Nat} (htb:qN w B) (hB:B < w.heap.size) {o1 o2 o3 o4 o5:Obj} {E1 E3 E5:TypeId} (h1:o1 = .cells #[.pointer (some ⟨B,0,none⟩)] E1 (0,0)) (h3:o3 = .cells #[.int .i64 7,.string ⟨⟨[]⟩⟩,.slice none 0 0,.slice none 0 0] E3 (0,0)) (h4:o4 = .map #[] 0) (h5:o5 = .cells #[.map (some (w.heap.size+1+1+1))] E5 (0,0)) :
  sG w (((((w.alloc o1).alloc o2).alloc o3).alloc o4).alloc o5) B (w.heap.size+1+1) w.heap.size (w.heap.size+1+1+1+1) (w.heap.size+1+1+1) (((((w.alloc o1).alloc o2).alloc o3).alloc o4).alloc o5) ⟨[],[],[]⟩:=by
 have z1:(w.alloc o1).heap.size=w.heap.size+1:=by simp
 have z2:((w.alloc o1).alloc o2).heap.size=w.heap.size+1+1:=by simp
 have z3:(((w.alloc o1).alloc o2).alloc o3).heap.size=w.heap.size+1+1+1:=by simp
 have z4:((((w.alloc o1).alloc o2).alloc o3).alloc o4).heap.size=w.heap.size+1+1+1+1:=by simp
 have z5:(((((w.alloc o1).alloc o2).alloc o3).alloc o4).alloc o5).heap.size=w.heap.size+1+1+1+1+1:=by simp
 refine ⟨⟨rfl,rfl,by omega,fun b hb _=>?_⟩,⟨.slice none 0 0,.slice none 0 0,[],E3,?_,⟨rfl,.inl ⟨rfl,rfl⟩⟩,⟨rfl,.inl ⟨rfl,rfl⟩⟩,Reps.nil⟩,⟨E1,?_⟩,⟨E5,?_⟩,?_,by omega,fun _ _ _ _ _=>rfl,htb⟩
 ·rw [heap_alloc_old _ _ (by omega),heap_alloc_old _ _ (by omega),heap_alloc_old _ _ (by omega),heap_alloc_old _ _ (by omega),heap_alloc_old _ _ hb]
 ·rw [heap_alloc_old _ _ (by omega),heap_alloc_old _ _ (by omega),← z2,heap_alloc_new,h3]
 ·rw [heap_alloc_old _ _ (by omega),heap_alloc_old _ _ (by omega),heap_alloc_old _ _ (by omega),heap_alloc_old _ _ (by omega),heap_alloc_new,h1]
 ·rw [← z4,heap_alloc_new,h5]
 ·have:=World.ownsMap_made (H:=Unit) (((w.alloc o1).alloc o2).alloc o3) Tryz.prog 9 (plainElem Tryz.prog 3)
  rw [z3] at this
  rw [h4]
  exact this.alloc _
theorem aTd (ks:List (List UInt8)):flat (ks.map V.str)=ks.map V.str:=by
 unfold flat
 induction ks with
 | nil=>rfl
 | cons k ks ih=>rw [List.map_cons,List.flatMap_cons,ih]; rfl
theorem aWj {n b0 : Nat} {W X : World} {kv : Value} {ks : List (List UInt8)} (hb0 : n ≤ b0) (hown : W.ownsRow b0 9 1 kv ks.length (ks.map fun k=>.string ⟨⟨k⟩⟩)) (hs : ∀ b,b0 ≤ b → b < W.heap.size → X.heap[b]? = W.heap[b]?) : Rep (pK n X.heap) X.heap (.sl .ro (ks.map V.str)) kv:=by
 have hfl:=aTd ks
 rcases hown with ⟨hl,⟨rfl,h0⟩ | ⟨g,cap,cur,rfl,hg,hh,hn,_,hsz,htake⟩⟩
 ·obtain rfl:ks=[]:=List.length_eq_zero_iff.1 h0
  exact .slnil .ro (fun i h=>by cases h)
 ·have hX : X.heap[g]? = some (.cells cur 9 (0,0)):=(hs g hg (Array.getElem?_eq_some_iff.1 hh).1).trans hh
  have hxl : ∀ i x,(ks.map fun k=>Value.string ⟨⟨k⟩⟩)[i]? = some x → cur[i]? = some x:=fun i x hx=>by
   rw [← htake,List.getElem?_take] at hx
   split at hx
   ·rw [← Array.getElem?_toList]; exact hx
   ·cases hx
  have e:ks.length=(ks.map V.str).length:=by simp
  rw [e]
  refine .sl .ro (ks.map V.str) g 0 cap 1 (ks.map fun k=>Value.string ⟨⟨k⟩⟩) (fun i x hx=>?_) (fun e he=>?_) (by rw [hfl]; simp) (fun i c x h1 h2=>?_) (by rw [← e]; exact hn) trivial
  ·have hc:=hxl i x hx
   rw [Nat.zero_add]
   have h3:aW X.heap g i=some x:=by unfold aW; rw [hX]; exact hc
   refine ⟨mL (by omega) rfl h3,h3,?_⟩
   obtain ⟨k,_,rfl⟩:=List.mem_map.1 (List.mem_of_getElem? hx)
   rfl
  ·obtain ⟨k,_,rfl⟩:=List.mem_map.1 he
   rfl
  ·rw [hfl] at h1
   rw [List.getElem?_map] at h1 h2
   cases hk : ks[i]? with
   | none=>rw [hk] at h1; cases h1
   | some k =>
    rw [hk] at h1 h2
    cases h1; cases h2
    exact .str k
set_option maxHeartbeats 3200000 in
theorem aLo {aT:RM} (hv:p9 aT) {n:Nat} {p:aE} {r:qR×aE} (hr:jW (qS aT) 125 n ⟨[],[],[]⟩ p=some r) (hd:aZ p) (ha:p.a < p.s.length) (hp:0≤p.d∧p.d≤20):aFc 31 p r.2 (jn 7 [] (r.1.keys.map V.str) r.1.ls):=by
 intro w B hw
 have htb:=hw.2
 have hB:B < w.heap.size:=by obtain ⟨⟨E,h⟩,_⟩:=hw; exact (Array.getElem?_eq_some_iff.1 h).1
 have hst:∀ o1 o2 o3 o4 o5,dQ (((((w.alloc o1).alloc o2).alloc o3).alloc o4).alloc o5) B p:=fun o1 o2 o3 o4 o5=>by
  obtain ⟨⟨E,h⟩,_⟩:=hw
  exact ⟨⟨E,(heap_alloc_old _ _ (by simp; omega)).trans ((heap_alloc_old _ _ (by simp; omega)).trans ((heap_alloc_old _ _ (by simp; omega)).trans ((heap_alloc_old _ _ (by simp; omega)).trans ((heap_alloc_old _ _ hB).trans h))))⟩,htb.same (by simp; omega) fun b hb _=>(heap_alloc_old _ _ (by simp; omega)).trans ((heap_alloc_old _ _ (by simp; omega)).trans ((heap_alloc_old _ _ (by simp; omega)).trans ((heap_alloc_old _ _ (by simp; omega)).trans (heap_alloc_old _ _ hb))))⟩
 have hT : ∀ o1 o2 o3 o4 o5,(((((w.alloc o1).alloc o2).alloc o3).alloc o4).alloc o5).heap[w.heap.size + 1]? = some o2:=fun o1 o2 o3 o4 o5=>by
  have z1:(w.alloc o1).heap.size=w.heap.size+1:=by simp
  rw [heap_alloc_old _ _ (by first | (simp; done) | (simp; omega)),heap_alloc_old _ _ (by first | (simp; done) | (simp; omega)),heap_alloc_old _ _ (by simp),← z1,heap_alloc_new]
 have hmm:=@run_makeMap Tryz.prog
 go_enter Tryz.func31,Tryz.ntmps31
 go_wp2_with (go_at_call 53; refine (aC1 (aQu hv (w0:=w) (B:=B) (Bo:=w.heap.size + 1 + 1) (Bp:=w.heap.size) (Bm:=w.heap.size + 1 + 1 + 1 + 1) (M:=w.heap.size + 1 + 1 + 1) hB ⟨by omega,by omega⟩ ⟨by omega,by omega⟩ ⟨by omega,by omega⟩ ⟨by omega,by omega⟩ (by omega) (by omega) (by omega) (by omega) (by omega) (by omega)) b32 (by decide) hr hd ha hp _ (hst _ _ _ _ _) ⟨aQv htb hB rfl rfl rfl rfl,fun e h=>by cases h⟩).mono ?_; rintro _ W1 ⟨rfl,h1,⟨hi,hel⟩,hd1,he1,hs1⟩; obtain ⟨hfr,⟨kv,lv,xs,E3,hbo,hkv,hown,hrep⟩,_,_,_,hlen,hkp⟩:=hi; obtain ⟨ka,kc,rfl⟩:=a2r hkv; obtain ⟨oa,oc,rfl⟩:=a2r hown; have hT1:=(hkp (w.heap.size + 1) (by omega) (by omega) (by omega) (by omega)).trans (hT _ _ _ _ _); have c0 : W1.cell? ⟨w.heap.size + 1 + 1,0,none⟩ = some (.int .i64 7):=(by rw [Lib.cell_of_heap hbo]; rfl); have c1 : W1.cell? ⟨w.heap.size + 1 + 1,1,none⟩ = some (.string ⟨⟨[]⟩⟩):=(by rw [Lib.cell_of_heap hbo]; rfl); have c2 : W1.cell? ⟨w.heap.size + 1 + 1,2,none⟩ = some (.slice ka r.1.keys.length kc):=(by rw [Lib.cell_of_heap hbo]; rfl); have c3 : W1.cell? ⟨w.heap.size + 1 + 1,3,none⟩ = some (.slice oa r.1.ls.length oc):=(by rw [Lib.cell_of_heap hbo]; rfl); have f0:=fun o=>Lib.frozen_of_heap hbo o; have t0 : W1.cell? ⟨w.heap.size + 1,0,none⟩ = some (.int .i64 0):=(by rw [Lib.cell_of_heap hT1]; rfl); have t1 : W1.cell? ⟨w.heap.size + 1,1,none⟩ = some (.string ⟨⟨[]⟩⟩):=(by rw [Lib.cell_of_heap hT1]; rfl); have t2 : W1.cell? ⟨w.heap.size + 1,2,none⟩ = some (.slice none 0 0):=(by rw [Lib.cell_of_heap hT1]; rfl); have t3 : W1.cell? ⟨w.heap.size + 1,3,none⟩ = some (.slice none 0 0):=(by rw [Lib.cell_of_heap hT1]; rfl); have f1:=fun o=>Lib.frozen_of_heap hT1 o)
 obtain ⟨q1,q2,q3,q4,q5⟩:=aN9 (.int .i64 7) (.string ⟨⟨[]⟩⟩) (.slice ka r.1.keys.length kc) (.slice oa r.1.ls.length oc) hT1
 refine bodyPost_ret (results_cell_row (by rfl) _ _ (w.heap.size+1) 27 _ (0,0) _ (by rfl) q1 Tryz.underlying27 (by rfl) aSy) (by rfl) ⟨_,rfl,?_⟩
 have hpl:=a5w hel
 have hrep':Reps (rX tK w.heap.size W1.heap fun b=>decide (b < w.heap.size+5) || (Value.slice oa r.1.ls.length oc).ownBlock == some b) W1.heap (flat r.1.ls) xs:=by
  refine qM (fun b i y h1 h2=>?_) hrep fun v hv=>bS.1 hpl v hv
  obtain ⟨hb0,hG⟩:=aDz (b0:=0) h1
  simp only [Bool.or_eq_false_iff] at hG
  exact ⟨mL hb0 (by simp only [Bool.or_eq_false_iff]; exact ⟨hG.1,hG.2.2⟩) h2,h2⟩
 have hr1:=aWj (n:=w.heap.size) (by omega) hkv (X:=((((W1.setCell ⟨w.heap.size+1,0,none⟩ (.int .i64 7)).setCell ⟨w.heap.size+1,1,none⟩ (.string ⟨⟨[]⟩⟩)).setCell ⟨w.heap.size+1,2,none⟩ (.slice ka r.1.keys.length kc)).setCell ⟨w.heap.size+1,3,none⟩ (.slice oa r.1.ls.length oc))) fun b hb _=>q2 b (by omega)
 have hr2:=aN8 (n:=w.heap.size) (by omega) hown hrep' hpl (fun e h=>by obtain ⟨k,t,ks,ls,h,_⟩:=hel e h; exact ⟨k,t,ks,ls,h⟩) (X:=((((W1.setCell ⟨w.heap.size+1,0,none⟩ (.int .i64 7)).setCell ⟨w.heap.size+1,1,none⟩ (.string ⟨⟨[]⟩⟩)).setCell ⟨w.heap.size+1,2,none⟩ (.slice ka r.1.keys.length kc)).setCell ⟨w.heap.size+1,3,none⟩ (.slice oa r.1.ls.length oc))) fun b hb _=>q2 b (by omega)
 generalize ((((W1.setCell ⟨w.heap.size+1,0,none⟩ (.int .i64 7)).setCell ⟨w.heap.size+1,1,none⟩ (.string ⟨⟨[]⟩⟩)).setCell ⟨w.heap.size+1,2,none⟩ (.slice ka r.1.keys.length kc)).setCell ⟨w.heap.size+1,3,none⟩ (.slice oa r.1.ls.length oc))=Z at *
 refine ⟨?_,?_,?_,?_,?_,?_⟩
 ·have hq:Reps (pK w.heap.size Z.heap) Z.heap [.int .i64 7,.str [],.sl .ro (r.1.keys.map V.str),.sl .ro r.1.ls] [.int .i64 7,.string ⟨⟨[]⟩⟩,.slice ka r.1.keys.length kc,.slice oa r.1.ls.length oc]:=Reps.cons (.int _ _) (Reps.cons (.str _) (Reps.cons hr1 (Reps.cons hr2 Reps.nil)))
  exact .agg _ _ hq.1 (by intro x hx; simp at hx; rcases hx with rfl | rfl | rfl | rfl <;> rfl) hq.2
 ·obtain ⟨⟨E,h⟩,_⟩:=h1
  exact ⟨⟨E,(q2 B (by omega)).trans h⟩,htb.only ⟨q4.trans hfr.os,q5.trans hfr.output,by rw [q3]; exact hfr.size,fun b hb hn=>(q2 b (by omega)).trans (hfr.same b hb hn)⟩⟩
 ·rw [q4,hfr.os]
 ·rw [q5,hfr.output]
 ·rw [q3]; exact hfr.size
 ·intro b hb hn
  rw [q2 b (by omega),hfr.same b hb hn]
end Go.Fbs

namespace Go.Fbs
open Go.Proofs Go.RowKit Go.Maps
def bH (aT:RM) (p:aE):Option (V×aE) :=
 if hI p=123∧0≤p.d∧p.d≤20 then (jW (qS aT) 125 (p.s.length+2) ⟨[],[],[]⟩ p).map fun r=>(jn 7 [] (r.1.keys.map V.str) r.1.ls,r.2) else none
theorem aLp {aT:RM} {p q:aE} {v:V} (h:bH aT p=some (v,q)):hI p=123∧(0≤p.d∧p.d≤20)∧∃ acc,jW (qS aT) 125 (p.s.length+2) ⟨[],[],[]⟩ p=some (acc,q)∧v=jn 7 [] (acc.keys.map V.str) acc.ls:=by
 unfold bH at h
 split at h
 ·rename_i hc
  obtain ⟨⟨acc,q'⟩,h1,h2⟩:=Option.map_eq_some_iff.1 h
  cases h2
  exact ⟨hc.1,hc.2,acc,h1,rfl⟩
 ·cases h
theorem aFl {aT:RM} (hv:p9 aT) {n:Nat} {p:aE} {r:qR×aE} (hd:aZ p) (ha:p.a < p.s.length) (h:jW (qS aT) 125 n ⟨[],[],[]⟩ p=some r):aZ r.2∧r.2.d=p.d∧r.2.s=p.s∧aB0 r.1 :=
 aFh (by decide) aB0 (fun acc q acc' q' hq hG ho=>aFk hv hq hG ho) hd ha (fun e h=>by cases h) h
theorem uN:∀ ks:List (List UInt8),aJ (ks.map V.str)=true
 | []=>rfl
 | k::ks=>by simp [aJ,V.bR,uN ks]
theorem b22:aBy bH where
 reads:=fun aT hv p v q hd h=>by
  obtain ⟨h1,hdd,acc,h2,rfl⟩:=aLp h
  have ha:=a45 hd (by rw [h1]; decide)
  refine ⟨aLo hv h2 hd ha hdd,7,[],_,_,rfl,?_⟩
  have hg:=(aFl hv hd ha h2).2.2.2
  have hc:aJ acc.ls=true:=jF.2 fun e he=>iZ (hg e he)
  simp [jn,V.bR,aJ,hc,uN]
 keeps:=fun aT hv p v q hd h=>by
  obtain ⟨h1,hdd,acc,h2,rfl⟩:=aLp h
  have:=aFl hv hd (a45 hd (by rw [h1]; decide)) h2
  exact ⟨this.1,this.2.1,this.2.2.1⟩
theorem aA4 (n:Nat):cZ Tryz.prog iW (jL bH n):=aWf b22 n
end Go.Fbs

import Derived.Test.YtngdbicnabbplaaNB
import Derived.Test.YtngdbicnabbplaaPA
import Derived.Test.YtngdbicnabbplaaPB
set_option linter.unusedSimpArgs false
set_option linter.unusedVariables false
set_option linter.unusedSectionVars false
set_option maxRecDepth 100000
namespace Go.Fbs
open Go.Proofs Go.RowKit Go.Maps
structure uU (B:Nat) (w w':World):Prop where
 os:w'.os=w.os
 output:w'.output=w.output
 size:w.heap.size≤w'.heap.size
 block : ∀ k,k < B → w'.heap[k]? = w.heap[k]?
theorem uU.refl (B:Nat) (w:World):uU B w w:=⟨rfl,rfl,zxy _,fun _ _=>rfl⟩
theorem uU.trans {B:Nat} {a b c:World} (h:uU B a b) (k:uU B b c):uU B a c :=
 ⟨k.os.trans h.os,k.output.trans h.output,Nat.le_trans h.size k.size,fun i hi=>(k.block i hi).trans (h.block i hi)⟩
theorem dU.iZ {W W':World} (h:dU W W') {B:Nat} (hB:B≤W.heap.size):uU B W W':=⟨h.os,h.output,h.size,fun k hk=>h.same k (by omega)⟩
theorem aT6 {B:Nat} {X w':World} {row:Option Nat} (g:X.grownBy w' row) (hb:B≤X.heap.size) (hr:∀ k,row=some k→B≤k):uU B X w':=by
 refine ⟨g.os,g.output,g.size,fun k hk=>g.block k (by omega) fun e=>?_⟩
 have:=hr k e.symm
 omega
theorem uU.cell {B : Nat} {w w' : World} (h : uU B w w') {a : Addr} {v : Value} (ha : a.block < B) (hc : w.cell? a = some v) : w'.cell? a = some v:=by
 rw [World.cell?_of_block (h.block _ ha)]; exact hc
theorem uU.drew {B:Nat} {w w':World} (h:uU B w w'):uU B w w'.drew:=⟨h.os,h.output,h.size,h.block⟩
def tM (B:Nat) (w:World) (a:Option Addr) (sz:Nat) (rows:List (List Value)):Prop :=
 ∃ b off,(rows ≠ [] → a = some ⟨b,off,none⟩ ∧ b < B) ∧ ∀ i c,rows[i]? = some c → ∀ j x,c[j]? = some x → w.cell? ⟨b,off + i * sz + j,none⟩ = some x
theorem tM.iZ {B:Nat} {w w':World} {a:Option Addr} {sz:Nat} {rows:List (List Value)} (h:tM B w a sz rows) (hb:uU B w w'):tM B w' a sz rows:=by
 obtain ⟨b,off,h1,h3⟩:=h
 exact ⟨b,off,h1,fun i c hi j x hx=>hb.cell (h1 (fun e=>by rw [e] at hi; cases hi)).2 (h3 i c hi j x hx)⟩
theorem tM.a1r {B : Nat} {w : World} {a : Option Addr} {rows : List (List Value)} (h : tM B w a 3 rows) {i : Nat} {x y z : Value} (hi : rows[i]? = some [x,y,z]) :
  ∃ b off,a = some ⟨b,off,none⟩ ∧ b < B ∧ w.cell? ⟨b,off + i * 3,none⟩ = some x ∧ w.cell? ⟨b,off + i * 3 + 1,none⟩ = some y ∧ w.cell? ⟨b,off + i * 3 + 2,none⟩ = some z:=by
 obtain ⟨b,off,h1,h3⟩:=h
 obtain ⟨h1,h2⟩:=h1 (fun e=>by rw [e] at hi; cases hi)
 exact ⟨b,off,h1,h2,h3 i _ hi 0 _ rfl,h3 i _ hi 1 _ rfl,h3 i _ hi 2 _ rfl⟩
theorem tM.b5w {B : Nat} {w : World} {a : Option Addr} {rows : List (List Value)} (h : tM B w a 2 rows) {i : Nat} {x y : Value} (hi : rows[i]? = some [x,y]) :
  ∃ b off,a = some ⟨b,off,none⟩ ∧ b < B ∧ w.cell? ⟨b,off + i * 2,none⟩ = some x ∧ w.cell? ⟨b,off + i * 2 + 1,none⟩ = some y:=by
 obtain ⟨b,off,h1,h3⟩:=h
 obtain ⟨h1,h2⟩:=h1 (fun e=>by rw [e] at hi; cases hi)
 exact ⟨b,off,h1,h2,h3 i _ hi 0 _ rfl,h3 i _ hi 1 _ rfl⟩
theorem lF {α β : Type} {f : α → β} {l : List α} {i : Nat} {x : α} (h : l[i]? = some x) : (l.map f)[i]? = some (f x):=by rw [zvz,h]; rfl
abbrev B8:=List UInt8
def b5x (s:Sub):List Value:=[.string ⟨⟨s.1⟩⟩,.string ⟨⟨s.2.1⟩⟩,.string ⟨⟨s.2.2⟩⟩]
def aO3 (s:dQ):List Value:=[.int .i64 s.1,.string ⟨⟨s.2.1⟩⟩,.string ⟨⟨s.2.2⟩⟩]
structure RM where
 nm:B8
 aY:List Sub
 steps:List dQ
 sa:Option Addr
 sc:Nat
 xa:Option Addr
 xc:Nat
def RM.rx (r:RM):RX:=⟨r.nm,r.sa,r.aY.length,r.sc,r.xa,r.steps.length,r.xc⟩
def b5y (r:RM):List Value:=[.string ⟨⟨r.nm⟩⟩,.slice r.sa r.aY.length r.sc,.slice r.xa r.steps.length r.xc]
structure RM.ok (B:Nat) (w:World) (r:RM):Prop where
 s:tM B w r.sa 3 (r.aY.map b5x)
 x:tM B w r.xa 3 (r.steps.map aO3)
structure TM where
 nm:B8
 bP:List RM
 ra:Option Addr
 rc:Nat
def bCv (t:TM):List Value:=[.string ⟨⟨t.nm⟩⟩,.slice t.ra t.bP.length t.rc]
structure TM.ok (B:Nat) (w:World) (t:TM):Prop where
 r:tM B w t.ra 3 (t.bP.map b5y)
 all:∀ r ∈ t.bP,r.ok B w
structure aBr (B:Nat) (w:World) (a:Option Addr) (l:List TM):Prop where
 r:tM B w a 2 (l.map bCv)
 all:∀ t ∈ l,t.ok B w
theorem RM.ok.iZ {B:Nat} {w w':World} {r:RM} (h:r.ok B w) (hb:uU B w w'):r.ok B w':=⟨h.s.iZ hb,h.x.iZ hb⟩
theorem TM.ok.iZ {B:Nat} {w w':World} {t:TM} (h:t.ok B w) (hb:uU B w w'):t.ok B w':=⟨h.r.iZ hb,fun r hr=>(h.all r hr).iZ hb⟩
theorem aBr.iZ {B:Nat} {w w':World} {a:Option Addr} {l:List TM} (h:aBr B w a l) (hb:uU B w w'):aBr B w' a l:=⟨h.r.iZ hb,fun t ht=>(h.all t ht).iZ hb⟩
def qX (t:TM):List (B8×RM):=t.bP.map fun r=>(t.nm,r)
def dJ (l:List TM):List (B8×RM):=l.flatMap qX
noncomputable def a4e (l:List TM):Lit→Option Int:=l.foldl (fun m t=>mR m (.string t.nm) 1) (fun _=>none)
noncomputable def a29 (l:List (B8×RM)):Lit→Option RX:=l.foldl (fun m p=>mR m (gM p.1 p.2.nm) p.2.rx) (fun _=>none)
theorem b88 (l:List TM) (t:TM):a4e (l++[t])=mR (a4e l) (.string t.nm) 1:=by unfold a4e; rw [List.foldl_append]; rfl
theorem b89 (l:List (B8×RM)) (p:B8×RM):a29 (l++[p])=mR (a29 l) (gM p.1 p.2.nm) p.2.rx:=by unfold a29; rw [List.foldl_append]; rfl
theorem b9a {l:List TM} {a:B8} (h:∀ t ∈ l,t.nm≠a):a4e l (.string a)=none:=by
 have:∀ (l:List TM) (m:Lit→Option Int),(∀ t ∈ l,t.nm≠a)→(l.foldl (fun m t=>mR m (.string t.nm) 1) m) (.string a)=m (.string a):=by
  intro l
  induction l with
  | nil=>intros; rfl
  | cons t l ih =>
   intro m h
   rw [List.foldl_cons,ih _ fun t ht=>h t (.tail _ ht)]
   unfold mR
   rw [if_neg (by simpa using fun e=>h t (.head _) e.symm)]
 exact this l _ h
theorem b9b {l:List (B8×RM)} {a b:B8} (ha:a.length≤maxLen) (hb:b.length≤maxLen) (hl:∀ p ∈ l,p.1.length≤maxLen∧p.2.nm.length≤maxLen) (h:∀ p ∈ l,¬ (p.1=a∧p.2.nm=b)):a29 l (gM a b)=none:=by
 have:∀ (l:List (B8×RM)) (m:Lit→Option RX),(∀ p ∈ l,p.1.length≤maxLen∧p.2.nm.length≤maxLen)→(∀ p ∈ l,¬ (p.1=a∧p.2.nm=b))→(l.foldl (fun m p=>mR m (gM p.1 p.2.nm) p.2.rx) m) (gM a b)=m (gM a b):=by
  intro l
  induction l with
  | nil=>intros; rfl
  | cons t l ih =>
   intro m hl h
   rw [List.foldl_cons,ih _ (fun t ht=>hl t (.tail _ ht)) fun t ht=>h t (.tail _ ht)]
   unfold mR
   rw [if_neg (fun e=>h t (.head _) (by
    have:=aGi ha hb (hl t (.head _)).1 (hl t (.head _)).2 e
    exact ⟨this.1.symm,this.2.symm⟩))]
 exact this l _ hl h
structure a1s (l:List TM):Prop where
 short:∀ t ∈ l,t.nm.length≤1000∧∀ r ∈ t.bP,r.nm.length≤1000∧(r.aY.length≤1000∧r.steps.length≤1000)∧(∀ s ∈ r.aY,s.1.length≤1000∧s.2.2.length≤1000)∧∀ s ∈ r.steps,s.2.1.length≤1000∧s.2.2.length≤1000
 types:(l.map (·.nm)).Nodup
 bP:∀ t ∈ l,(t.bP.map (·.nm)).Nodup
 few:(dJ l).length+l.length≤100000
end Go.Fbs
namespace Go.Fbs
open Go.Proofs Go.RowKit Go.Maps
def jJ:Value→Int | .int _ q=>q | _=>0
theorem aAg (l:List TM) (t:TM):dJ (l++[t])=dJ l++qX t:=by simp [dJ]
theorem l4 {α : Type} {l : List α} {k : Nat} {x : α} (h : l[k]? = some x) : l.take (k + 1) = l.take k ++ [x]:=by
 rw [List.take_add_one,h]; rfl
theorem jZ {α : Type} {l : List α} {k : Nat} (h : k < l.length) : ∃ x,l[k]? = some x:=⟨l[k],zyz h⟩
theorem a5v {α β : Type} {f : α → β} {l : List α} (h : (l.map f).Nodup) {k : Nat} {x : α} (hx : l[k]? = some x) : ∀ u ∈ l.take k,f u ≠ f x:=by
 intro u hu e
 obtain ⟨i,hi⟩:=List.getElem?_of_mem hu
 rw [List.getElem?_take] at hi
 split at hi
 ·rename_i hik
  have h1 : (l.map f)[i]? = some (f u):=lF hi
  have h2 : (l.map f)[k]? = some (f x):=lF hx
  rw [e,← h2] at h1
  have hlt:i < (l.map f).length:=by
   rcases Nat.lt_or_ge i (l.map f).length with h | h
   ·exact h
   ·rw [List.getElem?_eq_none h] at h1; rw [← h1] at h2; cases h2
  have:=(List.getElem?_inj hlt h).1 h1
  omega
 ·cases hi
theorem aQ0 (l:List TM) (k:Nat):(dJ (l.take k)).length≤(dJ l).length:=by
 have:dJ l=dJ (l.take k)++dJ (l.drop k):=by
  unfold dJ
  rw [← List.flatMap_append,List.take_append_drop]
 rw [this,zwy]
 omega
theorem pL {l:List TM} {p:B8×RM} (h:p ∈ dJ l):∃ t ∈ l,p.1=t.nm∧p.2 ∈ t.bP:=by
 obtain ⟨t,ht,hp⟩:=List.mem_flatMap.1 h
 obtain ⟨r,hr,rfl⟩:=List.mem_map.1 hp
 exact ⟨t,ht,rfl,hr⟩
theorem a1s.names {l:List TM} (h:a1s l):∀ p ∈ dJ l,p.1.length≤maxLen∧p.2.nm.length≤maxLen:=fun p hp=>by
 obtain ⟨t,ht,e,hr⟩:=pL hp
 rw [e]
 have:=h.short t ht
 have h2:=this.2 _ hr
 unfold maxLen
 omega
theorem aK8 {l:List TM} {t:TM} (h:t ∈ l):t.bP.length≤(dJ l).length:=by
 obtain ⟨a,b,rfl⟩:=List.append_of_mem h
 simp [dJ,qX]
 omega
theorem b1i {l : List TM} {k : Nat} {t : TM} (h : l[k]? = some t) : (dJ (l.take k)).length + t.bP.length ≤ (dJ l).length:=by
 have h1:=aQ0 l (k+1)
 rw [l4 h,aAg,zwy] at h1
 have:(qX t).length=t.bP.length:=zsy ..
 omega
set_option maxHeartbeats 1600000 in
theorem aYo {l:List TM} {a:Option Addr} {cp n:Nat} {w:World} (hf:a1s l) (hl:aBr n w a l) (hs:jN w n 0 (fun _=>none) (fun _=>none) (fun _=>none)) :
  Calls Try.prog 31 #[a0f n,.slice a l.length cp] w fun e w'=>e = .returned (.int .i64 0)∧uU n w w'∧∃ k,k≤200000∧jN w' n k (a4e l) (a29 (dJ l)) (fun _=>none):=by
 unfold a0f
 have hn:=hs.lt
 go_enter Try.func31,Try.ntmps31
 go_wp2
 go_loopw [13] (fun i wr=>∃ k:Nat,k≤l.length∧i = .int .i64 k∧uU n w wr∧n+3 < wr.heap.size∧jN wr n ((dJ (l.take k)).length+k) (a4e (l.take k)) (a29 (dJ (l.take k))) (fun _=>none)) (fun i _=>l.length - (jJ i).toNat)
 case atStart=>exact ⟨0,Nat.zero_le _,rfl,uU.refl _ _,hn,hs⟩
 case round =>
  obtain ⟨k,hk,rfl,hbel,hnr,hsch⟩:=hrel
  have hk0:(0:Int)≤(k:Int):=zrz _
  by_cases hkn:k < l.length
  ·have hk1:(k:Int) < (l.length:Int):=by omega
   obtain ⟨t,ht⟩:=jZ hkn
   have htm:=zyx ht
   obtain ⟨nm,bP,ra,rc⟩:=t
   obtain ⟨b,off,rfl,hb,c0,c1⟩:=(hl.iZ hbel).r.b5w (lF ht)
   dsimp only at c0 c1
   have hbw:b < wr.heap.size:=by omega
   have h1000:=(hf.short _ htm).1
   dsimp only at h1000
   go_wp2
   obtain ⟨y,hy⟩:∃ y,y=wr.heap.size:=⟨_,rfl⟩
   obtain ⟨X,hX⟩:∃ X,X=wr.alloc (.cells #[.string ⟨⟨nm⟩⟩,.slice ra bP.length rc] 28):=⟨_,rfl⟩
   have hXB : X.heap[y]? = some (.cells #[.string ⟨⟨nm⟩⟩,.slice ra bP.length rc] 28 (0,0)):=by rw [hX,hy]; exact heap_alloc_new _ _
   have hsX:jN X n ((dJ (l.take k)).length+k) (a4e (l.take k)) (a29 (dJ (l.take k))) (fun _=>none):=by rw [hX]; exact hsch.lX (aR _ _)
   have hbX:uU n w X:=by rw [hX]; exact hbel.trans ((aR _ _).iZ (by omega))
   rw [← hX,← hy]
   have hyn:n+3 < y:=by omega
   clear hX hy c0 c1 hsch hbel
   have hyX:y < X.heap.size:=(zsz.1 hXB).1
   have x0 : X.cell? ⟨y,0,none⟩ = some (.string ⟨⟨nm⟩⟩):=Lib.cell_of_heap hXB ..
   have x1 : X.cell? ⟨y,1,none⟩ = some (.slice ra bP.length rc):=Lib.cell_of_heap hXB ..
   have hC0:=hsX.c0
   have hT:=(hsX.lX (fN _)).typ (a:=nm) (by unfold maxLen; omega)
   have hnone:a4e (l.take k) (.string nm)=none:=b9a fun u hu e=>a5v hf.types ht u hu e
   rw [hnone,show (none:Option Int).getD 0=0 from rfl] at hT
   have hps:=b1i ht
   have hfew1:=hf.few
   dsimp only at hps
   have hfew:(dJ (l.take k)).length+k < 150000:=by omega
   obtain ⟨w4,hP,hM4,hG4⟩:=(hsX.lX ((fN _).trans (fN _))).bN0 (by unfold maxLen; omega) (a:=nm) (by unfold maxLen; omega) 1
   go_region
   go_wp2
   go_region
   have hb4:uU n w w4:=hbX.drew.drew.trans (aT6 hG4 (by show n≤X.heap.size; omega) (fun _ e=>by cases e; omega))
   have h4B : w4.heap[y]? = some (.cells #[.string ⟨⟨nm⟩⟩,.slice ra bP.length rc] 28 (0,0)):=(hG4.block y hyX (fun e=>by cases e; omega)).trans hXB
   have hy4:y < w4.heap.size:=(zsz.1 h4B).1
   clear hP hT hG4 hC0 hsX hbX x0 x1 hXB hyX
   have x0 : w4.cell? ⟨y,0,none⟩ = some (.string ⟨⟨nm⟩⟩):=Lib.cell_of_heap h4B ..
   have x1 : w4.cell? ⟨y,1,none⟩ = some (.slice ra bP.length rc):=Lib.cell_of_heap h4B ..
   go_wp2
   go_loopw [34] (fun i wr=>∃ j : Nat,j ≤ bP.length ∧ i = .int .i64 j ∧ uU n w wr ∧ y < wr.heap.size ∧ wr.heap[y]? = some (.cells #[.string ⟨⟨nm⟩⟩,.slice ra bP.length rc] 28 (0,0)) ∧ jN wr n ((dJ (l.take k)).length + k + 1 + j) (mR (a4e (l.take k)) (.string nm) 1) (a29 (dJ (l.take k) ++ (bP.take j).map fun r=>(nm,r))) (fun _=>none)) (fun i _=>bP.length - (jJ i).toNat)
   case atStart=>exact ⟨0,Nat.zero_le _,rfl,hb4,hy4,h4B,by rw [List.take_zero,List.map_nil,List.append_nil]; exact hM4⟩
   case round =>
    clear hM4 h4B hy4 x0 x1 hb4
    obtain ⟨j,hj,rfl,hbel,hyr,hyB,hsch⟩:=hrel
    have hj0:(0:Int)≤(j:Int):=zrz _
    by_cases hjn:j < bP.length
    ·have hj1:(j:Int) < (bP.length:Int):=by omega
     obtain ⟨r,hr⟩:=jZ hjn
     obtain ⟨b2,off2,rfl,hb2,d0,d1,d2⟩:=((hl.iZ hbel).all _ htm).r.a1r (lF hr)
     obtain ⟨rn,rsubs,rsteps,sa,sc,xa,xc⟩:=r
     dsimp only at d0 d1 d2
     have hrm:=zyx hr
     have hb2w:b2 < wr.heap.size:=by omega
     have hrn:rn.length≤1000:=((hf.short _ htm).2 _ hrm).1
     have e0 : wr.cell? ⟨y,0,none⟩ = some (.string ⟨⟨nm⟩⟩):=Lib.cell_of_heap hyB ..
     have hnone2:a29 (dJ (l.take k)++(bP.take j).map fun r=>(nm,r)) (gM nm rn)=none:=b9b (by unfold maxLen; omega) (by unfold maxLen; omega) (fun p hp=>by
      rcases List.mem_append.1 hp with hp | hp
      ·obtain ⟨u,hu,e,hr'⟩:=pL hp
       exact hf.names p (List.mem_flatMap.2 ⟨u,List.mem_of_mem_take hu,List.mem_map.2 ⟨p.2,hr',by rw [← e]⟩⟩)
      ·obtain ⟨q,hq,rfl⟩:=List.mem_map.1 hp
       have:=((hf.short _ htm).2 _ (List.mem_of_mem_take hq)).1
       unfold maxLen
       dsimp only at this ⊢
       omega) (fun p hp e=>by
      rcases List.mem_append.1 hp with hp | hp
      ·obtain ⟨u,hu,e',hr'⟩:=pL hp
       exact a5v hf.types ht u hu (e'.symm.trans e.1)
      ·obtain ⟨q,hq,rfl⟩:=List.mem_map.1 hp
       exact a5v (hf.bP _ htm) hr q hq e.2)
     obtain ⟨z,hz⟩:∃ z,z=wr.heap.size:=⟨_,rfl⟩
     obtain ⟨Z,hZ⟩:∃ Z,Z=wr.alloc (.cells #[.string ⟨⟨rn⟩⟩,.slice sa rsubs.length sc,.slice xa rsteps.length xc] 32):=⟨_,rfl⟩
     have hsZ:=hsch.lX (aR wr (.cells #[.string ⟨⟨rn⟩⟩,.slice sa rsubs.length sc,.slice xa rsteps.length xc] 32))
     have hcall:=wM hsZ (a:=nm) (b:=rn) (by unfold maxLen; omega) (by unfold maxLen; omega)
     rw [hnone2,show aOx ((none:Option RX).getD rx0) = .agg #[.string ⟨⟨[]⟩⟩,.slice none 0 0,.slice none 0 0] from rfl,show (none:Option RX).isSome=false from rfl] at hcall
     unfold a0f at hcall
     have hZB : Z.heap[z]? = some (.cells #[.string ⟨⟨rn⟩⟩,.slice sa rsubs.length sc,.slice xa rsteps.length xc] 32 (0,0)):=by rw [hZ,hz]; exact heap_alloc_new _ _
     have hbZ:uU n w Z:=by rw [hZ]; exact hbel.trans ((aR _ _).iZ (by omega))
     have hZy : Z.heap[y]? = some (.cells #[.string ⟨⟨nm⟩⟩,.slice (some ⟨b2,off2,none⟩) bP.length rc] 28 (0,0)):=by rw [hZ]; exact (heap_alloc_old _ _ hyr).trans hyB
     go_wp2_with (go_at_call 18; refine hcall.mono ?_; rintro e w5 ⟨rfl,hs5⟩)
     rw [← hz]
     rw [← hZ] at hs5 hsZ
     have hzZ:z < Z.heap.size:=(zsz.1 hZB).1
     have hyz:y < z:=by omega
     obtain ⟨V,hV⟩:∃ V,V=w5.alloc (.cells #[.string ⟨⟨[]⟩⟩,.slice none 0 0,.slice none 0 0] 32):=⟨_,rfl⟩
     have hsV:dU Z V:=by rw [hV]; exact hs5.trans (aR _ _)
     rw [← hV]
     clear hV hZ hz d0 d1 d2 e0 hcall hyB hsch hbel
     have hVB : V.heap[z]? = some (.cells #[.string ⟨⟨rn⟩⟩,.slice sa rsubs.length sc,.slice xa rsteps.length xc] 32 (0,0)):=(hsV.same z hzZ).trans hZB
     have hVy : V.heap[y]? = some (.cells #[.string ⟨⟨nm⟩⟩,.slice (some ⟨b2,off2,none⟩) bP.length rc] 28 (0,0)):=(hsV.same y (by omega)).trans hZy
     have hzV:z < V.heap.size:=(zsz.1 hVB).1
     have hschV:=hsZ.lX hsV
     have e0 : V.cell? ⟨y,0,none⟩ = some (.string ⟨⟨nm⟩⟩):=Lib.cell_of_heap hVy ..
     have d0 : V.cell? ⟨z,0,none⟩ = some (.string ⟨⟨rn⟩⟩):=Lib.cell_of_heap hVB ..
     have d1 : V.cell? ⟨z,1,none⟩ = some (.slice sa rsubs.length sc):=Lib.cell_of_heap hVB ..
     have d2 : V.cell? ⟨z,2,none⟩ = some (.slice xa rsteps.length xc):=Lib.cell_of_heap hVB ..
     have hC1:=hschV.c1
     obtain ⟨w6,hP,hM6,hG6⟩:=(hschV.lX (fN _)).aKn (by unfold maxLen; omega) (a:=nm) (b:=rn) (by unfold maxLen; omega) (by unfold maxLen; omega) ⟨rn,sa,rsubs.length,sc,xa,rsteps.length,xc⟩
     dsimp only at hP
     go_region
     go_wp2
     have hb6:uU n w w6:=(hbZ.trans (hsV.iZ (by omega))).drew.trans (aT6 hG6 (by show n≤V.heap.size; omega) (fun _ e=>by cases e; omega))
     refine ⟨⟨j+1,by omega,by simp,hb6,by have:=hG6.size; show y < _; have e:V.drew.heap.size=V.heap.size:=rfl; omega,(hG6.block y (by show y < V.heap.size; omega) (fun e=>by cases e; omega)).trans hVy,?_⟩,by simp [jJ]; omega⟩
     have:=hM6.mono (zxy _)
     rw [l4 hr,List.map_append,← zty]
     rw [show (List.map (fun r=>(nm,r)) [(⟨rn,rsubs,rsteps,sa,sc,xa,xc⟩:RM)])=[(nm,⟨rn,rsubs,rsteps,sa,sc,xa,xc⟩)] from rfl,b89]
     exact hM6
    ·have hj1:¬ (j:Int) < (bP.length:Int):=by omega
     obtain rfl:j=bP.length:=by omega
     go_wp2
     refine ⟨⟨k+1,by omega,by simp,hbel,by omega,?_⟩,by simp [jJ]; omega⟩
     rw [l4 ht,b88,aAg]
     rw [List.take_length] at hsch
     refine hsch.mono ?_
     have e:∀ a,(qX ⟨nm,bP,a,rc⟩).length=bP.length:=fun a=>zsy ..
     rw [zwy,e]
     omega
  ·have hk1:¬ (k:Int) < (l.length:Int):=by omega
   obtain rfl:k=l.length:=by omega
   go_wp2
   go_ret
   rw [List.take_length] at hsch
   refine ⟨rfl,hbel,_,?_,hsch⟩
   have:=hf.few
   omega
end Go.Fbs
namespace Go.Fbs
open Go.Proofs Go.RowKit Go.Maps
def cG (l : List TM) (a b : B8) : Option RM:=((dJ l).find? fun p=>decide (p.1 = a) && decide (p.2.nm = b)).map (·.2)
def aG8 (l:List TM) (a:B8):Bool:=l.any fun t=>decide (t.nm=a)
theorem bGs {l:List TM} (h:a1s l) (a:B8):a4e l (.string a)=if aG8 l a then some 1 else none:=by
 have:∀ (l:List TM) (m:Lit→Option Int),(l.foldl (fun m t=>mR m (.string t.nm) 1) m) (.string a)=if aG8 l a then some 1 else m (.string a):=by
  intro l
  induction l with
  | nil=>intros; rfl
  | cons t l ih =>
   intro m
   rw [List.foldl_cons,ih]
   unfold mR aG8
   rw [List.any_cons]
   by_cases e:t.nm=a
   ·subst e; simp
   ·have e':a≠t.nm:=fun h=>e h.symm
    simp [e,e']
 exact this l _
theorem aYp:∀ {ps:List (B8×RM)} {a b:B8} (_:a.length≤maxLen) (_:b.length≤maxLen) (_:∀ p ∈ ps,p.1.length≤maxLen∧p.2.nm.length≤maxLen) (_:ps.Pairwise fun p q=>¬ (p.1=q.1∧p.2.nm=q.2.nm)) (m:Lit→Option RX),
  (ps.foldl (fun m p=>mR m (gM p.1 p.2.nm) p.2.rx) m) (gM a b) = match (ps.find? fun p=>decide (p.1 = a) && decide (p.2.nm = b)) with | some p=>some p.2.rx | none=>m (gM a b)
 | [],_,_,_,_,_,_,_=>rfl
 | p::ps,a,b,ha,hb,hl,hp,m=>by
  rw [List.foldl_cons,aYp ha hb (fun q hq=>hl q (.tail _ hq)) (List.pairwise_cons.1 hp).2]
  rw [List.find?_cons]
  by_cases e:p.1=a∧p.2.nm=b
  ·have e1:(decide (p.1=a) && decide (p.2.nm=b))=true:=by simp [e.1,e.2]
   have e2 : ps.find? (fun p=>decide (p.1 = a) && decide (p.2.nm = b)) = none:=by
    rw [List.find?_eq_none]
    intro q hq hh
    simp only [zxz,decide_eq_true_eq] at hh
    exact (List.pairwise_cons.1 hp).1 q hq ⟨e.1.trans hh.1.symm,e.2.trans hh.2.symm⟩
   rw [e1,e2]
   dsimp only
   unfold mR
   rw [e.1,e.2,if_pos rfl]
  ·have e1:(decide (p.1=a) && decide (p.2.nm=b))=false:=by
    cases hh:(decide (p.1=a) && decide (p.2.nm=b))
    ·rfl
    ·simp only [zxz,decide_eq_true_eq] at hh
     exact absurd hh e
   rw [e1]
   dsimp only
   cases ps.find? (fun p=>decide (p.1 = a) && decide (p.2.nm = b)) with
   | some q=>rfl
   | none =>
    dsimp only
    unfold mR
    rw [if_neg fun h=>e ?_]
    have:=aGi ha hb (hl p (.head _)).1 (hl p (.head _)).2 h
    exact ⟨this.1.symm,this.2.symm⟩
theorem aEf {l:List TM} (h1:(l.map (·.nm)).Nodup) (h2:∀ t ∈ l,(t.bP.map (·.nm)).Nodup):(dJ l).Pairwise fun p q=>¬ (p.1=q.1∧p.2.nm=q.2.nm):=by
 induction l with
 | nil=>exact .nil
 | cons t l ih =>
  rw [zsx,List.nodup_cons] at h1
  show (qX t++dJ l).Pairwise _
  rw [List.pairwise_append]
  refine ⟨?_,ih h1.2 fun u hu=>h2 u (.tail _ hu),fun p hp q hq e=>?_⟩
  ·have:=h2 t (.head _)
   unfold qX
   rw [List.pairwise_map]
   rw [List.Nodup,List.pairwise_map] at this
   exact this.imp fun hne e=>hne e.2
  ·obtain ⟨r,hr,rfl⟩:=List.mem_map.1 hp
   obtain ⟨u,hu,e',_⟩:=pL hq
   exact h1.1 (List.mem_map.2 ⟨u,hu,(e.1.trans e').symm⟩)
theorem aFh {l:List TM} (h:a1s l) {a b:B8} (ha:a.length≤maxLen) (hb:b.length≤maxLen):a29 (dJ l) (gM a b)=(cG l a b).map RM.rx:=by
 unfold a29 cG
 rw [aYp ha hb h.names (aEf h.types h.bP)]
 cases (dJ l).find? (fun p=>decide (p.1 = a) && decide (p.2.nm = b)) <;> rfl
theorem rX {l:List TM} {a b:B8} {r:RM} (h:cG l a b=some r):(a,r) ∈ dJ l∧r.nm=b:=by
 unfold cG at h
 rw [zyy] at h
 obtain ⟨p,hp,rfl⟩:=h
 have h1:=List.mem_of_find?_eq_some hp
 have h2:=List.find?_some hp
 simp only [zxz,decide_eq_true_eq] at h2
 exact ⟨by rw [← h2.1]; exact h1,h2.2⟩
structure tN (n:Nat) (l:List TM) (k:Nat) (mk:Lit→Option Nat) (w:World):Prop where
 rD:a1s l
 sch:jN w n k (a4e l) (a29 (dJ l)) mk
 all:∀ p ∈ dJ l,p.2.ok n w
variable {n k:Nat} {l:List TM} {mk:Lit→Option Nat} {w w':World}
theorem tN.lX (h:tN n l k mk w) (hs:dU w w'):tN n l k mk w':=⟨h.rD,h.sch.lX hs,fun p hp=>(h.all p hp).iZ (hs.iZ (by have:=h.sch.lt; omega))⟩
theorem tN.lt (h:tN n l k mk w):n+3 < w.heap.size:=h.sch.lt
theorem tN.short (h:tN n l k mk w) {a b:B8} {r:RM} (hr:cG l a b=some r):(r.aY.length≤1000∧r.steps.length≤1000)∧(∀ s ∈ r.aY,s.1.length≤1000∧s.2.2.length≤1000)∧∀ s ∈ r.steps,s.2.1.length≤1000∧s.2.2.length≤1000:=by
 obtain ⟨t,ht,_,hm⟩:=pL (rX hr).1
 exact ((h.rD.short t ht).2 r hm).2
theorem tN.ok (h:tN n l k mk w) {a b:B8} {r:RM} (hr:cG l a b=some r):r.ok n w:=h.all _ (rX hr).1
theorem tN.aQ1 (h:tN n l k mk w) {a b:B8} (ha:a.length≤1000) (hb:b.length≤1000) (hr:cG l a b=none) :
  Calls Try.prog 18 #[.pointer (some ⟨n+3,0,none⟩),.string ⟨⟨a⟩⟩,.string ⟨⟨b⟩⟩] w fun e w'=>e = .returned (.tuple #[.agg #[.string ⟨⟨[]⟩⟩,.slice none 0 0,.slice none 0 0],.bool false])∧dU w w':=by
 have:=wM h.sch (a:=a) (b:=b) (by unfold maxLen; omega) (by unfold maxLen; omega)
 rw [aFh h.rD (by unfold maxLen; omega) (by unfold maxLen; omega),hr] at this
 exact this
theorem tN.aQ2 (h:tN n l k mk w) {a b:B8} (ha:a.length≤1000) (hb:b.length≤1000) {r:RM} (hr:cG l a b=some r) :
  Calls Try.prog 18 #[.pointer (some ⟨n+3,0,none⟩),.string ⟨⟨a⟩⟩,.string ⟨⟨b⟩⟩] w fun e w'=>e = .returned (.tuple #[.agg #[.string ⟨⟨r.nm⟩⟩,.slice r.sa r.aY.length r.sc,.slice r.xa r.steps.length r.xc],.bool true])∧dU w w':=by
 have:=wM h.sch (a:=a) (b:=b) (by unfold maxLen; omega) (by unfold maxLen; omega)
 rw [aFh h.rD (by unfold maxLen; omega) (by unfold maxLen; omega),hr] at this
 exact this
theorem tN.wM (h:tN n l k mk w) {a b:B8} (ha:a.length≤1000) (hb:b.length≤1000) :
  ∃ r:RX,Calls Try.prog 18 #[.pointer (some ⟨n+3,0,none⟩),.string ⟨⟨a⟩⟩,.string ⟨⟨b⟩⟩] w fun e w'=>e = .returned (.tuple #[.agg #[.string ⟨⟨r.nm⟩⟩,.slice r.sa r.sn r.sc,.slice r.xa r.xn r.xc],.bool (cG l a b).isSome])∧dU w w':=by
 have:=Go.Fbs.wM h.sch (a:=a) (b:=b) (by unfold maxLen; omega) (by unfold maxLen; omega)
 rw [aFh h.rD (by unfold maxLen; omega) (by unfold maxLen; omega)] at this
 cases hr:cG l a b with
 | none=>rw [hr] at this; exact ⟨rx0,this⟩
 | some r=>rw [hr] at this; exact ⟨r.rx,this⟩
def nH (l:List TM) (b:B8) (s:Sub):Bool:=(cG l s.1 b).isNone || decide (s.2.2≠[])
def a5w (l:List TM) (typ:B8) (x:dQ):Int:=match cG l typ x.2.1 with
 | none=>12
 | some a=>if a.aY.length=0 then 13 else if a.aY.any (nH l x.2.2) then 13 else 0
theorem a3z {α : Type} {p : α → Bool} {l : List α} {k : Nat} {x : α} (h : l[k]? = some x) (hp : p x = true) : l.any p = true:=List.any_eq_true.2 ⟨x,zyx h,hp⟩
theorem a9d {α : Type} {p : α → Bool} {l : List α} {k : Nat} {x : α} (h : l[k]? = some x) (hk : (l.take k).any p = false) (hp : p x = false) : (l.take (k + 1)).any p = false:=by
 rw [l4 h,List.any_append,hk]
 simp [hp]
set_option maxHeartbeats 1600000 in
theorem b5z {typ:B8} {x:dQ} (h:tN n l k mk w) (ht:typ.length≤1000) (hx:x.2.1.length≤1000∧x.2.2.length≤1000) :
  Calls Try.prog 54 #[.pointer (some ⟨n+3,0,none⟩),.string ⟨⟨typ⟩⟩,.agg #[.int .i64 x.1,.string ⟨⟨x.2.1⟩⟩,.string ⟨⟨x.2.2⟩⟩]] w fun e w'=>e = .returned (.int .i64 (a5w l typ x))∧dU w w':=by
 obtain ⟨kd,A,B⟩:=x
 dsimp only at hx ⊢
 have hn:=h.lt
 have h1:=h.lX (aR w (.cells #[.int .i64 kd,.string ⟨⟨A⟩⟩,.string ⟨⟨B⟩⟩] 78))
 have hs1:=aR w (.cells #[.int .i64 kd,.string ⟨⟨A⟩⟩,.string ⟨⟨B⟩⟩] 78)
 unfold a5w
 dsimp only
 cases hr:cG l typ A with
 | none =>
  have hc:=h1.aQ1 ht hx.1 hr
  go_enter Try.func54,Try.ntmps54
  go_wp2_with (go_at_call 18; refine hc.mono ?_; rintro e w5 ⟨rfl,hs5⟩)
  go_ret
  exact ⟨rfl,(hs1.trans hs5).trans (aR _ _)⟩
 | some r =>
  have hc:=h1.aQ2 ht hx.1 hr
  have hsub:=(h.short hr).2.1
  have hsl:=(h.short hr).1.1
  have hrows:=(h.ok hr).s
  obtain ⟨rn,aY,rsteps,sa,sc,xa,xc⟩:=r
  dsimp only at hc hsub hsl hrows ⊢
  by_cases h0:aY.length=0
  ·have h0':((aY.length:Int) == 0)=true:=by simp [h0]
   rw [if_pos h0]
   go_enter Try.func54,Try.ntmps54
   go_wp2_with (go_at_call 18; refine hc.mono ?_; rintro e w5 ⟨rfl,hs5⟩)
   go_ret
   exact ⟨rfl,(hs1.trans hs5).trans (aR _ _)⟩
  ·have h0':((aY.length:Int) == 0)=false:=by simpa using h0
   rw [if_neg h0]
   obtain ⟨R,hR⟩:∃ R:Int,(if aY.any (nH l B)=true then (13:Int) else 0)=R:=⟨_,rfl⟩
   rw [hR]
   have hR1:aY.any (nH l B)=true→R=13:=fun e=>by rw [← hR,e]; rfl
   have hR0:aY.any (nH l B)=false→R=0:=fun e=>by rw [← hR,e]; rfl
   clear hR
   obtain ⟨y,hy⟩:∃ y,y=w.heap.size:=⟨_,rfl⟩
   obtain ⟨X,hX⟩:∃ X,X=w.alloc (.cells #[.int .i64 kd,.string ⟨⟨A⟩⟩,.string ⟨⟨B⟩⟩] 78):=⟨_,rfl⟩
   have hXB : X.heap[y]? = some (.cells #[.int .i64 kd,.string ⟨⟨A⟩⟩,.string ⟨⟨B⟩⟩] 78 (0,0)):=by rw [hX,hy]; exact heap_alloc_new _ _
   have hyX:y < X.heap.size:=(zsz.1 hXB).1
   go_enter Try.func54,Try.ntmps54
   go_wp2_with (go_at_call 18; refine hc.mono ?_; rintro e w5 ⟨rfl,hs5⟩)
   rw [← hX] at hs1 hs5 h1
   rw [← hy]
   obtain ⟨V,hV⟩:∃ V,V=w5.alloc (.cells #[.string ⟨⟨rn⟩⟩,.slice sa aY.length sc,.slice xa rsteps.length xc] 32):=⟨_,rfl⟩
   have hsV:dU X V:=by rw [hV]; exact hs5.trans (aR _ _)
   rw [← hV]
   clear hV hX hy hc
   go_loopw [30] (fun i wr=>∃ k:Nat,k≤aY.length∧i = .int .i64 k∧dU X wr∧(aY.take k).any (nH l B)=false) (fun i _=>aY.length - (jJ i).toNat)
   case atStart=>exact ⟨0,Nat.zero_le _,rfl,hsV,rfl⟩
   case round =>
    obtain ⟨j,hj,rfl,hsr,hany⟩:=hrel
    have hj0:(0:Int)≤(j:Int):=zrz _
    by_cases hjn:j < aY.length
    ·have hj1:(j:Int) < (aY.length:Int):=by omega
     obtain ⟨s,hs⟩:=jZ hjn
     have hsm:=hsub s (zyx hs)
     obtain ⟨b,off,rfl,hb,d0,d1,d2⟩:=(hrows.iZ ((hs1.trans hsr).iZ (by omega))).a1r (lF hs)
     have hbr:b < wr.heap.size:=by have:=(hs1.trans hsr).size; omega
     have e2 : wr.cell? ⟨y,2,none⟩ = some (.string ⟨⟨B⟩⟩):=hsr.cell (Lib.cell_of_heap hXB ..)
     have hyr:y < wr.heap.size:=by have:=hsr.size; omega
     obtain ⟨st,si,sr⟩:=s
     dsimp only at d0 d1 d2 hsm
     obtain ⟨q,hq⟩:=((h1.lX hsr).lX (aR wr (.cells #[.string ⟨⟨st⟩⟩,.string ⟨⟨si⟩⟩,.string ⟨⟨sr⟩⟩] 34))).wM (a:=st) (b:=B) hsm.1 hx.2
     have hsr2:=hsr.trans (aR wr (.cells #[.string ⟨⟨st⟩⟩,.string ⟨⟨si⟩⟩,.string ⟨⟨sr⟩⟩] 34))
     obtain ⟨z,hz⟩:∃ z,z=wr.heap.size:=⟨_,rfl⟩
     obtain ⟨Z,hZ⟩:∃ Z,Z=wr.alloc (.cells #[.string ⟨⟨st⟩⟩,.string ⟨⟨si⟩⟩,.string ⟨⟨sr⟩⟩] 34):=⟨_,rfl⟩
     have hZB : Z.heap[z]? = some (.cells #[.string ⟨⟨st⟩⟩,.string ⟨⟨si⟩⟩,.string ⟨⟨sr⟩⟩] 34 (0,0)):=by rw [hZ,hz]; exact heap_alloc_new _ _
     have hZ2 : Z.cell? ⟨z,2,none⟩ = some (.string ⟨⟨sr⟩⟩):=Lib.cell_of_heap hZB ..
     clear hZB
     cases ho:(cG l st B).isSome
     ·rw [ho] at hq
      have hbad:nH l B (st,si,sr)=true:=by
       unfold nH
       cases hh:cG l st B with
       | none=>rfl
       | some _=>rw [hh] at ho; cases ho
      obtain rfl:=hR1 (a3z hs hbad)
      go_wp2_with (go_at_call 18; refine hq.mono ?_; rintro e w6 ⟨rfl,hs6⟩)
      go_ret
      exact ⟨rfl,hs1.trans ((hsr2.trans hs6).trans (aR _ _))⟩
     ·rw [ho] at hq
      rw [← hZ] at hsr2
      by_cases he:sr=[]
      ·subst he
       have hbad:nH l B (st,si,[])=false:=by
        unfold nH
        cases hh:cG l st B with
        | none=>rw [hh] at ho; cases ho
        | some _=>rfl
       go_wp2_with (go_at_call 18; refine hq.mono ?_; rintro e w6 ⟨rfl,hs6⟩; rw [← hZ] at hs6; have hz6:=hs6.cell hZ2; rw [hz] at hz6; have hz7:=rL hz6; dsimp only at hz7)
       exact ⟨⟨j+1,by omega,by simp,(hsr2.trans hs6).trans (aR _ _),a9d hs hany hbad⟩,by simp [jJ]; omega⟩
      ·have hbad:nH l B (st,si,sr)=true:=by
        unfold nH
        simp [he]
       obtain rfl:=hR1 (a3z hs hbad)
       have hne:sr.isEmpty=false:=by simpa using he
       go_wp2_with (go_at_call 18; refine hq.mono ?_; rintro e w6 ⟨rfl,hs6⟩; rw [← hZ] at hs6; have hz6:=hs6.cell hZ2; rw [hz] at hz6; have hz7:=rL hz6; dsimp only at hz7)
       go_ret
       exact ⟨rfl,hs1.trans ((hsr2.trans hs6).trans (aR _ _))⟩
    ·have hj1:¬ (j:Int) < (aY.length:Int):=by omega
     have:aY.take j=aY:=List.take_of_length_le (by omega)
     rw [this] at hany
     obtain rfl:=hR0 hany
     go_wp2
     go_ret
     exact ⟨rfl,hs1.trans hsr⟩
end Go.Fbs
namespace Go.Fbs
open Go.Proofs Go.RowKit Go.Maps
variable {n k:Nat} {l:List TM} {mk:Lit→Option Nat} {w w':World}
def wS (l:List TM) (s:Sub):Bool:=!aG8 l s.1 || (decide (s.2.2≠[]) && (cG l s.1 s.2.2).isNone)
def lG (l:List TM) (typ:B8) (x:dQ):Int:=if x.1=2 then a5w l typ x else if (cG l typ x.2.1).isNone && decide (x.1=1) then 12 else 0
def qG (l:List TM) (typ:B8):List dQ→Int
 | []=>0
 | x::r=>if lG l typ x=0 then qG l typ r else lG l typ x
def p5 (l:List TM) (typ:B8) (r:RM):Int:=if r.aY.any (wS l) then 12 else qG l typ r.steps
theorem aNy {typ : B8} : ∀ {xs : List dQ} {j : Nat} {x : dQ},xs[j]? = some x → (∀ y ∈ xs.take j,lG l typ y = 0) → lG l typ x ≠ 0 → qG l typ xs = lG l typ x
 | y::xs,0,x,h,_,hx=>by
  simp only [zux,zzz] at h
  subst h
  unfold qG
  rw [if_neg hx]
 | y::xs,j+1,x,h,hy,hx=>by
  unfold qG
  rw [if_pos (hy y (by simp))]
  exact aNy (by simpa using h) (fun z hz=>hy z (by simp [hz])) hx
theorem aIp {typ:B8} : ∀ {xs:List dQ},(∀ y ∈ xs,lG l typ y=0)→qG l typ xs=0
 | [],_=>rfl
 | y::xs,hy=>by
  unfold qG
  rw [if_pos (hy y (.head _))]
  exact aIp fun z hz=>hy z (.tail _ hz)
set_option maxHeartbeats 3200000 in
theorem b50 {typ:B8} {r:RM} (h:tN n l k mk w) (ht:typ.length≤1000) (hok:r.ok n w) (hsl:r.aY.length≤1000∧r.steps.length≤1000)
  (hsub:∀ s ∈ r.aY,s.1.length≤1000∧s.2.2.length≤1000) (hstp:∀ s ∈ r.steps,s.2.1.length≤1000∧s.2.2.length≤1000) :
  Calls Try.prog 32 #[.pointer (some ⟨n+3,0,none⟩),.string ⟨⟨typ⟩⟩,.agg #[.string ⟨⟨r.nm⟩⟩,.slice r.sa r.aY.length r.sc,.slice r.xa r.steps.length r.xc]] w fun e w'=>e = .returned (.int .i64 (p5 l typ r))∧dU w w':=by
 have hn:=h.lt
 obtain ⟨hrows,hxrows⟩:=hok
 unfold p5
 obtain ⟨rn,aY,steps,sa,sc,xa,xc⟩:=r
 dsimp only at hsl hsub hstp hrows hxrows ⊢
 obtain ⟨R,hR⟩:∃ R:Int,(if aY.any (wS l)=true then (12:Int) else qG l typ steps)=R:=⟨_,rfl⟩
 rw [hR]
 have hR1:aY.any (wS l)=true→R=12:=fun e=>by rw [← hR,e]; rfl
 have hR0:aY.any (wS l)=false→R=qG l typ steps:=fun e=>by rw [← hR,e]; rfl
 clear hR
 obtain ⟨y,hy⟩:∃ y,y=w.heap.size:=⟨_,rfl⟩
 obtain ⟨X,hX⟩:∃ X,X=w.alloc (.cells #[.string ⟨⟨rn⟩⟩,.slice sa aY.length sc,.slice xa steps.length xc] 32):=⟨_,rfl⟩
 have hXB : X.heap[y]? = some (.cells #[.string ⟨⟨rn⟩⟩,.slice sa aY.length sc,.slice xa steps.length xc] 32 (0,0)):=by rw [hX,hy]; exact heap_alloc_new _ _
 have hyX:y < X.heap.size:=(zsz.1 hXB).1
 have hs1:dU w X:=by rw [hX]; exact aR _ _
 have h1:=h.lX hs1
 go_enter Try.func32,Try.ntmps32
 go_wp2
 rw [← hX,← hy]
 clear hX hy
 go_loopw [19] (fun i wr=>∃ k:Nat,k≤aY.length∧i = .int .i64 k∧dU X wr∧(aY.take k).any (wS l)=false) (fun i _=>aY.length - (jJ i).toNat)
 case atStart=>exact ⟨0,Nat.zero_le _,rfl,dU.refl _,rfl⟩
 case round =>
  obtain ⟨j,hj,rfl,hsr,hany⟩:=hrel
  have hj0:(0:Int)≤(j:Int):=zrz _
  by_cases hjn:j < aY.length
  ·have hj1:(j:Int) < (aY.length:Int):=by omega
   obtain ⟨s,hs⟩:=jZ hjn
   have hsm:=hsub s (zyx hs)
   obtain ⟨b,off,rfl,hb,d0,d1,d2⟩:=(hrows.iZ ((hs1.trans hsr).iZ (by omega))).a1r (lF hs)
   have hbr:b < wr.heap.size:=by have:=(hs1.trans hsr).size; omega
   obtain ⟨st,si,sr⟩:=s
   dsimp only at d0 d1 d2 hsm
   obtain ⟨q,hq⟩:=((h1.lX hsr).lX (aR wr (.cells #[.string ⟨⟨st⟩⟩,.string ⟨⟨si⟩⟩,.string ⟨⟨sr⟩⟩] 34))).wM (a:=st) (b:=sr) hsm.1 hsm.2
   have hsr2:=hsr.trans (aR wr (.cells #[.string ⟨⟨st⟩⟩,.string ⟨⟨si⟩⟩,.string ⟨⟨sr⟩⟩] 34))
   obtain ⟨z,hz⟩:∃ z,z=wr.heap.size:=⟨_,rfl⟩
   obtain ⟨Z,hZ⟩:∃ Z,Z=wr.alloc (.cells #[.string ⟨⟨st⟩⟩,.string ⟨⟨si⟩⟩,.string ⟨⟨sr⟩⟩] 34):=⟨_,rfl⟩
   have hZB : Z.heap[z]? = some (.cells #[.string ⟨⟨st⟩⟩,.string ⟨⟨si⟩⟩,.string ⟨⟨sr⟩⟩] 34 (0,0)):=by rw [hZ,hz]; exact heap_alloc_new _ _
   have hZ0 : Z.cell? ⟨z,0,none⟩ = some (.string ⟨⟨st⟩⟩):=Lib.cell_of_heap hZB ..
   have hZ2 : Z.cell? ⟨z,2,none⟩ = some (.string ⟨⟨sr⟩⟩):=Lib.cell_of_heap hZB ..
   clear hZB
   have hse:wS l (st,si,sr)=(!aG8 l st || (decide (sr≠[]) && (cG l st sr).isNone)):=rfl
   have hio:(cG l st sr).isNone = !(cG l st sr).isSome:=by cases cG l st sr <;> rfl
   rw [hio] at hse
   generalize (cG l st sr).isSome=ok at hq hse
   go_wp2_with (go_at_call 18; refine hq.mono ?_; rintro e w6 ⟨rfl,hs6⟩)
   rw [← hZ] at hs6 hsr2
   rw [← hz]
   obtain ⟨V,hV⟩:∃ V,V=w6.alloc (.cells #[.string ⟨⟨q.nm⟩⟩,.slice q.sa q.sn q.sc,.slice q.xa q.xn q.xc] 32):=⟨_,rfl⟩
   have hsV:dU Z V:=by rw [hV]; exact hs6.trans (aR _ _)
   rw [← hV]
   clear hV hZ hz hq d0 d1 d2
   have hXV:=hsr2.trans hsV
   have hT:=(((h1.lX hXV).sch).lX (fN V)).typ (a:=st) (by unfold maxLen; omega)
   rw [bGs h.rD] at hT
   have hC0:=((h1.lX hXV).sch).c0
   have f0:=hsV.cell hZ0
   have f2:=hsV.cell hZ2
   cases hh:aG8 l st
   ·rw [hh,if_neg (by decide),show (none:Option Int).getD 0=0 from rfl] at hT
    obtain rfl:=hR1 (a3z hs (by rw [hse,hh]; rfl))
    go_region
    go_wp2
    go_ret
    exact ⟨rfl,hs1.trans (hXV.trans (fN _))⟩
   ·rw [hh,if_pos rfl,show (some (1:Int)).getD 0=1 from rfl] at hT
    by_cases he:sr=[]
    ·subst he
     have hbad:wS l (st,si,[])=false:=by rw [hse,hh]; rfl
     go_region
     go_wp2
     exact ⟨⟨j+1,by omega,by simp,hXV.trans (fN _),a9d hs hany hbad⟩,by simp [jJ]; omega⟩
    ·have hne:sr.isEmpty=false:=by simpa using he
     cases ok
     ·obtain rfl:=hR1 (a3z hs (by rw [hse,hh]; simp [he]))
      go_region
      go_wp2
      go_ret
      exact ⟨rfl,hs1.trans (hXV.trans (fN _))⟩
     ·have hbad:wS l (st,si,sr)=false:=by rw [hse,hh]; simp
      go_region
      go_wp2
      exact ⟨⟨j+1,by omega,by simp,hXV.trans (fN _),a9d hs hany hbad⟩,by simp [jJ]; omega⟩
  ·have hj1:¬ (j:Int) < (aY.length:Int):=by omega
   have:aY.take j=aY:=List.take_of_length_le (by omega)
   rw [this] at hany
   have hRe:=hR0 hany
   clear hR1 hR0 hany this hsub hrows
   have e2 : wr.cell? ⟨y,2,none⟩ = some (.slice xa steps.length xc):=hsr.cell (Lib.cell_of_heap hXB ..)
   have hyr:y < wr.heap.size:=by have:=hsr.size; omega
   go_wp2
   clear e2 hyr hj1 hj0 hj hjn
   obtain ⟨wa,hwa⟩:∃ wa,wa=wr:=⟨_,rfl⟩
   rw [← hwa] at hsr ⊢
   clear hwa
   go_loopw [53] (fun i wr=>∃ k:Nat,k≤steps.length∧i = .int .i64 k∧dU X wr∧∀ y ∈ steps.take k,lG l typ y=0) (fun i _=>steps.length - (jJ i).toNat)
   case atStart=>exact ⟨0,Nat.zero_le _,rfl,hsr,fun y hy=>by cases hy⟩
   case round =>
    clear hsr
    obtain ⟨j,hj,rfl,hsr,hany⟩:=hrel
    have hj0:(0:Int)≤(j:Int):=zrz _
    by_cases hjn:j < steps.length
    ·have hj1:(j:Int) < (steps.length:Int):=by omega
     obtain ⟨s,hs⟩:=jZ hjn
     have hsm:=hstp s (zyx hs)
     obtain ⟨b,off,rfl,hb,d0,d1,d2⟩:=(hxrows.iZ ((hs1.trans hsr).iZ (by omega))).a1r (lF hs)
     have hbr:b < wr.heap.size:=by have:=(hs1.trans hsr).size; omega
     have hbad:=aNy hs hany
     have hnext:lG l typ s=0→∀ y ∈ steps.take (j+1),lG l typ y=0:=fun e y hy=>by
      rw [l4 hs,List.mem_append,List.mem_singleton] at hy
      rcases hy with hy | rfl
      ·exact hany y hy
      ·exact e
     obtain ⟨kd,A,B⟩:=s
     dsimp only at d0 d1 d2 hsm
     have hsr2:=hsr.trans (aR wr (.cells #[.int .i64 kd,.string ⟨⟨A⟩⟩,.string ⟨⟨B⟩⟩] 78))
     obtain ⟨z,hz⟩:∃ z,z=wr.heap.size:=⟨_,rfl⟩
     obtain ⟨Z,hZ⟩:∃ Z,Z=wr.alloc (.cells #[.int .i64 kd,.string ⟨⟨A⟩⟩,.string ⟨⟨B⟩⟩] 78):=⟨_,rfl⟩
     have hZB : Z.heap[z]? = some (.cells #[.int .i64 kd,.string ⟨⟨A⟩⟩,.string ⟨⟨B⟩⟩] 78 (0,0)):=by rw [hZ,hz]; exact heap_alloc_new _ _
     have hZ0 : Z.cell? ⟨z,0,none⟩ = some (.int .i64 kd):=Lib.cell_of_heap hZB ..
     clear hZB
     by_cases hk2:kd=2
     ·subst hk2
      have hq:=b5z (typ:=typ) (x:=(2,A,B)) ((h1.lX hsr).lX (aR wr (.cells #[.int .i64 2,.string ⟨⟨A⟩⟩,.string ⟨⟨B⟩⟩] 78))) ht hsm
      have hse:lG l typ (2,A,B)=a5w l typ (2,A,B):=if_pos rfl
      rw [hse] at hbad hnext
      dsimp only at hq
      generalize a5w l typ (2,A,B)=e54 at hq hbad hnext
      by_cases h54:e54=0
      ·subst h54
       go_wp2_with (go_at_call 54; refine hq.mono ?_; rintro e w6 ⟨rfl,hs6⟩)
       rw [← hZ] at hs6 hsr2
       exact ⟨⟨j+1,by omega,by simp,hsr2.trans hs6,hnext trivial⟩,by simp [jJ]; omega⟩
      ·have hne:(e54 == 0)=false:=by simpa using h54
       have hRe2:=hRe.trans (hbad h54)
       clear hRe hbad hnext
       subst hRe2
       go_wp2_with (go_at_call 54; refine hq.mono ?_; rintro e w6 ⟨rfl,hs6⟩)
       rw [← hZ] at hs6 hsr2
       go_ret
       exact ⟨rfl,hs1.trans (hsr2.trans hs6)⟩
     ·have hkb:(kd == 2)=false:=by simpa using hk2
      obtain ⟨q,hq⟩:=((h1.lX hsr).lX (aR wr (.cells #[.int .i64 kd,.string ⟨⟨A⟩⟩,.string ⟨⟨B⟩⟩] 78))).wM (a:=typ) (b:=A) ht hsm.1
      have hse:lG l typ (kd,A,B)=if (cG l typ A).isNone && decide (kd=1) then 12 else 0:=if_neg hk2
      have hio:(cG l typ A).isNone = !(cG l typ A).isSome:=by cases cG l typ A <;> rfl
      rw [hio] at hse
      generalize (cG l typ A).isSome=ok at hq hse
      cases ok
      ·by_cases hk1:kd=1
       ·subst hk1
        rw [show lG l typ (1,A,B)=12 from hse] at hbad
        have hRe2:=hRe.trans (hbad (by decide))
        clear hRe hbad hnext
        subst hRe2
        go_wp2_with (go_at_call 18; refine hq.mono ?_; rintro e w6 ⟨rfl,hs6⟩; rw [← hZ] at hs6; have hz6:=hs6.cell hZ0; rw [hz] at hz6; have hz7:=rL hz6; dsimp only at hz7)
        rw [← hZ] at hsr2
        go_ret
        exact ⟨rfl,hs1.trans ((hsr2.trans hs6).trans (aR _ _))⟩
       ·have hkb1:(kd == 1)=false:=by simpa using hk1
        have e0:lG l typ (kd,A,B)=0:=by rw [hse]; simp [hk1]
        go_wp2_with (go_at_call 18; refine hq.mono ?_; rintro e w6 ⟨rfl,hs6⟩; rw [← hZ] at hs6; have hz6:=hs6.cell hZ0; rw [hz] at hz6; have hz7:=rL hz6; dsimp only at hz7)
        rw [← hZ] at hsr2
        exact ⟨⟨j+1,by omega,by simp,(hsr2.trans hs6).trans (aR _ _),hnext e0⟩,by simp [jJ]; omega⟩
      ·have e0:lG l typ (kd,A,B)=0:=by rw [hse]; rfl
       go_wp2_with (go_at_call 18; refine hq.mono ?_; rintro e w6 ⟨rfl,hs6⟩)
       rw [← hZ] at hs6 hsr2
       exact ⟨⟨j+1,by omega,by simp,(hsr2.trans hs6).trans (aR _ _),hnext e0⟩,by simp [jJ]; omega⟩
    ·have hj1:¬ (j:Int) < (steps.length:Int):=by omega
     have:steps.take j=steps:=List.take_of_length_le (by omega)
     rw [this] at hany
     have hRe2:=hRe.trans (aIp hany)
     clear hRe
     subst hRe2
     go_wp2
     go_ret
     exact ⟨rfl,hs1.trans hsr⟩
end Go.Fbs
namespace Go.Fbs
open Go.Proofs Go.RowKit Go.Maps
variable {n k:Nat} {l:List TM} {mk:Lit→Option Nat} {w w':World}
abbrev Wy:=B8×B8×Nat
def a9e (q:Wy):List Value:=[.string ⟨⟨q.1⟩⟩,.string ⟨⟨q.2.1⟩⟩,.int .i64 (q.2.2:Int)]
def mY (ws:List Wy):List Value:=ws.flatMap a9e
theorem a8m:∀ l:List Wy,(mY l).length=l.length*3
 | []=>rfl
 | q::l=>by
  have:=a8m l
  have e:mY (q::l)=a9e q++mY l:=rfl
  rw [e,zwy,this,zwx,show (a9e q).length=3 from rfl]
  omega
theorem aK9 (a b:List Wy):mY (a++b)=mY a++mY b:=by simp [mY]
theorem aLa (ws:List Wy):∀ u ∈ mY ws,u.oneCell'=true:=by
 intro u hu
 obtain ⟨q,_,hq⟩:=List.mem_flatMap.1 hu
 simp only [a9e,List.mem_cons,List.not_mem_nil,or_false] at hq
 rcases hq with rfl | rfl | rfl <;> rfl
theorem aBs : ∀ {ws : List Wy} {i : Nat} {q : Wy},ws[i]? = some q → (mY ws)[i * 3]? = some (.string ⟨⟨q.1⟩⟩) ∧ (mY ws)[i * 3 + 1]? = some (.string ⟨⟨q.2.1⟩⟩) ∧ (mY ws)[i * 3 + 2]? = some (.int .i64 (q.2.2 : Int))
 | x::ws,0,q,h=>by
  simp only [zux,zzz] at h
  subst h
  exact ⟨rfl,rfl,rfl⟩
 | x::ws,i+1,q,h=>by
  obtain ⟨h1,h2,h3⟩:=aBs (ws:=ws) (i:=i) (by simpa using h)
  have e : ∀ j,(mY (x :: ws))[(i + 1) * 3 + j]? = (mY ws)[i * 3 + j]?:=fun j=>by
   show (a9e x ++ mY ws)[_]? = _
   rw [ztx (by simp [a9e]; omega)]
   congr 1
   simp only [a9e,zwx,List.length_nil]; omega
  exact ⟨(e 0).trans h1,(e 1).trans h2,(e 2).trans h3⟩
def mD (base:Nat) (w:World) (v:Value) (ws:List Wy):Prop:=w.ownsRow base 126 3 v ws.length (mY ws)
theorem Try.aAt : (Try.prog.info? 126).map (fun i=>(i.zero,i.size,i.bytes)) = some (some (.agg #[.string ⟨#[]⟩,.string ⟨#[]⟩,.int .i64 0]),3,40):=by kernel_rfl
theorem aYq (w : World) (a b : ByteArray) (k : Int) : ∀ j u,[Value.string a,.string b,.int .i64 k][j]? = some u → (w.alloc (.cells #[.string a,.string b,.int .i64 k] 126)).cell? ((⟨w.heap.size,0,none⟩ : Addr).add j) = some u:=fun j u hj=>by
 match j,hj with
 | 0,hj=>cases hj; go_simp
 | 1,hj=>cases hj; go_simp
 | 2,hj=>cases hj; go_simp
theorem a4f {w:World} {base:Nat} {e:TypeId} {size n:Nat} {v:Value} {xs:List Value} (h:w.ownsRow base e size v n xs) (h0:n≠0):∃ g cp,v = .slice (some ⟨g,0,none⟩) n cp∧base≤g∧g < w.heap.size∧n≤cp:=by
 obtain ⟨_,h2⟩:=h
 rcases h2 with ⟨rfl,h⟩ | ⟨g',cap',cur,rfl,h1,h2,h3,_⟩
 ·exact absurd h h0
 ·exact ⟨_,_,rfl,h1,(zsz.1 h2).1,h3⟩
theorem a1t {w:World} {base:Nat} {e:TypeId} {size n:Nat} {v:Value} {xs:List Value} (h:w.ownsRow base e size v n xs):∃ ad cp,v = .slice ad n cp:=by
 obtain ⟨_,h2⟩:=h
 rcases h2 with ⟨rfl,rfl⟩ | ⟨g',cap',cur,rfl,_⟩
 ·exact ⟨none,0,rfl⟩
 ·exact ⟨_,_,rfl⟩
theorem iD {w w':World} {base:Nat} {e:TypeId} {size n:Nat} {v:Value} {xs:List Value} (h:w.ownsRow base e size v n xs) (hs:dU w w'):w'.ownsRow base e size v n xs:=by
 obtain ⟨h1,h2⟩:=h
 refine ⟨h1,?_⟩
 rcases h2 with h2 | ⟨g,cap,cur,hv,hg,hh,hr⟩
 ·exact .inl h2
 ·exact .inr ⟨g,cap,cur,hv,hg,(hs.same g (zsz.1 hh).1).trans hh,hr⟩
theorem a62 {w:World} {base base':Nat} {e:TypeId} {size n:Nat} {v:Value} {xs:List Value} (h:w.ownsRow base e size v n xs) (hb:base'≤base):w.ownsRow base' e size v n xs:=by
 obtain ⟨h1,h2⟩:=h
 refine ⟨h1,?_⟩
 rcases h2 with h2 | ⟨g,cap,cur,hv,hg,hh,hr⟩
 ·exact .inl h2
 ·exact .inr ⟨g,cap,cur,hv,by omega,hh,hr⟩
def nI (l:List TM) (typ a:B8):List Sub:=match cG l typ a with | none=>[] | some r=>r.aY
def nQ (l:List TM) (typ:B8) (x:dQ):List Wy:=if x.1=1 then [(typ,x.2.1,0)] else (nI l typ x.2.1).map fun s=>(s.1,x.2.2,0)
set_option maxHeartbeats 1600000 in
theorem b9c {typ:B8} {x:dQ} (h:tN n l k mk w) (ht:typ.length≤1000) (hx:x.2.1.length≤1000∧x.2.2.length≤1000) :
  Calls Try.prog 80 #[.pointer (some ⟨n+3,0,none⟩),.string ⟨⟨typ⟩⟩,.agg #[.int .i64 x.1,.string ⟨⟨x.2.1⟩⟩,.string ⟨⟨x.2.2⟩⟩]] w fun e w'=>dU w w'∧∃ v,e = .returned v∧mD w.heap.size w' v (nQ l typ x):=by
 obtain ⟨i0,hi,hz0,hz1,hz2⟩:=info_parts Try.aAt
 obtain ⟨kd,A,B⟩:=x
 dsimp only at hx ⊢
 have hn:=h.lt
 have h1:=h.lX (aR w (.cells #[.int .i64 kd,.string ⟨⟨A⟩⟩,.string ⟨⟨B⟩⟩] 78))
 have hs1:=aR w (.cells #[.int .i64 kd,.string ⟨⟨A⟩⟩,.string ⟨⟨B⟩⟩] 78)
 unfold nQ
 dsimp only
 by_cases hk1:kd=1
 ·subst hk1
  rw [if_pos rfl]
  go_enter Try.func80,Try.ntmps80
  go_wp2
  go_ret
  refine ⟨hs1.trans (aR _ _),_,rfl,?_⟩
  have:=World.ownsRow_lit (base:=w.heap.size) (e:=126) (size:=3) (w.alloc (.cells #[.int .i64 1,.string ⟨⟨A⟩⟩,.string ⟨⟨B⟩⟩] 78)) #[.string ⟨⟨typ⟩⟩,.string ⟨⟨A⟩⟩,.int .i64 0] 1 (by simp) (by unfold maxLen; omega) rfl
  simpa [mD,mY,a9e] using this
 ·have hkb:(kd == 1)=false:=by simpa using hk1
  rw [if_neg hk1]
  have hex:∃ r:RX,(∃ rs,nI l typ A=rs∧r.sn=rs.length∧rs.length≤1000∧(∀ s ∈ rs,s.1.length≤1000)∧(rs=[]∨tM n w r.sa 3 (rs.map b5x)))∧Calls Try.prog 18 #[.pointer (some ⟨n+3,0,none⟩),.string ⟨⟨typ⟩⟩,.string ⟨⟨A⟩⟩] (w.alloc (.cells #[.int .i64 kd,.string ⟨⟨A⟩⟩,.string ⟨⟨B⟩⟩] 78)) fun e w'=>e = .returned (.tuple #[.agg #[.string ⟨⟨r.nm⟩⟩,.slice r.sa r.sn r.sc,.slice r.xa r.xn r.xc],.bool (cG l typ A).isSome])∧dU (w.alloc (.cells #[.int .i64 kd,.string ⟨⟨A⟩⟩,.string ⟨⟨B⟩⟩] 78)) w':=by
   unfold nI
   cases hr:cG l typ A with
   | none=>exact ⟨rx0,⟨[],rfl,rfl,by simp,by simp,.inl rfl⟩,h1.aQ1 ht hx.1 hr⟩
   | some r=>exact ⟨r.rx,⟨_,rfl,rfl,(h.short hr).1.1,fun s hs=>((h.short hr).2.1 s hs).1,.inr (h.ok hr).s⟩,h1.aQ2 ht hx.1 hr⟩
  obtain ⟨⟨rn,sa,sn,sc,xa,xn,xc⟩,⟨aY,hsub,rfl,hsl,hsm,hrows⟩,hc⟩:=hex
  rw [hsub]
  clear hsub
  dsimp only at hc hrows
  generalize (cG l typ A).isSome=ok at hc
  obtain ⟨y,hy⟩:∃ y,y=w.heap.size:=⟨_,rfl⟩
  obtain ⟨X,hX⟩:∃ X,X=w.alloc (.cells #[.int .i64 kd,.string ⟨⟨A⟩⟩,.string ⟨⟨B⟩⟩] 78):=⟨_,rfl⟩
  have hXB : X.heap[y]? = some (.cells #[.int .i64 kd,.string ⟨⟨A⟩⟩,.string ⟨⟨B⟩⟩] 78 (0,0)):=by rw [hX,hy]; exact heap_alloc_new _ _
  have hyX:y < X.heap.size:=(zsz.1 hXB).1
  go_enter Try.func80,Try.ntmps80
  go_wp2_with (go_at_call 18; refine hc.mono ?_; rintro e w5 ⟨rfl,hs5⟩)
  rw [← hX] at hs1 hs5 h1
  rw [← hy] at *
  obtain ⟨V,hV⟩:∃ V,V=w5.alloc (.cells #[.string ⟨⟨rn⟩⟩,.slice sa aY.length sc,.slice xa xn xc] 32):=⟨_,rfl⟩
  have hsV:dU X V:=by rw [hV]; exact hs5.trans (aR _ _)
  rw [← hV]
  clear hV hX hc
  have hnil:V.ownsRow X.heap.size 126 3 (.slice none 0 0) 0 []:=World.ownsRow_nil _ _ _ _
  go_loopw [7,32] (fun v i wr=>∃ k:Nat,k≤aY.length∧i = .int .i64 k∧dU X wr∧∃ ad cp,v = .slice ad k cp∧mD X.heap.size wr v ((aY.take k).map fun s=>(s.1,B,0))) (fun _ i _=>aY.length - (jJ i).toNat)
  case atStart=>exact ⟨0,Nat.zero_le _,rfl,hsV,none,0,rfl,hnil⟩
  case round =>
   obtain ⟨j,hj,rfl,hsr,ad,cp,rfl,hown⟩:=hrel
   have hj0:(0:Int)≤(j:Int):=zrz _
   by_cases hjn:j < aY.length
   ·have hj1:(j:Int) < (aY.length:Int):=by omega
    obtain ⟨s,hs⟩:=jZ hjn
    have hsm1:=hsm s (zyx hs)
    rcases hrows with rfl | hrows
    ·cases hs
    obtain ⟨b,off,rfl,hb,d0,d1,d2⟩:=(hrows.iZ ((hs1.trans hsr).iZ (by omega))).a1r (lF hs)
    have hbr:b < wr.heap.size:=by have:=(hs1.trans hsr).size; omega
    have hyr:y < wr.heap.size:=by have:=hsr.size; omega
    have e2 : wr.cell? ⟨y,2,none⟩ = some (.string ⟨⟨B⟩⟩):=hsr.cell (Lib.cell_of_heap hXB ..)
    obtain ⟨st,si,sr⟩:=s
    dsimp only at d0 d1 d2 hsm1
    have hlen:((aY.take j).map fun s=>((s.1,B,0):Wy)).length=j:=by simp; omega
    unfold mD at hown
    rw [hlen] at hown
    have hXr:=hsr.size
    go_wp2_with (first
     | (at_builtin; (refine wpList_append_lies _ rfl _ _ 123 rfl X.heap.size 126 i0 _ 3 40 Try.underlying123 hi hz0 hz1 hz2 rfl (by decide) _ _ _ rfl ((hown.alloc _).alloc _) ⟨wr.heap.size+1,0,none⟩ 1 1 [.string ⟨⟨st⟩⟩,.string ⟨⟨B⟩⟩,.int .i64 0] rfl rfl (by simpa using aYq (wr.alloc _) ⟨⟨st⟩⟩ ⟨⟨B⟩⟩ 0) (by intro u hu; simp at hu; rcases hu with rfl | rfl | rfl <;> rfl) (by decide) (by unfold maxLen; omega) (by omega) (by simp; omega) (wr.heap.size+2) (by simp) ?_; intro g cp' w2 hown' hgrow hat hlt))
     | go_in)
    have hs2:dU X w2:=by
     refine ⟨hgrow.os.trans hsr.os,hgrow.output.trans hsr.output,?_,fun q hq=>?_⟩
     ·have h1:=hgrow.size
      have h2:=hsr.size
      simp at h1
      omega
     ·have hq2:q < wr.heap.size:=by have:=hsr.size; omega
      refine ((hgrow.block q (by simp; omega) fun e=>?_).trans ((heap_alloc_old _ _ (by simp; omega)).trans (heap_alloc_old _ _ hq2))).trans (hsr.same q hq)
      have:=(hown.lt q e.symm).1
      omega
    go_wp2
    refine ⟨⟨j+1,by omega,by simp,hs2,some ⟨g,0,none⟩,cp',rfl,?_⟩,by simp [jJ]; omega⟩
    unfold mD
    rw [l4 hs,List.map_append,zwy,hlen,aK9]
    exact hown'
   ·have hj1:¬ (j:Int) < (aY.length:Int):=by omega
    obtain rfl:j=aY.length:=by omega
    rw [List.take_length] at hown
    go_wp2
    go_ret
    exact ⟨hs1.trans hsr,_,rfl,a62 hown (by have:=hs1.size; omega)⟩
end Go.Fbs

import Derived.Test.YtngdbicnabbplaaNB
import Derived.Test.YtngdbicnabbplaaPA
import Derived.Test.YtngdbicnabbplaaPB
set_option linter.unusedSimpArgs false
set_option linter.unusedVariables false
set_option linter.unusedSectionVars false
set_option maxRecDepth 100000
namespace Go.Fbs
open Go.Proofs Go.RowKit Go.Maps
structure fH (B:Nat) (w w':World):Prop where
 os:w'.os=w.os
 output:w'.output=w.output
 size:w.heap.size≤w'.heap.size
 block : ∀ k,k < B → w'.heap[k]? = w.heap[k]?
theorem fH.refl (B:Nat) (w:World):fH B w w:=⟨rfl,rfl,zxy _,fun _ _=>rfl⟩
theorem fH.trans {B:Nat} {a b c:World} (h:fH B a b) (k:fH B b c):fH B a c :=
 ⟨k.os.trans h.os,k.output.trans h.output,Nat.le_trans h.size k.size,fun i hi=>(k.block i hi).trans (h.block i hi)⟩
theorem fH.mono {B C:Nat} {a b:World} (h:fH C a b) (hb:B≤C):fH B a b:=⟨h.os,h.output,h.size,fun k hk=>h.block k (by omega)⟩
theorem dU.fV {W W':World} (h:dU W W') {B:Nat} (hB:B≤W.heap.size):fH B W W':=⟨h.os,h.output,h.size,fun k hk=>h.same k (by omega)⟩
theorem aQq {B:Nat} {X w':World} {row:Option Nat} (g:X.grownBy w' row) (hb:B≤X.heap.size) (hr:∀ k,row=some k→B≤k):fH B X w':=by
 refine ⟨g.os,g.output,g.size,fun k hk=>g.block k (by omega) fun e=>?_⟩
 have:=hr k e.symm
 omega
theorem fH.cell {B : Nat} {w w' : World} (h : fH B w w') {a : Addr} {v : Value} (ha : a.block < B) (hc : w.cell? a = some v) : w'.cell? a = some v:=by
 rw [World.cell?_of_block (h.block _ ha)]; exact hc
theorem fH.drew {B:Nat} {w w':World} (h:fH B w w'):fH B w w'.drew:=⟨h.os,h.output,h.size,h.block⟩
def nW (B:Nat) (w:World) (a:Option Addr) (sz:Nat) (rows:List (List Value)):Prop :=
 ∃ b off,(rows ≠ [] → a = some ⟨b,off,none⟩ ∧ b < B) ∧ ∀ i c,rows[i]? = some c → ∀ j x,c[j]? = some x → w.cell? ⟨b,off + i * sz + j,none⟩ = some x
theorem nW.fV {B:Nat} {w w':World} {a:Option Addr} {sz:Nat} {rows:List (List Value)} (h:nW B w a sz rows) (hb:fH B w w'):nW B w' a sz rows:=by
 obtain ⟨b,off,h1,h3⟩:=h
 exact ⟨b,off,h1,fun i c hi j x hx=>hb.cell (h1 (fun e=>by rw [e] at hi; cases hi)).2 (h3 i c hi j x hx)⟩
theorem nW.aDl {B : Nat} {w : World} {a : Option Addr} {rows : List (List Value)} (h : nW B w a 3 rows) {i : Nat} {x y z : Value} (hi : rows[i]? = some [x,y,z]) :
  ∃ b off,a = some ⟨b,off,none⟩ ∧ b < B ∧ w.cell? ⟨b,off + i * 3,none⟩ = some x ∧ w.cell? ⟨b,off + i * 3 + 1,none⟩ = some y ∧ w.cell? ⟨b,off + i * 3 + 2,none⟩ = some z:=by
 obtain ⟨b,off,h1,h3⟩:=h
 obtain ⟨h1,h2⟩:=h1 (fun e=>by rw [e] at hi; cases hi)
 exact ⟨b,off,h1,h2,h3 i _ hi 0 _ rfl,h3 i _ hi 1 _ rfl,h3 i _ hi 2 _ rfl⟩
theorem nW.b10 {B : Nat} {w : World} {a : Option Addr} {rows : List (List Value)} (h : nW B w a 2 rows) {i : Nat} {x y : Value} (hi : rows[i]? = some [x,y]) :
  ∃ b off,a = some ⟨b,off,none⟩ ∧ b < B ∧ w.cell? ⟨b,off + i * 2,none⟩ = some x ∧ w.cell? ⟨b,off + i * 2 + 1,none⟩ = some y:=by
 obtain ⟨b,off,h1,h3⟩:=h
 obtain ⟨h1,h2⟩:=h1 (fun e=>by rw [e] at hi; cases hi)
 exact ⟨b,off,h1,h2,h3 i _ hi 0 _ rfl,h3 i _ hi 1 _ rfl⟩
theorem nE {α β : Type} {f : α → β} {l : List α} {i : Nat} {x : α} (h : l[i]? = some x) : (l.map f)[i]? = some (f x):=by rw [zvz,h]; rfl
abbrev B8:=List UInt8
def a0d (s:Sub):List Value:=[.string ⟨⟨s.1⟩⟩,.string ⟨⟨s.2.1⟩⟩,.string ⟨⟨s.2.2⟩⟩]
def aK3 (s:cV):List Value:=[.int .i64 s.1,.string ⟨⟨s.2.1⟩⟩,.string ⟨⟨s.2.2⟩⟩]
structure RM where
 nm:B8
 aR:List Sub
 steps:List cV
 sa:Option Addr
 sc:Nat
 xa:Option Addr
 xc:Nat
def RM.rx (r:RM):RX:=⟨r.nm,r.sa,r.aR.length,r.sc,r.xa,r.steps.length,r.xc⟩
def yT (r:RM):List Value:=[.string ⟨⟨r.nm⟩⟩,.slice r.sa r.aR.length r.sc,.slice r.xa r.steps.length r.xc]
structure RM.ok (B:Nat) (w:World) (r:RM):Prop where
 s:nW B w r.sa 3 (r.aR.map a0d)
 x:nW B w r.xa 3 (r.steps.map aK3)
structure TM where
 nm:B8
 aS:List RM
 ra:Option Addr
 rc:Nat
def qW (t:TM):List Value:=[.string ⟨⟨t.nm⟩⟩,.slice t.ra t.aS.length t.rc]
structure TM.ok (B:Nat) (w:World) (t:TM):Prop where
 r:nW B w t.ra 3 (t.aS.map yT)
 all:∀ r ∈ t.aS,r.ok B w
structure rN (B:Nat) (w:World) (a:Option Addr) (l:List TM):Prop where
 r:nW B w a 2 (l.map qW)
 all:∀ t ∈ l,t.ok B w
theorem RM.ok.fV {B:Nat} {w w':World} {r:RM} (h:r.ok B w) (hb:fH B w w'):r.ok B w':=⟨h.s.fV hb,h.x.fV hb⟩
theorem TM.ok.fV {B:Nat} {w w':World} {t:TM} (h:t.ok B w) (hb:fH B w w'):t.ok B w':=⟨h.r.fV hb,fun r hr=>(h.all r hr).fV hb⟩
theorem rN.fV {B:Nat} {w w':World} {a:Option Addr} {l:List TM} (h:rN B w a l) (hb:fH B w w'):rN B w' a l:=⟨h.r.fV hb,fun t ht=>(h.all t ht).fV hb⟩
def qB (t:TM):List (B8×RM):=t.aS.map fun r=>(t.nm,r)
def bO (l:List TM):List (B8×RM):=l.flatMap qB
noncomputable def a1c (l:List TM):Lit→Option Int:=l.foldl (fun m t=>kJ m (.string t.nm) 1) (fun _=>none)
noncomputable def a0e (l:List (B8×RM)):Lit→Option RX:=l.foldl (fun m p=>kJ m (dY p.1 p.2.nm) p.2.rx) (fun _=>none)
theorem b5b (l:List TM) (t:TM):a1c (l++[t])=kJ (a1c l) (.string t.nm) 1:=by unfold a1c; rw [List.foldl_append]; rfl
theorem b5c (l:List (B8×RM)) (p:B8×RM):a0e (l++[p])=kJ (a0e l) (dY p.1 p.2.nm) p.2.rx:=by unfold a0e; rw [List.foldl_append]; rfl
theorem b5d {l:List TM} {a:B8} (h:∀ t ∈ l,t.nm≠a):a1c l (.string a)=none:=by
 have:∀ (l:List TM) (m:Lit→Option Int),(∀ t ∈ l,t.nm≠a)→(l.foldl (fun m t=>kJ m (.string t.nm) 1) m) (.string a)=m (.string a):=by
  intro l
  induction l with
  | nil=>intros; rfl
  | cons t l ih =>
   intro m h
   rw [List.foldl_cons,ih _ fun t ht=>h t (.tail _ ht)]
   unfold kJ
   rw [if_neg (by simpa using fun e=>h t (.head _) e.symm)]
 exact this l _ h
theorem b5e {l:List (B8×RM)} {a b:B8} (ha:a.length≤maxLen) (hb:b.length≤maxLen) (hl:∀ p ∈ l,p.1.length≤maxLen∧p.2.nm.length≤maxLen) (h:∀ p ∈ l,¬ (p.1=a∧p.2.nm=b)):a0e l (dY a b)=none:=by
 have:∀ (l:List (B8×RM)) (m:Lit→Option RX),(∀ p ∈ l,p.1.length≤maxLen∧p.2.nm.length≤maxLen)→(∀ p ∈ l,¬ (p.1=a∧p.2.nm=b))→(l.foldl (fun m p=>kJ m (dY p.1 p.2.nm) p.2.rx) m) (dY a b)=m (dY a b):=by
  intro l
  induction l with
  | nil=>intros; rfl
  | cons t l ih =>
   intro m hl h
   rw [List.foldl_cons,ih _ (fun t ht=>hl t (.tail _ ht)) fun t ht=>h t (.tail _ ht)]
   unfold kJ
   rw [if_neg (fun e=>h t (.head _) (by
    have:=aDk ha hb (hl t (.head _)).1 (hl t (.head _)).2 e
    exact ⟨this.1.symm,this.2.symm⟩))]
 exact this l _ hl h
structure a3e (l:List TM):Prop where
 short:∀ t ∈ l,t.nm.length≤1000∧∀ r ∈ t.aS,r.nm.length≤1000∧(r.aR.length≤1000∧r.steps.length≤1000)∧(∀ s ∈ r.aR,s.1.length≤1000∧s.2.2.length≤1000)∧∀ s ∈ r.steps,s.2.1.length≤1000∧s.2.2.length≤1000
 types:(l.map (·.nm)).Nodup
 aS:∀ t ∈ l,(t.aS.map (·.nm)).Nodup
 few:(bO l).length+l.length≤100000
end Go.Fbs

namespace Go.Fbs
open Go.Proofs Go.RowKit Go.Maps
def iG:Value→Int | .int _ q=>q | _=>0
theorem a63 (l:List TM) (t:TM):bO (l++[t])=bO l++qB t:=by simp [bO]
theorem kG {α : Type} {l : List α} {k : Nat} {x : α} (h : l[k]? = some x) : l.take (k + 1) = l.take k ++ [x]:=by
 rw [List.take_add_one,h]; rfl
theorem hU {α : Type} {l : List α} {k : Nat} (h : k < l.length) : ∃ x,l[k]? = some x:=⟨l[k],zyz h⟩
theorem aDm {α β : Type} {f : α → β} {l : List α} (h : (l.map f).Nodup) {k : Nat} {x : α} (hx : l[k]? = some x) : ∀ u ∈ l.take k,f u ≠ f x:=by
 intro u hu e
 obtain ⟨i,hi⟩:=List.getElem?_of_mem hu
 rw [List.getElem?_take] at hi
 split at hi
 ·rename_i hik
  have h1 : (l.map f)[i]? = some (f u):=nE hi
  have h2 : (l.map f)[k]? = some (f x):=nE hx
  rw [e,← h2] at h1
  have hlt:i < (l.map f).length:=by
   rcases Nat.lt_or_ge i (l.map f).length with h | h
   ·exact h
   ·rw [List.getElem?_eq_none h] at h1; rw [← h1] at h2; cases h2
  have:=(List.getElem?_inj hlt h).1 h1
  omega
 ·cases hi
theorem aNb (l:List TM) (k:Nat):(bO (l.take k)).length≤(bO l).length:=by
 have:bO l=bO (l.take k)++bO (l.drop k):=by
  unfold bO
  rw [← List.flatMap_append,List.take_append_drop]
 rw [this,zwy]
 omega
theorem jF {l:List TM} {p:B8×RM} (h:p ∈ bO l):∃ t ∈ l,p.1=t.nm∧p.2 ∈ t.aS:=by
 obtain ⟨t,ht,hp⟩:=List.mem_flatMap.1 h
 obtain ⟨r,hr,rfl⟩:=List.mem_map.1 hp
 exact ⟨t,ht,rfl,hr⟩
theorem a3e.names {l:List TM} (h:a3e l):∀ p ∈ bO l,p.1.length≤maxLen∧p.2.nm.length≤maxLen:=fun p hp=>by
 obtain ⟨t,ht,e,hr⟩:=jF hp
 rw [e]
 have:=h.short t ht
 have h2:=this.2 _ hr
 unfold maxLen
 omega
theorem b5f {l:List TM} {t:TM} (h:t ∈ l):t.aS.length≤(bO l).length:=by
 obtain ⟨a,b,rfl⟩:=List.append_of_mem h
 simp [bO,qB]
 omega
theorem aXf {l : List TM} {k : Nat} {t : TM} (h : l[k]? = some t) : (bO (l.take k)).length + t.aS.length ≤ (bO l).length:=by
 have h1:=aNb l (k+1)
 rw [kG h,a63,zwy] at h1
 have:(qB t).length=t.aS.length:=zsy ..
 omega
set_option maxHeartbeats 1600000 in
theorem aU3 {l:List TM} {a:Option Addr} {cp n:Nat} {w:World} (hf:a3e l) (hl:rN n w a l) (hs:gL w n 0 (fun _=>none) (fun _=>none) (fun _=>none)) :
  Calls Try.prog 31 #[xA n,.slice a l.length cp] w fun e w'=>e = .returned (.int .i64 0)∧fH n w w'∧∃ k,k≤200000∧gL w' n k (a1c l) (a0e (bO l)) (fun _=>none):=by
 unfold xA
 have hn:=hs.lt
 go_enter Try.func31,Try.ntmps31
 go_wp2
 go_loopw [13] (fun i wr=>∃ k:Nat,k≤l.length∧i = .int .i64 k∧fH n w wr∧n+3 < wr.heap.size∧gL wr n ((bO (l.take k)).length+k) (a1c (l.take k)) (a0e (bO (l.take k))) (fun _=>none)) (fun i _=>l.length - (iG i).toNat)
 case atStart=>exact ⟨0,Nat.zero_le _,rfl,fH.refl _ _,hn,hs⟩
 case round =>
  obtain ⟨k,hk,rfl,hbel,hnr,hsch⟩:=hrel
  have hk0:(0:Int)≤(k:Int):=zrz _
  by_cases hkn:k < l.length
  ·have hk1:(k:Int) < (l.length:Int):=by omega
   obtain ⟨t,ht⟩:=hU hkn
   have htm:=zyx ht
   obtain ⟨nm,aS,ra,rc⟩:=t
   obtain ⟨b,off,rfl,hb,c0,c1⟩:=(hl.fV hbel).r.b10 (nE ht)
   dsimp only at c0 c1
   have hbw:b < wr.heap.size:=by omega
   have h1000:=(hf.short _ htm).1
   dsimp only at h1000
   go_wp2
   obtain ⟨y,hy⟩:∃ y,y=wr.heap.size:=⟨_,rfl⟩
   obtain ⟨X,hX⟩:∃ X,X=wr.alloc (.cells #[.string ⟨⟨nm⟩⟩,.slice ra aS.length rc] 28):=⟨_,rfl⟩
   have hXB : X.heap[y]? = some (.cells #[.string ⟨⟨nm⟩⟩,.slice ra aS.length rc] 28 (0,0)):=by rw [hX,hy]; exact heap_alloc_new _ _
   have hsX:gL X n ((bO (l.take k)).length+k) (a1c (l.take k)) (a0e (bO (l.take k))) (fun _=>none):=by rw [hX]; exact hsch.jI (aK _ _)
   have hbX:fH n w X:=by rw [hX]; exact hbel.trans ((aK _ _).fV (by omega))
   rw [← hX,← hy]
   have hyn:n+3 < y:=by omega
   clear hX hy c0 c1 hsch hbel
   have hyX:y < X.heap.size:=(zsz.1 hXB).1
   have x0 : X.cell? ⟨y,0,none⟩ = some (.string ⟨⟨nm⟩⟩):=Lib.cell_of_heap hXB ..
   have x1 : X.cell? ⟨y,1,none⟩ = some (.slice ra aS.length rc):=Lib.cell_of_heap hXB ..
   have hC0:=hsX.c0
   have hT:=(hsX.jI (eZ _)).typ (a:=nm) (by unfold maxLen; omega)
   have hnone:a1c (l.take k) (.string nm)=none:=b5d fun u hu e=>aDm hf.types ht u hu e
   rw [hnone,show (none:Option Int).getD 0=0 from rfl] at hT
   have hps:=aXf ht
   have hfew1:=hf.few
   dsimp only at hps
   have hfew:(bO (l.take k)).length+k < 150000:=by omega
   obtain ⟨w4,hP,hM4,hG4⟩:=(hsX.jI ((eZ _).trans (eZ _))).bJw (by unfold maxLen; omega) (a:=nm) (by unfold maxLen; omega) 1
   go_region
   go_wp2
   go_region
   have hb4:fH n w w4:=hbX.drew.drew.trans (aQq hG4 (by show n≤X.heap.size; omega) (fun _ e=>by cases e; omega))
   have h4B : w4.heap[y]? = some (.cells #[.string ⟨⟨nm⟩⟩,.slice ra aS.length rc] 28 (0,0)):=(hG4.block y hyX (fun e=>by cases e; omega)).trans hXB
   have hy4:y < w4.heap.size:=(zsz.1 h4B).1
   clear hP hT hG4 hC0 hsX hbX x0 x1 hXB hyX
   have x0 : w4.cell? ⟨y,0,none⟩ = some (.string ⟨⟨nm⟩⟩):=Lib.cell_of_heap h4B ..
   have x1 : w4.cell? ⟨y,1,none⟩ = some (.slice ra aS.length rc):=Lib.cell_of_heap h4B ..
   go_wp2
   go_loopw [34] (fun i wr=>∃ j : Nat,j ≤ aS.length ∧ i = .int .i64 j ∧ fH n w wr ∧ y < wr.heap.size ∧ wr.heap[y]? = some (.cells #[.string ⟨⟨nm⟩⟩,.slice ra aS.length rc] 28 (0,0)) ∧ gL wr n ((bO (l.take k)).length + k + 1 + j) (kJ (a1c (l.take k)) (.string nm) 1) (a0e (bO (l.take k) ++ (aS.take j).map fun r=>(nm,r))) (fun _=>none)) (fun i _=>aS.length - (iG i).toNat)
   case atStart=>exact ⟨0,Nat.zero_le _,rfl,hb4,hy4,h4B,by rw [List.take_zero,List.map_nil,List.append_nil]; exact hM4⟩
   case round =>
    clear hM4 h4B hy4 x0 x1 hb4
    obtain ⟨j,hj,rfl,hbel,hyr,hyB,hsch⟩:=hrel
    have hj0:(0:Int)≤(j:Int):=zrz _
    by_cases hjn:j < aS.length
    ·have hj1:(j:Int) < (aS.length:Int):=by omega
     obtain ⟨r,hr⟩:=hU hjn
     obtain ⟨b2,off2,rfl,hb2,d0,d1,d2⟩:=((hl.fV hbel).all _ htm).r.aDl (nE hr)
     obtain ⟨rn,rsubs,rsteps,sa,sc,xa,xc⟩:=r
     dsimp only at d0 d1 d2
     have hrm:=zyx hr
     have hb2w:b2 < wr.heap.size:=by omega
     have hrn:rn.length≤1000:=((hf.short _ htm).2 _ hrm).1
     have e0 : wr.cell? ⟨y,0,none⟩ = some (.string ⟨⟨nm⟩⟩):=Lib.cell_of_heap hyB ..
     have hnone2:a0e (bO (l.take k)++(aS.take j).map fun r=>(nm,r)) (dY nm rn)=none:=b5e (by unfold maxLen; omega) (by unfold maxLen; omega) (fun p hp=>by
      rcases List.mem_append.1 hp with hp | hp
      ·obtain ⟨u,hu,e,hr'⟩:=jF hp
       exact hf.names p (List.mem_flatMap.2 ⟨u,List.mem_of_mem_take hu,List.mem_map.2 ⟨p.2,hr',by rw [← e]⟩⟩)
      ·obtain ⟨q,hq,rfl⟩:=List.mem_map.1 hp
       have:=((hf.short _ htm).2 _ (List.mem_of_mem_take hq)).1
       unfold maxLen
       dsimp only at this ⊢
       omega) (fun p hp e=>by
      rcases List.mem_append.1 hp with hp | hp
      ·obtain ⟨u,hu,e',hr'⟩:=jF hp
       exact aDm hf.types ht u hu (e'.symm.trans e.1)
      ·obtain ⟨q,hq,rfl⟩:=List.mem_map.1 hp
       exact aDm (hf.aS _ htm) hr q hq e.2)
     obtain ⟨z,hz⟩:∃ z,z=wr.heap.size:=⟨_,rfl⟩
     obtain ⟨Z,hZ⟩:∃ Z,Z=wr.alloc (.cells #[.string ⟨⟨rn⟩⟩,.slice sa rsubs.length sc,.slice xa rsteps.length xc] 32):=⟨_,rfl⟩
     have hsZ:=hsch.jI (aK wr (.cells #[.string ⟨⟨rn⟩⟩,.slice sa rsubs.length sc,.slice xa rsteps.length xc] 32))
     have hcall:=tP hsZ (a:=nm) (b:=rn) (by unfold maxLen; omega) (by unfold maxLen; omega)
     rw [hnone2,show aK2 ((none:Option RX).getD rx0) = .agg #[.string ⟨⟨[]⟩⟩,.slice none 0 0,.slice none 0 0] from rfl,show (none:Option RX).isSome=false from rfl] at hcall
     unfold xA at hcall
     have hZB : Z.heap[z]? = some (.cells #[.string ⟨⟨rn⟩⟩,.slice sa rsubs.length sc,.slice xa rsteps.length xc] 32 (0,0)):=by rw [hZ,hz]; exact heap_alloc_new _ _
     have hbZ:fH n w Z:=by rw [hZ]; exact hbel.trans ((aK _ _).fV (by omega))
     have hZy : Z.heap[y]? = some (.cells #[.string ⟨⟨nm⟩⟩,.slice (some ⟨b2,off2,none⟩) aS.length rc] 28 (0,0)):=by rw [hZ]; exact (heap_alloc_old _ _ hyr).trans hyB
     go_wp2_with (go_at_call 18; refine hcall.mono ?_; rintro e w5 ⟨rfl,hs5⟩)
     rw [← hz]
     rw [← hZ] at hs5 hsZ
     have hzZ:z < Z.heap.size:=(zsz.1 hZB).1
     have hyz:y < z:=by omega
     obtain ⟨V,hV⟩:∃ V,V=w5.alloc (.cells #[.string ⟨⟨[]⟩⟩,.slice none 0 0,.slice none 0 0] 32):=⟨_,rfl⟩
     have hsV:dU Z V:=by rw [hV]; exact hs5.trans (aK _ _)
     rw [← hV]
     clear hV hZ hz d0 d1 d2 e0 hcall hyB hsch hbel
     have hVB : V.heap[z]? = some (.cells #[.string ⟨⟨rn⟩⟩,.slice sa rsubs.length sc,.slice xa rsteps.length xc] 32 (0,0)):=(hsV.same z hzZ).trans hZB
     have hVy : V.heap[y]? = some (.cells #[.string ⟨⟨nm⟩⟩,.slice (some ⟨b2,off2,none⟩) aS.length rc] 28 (0,0)):=(hsV.same y (by omega)).trans hZy
     have hzV:z < V.heap.size:=(zsz.1 hVB).1
     have hschV:=hsZ.jI hsV
     have e0 : V.cell? ⟨y,0,none⟩ = some (.string ⟨⟨nm⟩⟩):=Lib.cell_of_heap hVy ..
     have d0 : V.cell? ⟨z,0,none⟩ = some (.string ⟨⟨rn⟩⟩):=Lib.cell_of_heap hVB ..
     have d1 : V.cell? ⟨z,1,none⟩ = some (.slice sa rsubs.length sc):=Lib.cell_of_heap hVB ..
     have d2 : V.cell? ⟨z,2,none⟩ = some (.slice xa rsteps.length xc):=Lib.cell_of_heap hVB ..
     have hC1:=hschV.c1
     obtain ⟨w6,hP,hM6,hG6⟩:=(hschV.jI (eZ _)).a8c (by unfold maxLen; omega) (a:=nm) (b:=rn) (by unfold maxLen; omega) (by unfold maxLen; omega) ⟨rn,sa,rsubs.length,sc,xa,rsteps.length,xc⟩
     dsimp only at hP
     go_region
     go_wp2
     have hb6:fH n w w6:=(hbZ.trans (hsV.fV (by omega))).drew.trans (aQq hG6 (by show n≤V.heap.size; omega) (fun _ e=>by cases e; omega))
     refine ⟨⟨j+1,by omega,by simp,hb6,by have:=hG6.size; show y < _; have e:V.drew.heap.size=V.heap.size:=rfl; omega,(hG6.block y (by show y < V.heap.size; omega) (fun e=>by cases e; omega)).trans hVy,?_⟩,by simp [iG]; omega⟩
     have:=hM6.mono (zxy _)
     rw [kG hr,List.map_append,← zty]
     rw [show (List.map (fun r=>(nm,r)) [(⟨rn,rsubs,rsteps,sa,sc,xa,xc⟩:RM)])=[(nm,⟨rn,rsubs,rsteps,sa,sc,xa,xc⟩)] from rfl,b5c]
     exact hM6
    ·have hj1:¬ (j:Int) < (aS.length:Int):=by omega
     obtain rfl:j=aS.length:=by omega
     go_wp2
     refine ⟨⟨k+1,by omega,by simp,hbel,by omega,?_⟩,by simp [iG]; omega⟩
     rw [kG ht,b5b,a63]
     rw [List.take_length] at hsch
     refine hsch.mono ?_
     have e:∀ a,(qB ⟨nm,aS,a,rc⟩).length=aS.length:=fun a=>zsy ..
     rw [zwy,e]
     omega
  ·have hk1:¬ (k:Int) < (l.length:Int):=by omega
   obtain rfl:k=l.length:=by omega
   go_wp2
   go_ret
   rw [List.take_length] at hsch
   refine ⟨rfl,hbel,_,?_,hsch⟩
   have:=hf.few
   omega
end Go.Fbs

namespace Go.Fbs
open Go.Proofs Go.RowKit Go.Maps
def cA (l : List TM) (a b : B8) : Option RM:=((bO l).find? fun p=>decide (p.1 = a) && decide (p.2.nm = b)).map (·.2)
def a1d (l:List TM) (a:B8):Bool:=l.any fun t=>decide (t.nm=a)
theorem bCs {l:List TM} (h:a3e l) (a:B8):a1c l (.string a)=if a1d l a then some 1 else none:=by
 have:∀ (l:List TM) (m:Lit→Option Int),(l.foldl (fun m t=>kJ m (.string t.nm) 1) m) (.string a)=if a1d l a then some 1 else m (.string a):=by
  intro l
  induction l with
  | nil=>intros; rfl
  | cons t l ih =>
   intro m
   rw [List.foldl_cons,ih]
   unfold kJ a1d
   rw [List.any_cons]
   by_cases e:t.nm=a
   ·subst e; simp
   ·have e':a≠t.nm:=fun h=>e h.symm
    simp [e,e']
 exact this l _
theorem aU4:∀ {ps:List (B8×RM)} {a b:B8} (_:a.length≤maxLen) (_:b.length≤maxLen) (_:∀ p ∈ ps,p.1.length≤maxLen∧p.2.nm.length≤maxLen) (_:ps.Pairwise fun p q=>¬ (p.1=q.1∧p.2.nm=q.2.nm)) (m:Lit→Option RX),
  (ps.foldl (fun m p=>kJ m (dY p.1 p.2.nm) p.2.rx) m) (dY a b) = match (ps.find? fun p=>decide (p.1 = a) && decide (p.2.nm = b)) with | some p=>some p.2.rx | none=>m (dY a b)
 | [],_,_,_,_,_,_,_=>rfl
 | p::ps,a,b,ha,hb,hl,hp,m=>by
  rw [List.foldl_cons,aU4 ha hb (fun q hq=>hl q (.tail _ hq)) (List.pairwise_cons.1 hp).2]
  rw [List.find?_cons]
  by_cases e:p.1=a∧p.2.nm=b
  ·have e1:(decide (p.1=a) && decide (p.2.nm=b))=true:=by simp [e.1,e.2]
   have e2 : ps.find? (fun p=>decide (p.1 = a) && decide (p.2.nm = b)) = none:=by
    rw [List.find?_eq_none]
    intro q hq hh
    simp only [zxz,decide_eq_true_eq] at hh
    exact (List.pairwise_cons.1 hp).1 q hq ⟨e.1.trans hh.1.symm,e.2.trans hh.2.symm⟩
   rw [e1,e2]
   dsimp only
   unfold kJ
   rw [e.1,e.2,if_pos rfl]
  ·have e1:(decide (p.1=a) && decide (p.2.nm=b))=false:=by
    cases hh:(decide (p.1=a) && decide (p.2.nm=b))
    ·rfl
    ·simp only [zxz,decide_eq_true_eq] at hh
     exact absurd hh e
   rw [e1]
   dsimp only
   cases ps.find? (fun p=>decide (p.1 = a) && decide (p.2.nm = b)) with
   | some q=>rfl
   | none =>
    dsimp only
    unfold kJ
    rw [if_neg fun h=>e ?_]
    have:=aDk ha hb (hl p (.head _)).1 (hl p (.head _)).2 h
    exact ⟨this.1.symm,this.2.symm⟩
theorem aAl {l:List TM} (h1:(l.map (·.nm)).Nodup) (h2:∀ t ∈ l,(t.aS.map (·.nm)).Nodup):(bO l).Pairwise fun p q=>¬ (p.1=q.1∧p.2.nm=q.2.nm):=by
 induction l with
 | nil=>exact .nil
 | cons t l ih =>
  rw [zsx,List.nodup_cons] at h1
  show (qB t++bO l).Pairwise _
  rw [List.pairwise_append]
  refine ⟨?_,ih h1.2 fun u hu=>h2 u (.tail _ hu),fun p hp q hq e=>?_⟩
  ·have:=h2 t (.head _)
   unfold qB
   rw [List.pairwise_map]
   rw [List.Nodup,List.pairwise_map] at this
   exact this.imp fun hne e=>hne e.2
  ·obtain ⟨r,hr,rfl⟩:=List.mem_map.1 hp
   obtain ⟨u,hu,e',_⟩:=jF hq
   exact h1.1 (List.mem_map.2 ⟨u,hu,(e.1.trans e').symm⟩)
theorem aBp {l:List TM} (h:a3e l) {a b:B8} (ha:a.length≤maxLen) (hb:b.length≤maxLen):a0e (bO l) (dY a b)=(cA l a b).map RM.rx:=by
 unfold a0e cA
 rw [aU4 ha hb h.names (aAl h.types h.aS)]
 cases (bO l).find? (fun p=>decide (p.1 = a) && decide (p.2.nm = b)) <;> rfl
theorem yU {l:List TM} {a b:B8} {r:RM} (h:cA l a b=some r):(a,r) ∈ bO l∧r.nm=b:=by
 unfold cA at h
 rw [zyy] at h
 obtain ⟨p,hp,rfl⟩:=h
 have h1:=List.mem_of_find?_eq_some hp
 have h2:=List.find?_some hp
 simp only [zxz,decide_eq_true_eq] at h2
 exact ⟨by rw [← h2.1]; exact h1,h2.2⟩
structure rO (n:Nat) (l:List TM) (k:Nat) (mk:Lit→Option Nat) (w:World):Prop where
 lG:a3e l
 sch:gL w n k (a1c l) (a0e (bO l)) mk
 all:∀ p ∈ bO l,p.2.ok n w
variable {n k:Nat} {l:List TM} {mk:Lit→Option Nat} {w w':World}
theorem rO.jI (h:rO n l k mk w) (hs:dU w w'):rO n l k mk w':=⟨h.lG,h.sch.jI hs,fun p hp=>(h.all p hp).fV (hs.fV (by have:=h.sch.lt; omega))⟩
theorem rO.lt (h:rO n l k mk w):n+3 < w.heap.size:=h.sch.lt
theorem rO.short (h:rO n l k mk w) {a b:B8} {r:RM} (hr:cA l a b=some r):(r.aR.length≤1000∧r.steps.length≤1000)∧(∀ s ∈ r.aR,s.1.length≤1000∧s.2.2.length≤1000)∧∀ s ∈ r.steps,s.2.1.length≤1000∧s.2.2.length≤1000:=by
 obtain ⟨t,ht,_,hm⟩:=jF (yU hr).1
 exact ((h.lG.short t ht).2 r hm).2
theorem rO.ok (h:rO n l k mk w) {a b:B8} {r:RM} (hr:cA l a b=some r):r.ok n w:=h.all _ (yU hr).1
theorem rO.aNc (h:rO n l k mk w) {a b:B8} (ha:a.length≤1000) (hb:b.length≤1000) (hr:cA l a b=none) :
  Calls Try.prog 18 #[.pointer (some ⟨n+3,0,none⟩),.string ⟨⟨a⟩⟩,.string ⟨⟨b⟩⟩] w fun e w'=>e = .returned (.tuple #[.agg #[.string ⟨⟨[]⟩⟩,.slice none 0 0,.slice none 0 0],.bool false])∧dU w w':=by
 have:=tP h.sch (a:=a) (b:=b) (by unfold maxLen; omega) (by unfold maxLen; omega)
 rw [aBp h.lG (by unfold maxLen; omega) (by unfold maxLen; omega),hr] at this
 exact this
theorem rO.aNd (h:rO n l k mk w) {a b:B8} (ha:a.length≤1000) (hb:b.length≤1000) {r:RM} (hr:cA l a b=some r) :
  Calls Try.prog 18 #[.pointer (some ⟨n+3,0,none⟩),.string ⟨⟨a⟩⟩,.string ⟨⟨b⟩⟩] w fun e w'=>e = .returned (.tuple #[.agg #[.string ⟨⟨r.nm⟩⟩,.slice r.sa r.aR.length r.sc,.slice r.xa r.steps.length r.xc],.bool true])∧dU w w':=by
 have:=tP h.sch (a:=a) (b:=b) (by unfold maxLen; omega) (by unfold maxLen; omega)
 rw [aBp h.lG (by unfold maxLen; omega) (by unfold maxLen; omega),hr] at this
 exact this
theorem rO.tP (h:rO n l k mk w) {a b:B8} (ha:a.length≤1000) (hb:b.length≤1000) :
  ∃ r:RX,Calls Try.prog 18 #[.pointer (some ⟨n+3,0,none⟩),.string ⟨⟨a⟩⟩,.string ⟨⟨b⟩⟩] w fun e w'=>e = .returned (.tuple #[.agg #[.string ⟨⟨r.nm⟩⟩,.slice r.sa r.sn r.sc,.slice r.xa r.xn r.xc],.bool (cA l a b).isSome])∧dU w w':=by
 have:=Go.Fbs.tP h.sch (a:=a) (b:=b) (by unfold maxLen; omega) (by unfold maxLen; omega)
 rw [aBp h.lG (by unfold maxLen; omega) (by unfold maxLen; omega)] at this
 cases hr:cA l a b with
 | none=>rw [hr] at this; exact ⟨rx0,this⟩
 | some r=>rw [hr] at this; exact ⟨r.rx,this⟩
def j5 (l:List TM) (b:B8) (s:Sub):Bool:=(cA l s.1 b).isNone || decide (s.2.2≠[])
def xB (l:List TM) (typ:B8) (x:cV):Int:=match cA l typ x.2.1 with
 | none=>12
 | some a=>if a.aR.length=0 then 13 else if a.aR.any (j5 l x.2.2) then 13 else 0
theorem a02 {α : Type} {p : α → Bool} {l : List α} {k : Nat} {x : α} (h : l[k]? = some x) (hp : p x = true) : l.any p = true:=List.any_eq_true.2 ⟨x,zyx h,hp⟩
theorem a50 {α : Type} {p : α → Bool} {l : List α} {k : Nat} {x : α} (h : l[k]? = some x) (hk : (l.take k).any p = false) (hp : p x = false) : (l.take (k + 1)).any p = false:=by
 rw [kG h,List.any_append,hk]
 simp [hp]
set_option maxHeartbeats 1600000 in
theorem b11 {typ:B8} {x:cV} (h:rO n l k mk w) (ht:typ.length≤1000) (hx:x.2.1.length≤1000∧x.2.2.length≤1000) :
  Calls Try.prog 54 #[.pointer (some ⟨n+3,0,none⟩),.string ⟨⟨typ⟩⟩,.agg #[.int .i64 x.1,.string ⟨⟨x.2.1⟩⟩,.string ⟨⟨x.2.2⟩⟩]] w fun e w'=>e = .returned (.int .i64 (xB l typ x))∧dU w w':=by
 obtain ⟨kd,A,B⟩:=x
 dsimp only at hx ⊢
 have hn:=h.lt
 have h1:=h.jI (aK w (.cells #[.int .i64 kd,.string ⟨⟨A⟩⟩,.string ⟨⟨B⟩⟩] 78))
 have hs1:=aK w (.cells #[.int .i64 kd,.string ⟨⟨A⟩⟩,.string ⟨⟨B⟩⟩] 78)
 unfold xB
 dsimp only
 cases hr:cA l typ A with
 | none =>
  have hc:=h1.aNc ht hx.1 hr
  go_enter Try.func54,Try.ntmps54
  go_wp2_with (go_at_call 18; refine hc.mono ?_; rintro e w5 ⟨rfl,hs5⟩)
  go_ret
  exact ⟨rfl,(hs1.trans hs5).trans (aK _ _)⟩
 | some r =>
  have hc:=h1.aNd ht hx.1 hr
  have hsub:=(h.short hr).2.1
  have hsl:=(h.short hr).1.1
  have hrows:=(h.ok hr).s
  obtain ⟨rn,aR,rsteps,sa,sc,xa,xc⟩:=r
  dsimp only at hc hsub hsl hrows ⊢
  by_cases h0:aR.length=0
  ·have h0':((aR.length:Int) == 0)=true:=by simp [h0]
   rw [if_pos h0]
   go_enter Try.func54,Try.ntmps54
   go_wp2_with (go_at_call 18; refine hc.mono ?_; rintro e w5 ⟨rfl,hs5⟩)
   go_ret
   exact ⟨rfl,(hs1.trans hs5).trans (aK _ _)⟩
  ·have h0':((aR.length:Int) == 0)=false:=by simpa using h0
   rw [if_neg h0]
   obtain ⟨R,hR⟩:∃ R:Int,(if aR.any (j5 l B)=true then (13:Int) else 0)=R:=⟨_,rfl⟩
   rw [hR]
   have hR1:aR.any (j5 l B)=true→R=13:=fun e=>by rw [← hR,e]; rfl
   have hR0:aR.any (j5 l B)=false→R=0:=fun e=>by rw [← hR,e]; rfl
   clear hR
   obtain ⟨y,hy⟩:∃ y,y=w.heap.size:=⟨_,rfl⟩
   obtain ⟨X,hX⟩:∃ X,X=w.alloc (.cells #[.int .i64 kd,.string ⟨⟨A⟩⟩,.string ⟨⟨B⟩⟩] 78):=⟨_,rfl⟩
   have hXB : X.heap[y]? = some (.cells #[.int .i64 kd,.string ⟨⟨A⟩⟩,.string ⟨⟨B⟩⟩] 78 (0,0)):=by rw [hX,hy]; exact heap_alloc_new _ _
   have hyX:y < X.heap.size:=(zsz.1 hXB).1
   go_enter Try.func54,Try.ntmps54
   go_wp2_with (go_at_call 18; refine hc.mono ?_; rintro e w5 ⟨rfl,hs5⟩)
   rw [← hX] at hs1 hs5 h1
   rw [← hy]
   obtain ⟨V,hV⟩:∃ V,V=w5.alloc (.cells #[.string ⟨⟨rn⟩⟩,.slice sa aR.length sc,.slice xa rsteps.length xc] 32):=⟨_,rfl⟩
   have hsV:dU X V:=by rw [hV]; exact hs5.trans (aK _ _)
   rw [← hV]
   clear hV hX hy hc
   go_loopw [30] (fun i wr=>∃ k:Nat,k≤aR.length∧i = .int .i64 k∧dU X wr∧(aR.take k).any (j5 l B)=false) (fun i _=>aR.length - (iG i).toNat)
   case atStart=>exact ⟨0,Nat.zero_le _,rfl,hsV,rfl⟩
   case round =>
    obtain ⟨j,hj,rfl,hsr,hany⟩:=hrel
    have hj0:(0:Int)≤(j:Int):=zrz _
    by_cases hjn:j < aR.length
    ·have hj1:(j:Int) < (aR.length:Int):=by omega
     obtain ⟨s,hs⟩:=hU hjn
     have hsm:=hsub s (zyx hs)
     obtain ⟨b,off,rfl,hb,d0,d1,d2⟩:=(hrows.fV ((hs1.trans hsr).fV (by omega))).aDl (nE hs)
     have hbr:b < wr.heap.size:=by have:=(hs1.trans hsr).size; omega
     have e2 : wr.cell? ⟨y,2,none⟩ = some (.string ⟨⟨B⟩⟩):=hsr.cell (Lib.cell_of_heap hXB ..)
     have hyr:y < wr.heap.size:=by have:=hsr.size; omega
     obtain ⟨st,si,sr⟩:=s
     dsimp only at d0 d1 d2 hsm
     obtain ⟨q,hq⟩:=((h1.jI hsr).jI (aK wr (.cells #[.string ⟨⟨st⟩⟩,.string ⟨⟨si⟩⟩,.string ⟨⟨sr⟩⟩] 34))).tP (a:=st) (b:=B) hsm.1 hx.2
     have hsr2:=hsr.trans (aK wr (.cells #[.string ⟨⟨st⟩⟩,.string ⟨⟨si⟩⟩,.string ⟨⟨sr⟩⟩] 34))
     obtain ⟨z,hz⟩:∃ z,z=wr.heap.size:=⟨_,rfl⟩
     obtain ⟨Z,hZ⟩:∃ Z,Z=wr.alloc (.cells #[.string ⟨⟨st⟩⟩,.string ⟨⟨si⟩⟩,.string ⟨⟨sr⟩⟩] 34):=⟨_,rfl⟩
     have hZB : Z.heap[z]? = some (.cells #[.string ⟨⟨st⟩⟩,.string ⟨⟨si⟩⟩,.string ⟨⟨sr⟩⟩] 34 (0,0)):=by rw [hZ,hz]; exact heap_alloc_new _ _
     have hZ2 : Z.cell? ⟨z,2,none⟩ = some (.string ⟨⟨sr⟩⟩):=Lib.cell_of_heap hZB ..
     clear hZB
     cases ho:(cA l st B).isSome
     ·rw [ho] at hq
      have hbad:j5 l B (st,si,sr)=true:=by
       unfold j5
       cases hh:cA l st B with
       | none=>rfl
       | some _=>rw [hh] at ho; cases ho
      obtain rfl:=hR1 (a02 hs hbad)
      go_wp2_with (go_at_call 18; refine hq.mono ?_; rintro e w6 ⟨rfl,hs6⟩)
      go_ret
      exact ⟨rfl,hs1.trans ((hsr2.trans hs6).trans (aK _ _))⟩
     ·rw [ho] at hq
      rw [← hZ] at hsr2
      by_cases he:sr=[]
      ·subst he
       have hbad:j5 l B (st,si,[])=false:=by
        unfold j5
        cases hh:cA l st B with
        | none=>rw [hh] at ho; cases ho
        | some _=>rfl
       go_wp2_with (go_at_call 18; refine hq.mono ?_; rintro e w6 ⟨rfl,hs6⟩; rw [← hZ] at hs6; have hz6:=hs6.cell hZ2; rw [hz] at hz6; have hz7:=pN hz6; dsimp only at hz7)
       exact ⟨⟨j+1,by omega,by simp,(hsr2.trans hs6).trans (aK _ _),a50 hs hany hbad⟩,by simp [iG]; omega⟩
      ·have hbad:j5 l B (st,si,sr)=true:=by
        unfold j5
        simp [he]
       obtain rfl:=hR1 (a02 hs hbad)
       have hne:sr.isEmpty=false:=by simpa using he
       go_wp2_with (go_at_call 18; refine hq.mono ?_; rintro e w6 ⟨rfl,hs6⟩; rw [← hZ] at hs6; have hz6:=hs6.cell hZ2; rw [hz] at hz6; have hz7:=pN hz6; dsimp only at hz7)
       go_ret
       exact ⟨rfl,hs1.trans ((hsr2.trans hs6).trans (aK _ _))⟩
    ·have hj1:¬ (j:Int) < (aR.length:Int):=by omega
     have:aR.take j=aR:=List.take_of_length_le (by omega)
     rw [this] at hany
     obtain rfl:=hR0 hany
     go_wp2
     go_ret
     exact ⟨rfl,hs1.trans hsr⟩
end Go.Fbs

namespace Go.Fbs
open Go.Proofs Go.RowKit Go.Maps
variable {n k:Nat} {l:List TM} {mk:Lit→Option Nat} {w w':World}
def rE (l:List TM) (s:Sub):Bool:=!a1d l s.1 || (decide (s.2.2≠[]) && (cA l s.1 s.2.2).isNone)
def iM (l:List TM) (typ:B8) (x:cV):Int:=if x.1=2 then xB l typ x else if (cA l typ x.2.1).isNone && decide (x.1=1) then 12 else 0
def lH (l:List TM) (typ:B8):List cV→Int
 | []=>0
 | x::r=>if iM l typ x=0 then lH l typ r else iM l typ x
def kH (l:List TM) (typ:B8) (r:RM):Int:=if r.aR.any (rE l) then 12 else lH l typ r.steps
theorem aJl {typ : B8} : ∀ {xs : List cV} {j : Nat} {x : cV},xs[j]? = some x → (∀ y ∈ xs.take j,iM l typ y = 0) → iM l typ x ≠ 0 → lH l typ xs = iM l typ x
 | y::xs,0,x,h,_,hx=>by
  simp only [zux,zzz] at h
  subst h
  unfold lH
  rw [if_neg hx]
 | y::xs,j+1,x,h,hy,hx=>by
  unfold lH
  rw [if_pos (hy y (by simp))]
  exact aJl (by simpa using h) (fun z hz=>hy z (by simp [hz])) hx
theorem aEp {typ:B8} : ∀ {xs:List cV},(∀ y ∈ xs,iM l typ y=0)→lH l typ xs=0
 | [],_=>rfl
 | y::xs,hy=>by
  unfold lH
  rw [if_pos (hy y (.head _))]
  exact aEp fun z hz=>hy z (.tail _ hz)
set_option maxHeartbeats 3200000 in
theorem b13 {typ:B8} {r:RM} (h:rO n l k mk w) (ht:typ.length≤1000) (hok:r.ok n w) (hsl:r.aR.length≤1000∧r.steps.length≤1000)
  (hsub:∀ s ∈ r.aR,s.1.length≤1000∧s.2.2.length≤1000) (hstp:∀ s ∈ r.steps,s.2.1.length≤1000∧s.2.2.length≤1000) :
  Calls Try.prog 32 #[.pointer (some ⟨n+3,0,none⟩),.string ⟨⟨typ⟩⟩,.agg #[.string ⟨⟨r.nm⟩⟩,.slice r.sa r.aR.length r.sc,.slice r.xa r.steps.length r.xc]] w fun e w'=>e = .returned (.int .i64 (kH l typ r))∧dU w w':=by
 have hn:=h.lt
 obtain ⟨hrows,hxrows⟩:=hok
 unfold kH
 obtain ⟨rn,aR,steps,sa,sc,xa,xc⟩:=r
 dsimp only at hsl hsub hstp hrows hxrows ⊢
 obtain ⟨R,hR⟩:∃ R:Int,(if aR.any (rE l)=true then (12:Int) else lH l typ steps)=R:=⟨_,rfl⟩
 rw [hR]
 have hR1:aR.any (rE l)=true→R=12:=fun e=>by rw [← hR,e]; rfl
 have hR0:aR.any (rE l)=false→R=lH l typ steps:=fun e=>by rw [← hR,e]; rfl
 clear hR
 obtain ⟨y,hy⟩:∃ y,y=w.heap.size:=⟨_,rfl⟩
 obtain ⟨X,hX⟩:∃ X,X=w.alloc (.cells #[.string ⟨⟨rn⟩⟩,.slice sa aR.length sc,.slice xa steps.length xc] 32):=⟨_,rfl⟩
 have hXB : X.heap[y]? = some (.cells #[.string ⟨⟨rn⟩⟩,.slice sa aR.length sc,.slice xa steps.length xc] 32 (0,0)):=by rw [hX,hy]; exact heap_alloc_new _ _
 have hyX:y < X.heap.size:=(zsz.1 hXB).1
 have hs1:dU w X:=by rw [hX]; exact aK _ _
 have h1:=h.jI hs1
 go_enter Try.func32,Try.ntmps32
 go_wp2
 rw [← hX,← hy]
 clear hX hy
 go_loopw [19] (fun i wr=>∃ k:Nat,k≤aR.length∧i = .int .i64 k∧dU X wr∧(aR.take k).any (rE l)=false) (fun i _=>aR.length - (iG i).toNat)
 case atStart=>exact ⟨0,Nat.zero_le _,rfl,dU.refl _,rfl⟩
 case round =>
  obtain ⟨j,hj,rfl,hsr,hany⟩:=hrel
  have hj0:(0:Int)≤(j:Int):=zrz _
  by_cases hjn:j < aR.length
  ·have hj1:(j:Int) < (aR.length:Int):=by omega
   obtain ⟨s,hs⟩:=hU hjn
   have hsm:=hsub s (zyx hs)
   obtain ⟨b,off,rfl,hb,d0,d1,d2⟩:=(hrows.fV ((hs1.trans hsr).fV (by omega))).aDl (nE hs)
   have hbr:b < wr.heap.size:=by have:=(hs1.trans hsr).size; omega
   obtain ⟨st,si,sr⟩:=s
   dsimp only at d0 d1 d2 hsm
   obtain ⟨q,hq⟩:=((h1.jI hsr).jI (aK wr (.cells #[.string ⟨⟨st⟩⟩,.string ⟨⟨si⟩⟩,.string ⟨⟨sr⟩⟩] 34))).tP (a:=st) (b:=sr) hsm.1 hsm.2
   have hsr2:=hsr.trans (aK wr (.cells #[.string ⟨⟨st⟩⟩,.string ⟨⟨si⟩⟩,.string ⟨⟨sr⟩⟩] 34))
   obtain ⟨z,hz⟩:∃ z,z=wr.heap.size:=⟨_,rfl⟩
   obtain ⟨Z,hZ⟩:∃ Z,Z=wr.alloc (.cells #[.string ⟨⟨st⟩⟩,.string ⟨⟨si⟩⟩,.string ⟨⟨sr⟩⟩] 34):=⟨_,rfl⟩
   have hZB : Z.heap[z]? = some (.cells #[.string ⟨⟨st⟩⟩,.string ⟨⟨si⟩⟩,.string ⟨⟨sr⟩⟩] 34 (0,0)):=by rw [hZ,hz]; exact heap_alloc_new _ _
   have hZ0 : Z.cell? ⟨z,0,none⟩ = some (.string ⟨⟨st⟩⟩):=Lib.cell_of_heap hZB ..
   have hZ2 : Z.cell? ⟨z,2,none⟩ = some (.string ⟨⟨sr⟩⟩):=Lib.cell_of_heap hZB ..
   clear hZB
   have hse:rE l (st,si,sr)=(!a1d l st || (decide (sr≠[]) && (cA l st sr).isNone)):=rfl
   have hio:(cA l st sr).isNone = !(cA l st sr).isSome:=by cases cA l st sr <;> rfl
   rw [hio] at hse
   generalize (cA l st sr).isSome=ok at hq hse
   go_wp2_with (go_at_call 18; refine hq.mono ?_; rintro e w6 ⟨rfl,hs6⟩)
   rw [← hZ] at hs6 hsr2
   rw [← hz]
   obtain ⟨V,hV⟩:∃ V,V=w6.alloc (.cells #[.string ⟨⟨q.nm⟩⟩,.slice q.sa q.sn q.sc,.slice q.xa q.xn q.xc] 32):=⟨_,rfl⟩
   have hsV:dU Z V:=by rw [hV]; exact hs6.trans (aK _ _)
   rw [← hV]
   clear hV hZ hz hq d0 d1 d2
   have hXV:=hsr2.trans hsV
   have hT:=(((h1.jI hXV).sch).jI (eZ V)).typ (a:=st) (by unfold maxLen; omega)
   rw [bCs h.lG] at hT
   have hC0:=((h1.jI hXV).sch).c0
   have f0:=hsV.cell hZ0
   have f2:=hsV.cell hZ2
   cases hh:a1d l st
   ·rw [hh,if_neg (by decide),show (none:Option Int).getD 0=0 from rfl] at hT
    obtain rfl:=hR1 (a02 hs (by rw [hse,hh]; rfl))
    go_region
    go_wp2
    go_ret
    exact ⟨rfl,hs1.trans (hXV.trans (eZ _))⟩
   ·rw [hh,if_pos rfl,show (some (1:Int)).getD 0=1 from rfl] at hT
    by_cases he:sr=[]
    ·subst he
     have hbad:rE l (st,si,[])=false:=by rw [hse,hh]; rfl
     go_region
     go_wp2
     exact ⟨⟨j+1,by omega,by simp,hXV.trans (eZ _),a50 hs hany hbad⟩,by simp [iG]; omega⟩
    ·have hne:sr.isEmpty=false:=by simpa using he
     cases ok
     ·obtain rfl:=hR1 (a02 hs (by rw [hse,hh]; simp [he]))
      go_region
      go_wp2
      go_ret
      exact ⟨rfl,hs1.trans (hXV.trans (eZ _))⟩
     ·have hbad:rE l (st,si,sr)=false:=by rw [hse,hh]; simp
      go_region
      go_wp2
      exact ⟨⟨j+1,by omega,by simp,hXV.trans (eZ _),a50 hs hany hbad⟩,by simp [iG]; omega⟩
  ·have hj1:¬ (j:Int) < (aR.length:Int):=by omega
   have:aR.take j=aR:=List.take_of_length_le (by omega)
   rw [this] at hany
   have hRe:=hR0 hany
   clear hR1 hR0 hany this hsub hrows
   have e2 : wr.cell? ⟨y,2,none⟩ = some (.slice xa steps.length xc):=hsr.cell (Lib.cell_of_heap hXB ..)
   have hyr:y < wr.heap.size:=by have:=hsr.size; omega
   go_wp2
   clear e2 hyr hj1 hj0 hj hjn
   obtain ⟨wa,hwa⟩:∃ wa,wa=wr:=⟨_,rfl⟩
   rw [← hwa] at hsr ⊢
   clear hwa
   go_loopw [53] (fun i wr=>∃ k:Nat,k≤steps.length∧i = .int .i64 k∧dU X wr∧∀ y ∈ steps.take k,iM l typ y=0) (fun i _=>steps.length - (iG i).toNat)
   case atStart=>exact ⟨0,Nat.zero_le _,rfl,hsr,fun y hy=>by cases hy⟩
   case round =>
    clear hsr
    obtain ⟨j,hj,rfl,hsr,hany⟩:=hrel
    have hj0:(0:Int)≤(j:Int):=zrz _
    by_cases hjn:j < steps.length
    ·have hj1:(j:Int) < (steps.length:Int):=by omega
     obtain ⟨s,hs⟩:=hU hjn
     have hsm:=hstp s (zyx hs)
     obtain ⟨b,off,rfl,hb,d0,d1,d2⟩:=(hxrows.fV ((hs1.trans hsr).fV (by omega))).aDl (nE hs)
     have hbr:b < wr.heap.size:=by have:=(hs1.trans hsr).size; omega
     have hbad:=aJl hs hany
     have hnext:iM l typ s=0→∀ y ∈ steps.take (j+1),iM l typ y=0:=fun e y hy=>by
      rw [kG hs,List.mem_append,List.mem_singleton] at hy
      rcases hy with hy | rfl
      ·exact hany y hy
      ·exact e
     obtain ⟨kd,A,B⟩:=s
     dsimp only at d0 d1 d2 hsm
     have hsr2:=hsr.trans (aK wr (.cells #[.int .i64 kd,.string ⟨⟨A⟩⟩,.string ⟨⟨B⟩⟩] 78))
     obtain ⟨z,hz⟩:∃ z,z=wr.heap.size:=⟨_,rfl⟩
     obtain ⟨Z,hZ⟩:∃ Z,Z=wr.alloc (.cells #[.int .i64 kd,.string ⟨⟨A⟩⟩,.string ⟨⟨B⟩⟩] 78):=⟨_,rfl⟩
     have hZB : Z.heap[z]? = some (.cells #[.int .i64 kd,.string ⟨⟨A⟩⟩,.string ⟨⟨B⟩⟩] 78 (0,0)):=by rw [hZ,hz]; exact heap_alloc_new _ _
     have hZ0 : Z.cell? ⟨z,0,none⟩ = some (.int .i64 kd):=Lib.cell_of_heap hZB ..
     clear hZB
     by_cases hk2:kd=2
     ·subst hk2
      have hq:=b11 (typ:=typ) (x:=(2,A,B)) ((h1.jI hsr).jI (aK wr (.cells #[.int .i64 2,.string ⟨⟨A⟩⟩,.string ⟨⟨B⟩⟩] 78))) ht hsm
      have hse:iM l typ (2,A,B)=xB l typ (2,A,B):=if_pos rfl
      rw [hse] at hbad hnext
      dsimp only at hq
      generalize xB l typ (2,A,B)=e54 at hq hbad hnext
      by_cases h54:e54=0
      ·subst h54
       go_wp2_with (go_at_call 54; refine hq.mono ?_; rintro e w6 ⟨rfl,hs6⟩)
       rw [← hZ] at hs6 hsr2
       exact ⟨⟨j+1,by omega,by simp,hsr2.trans hs6,hnext trivial⟩,by simp [iG]; omega⟩
      ·have hne:(e54 == 0)=false:=by simpa using h54
       have hRe2:=hRe.trans (hbad h54)
       clear hRe hbad hnext
       subst hRe2
       go_wp2_with (go_at_call 54; refine hq.mono ?_; rintro e w6 ⟨rfl,hs6⟩)
       rw [← hZ] at hs6 hsr2
       go_ret
       exact ⟨rfl,hs1.trans (hsr2.trans hs6)⟩
     ·have hkb:(kd == 2)=false:=by simpa using hk2
      obtain ⟨q,hq⟩:=((h1.jI hsr).jI (aK wr (.cells #[.int .i64 kd,.string ⟨⟨A⟩⟩,.string ⟨⟨B⟩⟩] 78))).tP (a:=typ) (b:=A) ht hsm.1
      have hse:iM l typ (kd,A,B)=if (cA l typ A).isNone && decide (kd=1) then 12 else 0:=if_neg hk2
      have hio:(cA l typ A).isNone = !(cA l typ A).isSome:=by cases cA l typ A <;> rfl
      rw [hio] at hse
      generalize (cA l typ A).isSome=ok at hq hse
      cases ok
      ·by_cases hk1:kd=1
       ·subst hk1
        rw [show iM l typ (1,A,B)=12 from hse] at hbad
        have hRe2:=hRe.trans (hbad (by decide))
        clear hRe hbad hnext
        subst hRe2
        go_wp2_with (go_at_call 18; refine hq.mono ?_; rintro e w6 ⟨rfl,hs6⟩; rw [← hZ] at hs6; have hz6:=hs6.cell hZ0; rw [hz] at hz6; have hz7:=pN hz6; dsimp only at hz7)
        rw [← hZ] at hsr2
        go_ret
        exact ⟨rfl,hs1.trans ((hsr2.trans hs6).trans (aK _ _))⟩
       ·have hkb1:(kd == 1)=false:=by simpa using hk1
        have e0:iM l typ (kd,A,B)=0:=by rw [hse]; simp [hk1]
        go_wp2_with (go_at_call 18; refine hq.mono ?_; rintro e w6 ⟨rfl,hs6⟩; rw [← hZ] at hs6; have hz6:=hs6.cell hZ0; rw [hz] at hz6; have hz7:=pN hz6; dsimp only at hz7)
        rw [← hZ] at hsr2
        exact ⟨⟨j+1,by omega,by simp,(hsr2.trans hs6).trans (aK _ _),hnext e0⟩,by simp [iG]; omega⟩
      ·have e0:iM l typ (kd,A,B)=0:=by rw [hse]; rfl
       go_wp2_with (go_at_call 18; refine hq.mono ?_; rintro e w6 ⟨rfl,hs6⟩)
       rw [← hZ] at hs6 hsr2
       exact ⟨⟨j+1,by omega,by simp,(hsr2.trans hs6).trans (aK _ _),hnext e0⟩,by simp [iG]; omega⟩
    ·have hj1:¬ (j:Int) < (steps.length:Int):=by omega
     have:steps.take j=steps:=List.take_of_length_le (by omega)
     rw [this] at hany
     have hRe2:=hRe.trans (aEp hany)
     clear hRe
     subst hRe2
     go_wp2
     go_ret
     exact ⟨rfl,hs1.trans hsr⟩
end Go.Fbs

namespace Go.Fbs
open Go.Proofs Go.RowKit Go.Maps
variable {n k:Nat} {l:List TM} {mk:Lit→Option Nat} {w w':World}
abbrev Wy:=B8×B8×Nat
def a52 (q:Wy):List Value:=[.string ⟨⟨q.1⟩⟩,.string ⟨⟨q.2.1⟩⟩,.int .i64 (q.2.2:Int)]
def kV (ws:List Wy):List Value:=ws.flatMap a52
theorem a5j:∀ l:List Wy,(kV l).length=l.length*3
 | []=>rfl
 | q::l=>by
  have:=a5j l
  have e:kV (q::l)=a52 q++kV l:=rfl
  rw [e,zwy,this,zwx,show (a52 q).length=3 from rfl]
  omega
theorem aG9 (a b:List Wy):kV (a++b)=kV a++kV b:=by simp [kV]
theorem aHa (ws:List Wy):∀ u ∈ kV ws,u.oneCell'=true:=by
 intro u hu
 obtain ⟨q,_,hq⟩:=List.mem_flatMap.1 hu
 simp only [a52,List.mem_cons,List.not_mem_nil,or_false] at hq
 rcases hq with rfl | rfl | rfl <;> rfl
theorem a8e : ∀ {ws : List Wy} {i : Nat} {q : Wy},ws[i]? = some q → (kV ws)[i * 3]? = some (.string ⟨⟨q.1⟩⟩) ∧ (kV ws)[i * 3 + 1]? = some (.string ⟨⟨q.2.1⟩⟩) ∧ (kV ws)[i * 3 + 2]? = some (.int .i64 (q.2.2 : Int))
 | x::ws,0,q,h=>by
  simp only [zux,zzz] at h
  subst h
  exact ⟨rfl,rfl,rfl⟩
 | x::ws,i+1,q,h=>by
  obtain ⟨h1,h2,h3⟩:=a8e (ws:=ws) (i:=i) (by simpa using h)
  have e : ∀ j,(kV (x :: ws))[(i + 1) * 3 + j]? = (kV ws)[i * 3 + j]?:=fun j=>by
   show (a52 x ++ kV ws)[_]? = _
   rw [ztx (by simp [a52]; omega)]
   congr 1
   simp only [a52,zwx,List.length_nil]; omega
  exact ⟨(e 0).trans h1,(e 1).trans h2,(e 2).trans h3⟩
def jN (base:Nat) (w:World) (v:Value) (ws:List Wy):Prop:=w.ownsRow base 126 3 v ws.length (kV ws)
theorem Try.a7f : (Try.prog.info? 126).map (fun i=>(i.zero,i.size,i.bytes)) = some (some (.agg #[.string ⟨#[]⟩,.string ⟨#[]⟩,.int .i64 0]),3,40):=by kernel_rfl
theorem aU5 (w : World) (a b : ByteArray) (k : Int) : ∀ j u,[Value.string a,.string b,.int .i64 k][j]? = some u → (w.alloc (.cells #[.string a,.string b,.int .i64 k] 126)).cell? ((⟨w.heap.size,0,none⟩ : Addr).add j) = some u:=fun j u hj=>by
 match j,hj with
 | 0,hj=>cases hj; go_simp
 | 1,hj=>cases hj; go_simp
 | 2,hj=>cases hj; go_simp
theorem sR {w:World} {base:Nat} {e:TypeId} {size n:Nat} {v:Value} {xs:List Value} (h:w.ownsRow base e size v n xs) (h0:n≠0):∃ g cp,v = .slice (some ⟨g,0,none⟩) n cp∧base≤g∧g < w.heap.size∧n≤cp:=by
 obtain ⟨_,h2⟩:=h
 rcases h2 with ⟨rfl,h⟩ | ⟨g',cap',cur,rfl,h1,h2,h3,_⟩
 ·exact absurd h h0
 ·exact ⟨_,_,rfl,h1,(zsz.1 h2).1,h3⟩
theorem yV {w:World} {base:Nat} {e:TypeId} {size n:Nat} {v:Value} {xs:List Value} (h:w.ownsRow base e size v n xs):∃ ad cp,v = .slice ad n cp:=by
 obtain ⟨_,h2⟩:=h
 rcases h2 with ⟨rfl,rfl⟩ | ⟨g',cap',cur,rfl,_⟩
 ·exact ⟨none,0,rfl⟩
 ·exact ⟨_,_,rfl⟩
theorem j6 {w w':World} {base:Nat} {e:TypeId} {size n:Nat} {v:Value} {xs:List Value} (h:w.ownsRow base e size v n xs) (hs:dU w w'):w'.ownsRow base e size v n xs:=by
 obtain ⟨h1,h2⟩:=h
 refine ⟨h1,?_⟩
 rcases h2 with h2 | ⟨g,cap,cur,hv,hg,hh,hr⟩
 ·exact .inl h2
 ·exact .inr ⟨g,cap,cur,hv,hg,(hs.same g (zsz.1 hh).1).trans hh,hr⟩
theorem zL {w:World} {base base':Nat} {e:TypeId} {size n:Nat} {v:Value} {xs:List Value} (h:w.ownsRow base e size v n xs) (hb:base'≤base):w.ownsRow base' e size v n xs:=by
 obtain ⟨h1,h2⟩:=h
 refine ⟨h1,?_⟩
 rcases h2 with h2 | ⟨g,cap,cur,hv,hg,hh,hr⟩
 ·exact .inl h2
 ·exact .inr ⟨g,cap,cur,hv,by omega,hh,hr⟩
def qC (l:List TM) (typ a:B8):List Sub:=match cA l typ a with | none=>[] | some r=>r.aR
def jR (l:List TM) (typ:B8) (x:cV):List Wy:=if x.1=1 then [(typ,x.2.1,0)] else (qC l typ x.2.1).map fun s=>(s.1,x.2.2,0)
set_option maxHeartbeats 1600000 in
theorem b5g {typ:B8} {x:cV} (h:rO n l k mk w) (ht:typ.length≤1000) (hx:x.2.1.length≤1000∧x.2.2.length≤1000) :
  Calls Try.prog 80 #[.pointer (some ⟨n+3,0,none⟩),.string ⟨⟨typ⟩⟩,.agg #[.int .i64 x.1,.string ⟨⟨x.2.1⟩⟩,.string ⟨⟨x.2.2⟩⟩]] w fun e w'=>dU w w'∧∃ v,e = .returned v∧jN w.heap.size w' v (jR l typ x):=by
 obtain ⟨i0,hi,hz0,hz1,hz2⟩:=info_parts Try.a7f
 obtain ⟨kd,A,B⟩:=x
 dsimp only at hx ⊢
 have hn:=h.lt
 have h1:=h.jI (aK w (.cells #[.int .i64 kd,.string ⟨⟨A⟩⟩,.string ⟨⟨B⟩⟩] 78))
 have hs1:=aK w (.cells #[.int .i64 kd,.string ⟨⟨A⟩⟩,.string ⟨⟨B⟩⟩] 78)
 unfold jR
 dsimp only
 by_cases hk1:kd=1
 ·subst hk1
  rw [if_pos rfl]
  go_enter Try.func80,Try.ntmps80
  go_wp2
  go_ret
  refine ⟨hs1.trans (aK _ _),_,rfl,?_⟩
  have:=World.ownsRow_lit (base:=w.heap.size) (e:=126) (size:=3) (w.alloc (.cells #[.int .i64 1,.string ⟨⟨A⟩⟩,.string ⟨⟨B⟩⟩] 78)) #[.string ⟨⟨typ⟩⟩,.string ⟨⟨A⟩⟩,.int .i64 0] 1 (by simp) (by unfold maxLen; omega) rfl
  simpa [jN,kV,a52] using this
 ·have hkb:(kd == 1)=false:=by simpa using hk1
  rw [if_neg hk1]
  have hex:∃ r:RX,(∃ rs,qC l typ A=rs∧r.sn=rs.length∧rs.length≤1000∧(∀ s ∈ rs,s.1.length≤1000)∧(rs=[]∨nW n w r.sa 3 (rs.map a0d)))∧Calls Try.prog 18 #[.pointer (some ⟨n+3,0,none⟩),.string ⟨⟨typ⟩⟩,.string ⟨⟨A⟩⟩] (w.alloc (.cells #[.int .i64 kd,.string ⟨⟨A⟩⟩,.string ⟨⟨B⟩⟩] 78)) fun e w'=>e = .returned (.tuple #[.agg #[.string ⟨⟨r.nm⟩⟩,.slice r.sa r.sn r.sc,.slice r.xa r.xn r.xc],.bool (cA l typ A).isSome])∧dU (w.alloc (.cells #[.int .i64 kd,.string ⟨⟨A⟩⟩,.string ⟨⟨B⟩⟩] 78)) w':=by
   unfold qC
   cases hr:cA l typ A with
   | none=>exact ⟨rx0,⟨[],rfl,rfl,by simp,by simp,.inl rfl⟩,h1.aNc ht hx.1 hr⟩
   | some r=>exact ⟨r.rx,⟨_,rfl,rfl,(h.short hr).1.1,fun s hs=>((h.short hr).2.1 s hs).1,.inr (h.ok hr).s⟩,h1.aNd ht hx.1 hr⟩
  obtain ⟨⟨rn,sa,sn,sc,xa,xn,xc⟩,⟨aR,hsub,rfl,hsl,hsm,hrows⟩,hc⟩:=hex
  rw [hsub]
  clear hsub
  dsimp only at hc hrows
  generalize (cA l typ A).isSome=ok at hc
  obtain ⟨y,hy⟩:∃ y,y=w.heap.size:=⟨_,rfl⟩
  obtain ⟨X,hX⟩:∃ X,X=w.alloc (.cells #[.int .i64 kd,.string ⟨⟨A⟩⟩,.string ⟨⟨B⟩⟩] 78):=⟨_,rfl⟩
  have hXB : X.heap[y]? = some (.cells #[.int .i64 kd,.string ⟨⟨A⟩⟩,.string ⟨⟨B⟩⟩] 78 (0,0)):=by rw [hX,hy]; exact heap_alloc_new _ _
  have hyX:y < X.heap.size:=(zsz.1 hXB).1
  go_enter Try.func80,Try.ntmps80
  go_wp2_with (go_at_call 18; refine hc.mono ?_; rintro e w5 ⟨rfl,hs5⟩)
  rw [← hX] at hs1 hs5 h1
  rw [← hy] at *
  obtain ⟨V,hV⟩:∃ V,V=w5.alloc (.cells #[.string ⟨⟨rn⟩⟩,.slice sa aR.length sc,.slice xa xn xc] 32):=⟨_,rfl⟩
  have hsV:dU X V:=by rw [hV]; exact hs5.trans (aK _ _)
  rw [← hV]
  clear hV hX hc
  have hnil:V.ownsRow X.heap.size 126 3 (.slice none 0 0) 0 []:=World.ownsRow_nil _ _ _ _
  go_loopw [7,32] (fun v i wr=>∃ k:Nat,k≤aR.length∧i = .int .i64 k∧dU X wr∧∃ ad cp,v = .slice ad k cp∧jN X.heap.size wr v ((aR.take k).map fun s=>(s.1,B,0))) (fun _ i _=>aR.length - (iG i).toNat)
  case atStart=>exact ⟨0,Nat.zero_le _,rfl,hsV,none,0,rfl,hnil⟩
  case round =>
   obtain ⟨j,hj,rfl,hsr,ad,cp,rfl,hown⟩:=hrel
   have hj0:(0:Int)≤(j:Int):=zrz _
   by_cases hjn:j < aR.length
   ·have hj1:(j:Int) < (aR.length:Int):=by omega
    obtain ⟨s,hs⟩:=hU hjn
    have hsm1:=hsm s (zyx hs)
    rcases hrows with rfl | hrows
    ·cases hs
    obtain ⟨b,off,rfl,hb,d0,d1,d2⟩:=(hrows.fV ((hs1.trans hsr).fV (by omega))).aDl (nE hs)
    have hbr:b < wr.heap.size:=by have:=(hs1.trans hsr).size; omega
    have hyr:y < wr.heap.size:=by have:=hsr.size; omega
    have e2 : wr.cell? ⟨y,2,none⟩ = some (.string ⟨⟨B⟩⟩):=hsr.cell (Lib.cell_of_heap hXB ..)
    obtain ⟨st,si,sr⟩:=s
    dsimp only at d0 d1 d2 hsm1
    have hlen:((aR.take j).map fun s=>((s.1,B,0):Wy)).length=j:=by simp; omega
    unfold jN at hown
    rw [hlen] at hown
    have hXr:=hsr.size
    go_wp2_with (first
     | (at_builtin; (refine wpList_append_lies _ rfl _ _ 123 rfl X.heap.size 126 i0 _ 3 40 Try.underlying123 hi hz0 hz1 hz2 rfl (by decide) _ _ _ rfl ((hown.alloc _).alloc _) ⟨wr.heap.size+1,0,none⟩ 1 1 [.string ⟨⟨st⟩⟩,.string ⟨⟨B⟩⟩,.int .i64 0] rfl rfl (by simpa using aU5 (wr.alloc _) ⟨⟨st⟩⟩ ⟨⟨B⟩⟩ 0) (by intro u hu; simp at hu; rcases hu with rfl | rfl | rfl <;> rfl) (by decide) (by unfold maxLen; omega) (by omega) (by simp; omega) (wr.heap.size+2) (by simp) ?_; intro g cp' w2 hown' hgrow hat hlt))
     | go_in)
    have hs2:dU X w2:=by
     refine ⟨hgrow.os.trans hsr.os,hgrow.output.trans hsr.output,?_,fun q hq=>?_⟩
     ·have h1:=hgrow.size
      have h2:=hsr.size
      simp at h1
      omega
     ·have hq2:q < wr.heap.size:=by have:=hsr.size; omega
      refine ((hgrow.block q (by simp; omega) fun e=>?_).trans ((heap_alloc_old _ _ (by simp; omega)).trans (heap_alloc_old _ _ hq2))).trans (hsr.same q hq)
      have:=(hown.lt q e.symm).1
      omega
    go_wp2
    refine ⟨⟨j+1,by omega,by simp,hs2,some ⟨g,0,none⟩,cp',rfl,?_⟩,by simp [iG]; omega⟩
    unfold jN
    rw [kG hs,List.map_append,zwy,hlen,aG9]
    exact hown'
   ·have hj1:¬ (j:Int) < (aR.length:Int):=by omega
    obtain rfl:j=aR.length:=by omega
    rw [List.take_length] at hown
    go_wp2
    go_ret
    exact ⟨hs1.trans hsr,_,rfl,zL hown (by have:=hs1.size; omega)⟩
end Go.Fbs

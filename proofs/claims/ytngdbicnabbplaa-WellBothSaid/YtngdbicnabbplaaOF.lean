/- A relation is read: the walk over its subjects. -/
import Derived.Test.YtngdbicnabbplaaPS
import Derived.Test.YtngdbicnabbplaaPE
set_option linter.unusedSimpArgs false
set_option linter.unusedVariables false
set_option linter.unusedSectionVars false
set_option maxRecDepth 100000
namespace Go.Fbs
open Go.Proofs Go.RowKit Go.Maps
attribute [local irreducible] bW cC opt kQ
variable {w w' w2 wr:World} {B t2 t3:Nat} {κ κ' κr:Ctx} {m m' mr:Hp} {s s' t t':aY} {a:List UInt8} {l:List Sub} {ad:Option Addr} {cp:Nat}
structure RI (w:World) (κ:Ctx) (B t2 t3:Nat) (a:List UInt8) (wr:World) (κr:Ctx) (mr:Hp) (t:aY) (l:List Sub) (ad:Option Addr) (cp:Nat):Prop where
 rd:iQ wr B κr mr t
 since:cD w.heap.size κ w κr wr
 k3 : wr.heap[t3]? = some (.cells #[.string ⟨⟨a⟩⟩,.slice ad l.length cp,.slice none 0 0] 32 (0,0))
 f3:lQ κr t3
 k2 : wr.heap[t2]? = some (.cells #[.string ⟨#[]⟩,.slice none 0 0,.slice none 0 0] 32 (0,0))
 f2:lQ κr t2
 own:wr.ownsRow w.heap.size 34 3 (.slice ad l.length cp) l.length (zO l)
 aAo:∀ b,(Value.slice ad l.length cp).ownBlock=some b→lQ κr b
 lo:w.heap.size≤t2∧t2 < t3
theorem pE {base n : Nat} {e : TypeId} {size : Nat} {v : Value} {xs : List Value} (h : wr.ownsRow base e size v n xs) (hs : ∀ b,v.ownBlock = some b → w2.heap[b]? = wr.heap[b]?) : w2.ownsRow base e size v n xs:=by
 obtain ⟨h1,h2⟩:=h
 refine ⟨h1,?_⟩
 rcases h2 with h2 | ⟨g,cap,cur,rfl,h3,h4,h5⟩
 ·exact .inl h2
 ·exact .inr ⟨g,cap,cur,rfl,h3,(hs g rfl).trans h4,h5⟩
theorem RI.ext (I:RI w κ B t2 t3 a wr κr mr t l ad cp) (x:Ext κr wr mr κ' w' m') (r:iQ w' B κ' m' t'):RI w κ B t2 t3 a w' κ' m' t' l ad cp:=by
 obtain ⟨g3,e3⟩:=qE I.k3 I.f3 x
 obtain ⟨g2,e2⟩:=qE I.k2 I.f2 x
 exact ⟨r,I.since.trans (cD.ext x I.since.size),g3,e3,g2,e2,pE I.own fun b hb=>((I.aAo b hb).ext (I.own.lt b hb).2 x).2,fun b hb=>((I.aAo b hb).ext (I.own.lt b hb).2 x).1,I.lo⟩
theorem RI.alloc (I:RI w κ B t2 t3 a wr κr mr t l ad cp) (o:Obj):RI w κ B t2 t3 a (wr.alloc o) κr mr t l ad cp :=
 ⟨I.rd.alloc o,I.since.trans (cD.alloc I.since.size o),(heap_alloc_old _ _ (zsz.1 I.k3).1).trans I.k3,I.f3,(heap_alloc_old _ _ (zsz.1 I.k2).1).trans I.k2,I.f2,I.own.alloc o,I.aAo,I.lo⟩
theorem a4f {b:Nat} (h:iQ wr B κr mr t) (hf:lQ κr b):b≠B:=fun e=>hf.2 (by rw [e]; exact h.b87)
theorem RI.next (I:RI w κ B t2 t3 a wr κr mr t l ad cp):∃ m',RI w κ B t2 t3 a (wr.setCell ⟨B,1,none⟩ (.int .i64 ((t.i:Int)+1))) κr m' (aE t) l ad cp:=by
 obtain ⟨m',h,_⟩:=I.rd.next
 exact ⟨m',h,I.since.trans (cD.aPc I.rd 1 _),(eN _ _ (a4f I.rd I.f3)).trans I.k3,I.f3,(eN _ _ (a4f I.rd I.f2)).trans I.k2,I.f2,pE I.own fun b hb=>eN _ _ (a4f I.rd (I.aAo b hb)),I.aAo,I.lo⟩
theorem RI.other (I:RI w κ B t2 t3 a wr κr mr t l ad cp) {b:Nat} (hf:lQ κr b) (hb:w.heap.size≤b) (h2:b≠t2) (h3:b≠t3) (hr:(Value.slice ad l.length cp).ownBlock≠some b) (o:Nat) (v:Value):RI w κ B t2 t3 a (wr.setCell ⟨b,o,none⟩ v) κr mr t l ad cp :=
 ⟨I.rd.grown (uX b o v) (fun b' e=>by cases e; exact hf),I.since.trans (cD.set I.since.size hb hf.1 o v),(eN _ _ (Ne.symm h3)).trans I.k3,I.f3,(eN _ _ (Ne.symm h2)).trans I.k2,I.f2,pE I.own fun b' hb'=>eN _ _ fun e=>hr (by rw [← e]; exact hb'),I.aAo,I.lo⟩
theorem RI.push {x:Sub} {g cp':Nat} (I:RI w κ B t2 t3 a wr κr mr t l ad cp) (hg:wr.grownBy w2 (Value.slice ad l.length cp).ownBlock) (hown:w2.ownsRow w.heap.size 34 3 (.slice (some ⟨g,0,none⟩) (l.length+1) cp') (l.length+1) (zO (l++[x]))) (hfg:(Value.slice ad l.length cp).ownBlock=some g∨wr.heap.size≤g) :
  RI w κ B t2 t3 a (w2.setCell ⟨t3,1,none⟩ (.slice (some ⟨g,0,none⟩) (l.length+1) cp')) κr mr t (l++[x]) (some ⟨g,0,none⟩) cp':=by
 have h3:t3 < wr.heap.size:=(zsz.1 I.k3).1
 have own_ne : ∀ b,(Value.slice ad l.length cp).ownBlock = some b → ∀ c E,wr.heap[b]? = some (.cells c E (0,0)) → E = 34:=fun b hb c E hc=>by
  rcases I.own.2 with ⟨h1,_⟩ | ⟨g',cap',cur,h1,_,h4,_⟩
  ·rw [h1] at hb; cases hb
  ·rw [h1] at hb; cases hb
   rw [h4] at hc; cases hc; rfl
 have n3:some t3≠(Value.slice ad l.length cp).ownBlock:=fun e=>by have:=own_ne t3 e.symm _ _ I.k3; cases this
 have n2:some t2≠(Value.slice ad l.length cp).ownBlock:=fun e=>by have:=own_ne t2 e.symm _ _ I.k2; cases this
 have k3:=(hg.block t3 h3 n3).trans I.k3
 have k2:=(hg.block t2 (zsz.1 I.k2).1 n2).trans I.k2
 have hgf:lQ κr g:=by
  rcases hfg with h | h
  ·exact I.aAo g h
  ·exact pD I.rd.mem h
 have hne:g≠t3:=by
  rcases hfg with h | h
  ·intro e; exact n3 (by rw [h,e])
  ·omega
 have hle:l.length+1=(l++[x]).length:=by simp
 have r2:=I.rd.grown hg fun b e=>I.aAo b e
 have s2:=I.since.trans (cD.grown hg I.since.size fun b e=>⟨(I.own.lt b e).1,(I.aAo b e).1⟩)
 refine ⟨r2.grown (uX _ _ _) (fun b e=>by cases e; exact I.f3),s2.trans (cD.set s2.size (by have:=I.lo; omega) I.f3.1 _ _),?_,I.f3,(eN _ _ (by have:=I.lo; omega)).trans k2,I.f2,?_,fun b hb=>by cases hb; exact hgf,I.lo⟩
 ·rw [uW 1 _ k3,hle]; rfl
 ·rw [← hle]
  exact pE hown fun b hb=>eN _ _ fun e=>by cases hb; exact hne e
theorem pF {w:World} {H:Nat} (hH:w.heap.size=H) (o:Obj):(w.alloc o).heap.size=H+1:=by rw [← hH]; simp
theorem RI.aIh {b d:List UInt8} {H g cp':Nat} (I:RI w κ B t2 t3 a wr κr mr t l ad cp) (hH:wr.heap.size=H) (hg:(wr.alloc (.cells #[.string ⟨⟨b⟩⟩,.string ⟨#[]⟩,.string ⟨⟨d⟩⟩] 34)).grownBy w2 (Value.slice ad l.length cp).ownBlock) (hown:w2.ownsRow w.heap.size 34 3 (.slice (some ⟨g,0,none⟩) (l.length+1) cp') (l.length+1) (zO l++a0d (b,[],d))) (hat:(Value.slice ad l.length cp).ownBlock=some g∨g=H+1) :
  RI w κ B t2 t3 a (w2.setCell ⟨t3,1,none⟩ (.slice (some ⟨g,0,none⟩) (l.length+1) cp')) κr mr t (l++[(b,[],d)]) (some ⟨g,0,none⟩) cp' :=
 (I.alloc _).push (x:=(b,[],d)) hg (by rw [b5z]; exact hown) (hat.imp id fun e=>by rw [e]; exact Nat.le_of_eq (pF hH _))
theorem RI.at3 (I : RI w κ B t2 t3 a wr κr mr t l ad cp) (hg : wr.grownBy w2 (Value.slice ad l.length cp).ownBlock) : w2.cell? ⟨t3,1,none⟩ = some (.slice ad l.length cp) ∧ ∀ o,w2.frozen? ⟨t3,o,none⟩ = false:=by
 have k3:=(hg.block t3 (zsz.1 I.k3).1 fun e=>by
  rcases I.own.2 with ⟨h1,_⟩ | ⟨g',cap',cur,h1,_,h4,_⟩
  ·rw [h1] at e; cases e
  ·rw [h1] at e; cases e
   have:=I.k3
   rw [h4] at this; cases this).trans I.k3
 exact ⟨Lib.cell_of_heap k3 ..,fun o=>Lib.frozen_of_heap k3 o⟩
theorem RI.c3 (I : RI w κ B t2 t3 a wr κr mr t l ad cp) : wr.cell? ⟨t3,0,none⟩ = some (.string ⟨⟨a⟩⟩) ∧ wr.cell? ⟨t3,1,none⟩ = some (.slice ad l.length cp) ∧ wr.cell? ⟨t3,2,none⟩ = some (.slice none 0 0) ∧ ∀ o,wr.frozen? ⟨t3,o,none⟩ = false :=
 ⟨Lib.cell_of_heap I.k3 ..,Lib.cell_of_heap I.k3 ..,Lib.cell_of_heap I.k3 ..,fun o=>Lib.frozen_of_heap I.k3 o⟩
theorem RI.c2 (I : RI w κ B t2 t3 a wr κr mr t l ad cp) : wr.cell? ⟨t2,0,none⟩ = some (.string ⟨#[]⟩) ∧ wr.cell? ⟨t2,1,none⟩ = some (.slice none 0 0) ∧ wr.cell? ⟨t2,2,none⟩ = some (.slice none 0 0) ∧ ∀ o,wr.frozen? ⟨t2,o,none⟩ = false :=
 ⟨Lib.cell_of_heap I.k2 ..,Lib.cell_of_heap I.k2 ..,Lib.cell_of_heap I.k2 ..,fun o=>Lib.frozen_of_heap I.k2 o⟩
theorem RI.done {N:Nat} (I:RI w κ B t2 t3 a wr κr mr t l ad cp) (hN:l.length=N) :
  aBr w.heap.size B κ w (t,(a,l,[])) κr mr (((wr.setCell ⟨t2,0,none⟩ (.string ⟨⟨a⟩⟩)).setCell ⟨t2,1,none⟩ (.slice ad N cp)).setCell ⟨t2,2,none⟩ (.slice none 0 0)) ad cp none ∧
  (((wr.setCell ⟨t2,0,none⟩ (.string ⟨⟨a⟩⟩)).setCell ⟨t2,1,none⟩ (.slice ad N cp)).setCell ⟨t2,2,none⟩ (.slice none 0 0)).heap[t2]? = some (.cells #[.string ⟨⟨a⟩⟩,.slice ad N cp,.slice none 0 0] 32 (0,0)):=by
 subst hN
 obtain ⟨kz,gz⟩:=bFs (.string ⟨⟨a⟩⟩) (.slice ad l.length cp) (.slice none 0 0) I.k2
 refine ⟨⟨I.rd.grown gz fun b e=>by cases e; exact I.f2,I.since.trans (cD.grown gz I.since.size fun b e=>by cases e; exact ⟨I.lo.1,I.f2.1⟩),pE I.own fun b hb=>gz.block b (I.own.lt b hb).2 fun e=>?_,I.aAo,⟨0,0,fun h=>absurd rfl h,fun i x hx=>by cases hx⟩⟩,kz⟩
 cases e
 rcases I.own.2 with ⟨h1,_⟩ | ⟨g',cap',cur,h1,_,h4,_⟩
 ·rw [h1] at hb; cases hb
 ·rw [h1] at hb; cases hb
  have:=I.k2
  rw [h4] at this; cases this
theorem aDt {w : World} {H : Nat} (hH : w.heap.size = H) (a b : List UInt8) : ∀ j u,(a0d (a,[],b))[j]? = some u → (w.alloc (.cells #[.string ⟨⟨a⟩⟩,.string ⟨#[]⟩,.string ⟨⟨b⟩⟩] 34)).cell? ((⟨H,0,none⟩ : Addr).add j) = some u:=by
 subst hH
 exact World.news_of_block (cs:=#[.string ⟨⟨a⟩⟩,.string ⟨#[]⟩,.string ⟨⟨b⟩⟩]) (heap_alloc_new w _)
theorem sub_one (a b:List UInt8):∀ u ∈ a0d (a,[],b),u.oneCell'=true:=by
 intro u hu
 simp only [a0d,List.mem_cons,List.not_mem_nil,or_false] at hu
 rcases hu with rfl | rfl | rfl <;> rfl
def aDu (w:World) (κ:Ctx) (B t2 t3:Nat) (a:List UInt8) (q0:aY×List Sub) (wr:World) (k:Nat):Prop :=
 ∃ κr mr t l ad cp,RI w κ B t2 t3 a wr κr mr t l ad cp∧fK t∧t.d≤20∧l.length≤50∧pZ k t l=some q0
set_option maxHeartbeats 3200000 in
theorem b51 (h:iQ w B κ m s) (hs:fK s) (hd:s.d≤20) {a:List UInt8} {q0:aY×List Sub} (ha:kF s=some a) (h61:fC [61] (aE s)=false) (h58:fC [58] (aE s)=true) (hr:pZ (s.l.length+1) (aE (aE s)) []=some q0) :
  Calls Try.prog 29 #[.pointer (some ⟨B,0,none⟩)] w fun e w'=>b88 w.heap.size B κ w (q0.1,(a,q0.2,[])) e w':=by
 obtain ⟨i0,hi,hz0,hz1,hz2⟩:=info_parts Try.bFr
 have hlt:=lY ha
 have hw:=hs.2
 have hl2:s.i+1 < s.l.length:=fR h58
 have hBn:=h.blt
 have h1:=h.alloc (.cells #[.string ⟨#[]⟩,.slice none 0 0,.slice none 0 0] 32)
 have k1 : (w.alloc (.cells #[.string ⟨#[]⟩,.slice none 0 0,.slice none 0 0] 32)).heap[w.heap.size]? = some (.cells #[.string ⟨#[]⟩,.slice none 0 0,.slice none 0 0] 32 (0,0)):=heap_alloc_new _ _
 have hf1:lQ κ w.heap.size:=pD h.mem (zxy _)
 have c1:=h1.name ha (by omega)
 have sc1:cD w.heap.size κ w κ (w.alloc (.cells #[.string ⟨#[]⟩,.slice none 0 0,.slice none 0 0] 32)):=cD.alloc (zxy _) _
 go_enter Try.func29,Try.ntmps29
 go_wp2_with (first
  | (go_at_call 27; refine c1.mono ?_; rintro e w2 ⟨κ2,m2,rfl,x2,r2⟩
     obtain ⟨k2,hf2⟩:=qE k1 hf1 x2
     have sc2:=sc1.trans (cD.ext (n:=w.heap.size) x2 (by simp))
     have I3:RI w κ B w.heap.size w2.heap.size a (w2.alloc (.cells #[.string ⟨⟨a⟩⟩,.slice none 0 0,.slice none 0 0] 32)) κ2 m2 (aE s) [] none 0 :=
      ⟨r2.alloc _,sc2.trans (cD.alloc sc2.size _),heap_alloc_new _ _,pD r2.mem (zxy _),(heap_alloc_old _ _ (zsz.1 k2).1).trans k2,hf2,World.ownsRow_nil _ _ _ _,(fun b e=>by cases e),zxy _,(zsz.1 k2).1⟩
     obtain ⟨c31,c33,f3⟩:=I3.rd.cell
     have q3:=I3.rd.is [61]
     rw [h61] at q3)
  | (go_at_call 28; refine q3.mono ?_; rintro e w4 ⟨κ4,m4,rfl,x4,r4⟩
     have I4:=I3.ext x4 r4
     have q4:=r4.want h58 (by show s.i+1 < 1000000; omega))
  | (go_at_call 30; refine q4.mono ?_; rintro e w5 ⟨κ5,m5,rfl,x5,r5⟩
     have I5:=I4.ext x5 r5))
 obtain ⟨t3,ht3⟩:∃ t3,t3=w2.heap.size:=⟨_,rfl⟩
 rw [← ht3] at I5 ⊢
 clear I4 I3 q3 q4 c31 c33 f3 x4 x5 x2 r2 r4 r5 k2 hf2 sc2 sc1 c1
 have hlo:=I5.lo
 have hΦ0:aDu w κ B w.heap.size t3 a q0 w5 (s.l.length+1):=⟨κ5,m5,aE (aE s),[],none,0,I5,⟨hl2,hs.2⟩,hd,by simp,hr⟩
 clear I5 k1 hf1 h1 ht3
 go_loopw [] (fun wr=>∃ k,aDu w κ B w.heap.size t3 a q0 wr k) (fun wr=>least (aDu w κ B w.heap.size t3 a q0 wr))
 case atStart=>exact ⟨_,hΦ0⟩
 case round =>
  have hsp:=aDo hrel
  obtain ⟨k0,hk0⟩:∃ k0,k0=least (aDu w κ B w.heap.size t3 a q0 wr):=⟨_,rfl⟩
  rw [← hk0] at hsp
  obtain ⟨κr,mr,t,l,ad,cp,I,hwt,hdt,h50,ht⟩:=hsp
  cases k0 with
  | zero=>cases ht
  | succ k =>
  have hdec:∀ wr',aDu w κ B w.heap.size t3 a q0 wr' k→least (aDu w κ B w.heap.size t3 a q0 wr') < least (aDu w κ B w.heap.size t3 a q0 wr):=fun wr' h=>Nat.lt_of_le_of_lt (least_le h) (by rw [← hk0]; exact Nat.lt_succ_self k)
  clear hk0 hrel hΦ0
  unfold pZ at ht
  split at ht
  ·cases ht
  rename_i hne
  obtain ⟨⟨u,sb⟩,hsub,h4⟩:=zwz.1 ht
  have gs:=aDd hwt hsub
  obtain ⟨b,hb,h5⟩:=zwz.1 (show (kF t).bind _=some (u,sb) from hsub)
  have hlt2:=lY hb
  have hw3:=hwt.2
  have hc50:((l.length:Int) == 50)=false:=by simp; omega
  obtain ⟨d1,d3,df⟩:=I.rd.cell
  obtain ⟨e0,e1,e2,ef⟩:=I.c3
  have p27:=I.rd.name hb (by omega)
  have hlo1:=I.lo
  have hib:(0:Int)≤((aE t).i:Int):=zrz _
  have hib2:((aE t).i:Int)+1≤9223372036854775807:=by show ((t.i+1:Nat):Int)+1≤_; omega
  have hmx:l.length≤50:=h50
  simp only at h4 gs
  by_cases h35:fC [35] (aE t)=true
  ·rw [if_pos h35] at h5
   obtain ⟨d,hd',h6⟩:=zwz.1 h5
   have hlt4:t.i+1+1 < t.l.length:=lY hd'
   simp only [zzz,zvy] at h6
   obtain ⟨rfl,rfl⟩:=h6
   have hic:(0:Int)≤((aE (aE (aE t))).i:Int):=zrz _
   have hic2:((aE (aE (aE t))).i:Int)+1≤9223372036854775807:=by show ((t.i+1+1+1:Nat):Int)+1≤_; omega
   by_cases h124:fC [124] (aE (aE (aE t)))=true
   ·rw [if_pos h124] at h4
    have hl5:t.i+1+1+1 < t.l.length:=fR h124
    go_wp2_with (first
     | (go_at_call 28; refine q28b.mono ?_; rintro e w10 ⟨κ10,m10,rfl,x10,r10⟩
        have I10:=I9.ext x10 r10
        obtain ⟨a1,a3,af⟩:=r10.cell
        obtain ⟨m11,I11⟩:=I10.next)
     | (at_builtin; (refine wpList_append_lies _ rfl _ _ 29 rfl w.heap.size 34 i0 _ 3 48 Try.underlying29 hi hz0 hz1 hz2 rfl (by decide) (.slice ad l.length cp) l.length (zO l) (by rfl) (I7.own.alloc _) ⟨w6.heap.size,0,none⟩ 1 1 (a0d (b,[],d)) rfl rfl (aDt (lI ..) b d) (sub_one b d) (by decide) (by unfold maxLen; omega) (by omega) (Nat.le_trans I7.since.size (by simp)) (w6.heap.size+1) (pF (lI ..) _) ?_; intro g cp' w8 hown' hgrow hat hlt8; obtain ⟨s1,sf⟩:=(I7.alloc (.cells #[.string ⟨⟨b⟩⟩,.string ⟨#[]⟩,.string ⟨⟨d⟩⟩] 34)).at3 hgrow; have I9:=I7.aIh (lI ..) hgrow hown' hat; obtain ⟨y1,y3,yf⟩:=I9.rd.cell; have q28b:=I9.rd.is [124]; rw [h124] at q28b))
     | (go_at_call 27; refine p27b.mono ?_; rintro e w6 ⟨κ6,m6,rfl,x6,r6⟩
        have I6:=I5.ext x6 r6
        obtain ⟨k46,f46⟩:=qE k45 f44 x6
        have k460 : w6.cell? ⟨w2.heap.size,0,none⟩ = some (.string ⟨⟨b⟩⟩):=Lib.cell_of_heap k46 ..
        have k461 : w6.cell? ⟨w2.heap.size,1,none⟩ = some (.string ⟨#[]⟩):=Lib.cell_of_heap k46 ..
        have k462 : w6.cell? ⟨w2.heap.size,2,none⟩ = some (.string ⟨#[]⟩):=Lib.cell_of_heap k46 ..
        have k46f : ∀ o,w6.frozen? ⟨w2.heap.size,o,none⟩ = false:=fun o=>Lib.frozen_of_heap k46 o
        have hlo2:=I6.lo
        have I7:=I6.other f46 (by omega) ne2 ne3 neo 2 (.string ⟨⟨d⟩⟩)
        obtain ⟨o0,o1,o2,of⟩:=I7.c3)
     | (go_at_call 28; refine q28.mono ?_; rintro e w4 ⟨κ4,m4,rfl,x4,r4⟩
        have I4:=I3.ext x4 r4
        obtain ⟨k44,f44⟩:=qE k4 f4 x4
        obtain ⟨v1,v3,vf⟩:=r4.cell
        obtain ⟨m5,I5⟩:=I4.next
        have k45:=(eN 1 (.int .i64 (((aE t).i:Int)+1)) (a4f r4 f44)).trans k44
        have p27b:=I5.rd.name hd' (by show t.i+1+1 < 1000000; omega))
     | (go_at_call 27; refine p27.mono ?_; rintro e w2 ⟨κ2,m2,rfl,x2,r2⟩
        have I2:=I.ext x2 r2
        have hz3:t3 < w2.heap.size:=(zsz.1 I2.k3).1
        have I3:=I2.alloc (.cells #[.string ⟨⟨b⟩⟩,.string ⟨#[]⟩,.string ⟨#[]⟩] 34)
        have k4:=heap_alloc_new w2 (.cells #[.string ⟨⟨b⟩⟩,.string ⟨#[]⟩,.string ⟨#[]⟩] 34)
        have f4:lQ κ2 w2.heap.size:=pD r2.mem (zxy _)
        have ne2:w2.heap.size≠w.heap.size:=by omega
        have ne3:w2.heap.size≠t3:=by omega
        have neo:(Value.slice ad l.length cp).ownBlock≠some w2.heap.size:=fun e=>by have:=(I2.own.lt _ e).2; omega
        obtain ⟨u1,u3,uf⟩:=I3.rd.cell
        have q28:=I3.rd.is [35]
        rw [h35] at q28)
     | go_in)
    have hΦ : aDu w κ B w.heap.size t3 a q0 _ k:=⟨κ10,m11,_,_,_,_,I11,⟨hl5,hwt.2⟩,hdt,by simp; omega,h4⟩
    exact ⟨⟨k,hΦ⟩,hdec _ hΦ⟩
   ·have h124:fC [124] (aE (aE (aE t)))=false:=by simpa using h124
    rw [if_neg (by rw [h124]; simp)] at h4
    split at h4
    case isFalse=>cases h4
    rename_i h59
    have hl5:t.i+1+1+1 < t.l.length:=fR h59
    simp only [zzz] at h4
    subst h4
    go_wp2_with (first
     | (go_at_call 30; refine q30.mono ?_; rintro e w11 ⟨κ11,m11,rfl,x11,r11⟩
        have I11:=I10.ext x11 r11
        obtain ⟨b0,b1,b2,bf⟩:=I11.c3
        obtain ⟨b3,b4,b5,bg⟩:=I11.c2)
     | (go_at_call 28; refine q28b.mono ?_; rintro e w10 ⟨κ10,m10,rfl,x10,r10⟩
        have I10:=I9.ext x10 r10
        have q30:=r10.want h59 (by show t.i+1+1+1 < 1000000; omega))
     | (at_builtin; (refine wpList_append_lies _ rfl _ _ 29 rfl w.heap.size 34 i0 _ 3 48 Try.underlying29 hi hz0 hz1 hz2 rfl (by decide) (.slice ad l.length cp) l.length (zO l) (by rfl) (I7.own.alloc _) ⟨w6.heap.size,0,none⟩ 1 1 (a0d (b,[],d)) rfl rfl (aDt (lI ..) b d) (sub_one b d) (by decide) (by unfold maxLen; omega) (by omega) (Nat.le_trans I7.since.size (by simp)) (w6.heap.size+1) (pF (lI ..) _) ?_; intro g cp' w8 hown' hgrow hat hlt8; obtain ⟨s1,sf⟩:=(I7.alloc (.cells #[.string ⟨⟨b⟩⟩,.string ⟨#[]⟩,.string ⟨⟨d⟩⟩] 34)).at3 hgrow; have I9:=I7.aIh (lI ..) hgrow hown' hat; obtain ⟨y1,y3,yf⟩:=I9.rd.cell; have q28b:=I9.rd.is [124]; rw [h124] at q28b))
     | (go_at_call 27; refine p27b.mono ?_; rintro e w6 ⟨κ6,m6,rfl,x6,r6⟩
        have I6:=I5.ext x6 r6
        obtain ⟨k46,f46⟩:=qE k45 f44 x6
        have k460 : w6.cell? ⟨w2.heap.size,0,none⟩ = some (.string ⟨⟨b⟩⟩):=Lib.cell_of_heap k46 ..
        have k461 : w6.cell? ⟨w2.heap.size,1,none⟩ = some (.string ⟨#[]⟩):=Lib.cell_of_heap k46 ..
        have k462 : w6.cell? ⟨w2.heap.size,2,none⟩ = some (.string ⟨#[]⟩):=Lib.cell_of_heap k46 ..
        have k46f : ∀ o,w6.frozen? ⟨w2.heap.size,o,none⟩ = false:=fun o=>Lib.frozen_of_heap k46 o
        have hlo2:=I6.lo
        have I7:=I6.other f46 (by omega) ne2 ne3 neo 2 (.string ⟨⟨d⟩⟩)
        obtain ⟨o0,o1,o2,of⟩:=I7.c3)
     | (go_at_call 28; refine q28.mono ?_; rintro e w4 ⟨κ4,m4,rfl,x4,r4⟩
        have I4:=I3.ext x4 r4
        obtain ⟨k44,f44⟩:=qE k4 f4 x4
        obtain ⟨v1,v3,vf⟩:=r4.cell
        obtain ⟨m5,I5⟩:=I4.next
        have k45:=(eN 1 (.int .i64 (((aE t).i:Int)+1)) (a4f r4 f44)).trans k44
        have p27b:=I5.rd.name hd' (by show t.i+1+1 < 1000000; omega))
     | (go_at_call 27; refine p27.mono ?_; rintro e w2 ⟨κ2,m2,rfl,x2,r2⟩
        have I2:=I.ext x2 r2
        have hz3:t3 < w2.heap.size:=(zsz.1 I2.k3).1
        have I3:=I2.alloc (.cells #[.string ⟨⟨b⟩⟩,.string ⟨#[]⟩,.string ⟨#[]⟩] 34)
        have k4:=heap_alloc_new w2 (.cells #[.string ⟨⟨b⟩⟩,.string ⟨#[]⟩,.string ⟨#[]⟩] 34)
        have f4:lQ κ2 w2.heap.size:=pD r2.mem (zxy _)
        have ne2:w2.heap.size≠w.heap.size:=by omega
        have ne3:w2.heap.size≠t3:=by omega
        have neo:(Value.slice ad l.length cp).ownBlock≠some w2.heap.size:=fun e=>by have:=(I2.own.lt _ e).2; omega
        obtain ⟨u1,u3,uf⟩:=I3.rd.cell
        have q28:=I3.rd.is [35]
        rw [h35] at q28)
     | go_in)
    obtain ⟨I12,kz⟩:=I11.done (N:=l.length+1) (by simp)
    refine bodyPost_ret (results_cell_row (by rfl) _ _ w.heap.size 32 _ (0,0) _ (by rfl) kz Try.underlying32 (by rfl) aVo) (by rfl) ⟨_,_,_,_,none,0,?_,I12⟩
    simp
  ·rw [if_neg h35] at h5
   have h35:fC [35] (aE t)=false:=by simpa using h35
   simp only [zzz,zvy] at h5
   obtain ⟨rfl,rfl⟩:=h5
   by_cases h124:fC [124] (aE t)=true
   ·rw [if_pos h124] at h4
    have hl5:t.i+1 < t.l.length:=fR h124
    go_wp2_with (first
     | (go_at_call 28; refine q28b.mono ?_; rintro e w10 ⟨κ10,m10,rfl,x10,r10⟩
        have I10:=I9.ext x10 r10
        obtain ⟨a1,a3,af⟩:=r10.cell
        obtain ⟨m11,I11⟩:=I10.next)
     | (at_builtin; (refine wpList_append_lies _ rfl _ _ 29 rfl w.heap.size 34 i0 _ 3 48 Try.underlying29 hi hz0 hz1 hz2 rfl (by decide) (.slice ad l.length cp) l.length (zO l) (by rfl) (I7.own.alloc _) ⟨w6.heap.size,0,none⟩ 1 1 (a0d (b,[],[])) rfl rfl (aDt rfl b []) (sub_one b []) (by decide) (by unfold maxLen; omega) (by omega) (Nat.le_trans I7.since.size (by simp)) (w6.heap.size+1) (pF rfl _) ?_; intro g cp' w8 hown' hgrow hat hlt8; obtain ⟨s1,sf⟩:=(I7.alloc (.cells #[.string ⟨⟨b⟩⟩,.string ⟨#[]⟩,.string ⟨⟨[]⟩⟩] 34)).at3 hgrow; have I9:=I7.aIh rfl hgrow hown' hat; obtain ⟨y1,y3,yf⟩:=I9.rd.cell; have q28b:=I9.rd.is [124]; rw [h124] at q28b))
     | (go_at_call 28; refine q28.mono ?_; rintro e w6 ⟨κ6,m6,rfl,x4,r4⟩
        have I7:=I3.ext x4 r4
        obtain ⟨k46,f46⟩:=qE k4 f4 x4
        have k460 : w6.cell? ⟨w2.heap.size,0,none⟩ = some (.string ⟨⟨b⟩⟩):=Lib.cell_of_heap k46 ..
        have k461 : w6.cell? ⟨w2.heap.size,1,none⟩ = some (.string ⟨#[]⟩):=Lib.cell_of_heap k46 ..
        have k462 : w6.cell? ⟨w2.heap.size,2,none⟩ = some (.string ⟨#[]⟩):=Lib.cell_of_heap k46 ..
        obtain ⟨o0,o1,o2,of⟩:=I7.c3)
     | (go_at_call 27; refine p27.mono ?_; rintro e w2 ⟨κ2,m2,rfl,x2,r2⟩
        have I2:=I.ext x2 r2
        have hz3:t3 < w2.heap.size:=(zsz.1 I2.k3).1
        have I3:=I2.alloc (.cells #[.string ⟨⟨b⟩⟩,.string ⟨#[]⟩,.string ⟨#[]⟩] 34)
        have k4:=heap_alloc_new w2 (.cells #[.string ⟨⟨b⟩⟩,.string ⟨#[]⟩,.string ⟨#[]⟩] 34)
        have f4:lQ κ2 w2.heap.size:=pD r2.mem (zxy _)
        have ne2:w2.heap.size≠w.heap.size:=by omega
        have ne3:w2.heap.size≠t3:=by omega
        have neo:(Value.slice ad l.length cp).ownBlock≠some w2.heap.size:=fun e=>by have:=(I2.own.lt _ e).2; omega
        obtain ⟨u1,u3,uf⟩:=I3.rd.cell
        have q28:=I3.rd.is [35]
        rw [h35] at q28)
     | go_in)
    have hΦ : aDu w κ B w.heap.size t3 a q0 _ k:=⟨κ10,m11,_,_,_,_,I11,⟨hl5,hwt.2⟩,hdt,by simp; omega,h4⟩
    exact ⟨⟨k,hΦ⟩,hdec _ hΦ⟩
   ·have h124:fC [124] (aE t)=false:=by simpa using h124
    rw [if_neg (by rw [h124]; simp)] at h4
    split at h4
    case isFalse=>cases h4
    rename_i h59
    have hl5:t.i+1 < t.l.length:=fR h59
    simp only [zzz] at h4
    subst h4
    go_wp2_with (first
     | (go_at_call 30; refine q30.mono ?_; rintro e w11 ⟨κ11,m11,rfl,x11,r11⟩
        have I11:=I10.ext x11 r11
        obtain ⟨b0,b1,b2,bf⟩:=I11.c3
        obtain ⟨b3,b4,b5,bg⟩:=I11.c2)
     | (go_at_call 28; refine q28b.mono ?_; rintro e w10 ⟨κ10,m10,rfl,x10,r10⟩
        have I10:=I9.ext x10 r10
        have q30:=r10.want h59 (by show t.i+1 < 1000000; omega))
     | (at_builtin; (refine wpList_append_lies _ rfl _ _ 29 rfl w.heap.size 34 i0 _ 3 48 Try.underlying29 hi hz0 hz1 hz2 rfl (by decide) (.slice ad l.length cp) l.length (zO l) (by rfl) (I7.own.alloc _) ⟨w6.heap.size,0,none⟩ 1 1 (a0d (b,[],[])) rfl rfl (aDt rfl b []) (sub_one b []) (by decide) (by unfold maxLen; omega) (by omega) (Nat.le_trans I7.since.size (by simp)) (w6.heap.size+1) (pF rfl _) ?_; intro g cp' w8 hown' hgrow hat hlt8; obtain ⟨s1,sf⟩:=(I7.alloc (.cells #[.string ⟨⟨b⟩⟩,.string ⟨#[]⟩,.string ⟨⟨[]⟩⟩] 34)).at3 hgrow; have I9:=I7.aIh rfl hgrow hown' hat; obtain ⟨y1,y3,yf⟩:=I9.rd.cell; have q28b:=I9.rd.is [124]; rw [h124] at q28b))
     | (go_at_call 28; refine q28.mono ?_; rintro e w6 ⟨κ6,m6,rfl,x4,r4⟩
        have I7:=I3.ext x4 r4
        obtain ⟨k46,f46⟩:=qE k4 f4 x4
        have k460 : w6.cell? ⟨w2.heap.size,0,none⟩ = some (.string ⟨⟨b⟩⟩):=Lib.cell_of_heap k46 ..
        have k461 : w6.cell? ⟨w2.heap.size,1,none⟩ = some (.string ⟨#[]⟩):=Lib.cell_of_heap k46 ..
        have k462 : w6.cell? ⟨w2.heap.size,2,none⟩ = some (.string ⟨#[]⟩):=Lib.cell_of_heap k46 ..
        obtain ⟨o0,o1,o2,of⟩:=I7.c3)
     | (go_at_call 27; refine p27.mono ?_; rintro e w2 ⟨κ2,m2,rfl,x2,r2⟩
        have I2:=I.ext x2 r2
        have hz3:t3 < w2.heap.size:=(zsz.1 I2.k3).1
        have I3:=I2.alloc (.cells #[.string ⟨⟨b⟩⟩,.string ⟨#[]⟩,.string ⟨#[]⟩] 34)
        have k4:=heap_alloc_new w2 (.cells #[.string ⟨⟨b⟩⟩,.string ⟨#[]⟩,.string ⟨#[]⟩] 34)
        have f4:lQ κ2 w2.heap.size:=pD r2.mem (zxy _)
        have ne2:w2.heap.size≠w.heap.size:=by omega
        have ne3:w2.heap.size≠t3:=by omega
        have neo:(Value.slice ad l.length cp).ownBlock≠some w2.heap.size:=fun e=>by have:=(I2.own.lt _ e).2; omega
        obtain ⟨u1,u3,uf⟩:=I3.rd.cell
        have q28:=I3.rd.is [35]
        rw [h35] at q28)
     | go_in)
    obtain ⟨I12,kz⟩:=I11.done (N:=l.length+1) (by simp)
    refine bodyPost_ret (results_cell_row (by rfl) _ _ w.heap.size 32 _ (0,0) _ (by rfl) kz Try.underlying32 (by rfl) aVo) (by rfl) ⟨_,_,_,_,none,0,?_,I12⟩
    simp
theorem b89 (h:iQ w B κ m s) (hs:fK s) (hd:s.d≤20) {q:aY×Rel} (hq:wD s=some q):Calls Try.prog 29 #[.pointer (some ⟨B,0,none⟩)] w fun e w'=>b88 w.heap.size B κ w q e w':=by
 obtain ⟨a,ha,h2⟩:=zwz.1 (show (kF s).bind _=some q from hq)
 by_cases h61:fC [61] (aE s)=true
 ·rw [if_pos h61] at h2
  obtain ⟨r,hr,h3⟩:=zwz.1 h2
  split at h3
  ·rename_i h59
   simp only [zzz] at h3
   subst h3
   exact b50 h hs hd ha h61 hr h59
  ·cases h3
 ·rw [if_neg h61] at h2
  split at h2
  ·rename_i h58
   obtain ⟨q0,hr,h3⟩:=zwz.1 h2
   simp only [zzz] at h3
   subst h3
   exact b51 h hs hd ha (by simpa using h61) h58 hr
  ·cases h2
end Go.Fbs

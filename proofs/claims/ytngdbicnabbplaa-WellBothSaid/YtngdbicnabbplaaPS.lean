import Derived.Test.YtngdbicnabbplaaR3
import Derived.Test.YtngdbicnabbplaaS2
import Derived.Shelf.Strings.Builder1
import Derived.Shelf.Strings.OnBuilder
import Derived.Below
import Derived.Test.YtngdbicnabbplaaPJ
import Derived.Test.YtngdbicnabbplaaPG
import Derived.Test.YtngdbicnabbplaaPC
set_option linter.unusedSimpArgs false
set_option linter.unusedVariables false
set_option linter.unusedSectionVars false
set_option maxRecDepth 100000
namespace Go.Fbs
theorem aHc {κ κ':Ctx} {h h':cJ} (hb:∀ b i y,i < κ.hw b→bD h b i=some y→i < κ'.hw b∧bD h' b i=some y) {v:V} {x:Value} (r:aW κ h v x) (hp:v.plain=true):aW κ' h' v x:=by
 have hb:∀ {b off:Nat} {xs:List Value},Block κ h b off xs→Block κ' h' b off xs:=fun hx i y hy=>let ⟨h1,h2,h3⟩:=hx i y hy; let ⟨g1,g2⟩:=hb _ _ _ h1 h2; ⟨g1,g2,h3⟩
 induction r with
 | bool b=>exact .bool b
 | int k n=>exact .int k n
 | str s=>exact .str s
 | ptr l off b _=>simp [V.plain] at hp
 | ro cs b off xs hx hl _ ih =>
  simp only [V.plain] at hp
  exact .ro cs b off xs (hb hx) hl (fun i c x h1 h2=>ih i c x h1 h2 (lM.1 hp c (zyx h1)))
 | gH=>exact .gH
 | slnil g hg =>
  cases g with
  | own i=>simp [V.plain] at hp
  | ro=>exact .slnil _ (by simp)
  | full=>exact .slnil _ (by simp)
 | sl g es b off cap sz xs hx hu hl _ hc ht ih =>
  cases g with
  | own i=>simp [V.plain] at hp
  | ro =>
   simp only [V.plain] at hp
   exact .sl .ro es b off cap sz xs (hb hx) hu hl (fun i c x h1 h2=>ih i c x h1 h2 (zC hp c (zyx h1))) hc trivial
  | full =>
   simp only [V.plain] at hp
   exact .sl .full es b off cap sz xs (hb hx) hu hl (fun i c x h1 h2=>ih i c x h1 h2 (zC hp c (zyx h1))) hc ht
 | wM=>exact .wM
 | map l b _=>simp [V.plain] at hp
 | slr l off n c b cap _ _ _=>simp [V.plain] at hp
 | func f caps xs hl _ ih =>
  simp only [V.plain] at hp
  exact .func f caps xs hl (fun i c x h1 h2=>ih i c x h1 h2 (lM.1 hp c (zyx h1)))
 | agg cs xs hl ho _ ih =>
  simp only [V.plain] at hp
  exact .agg cs xs hl ho (fun i c x h1 h2=>ih i c x h1 h2 (lM.1 hp c (zyx h1)))
 | aO cs xs hl _ ih =>
  simp only [V.plain] at hp
  exact .aO cs xs hl (fun i c x h1 h2=>ih i c x h1 h2 (lM.1 hp c (zyx h1)))
 | undef=>exact .undef
 | any x=>exact .any x
theorem b2d {h : cJ} {b i : Nat} {y : Value} (e : bD h b i = some y) : ∃ c E fr,h[b]? = some (.cells c E fr) ∧ i < c.size:=by
 unfold bD at e
 split at e
 ·rename_i c E fr hh
  exact ⟨c,E,fr,hh,(zsz.1 e).1⟩
 ·cases e
end Go.Fbs

namespace Go.Fbs
open Go.Proofs
attribute [local irreducible] bW cC opt kQ
def ks8:List CK:=[.pl,.pl,.pl,.pl,.pl,.pl,.gr 5 false,.pl]
def rC (g:Tag) (s:aY):List V:=[bJ s.l,vI s.i,vI s.n,.int .i64 0,.int .i64 0,vI s.d,.sl g (s.o.map p6),.int .i64 0]
def aK8 (T : List (Nat × Nat)) (g : Tag) (n : Nat) : Prop:=g = .full ∨ ∃ i,g = .own i ∧ T[i]? = some (n,5)
def aPb (g:Tag) (n:Nat):GA:=match g with | .own i=>.own i | _=>.full n 5
theorem b5y (m:Hp):∀ extra:List V,(∀ v ∈ extra,v.aF=v)→jD m (extra.map fun _=>AK.v) extra=some (extra,[],[])
 | [],_=>rfl
 | v::r,h=>by
  rw [zsx,jD,b5y m r fun u hu=>h u (.tail _ hu),Option.map_some,h v (.head _)]
theorem aY8 (l:List cV):(l.map p6).map V.aF=l.map p6:=by
 rw [List.map_map]
 exact List.map_congr_left fun x _=>rfl
theorem aY9 (l:List eP):(bJ l).aF=bJ l:=by
 have h:=kP ⟨l,0,0,0,[]⟩
 have h2:(bJ l).bU=true:=by
  simp only [vR,V.bU,aL,zxz] at h
  exact h.1
 exact (mP h2).2
theorem bH4 {T:List (Nat×Nat)} {g:Tag} {s:aY} (h:aK8 T g s.o.length):gT 0 T ks8 (rC g s)=some ([bJ s.l,vI s.i,vI s.n,.int .i64 0,.int .i64 0,vI s.d,fE s.o,.int .i64 0],[aPb g s.o.length]):=by
 rcases h with rfl | ⟨i,rfl,hi⟩
 ·simp only [ks8,rC,gT,aY9,aY8,Option.map_some,zsy]
  simp [aPb,fE,V.aF]
 ·simp only [ks8,rC,gT,aY9,aY8,Option.map_some,zsy,hi]
  simp [aPb,fE,V.aF]
theorem bH5 {m:Hp} {g:Tag} {s:aY} {extra:List V} (hm:m.H=[.cells none (rC g s)]) (h:aK8 m.T g s.o.length) (hx:∀ v ∈ extra,v.aF=v):jD m (.b 0 ks8::extra.map fun _=>AK.v) (.ptr 0 0::extra)=some (vR s::extra,[0],[aPb g s.o.length]):=by
 have h1:aJ5 none 0 m.T ks8 (rC g s)=some ([bJ s.l,vI s.i,vI s.n,.int .i64 0,.int .i64 0,vI s.d,fE s.o,.int .i64 0],[aPb g s.o.length]):=aOk (bH4 h) rfl
 unfold jD
 rw [if_pos rfl,hm,b5y m extra hx]
 simp only [zux,h1]
 rfl
theorem b85 (g:GA):aCa [g]:=fun i j n h1 h2=>by
 have hi:i < 1:=(zzy.1 h1).1
 have hj:j < 1:=(zzy.1 h2).1
 omega
theorem b86:a7t [0]:=fun i j n h1 h2=>by
 have hi:i < 1:=(zzy.1 h1).1
 have hj:j < 1:=(zzy.1 h2).1
 omega
theorem aQ2 (gs:List GA) (T:List (Nat×Nat)):(zD gs T).length=T.length:=List.length_mapIdx
theorem bC2 {f:FuncId} {sg:iA} {F:Spec} (h:fU Try.prog f sg F) {s s':aY} {extra rs0:List V} (hF:F (vR s::extra)=some (.aO (rs0++[vR s']))) (has:sg.as = .b 0 ks8::extra.map fun _=>AK.v) (hgr:sg.gr=[]) (hn:sg.cL=rs0.length)
  (hp:(pack rs0).plain=true) (hx:∀ v ∈ extra,v.aF=v) {m:Hp} {g:Tag} (hm:m.H=[.cells none (rC g s)]) (hg:aK8 m.T g s.o.length) :
  ∃ m' g',a0j Try.prog f (.ptr 0 0::extra) m (pack rs0) m'∧m'.H=[.cells none (rC g' s')]∧aK8 m'.T g' s'.o.length:=by
 obtain ⟨rs,hv,hn',hw,hr,_,hcal⟩:=h.call _ _ hF
 obtain rfl:rs0++[vR s']=rs:=by simpa using hv
 have e1:(rs0++[vR s']).take sg.cL=rs0:=by rw [hn]; exact List.take_left
 have e2:(rs0++[vR s']).drop sg.cL=[vR s']:=by rw [hn]; exact List.drop_left
 have hout:gY sg.as=[ks8]:=by
  rw [has]
  have:∀ l:List V,iB (l.map fun _=>AK.v)=[]:=fun l=>by
   induction l with
   | nil=>rfl
   | cons v l ih=>exact ih
  simp only [gY,iB,this]
  rfl
 have he:(sJ sg.gr (.ptr 0 0::extra)).bind (jD m sg.as)=some (vR s::extra,[0],[aPb g s.o.length]):=by
  rw [hgr,has]
  exact bH5 hm hg hx
 have:=aTh (P:=Try.prog) (f:=f) he b86 (b85 _) hw hr (by rw [e1]; exact hp) hcal
 rw [e1,e2,hout] at this
 refine ⟨_,.own m.T.length,this,?_,.inr ⟨m.T.length,rfl,?_⟩⟩
 ·show (pU m.T.length [ks8] [0] [vR s'] m.H).1=_
  rw [hm]
  rfl
 ·show (zD _ m.T ++ [((s'.o.map p6).length,5)])[m.T.length]? = _
  rw [ztx (by rw [aQ2]; exact zxy _),aQ2,Nat.sub_self,zsy]
  rfl
def lQ (κ:Ctx) (b:Nat):Prop:=κ.hw b=0∧¬ owned κ b
theorem pD {κ:Ctx} {h:cJ} {m:Hp} (k:Mem κ h m) {b:Nat} (hb:h.size≤b):lQ κ b:=by
 refine ⟨k.1.fresh b hb,?_⟩
 rintro (h1 | ⟨L,hL,hk,rfl⟩)
 ·have:=k.1.iK b h1; omega
 ·have:=k.1.jJ L hL hk; omega
theorem lQ.ext {κ κ' : Ctx} {w w' : World} {m m' : Hp} {b : Nat} (h : lQ κ b) (hb : b < w.heap.size) (x : Ext κ w m κ' w' m') : lQ κ' b ∧ w'.heap[b]? = w.heap[b]?:=by
 refine ⟨⟨(x.le.yA b hb h.2).trans h.1,?_⟩,x.le.same b hb h.2⟩
 rintro (h1 | ⟨L,hL,hk,rfl⟩)
 ·rcases x.le.a0g b h1 with h2 | h2
  ·exact h.2 (.inl h2)
  ·omega
 ·rcases x.le.tQ L hL hk with ⟨L',hL',hk',e⟩ | h2
  ·exact h.2 (.inr ⟨L',hL',hk',e⟩)
  ·omega
structure iQ (w:World) (B:Nat) (κ:Ctx) (m:Hp) (s:aY):Prop where
 mem:Mem κ w.heap m
 box:κ.box 0=some B
 H:∃ g,m.H=[.cells none (rC g s)]∧aK8 m.T g s.o.length
theorem iQ.call {w:World} {B:Nat} {κ:Ctx} {m:Hp} {s s':aY} (h:iQ w B κ m s) {f:FuncId} {sg:iA} {F:Spec} (hs:fU Try.prog f sg F) {extra rs0:List V} (hF:F (vR s::extra)=some (.aO (rs0++[vR s']))) (has:sg.as = .b 0 ks8::extra.map fun _=>AK.v) (hgr:sg.gr=[]) (hn:sg.cL=rs0.length)
  (hp:(pack rs0).plain=true) (hx:∀ v ∈ extra,v.aF=v) {xs:List Value} (hr:aJ κ w.heap extra xs) :
  Calls Try.prog f ⟨.pointer (some ⟨B,0,none⟩)::xs⟩ w fun e w'=>∃ x κ' m',e = .returned x∧Ext κ w m κ' w' m'∧iQ w' B κ' m' s'∧aW κ' w'.heap (pack rs0) x:=by
 obtain ⟨g,hm,hg⟩:=h.H
 obtain ⟨m',g',hc,hm',hg'⟩:=bC2 hs hF has hgr hn hp hx hm hg
 refine (hc κ w _ h.mem (aJ.cons (.ptr 0 0 B h.box) hr)).mono ?_
 rintro e w' ⟨x,κ',he,hxx,hv⟩
 exact ⟨x,κ',m',he,hxx,⟨hxx.mem,hxx.le.box 0 B h.box,g',hm',hg'⟩,hv⟩
variable {w w' w2:World} {B:Nat} {κ κ':Ctx} {m m':Hp} {s s':aY}
theorem iQ.name (h:iQ w B κ m s) {a:List UInt8} (ha:kF s=some a) (hi:s.i < 1000000) :
  Calls Try.prog 27 #[.pointer (some ⟨B,0,none⟩)] w fun e w'=>∃ κ' m',e = .returned (.string ⟨⟨a⟩⟩)∧Ext κ w m κ' w' m'∧iQ w' B κ' m' (aE s):=by
 refine (h.call mT (extra:=[]) (rs0:=[.str a]) (s':=aE s) (a8d ha hi) rfl rfl rfl rfl (by simp) aJ.nil).mono ?_
 rintro e w' ⟨x,κ',m',rfl,h1,h2,h3⟩
 exact ⟨κ',m',by rw [gN h3],h1,h2⟩
theorem iQ.is (h:iQ w B κ m s) (g:List UInt8) :
  Calls Try.prog 28 #[.pointer (some ⟨B,0,none⟩),.string ⟨⟨g⟩⟩] w fun e w'=>∃ κ' m',e = .returned (.bool (fC g s))∧Ext κ w m κ' w' m'∧iQ w' B κ' m' s:=by
 refine (h.call gJ (extra:=[.str g]) (rs0:=[.bool (fC g s)]) (s':=s) (a29 s g) rfl rfl rfl rfl (by intro v hv; simp at hv; subst hv; rfl) (aJ.cons (.str g) aJ.nil)).mono ?_
 rintro e w' ⟨x,κ',m',rfl,h1,h2,h3⟩
 refine ⟨κ',m',?_,h1,h2⟩
 cases h3; rfl
theorem iQ.want (h:iQ w B κ m s) {g:List UInt8} (hg:fC g s=true) (hi:s.i < 1000000) :
  Calls Try.prog 30 #[.pointer (some ⟨B,0,none⟩),.string ⟨⟨g⟩⟩] w fun e w'=>∃ κ' m',e = .returned (.tuple #[])∧Ext κ w m κ' w' m'∧iQ w' B κ' m' (aE s):=by
 refine (h.call mS (extra:=[.str g]) (rs0:=[]) (s':=aE s) (aBj hg hi) rfl rfl rfl rfl (by intro v hv; simp at hv; subst hv; rfl) (aJ.cons (.str g) aJ.nil)).mono ?_
 rintro e w' ⟨x,κ',m',rfl,h1,h2,h3⟩
 refine ⟨κ',m',?_,h1,h2⟩
 cases h3 with
 | aO _ xs hl _ =>
  obtain rfl:xs=[]:=List.length_eq_zero_iff.1 hl
  rfl
theorem iQ.expr (h:iQ w B κ m s) {r:aY} (hr:kQ s=some r) (hs:fK s) (hd:s.d≤20) :
  Calls Try.prog 53 #[.pointer (some ⟨B,0,none⟩)] w fun e w'=>∃ κ' m',e = .returned (.tuple #[])∧Ext κ w m κ' w' m'∧iQ w' B κ' m' r:=by
 refine (h.call aM5 (extra:=[]) (rs0:=[]) (s':=r) (Fro hr hs hd) rfl rfl rfl rfl (by simp) aJ.nil).mono ?_
 rintro e w' ⟨x,κ',m',rfl,h1,h2,h3⟩
 refine ⟨κ',m',?_,h1,h2⟩
 cases h3 with
 | aO _ xs hl _ =>
  obtain rfl:xs=[]:=List.length_eq_zero_iff.1 hl
  rfl
theorem iQ.cells (h : iQ w B κ m s) : ∃ ya yo E,w.heap[B]? = some (.cells #[ya,.int .i64 (s.i : Nat),.int .i64 (s.n : Nat),.int .i64 0,.int .i64 0,.int .i64 (s.d : Nat),yo,.int .i64 0] E (0,0)) ∧ aW κ w.heap (bJ s.l) ya ∧ ya.oneCell' = true ∧ yo.oneCell' = true ∧
  ∃ g,m.H=[.cells none (rC g s)]∧aK8 m.T g s.o.length∧aW κ w.heap (.sl g (s.o.map p6)) yo:=by
 obtain ⟨g,hm,hg⟩:=h.H
 obtain ⟨o,ho,ys,E,rfl,h2,h3,_⟩:=h.mem.2.1.2 0 B (.cells none (rC g s)) h.box (by rw [hm]; rfl)
 obtain ⟨y0,l1,rfl,r0,h2⟩:=h2.dP
 obtain ⟨y1,l2,rfl,r1,h2⟩:=h2.dP
 obtain ⟨y2,l3,rfl,r2,h2⟩:=h2.dP
 obtain ⟨y3,l4,rfl,r3,h2⟩:=h2.dP
 obtain ⟨y4,l5,rfl,r4,h2⟩:=h2.dP
 obtain ⟨y5,l6,rfl,r5,h2⟩:=h2.dP
 obtain ⟨y6,l7,rfl,r6,h2⟩:=h2.dP
 obtain ⟨y7,l8,rfl,r7,h2⟩:=h2.dP
 obtain rfl:=h2.sX
 cases r1; cases r2; cases r3; cases r4; cases r5; cases r7
 exact ⟨y0,y6,E,ho,r0,h3 _ (by simp),h3 _ (by simp),g,hm,hg,r6⟩
theorem iQ.blt (h:iQ w B κ m s):B < w.heap.size:=h.mem.1.iK B ⟨0,h.box⟩
theorem iQ.b87 (h:iQ w B κ m s):owned κ B:=.inl ⟨0,h.box⟩
theorem bC3 {g:Tag} {es:List V} {x:Value} {h h':cJ} (hp:qZ es=true) (hb:∀ b i y,i < κ.hw b→bD h b i=some y→bD h' b i=some y) (r:aW κ h (.sl g es) x):aW κ h' (.sl g es) x:=by
 cases r with
 | slnil _ h0=>exact .slnil _ h0
 | sl _ _ b off cap sz xs hx hu hl hr hc ht =>
  exact .sl g es b off cap sz xs (fun i y hy=>let ⟨h1,h2,h3⟩:=hx i y hy; ⟨h1,hb _ _ _ h1 h2,h3⟩) hu hl (fun i c x h1 h2=>aHc (fun b i y h1 h2=>⟨h1,hb _ _ _ h1 h2⟩) (hr i c x h1 h2) (zC hp c (zyx h1))) hc ht
theorem b2e (l:List cV):qZ (l.map p6)=true:=lM.2 fun v hv=>by
 obtain ⟨x,_,rfl⟩:=List.mem_map.1 hv
 rfl
theorem aQ3 (l:List eP):(bJ l).plain=true:=by
 have h:=kP ⟨l,0,0,0,[]⟩
 have h2:(bJ l).bU=true:=by
  simp only [vR,V.bU,aL,zxz] at h
  exact h.1
 exact (mP h2).1
theorem iQ.put (h : iQ w B κ m s) (hz : w.heap.size ≤ w2.heap.size) (hs : ∀ b,b < w.heap.size → b ≠ B → (owned κ b ∨ κ.hw b ≠ 0) → w2.heap[b]? = w.heap[b]?)
  {ya yo : Value} {E : TypeId} {g : Tag} {s2 : aY} (hB : w2.heap[B]? = some (.cells #[ya,.int .i64 (s2.i : Nat),.int .i64 (s2.n : Nat),.int .i64 0,.int .i64 0,.int .i64 (s2.d : Nat),yo,.int .i64 0] E (0,0)))
  (hya:aW κ w.heap (bJ s2.l) ya) (h1:ya.oneCell'=true) (hyo:aW κ w.heap (.sl g (s2.o.map p6)) yo) (h2:yo.oneCell'=true) (hg:aK8 m.T g s2.o.length):iQ w2 B κ ⟨[.cells none (rC g s2)],m.T⟩ s2:=by
 have bD:∀ b i y,i < κ.hw b→bD w.heap b i=some y→bD w2.heap b i=some y:=fun b i y hi hy=>by
  have hlt:=tT hy
  have hne:b≠B:=fun e=>by rw [e,h.mem.1.rF B ⟨0,h.box⟩] at hi; omega
  unfold bD at hy ⊢
  rw [hs b hlt hne (.inr (by omega))]; exact hy
 have hbx:∀ l b,κ.box l=some b→l=0:=fun l b e=>by
  obtain ⟨g0,hm,_⟩:=h.H
  have:=h.mem.2.1.1 l b e
  rw [hm] at this
  simpa using this
 refine ⟨⟨⟨fun b hb=>zuz (h.mem.1.iK b hb) hz,h.mem.1.rF,h.mem.1.vN,fun L hL hk=>zuz (h.mem.1.jJ L hL hk) hz,h.mem.1.lhw,h.mem.1.lnd,h.mem.1.tR,fun L hL hk=>?_,fun b hb=>h.mem.1.fresh b (Nat.le_trans hz hb),h.mem.1.xR,h.mem.1.lbt,⟨fun _=>false,fun b hb=>(by cases hb),trivial⟩⟩,⟨fun l b e=>?_,fun l b c e hc=>?_⟩,h.mem.2.2⟩,h.box,g,rfl,hg⟩
 ·rw [hs L.cG (h.mem.1.jJ L hL hk) (fun e=>h.mem.1.tR L hL hk (by rw [e]; exact ⟨0,h.box⟩)) (.inl (.inr ⟨L,hL,hk,rfl⟩))]
  exact h.mem.1.rZ L hL hk
 ·rw [hbx l b e]; exact Nat.one_pos
 ·obtain rfl:=hbx l b e
  rw [h.box] at e
  cases e
  cases hc
  refine ⟨_,hB,_,E,rfl,?_,?_,fun q hq=>by cases hq⟩
  ·exact aJ.cons (aHc (fun b i y h1 h2=>⟨h1,bD _ _ _ h1 h2⟩) hya (aQ3 _)) (aJ.cons (.int _ _) (aJ.cons (.int _ _) (aJ.cons (.int _ _) (aJ.cons (.int _ _) (aJ.cons (.int _ _) (aJ.cons (bC3 (b2e _) bD hyo) (aJ.cons (.int _ _) aJ.nil)))))))
  ·intro x hx
   simp only [List.mem_cons,List.not_mem_nil,or_false] at hx
   rcases hx with rfl | rfl | rfl | rfl | rfl | rfl | rfl | rfl <;> first | rfl | assumption
theorem iQ.frame (h : iQ w B κ m s) (hz : w.heap.size ≤ w2.heap.size) (hs : ∀ b,b < w.heap.size → (owned κ b ∨ κ.hw b ≠ 0) → w2.heap[b]? = w.heap[b]?) : iQ w2 B κ m s:=by
 obtain ⟨ya,yo,E,hB,h1,h2,h3,g,hm,hg,h4⟩:=h.cells
 have:=h.put hz (fun b hb _ ho=>hs b hb ho) (s2:=s) ((hs B h.blt (.inl h.b87)).trans hB) h1 h2 h4 h3 hg
 obtain ⟨H,T⟩:=m
 cases hm
 exact this
theorem iQ.alloc (h:iQ w B κ m s) (o:Obj):iQ (w.alloc o) B κ m s:=h.frame (by simp) fun b hb _=>heap_alloc_old _ _ hb
theorem iQ.grown (h:iQ w B κ m s) {row:Option Nat} (hg:w.grownBy w2 row) (hr:∀ b,row=some b→lQ κ b):iQ w2 B κ m s:=h.frame hg.size fun b hb ho=>hg.block b hb fun e=>by
 have hf:=hr b e.symm
 rcases ho with h1 | h1
 ·exact hf.2 h1
 ·exact h1 hf.1
theorem iQ.cell (h : iQ w B κ m s) : w.cell? ⟨B,1,none⟩ = some (.int .i64 (s.i : Nat)) ∧ w.cell? ⟨B,3,none⟩ = some (.int .i64 0) ∧ ∀ o,w.frozen? ⟨B,o,none⟩ = false:=by
 obtain ⟨ya,yo,E,hB,_⟩:=h.cells
 exact ⟨by rw [Lib.cell_of_heap hB]; rfl,by rw [Lib.cell_of_heap hB]; rfl,fun o=>Lib.frozen_of_heap hB o⟩
theorem uW {w : World} {b : Nat} {c : Array Value} {E : TypeId} (o : Nat) (v : Value) (h : w.heap[b]? = some (.cells c E (0,0))) : (w.setCell ⟨b,o,none⟩ v).heap[b]? = some (.cells (c.setIfInBounds o v) E (0,0)):=by
 unfold World.setCell
 simp [h,Array.getElem?_modify]
theorem eN {w : World} {b b' : Nat} (o : Nat) (v : Value) (h : b' ≠ b) : (w.setCell ⟨b,o,none⟩ v).heap[b']? = w.heap[b']?:=by
 unfold World.setCell
 simp [Array.getElem?_modify,Ne.symm h]
theorem lI {w:World} {b:Nat} (o:Nat) (v:Value):(w.setCell ⟨b,o,none⟩ v).heap.size=w.heap.size:=by simp [World.setCell]
theorem iQ.next (h:iQ w B κ m s):∃ m',iQ (w.setCell ⟨B,1,none⟩ (.int .i64 ((s.i:Int)+1))) B κ m' (aE s)∧m'.T=m.T:=by
 obtain ⟨ya,yo,E,hB,h1,h2,h3,g,hm,hg,h4⟩:=h.cells
 exact ⟨_,h.put (by rw [lI]; exact zxy _) (fun b hb hne _=>eN 1 _ hne) (s2:=aE s) (uW 1 _ hB) h1 h2 h4 h3 hg,rfl⟩
theorem iQ.clear (h:iQ w B κ m s):∃ m',iQ (w.setCell ⟨B,6,none⟩ (.slice none 0 0)) B κ m' { s with o:=[] } ∧ m'.T=m.T:=by
 obtain ⟨ya,yo,E,hB,h1,h2,h3,g,hm,hg,h4⟩:=h.cells
 exact ⟨_,h.put (by rw [lI]; exact zxy _) (fun b hb hne _=>eN 6 _ hne) (s2:={ s with o:=[] }) (uW 6 _ hB) h1 h2 (.slnil .full (fun i h=>by cases h)) rfl (.inl rfl),rfl⟩
def a3g (κ:Ctx) (h:cJ) (a:Option Addr) (xs:List cV):Prop :=
 ∃ b off,(xs ≠ [] → a = some ⟨b,off,none⟩) ∧ ∀ i x,(xs.map aK3)[i]? = some x → ∀ j y,x[j]? = some y → off + i * 3 + j < κ.hw b ∧ bD h b (off + i * 3 + j) = some y
theorem a3g.ext {a:Option Addr} {xs:List cV} (h:a3g κ w.heap a xs) (x:Ext κ w m κ' w' m'):a3g κ' w'.heap a xs:=by
 obtain ⟨b,off,h1,h2⟩:=h
 refine ⟨b,off,h1,fun i q hq j y hy=>?_⟩
 obtain ⟨h3,h4⟩:=h2 i q hq j y hy
 exact ⟨zuz h3 (x.le.hw b),x.le.mK b _ y h3 h4⟩
theorem a3g.frame {a : Option Addr} {xs : List cV} (h : a3g κ w.heap a xs) (hs : ∀ b,b < w.heap.size → κ.hw b ≠ 0 → w2.heap[b]? = w.heap[b]?) : a3g κ w2.heap a xs:=by
 obtain ⟨b,off,h1,h2⟩:=h
 refine ⟨b,off,h1,fun i q hq j y hy=>?_⟩
 obtain ⟨h3,h4⟩:=h2 i q hq j y hy
 refine ⟨h3,?_⟩
 have hlt:=tT h4
 unfold bD at h4 ⊢
 rw [hs b hlt (by omega)]
 exact h4
theorem iQ.out (h : iQ w B κ m s) : ∃ a cap,w.cell? ⟨B,6,none⟩ = some (.slice a s.o.length cap) ∧ a3g κ w.heap a s.o:=by
 obtain ⟨ya,yo,E,hB,h1,h2,h3,g,hm,hg,h4⟩:=h.cells
 have hc : w.cell? ⟨B,6,none⟩ = some yo:=by rw [Lib.cell_of_heap hB]; rfl
 generalize hes:s.o.map p6=es at h4
 cases h4 with
 | slnil _ h0 =>
  have:s.o=[]:=by simpa using hes
  exact ⟨none,0,by rw [hc,this]; rfl,0,0,fun h=>absurd this h,fun i x hx=>by rw [this] at hx; cases hx⟩
 | sl _ _ b off cap sz xs hx hu hl hr _ _ =>
  subst hes
  refine ⟨some ⟨b,off,none⟩,cap,by rw [hc,zsy],b,off,fun _=>rfl,fun i q hq j y hy=>?_⟩
  rw [zvz,zyy] at hq
  obtain ⟨t,ht,rfl⟩:=hq
  have key : ∀ c,([vI t.1,.str t.2.1,.str t.2.2] : List V)[j]? = some c → ∃ z,xs[i * 3 + j]? = some z ∧ aW κ w.heap c z:=fun c hc=>by
   have hj:j < 3:=(zzy.1 hc).1
   have hg:=(a9v (f:=fun t:cV=>([vI t.1,.str t.2.1,.str t.2.2]:List V)) (sz:=3) (fun _=>rfl) ht j hj).trans hc
   have hlt:i*3+j < xs.length:=by rw [hl]; exact (zzy.1 hg).1
   exact ⟨_,zyz hlt,hr _ _ _ hg (zyz hlt)⟩
  have fin : ∀ z,xs[i * 3 + j]? = some z → z = y → off + i * 3 + j < κ.hw b ∧ bD w.heap b (off + i * 3 + j) = some y:=fun z hz e=>by
   obtain ⟨g1,g2,_⟩:=hx _ _ hz
   rw [← Nat.add_assoc] at g1 g2
   exact ⟨g1,by rw [g2,e]⟩
  match j,hy with
  | 0,hy=>cases hy; obtain ⟨z,h5,h6⟩:=key _ rfl; exact fin z h5 (eQ h6)
  | 1,hy=>cases hy; obtain ⟨z,h5,h6⟩:=key _ rfl; exact fin z h5 (gN h6)
  | 2,hy=>cases hy; obtain ⟨z,h5,h6⟩:=key _ rfl; exact fin z h5 (gN h6)
end Go.Fbs

namespace Go.Fbs
open Go.Proofs Go.RowKit Go.Maps
attribute [local irreducible] bW cC opt kQ
structure cD (n:Nat) (κ:Ctx) (w:World) (κ':Ctx) (w':World):Prop where
 os:w'.os=w.os
 output:w'.output=w.output
 size:w.heap.size≤w'.heap.size
 free : ∀ b,b < n → lQ κ b → lQ κ' b ∧ w'.heap[b]? = w.heap[b]?
 hw:∀ b,κ.hw b≤κ'.hw b
 mK:∀ b i x,i < κ.hw b→bD w.heap b i=some x→bD w'.heap b i=some x
variable {w w' w2:World} {B n:Nat} {κ κ':Ctx} {m m':Hp} {s s':aY}
theorem cD.trans {κ2:Ctx} (a:cD n κ w κ' w') (b:cD n κ' w' κ2 w2):cD n κ w κ2 w2 :=
 ⟨b.os.trans a.os,b.output.trans a.output,Nat.le_trans a.size b.size,fun k hk h=>⟨(b.free k hk (a.free k hk h).1).1,(b.free k hk (a.free k hk h).1).2.trans (a.free k hk h).2⟩,fun k=>Nat.le_trans (a.hw k) (b.hw k),fun k i x hi h=>b.mK k i x (zuz hi (a.hw k)) (a.mK k i x hi h)⟩
theorem cD.low {n':Nat} (a:cD n κ w κ' w') (h:n'≤n):cD n' κ w κ' w':=⟨a.os,a.output,a.size,fun k hk h=>a.free k (by omega) h,a.hw,a.mK⟩
theorem cD.ext (x:Ext κ w m κ' w' m') (hn:n≤w.heap.size):cD n κ w κ' w' :=
 ⟨x.os,x.out.output,x.out.size,fun b hb h=>h.ext (by omega) x,x.le.hw,x.le.mK⟩
theorem cD.grown {row:Option Nat} (g:w.grownBy w' row) (hn:n≤w.heap.size) (hr:∀ b,row=some b→n≤b∧κ.hw b=0):cD n κ w κ w' :=
 ⟨g.os,g.output,g.size,fun b hb h=>⟨h,g.block b (by omega) fun e=>by have:=(hr b e.symm).1; omega⟩,fun _=>zxy _,fun b i x hi hx=>by
  have hlt:=tT hx
  unfold bD at hx ⊢
  rw [g.block b hlt fun e=>by have:=(hr b e.symm).2; omega]
  exact hx⟩
theorem cD.alloc (hn:n≤w.heap.size) (o:Obj):cD n κ w κ (w.alloc o):=cD.grown (row:=none) (World.grownBy.mk rfl rfl rfl (by simp) fun k hk _=>heap_alloc_old _ _ hk) hn fun b h=>by cases h
theorem uX (b o:Nat) (v:Value):w.grownBy (w.setCell ⟨b,o,none⟩ v) (some b):=⟨rfl,rfl,rfl,by rw [lI]; exact zxy _,fun k _ hk=>eN o v fun e=>hk (by rw [e])⟩
theorem cD.set (hn:n≤w.heap.size) {b:Nat} (hb:n≤b) (h0:κ.hw b=0) (o:Nat) (v:Value):cD n κ w κ (w.setCell ⟨b,o,none⟩ v):=cD.grown (uX b o v) hn fun b' e=>by cases e; exact ⟨hb,h0⟩
theorem cD.aPc (h:iQ w B κ m s) (o:Nat) (v:Value):cD n κ w κ (w.setCell ⟨B,o,none⟩ v):=by
 have h0:=h.mem.1.rF B ⟨0,h.box⟩
 refine ⟨rfl,rfl,by rw [lI]; exact zxy _,fun b hb hf=>⟨hf,eN o v fun e=>hf.2 (by rw [e]; exact h.b87)⟩,fun _=>zxy _,fun b i x hi hx=>?_⟩
 have hne:b≠B:=fun e=>by rw [e] at hi; omega
 unfold bD at hx ⊢
 rw [eN o v hne]
 exact hx
theorem qE {b : Nat} {o : Obj} (hb : w.heap[b]? = some o) (hf : lQ κ b) (x : Ext κ w m κ' w' m') : w'.heap[b]? = some o ∧ lQ κ' b:=by
 have:=hf.ext (zsz.1 hb).1 x
 exact ⟨this.2.trans hb,this.1⟩
def zO (l:List Sub):List Value:=l.flatMap a0d
theorem b5z (a b:List Sub):zO (a++b)=zO a++zO b:=by simp [zO]
theorem Try.bFr : (Try.prog.info? 34).map (fun i=>(i.zero,i.size,i.bytes)) = some (some (.agg #[.string ⟨#[]⟩,.string ⟨#[]⟩,.string ⟨#[]⟩]),3,48):=by kernel_rfl
structure aBr (n B:Nat) (κ:Ctx) (w:World) (q:aY×Rel) (κ':Ctx) (m':Hp) (w':World) (sa:Option Addr) (sc:Nat) (xa:Option Addr):Prop where
 st:iQ w' B κ' m' q.1
 since:cD n κ w κ' w'
 aR:w'.ownsRow n 34 3 (.slice sa q.2.2.1.length sc) q.2.2.1.length (zO q.2.2.1)
 free:∀ b,(Value.slice sa q.2.2.1.length sc).ownBlock=some b→lQ κ' b
 steps:a3g κ' w'.heap xa q.2.2.2
def b88 (n B:Nat) (κ:Ctx) (w:World) (q:aY×Rel) (e:Ending) (w':World):Prop :=
 ∃ κ' m' sa sc xa xc,e = .returned (.agg #[.string ⟨⟨q.2.1⟩⟩,.slice sa q.2.2.1.length sc,.slice xa q.2.2.2.length xc])∧aBr n B κ w q κ' m' w' sa sc xa
theorem bFs {b : Nat} {c0 c1 c2 : Value} (v0 v1 v2 : Value) (h : w.heap[b]? = some (.cells #[c0,c1,c2] 32 (0,0))) :
  (((w.setCell ⟨b,0,none⟩ v0).setCell ⟨b,1,none⟩ v1).setCell ⟨b,2,none⟩ v2).heap[b]? = some (.cells #[v0,v1,v2] 32 (0,0)) ∧ w.grownBy (((w.setCell ⟨b,0,none⟩ v0).setCell ⟨b,1,none⟩ v1).setCell ⟨b,2,none⟩ v2) (some b):=by
 refine ⟨?_,?_⟩
 ·rw [uW 2 v2 (uW 1 v1 (uW 0 v0 h))]; rfl
 ·refine ⟨rfl,rfl,rfl,by simp only [lI]; exact zxy _,fun k _ hk=>?_⟩
  have:k≠b:=fun e=>hk (by rw [e])
  rw [eN _ _ this,eN _ _ this,eN _ _ this]
theorem aVo : (Try.prog.info? 32).map (·.size) = some 3:=by kernel_rfl
set_option maxHeartbeats 1600000 in
theorem b50 (h:iQ w B κ m s) (hs:fK s) (hd:s.d≤20) {a:List UInt8} {r:aY} (ha:kF s=some a) (h61:fC [61] (aE s)=true) (hr:kQ { aE (aE s) with o:=[] } = some r) (h59:fC [59] r=true) :
  Calls Try.prog 29 #[.pointer (some ⟨B,0,none⟩)] w fun e w'=>b88 w.heap.size B κ w (aE r,(a,[],r.o)) e w':=by
 have hlt:=lY ha
 have hw:=hs.2
 have hl2:s.i+1 < s.l.length:=fR h61
 have g:=aGx.g _ r (show fK { aE (aE s) with o:=[] } from ⟨hl2,hs.2⟩) hr
 have g1:r.l.length≤500000:=g.1.2
 have hl3:=fR h59
 have hBn:=h.blt
 have h1:=h.alloc (.cells #[.string ⟨#[]⟩,.slice none 0 0,.slice none 0 0] 32)
 have k1 : (w.alloc (.cells #[.string ⟨#[]⟩,.slice none 0 0,.slice none 0 0] 32)).heap[w.heap.size]? = some (.cells #[.string ⟨#[]⟩,.slice none 0 0,.slice none 0 0] 32 (0,0)):=heap_alloc_new _ _
 have hf1:lQ κ w.heap.size:=pD h.mem (zxy _)
 have c1:=h1.name ha (by omega)
 have hi1:(0:Int)≤((aE s).i:Int):=zrz _
 have hi2:((aE s).i:Int)+1≤9223372036854775807:=by show ((s.i+1:Nat):Int)+1≤_; omega
 have sc1:cD w.heap.size κ w κ (w.alloc (.cells #[.string ⟨#[]⟩,.slice none 0 0,.slice none 0 0] 32)):=cD.alloc (by omega) _
 have hz1:w.heap.size < (w.alloc (.cells #[.string ⟨#[]⟩,.slice none 0 0,.slice none 0 0] 32)).heap.size:=(zsz.1 k1).1
 go_enter Try.func29,Try.ntmps29
 go_wp2_with (first
  | (go_at_call 27; refine c1.mono ?_; rintro e w2 ⟨κ2,m2,rfl,x2,r2⟩
     obtain ⟨k2,hf2⟩:=qE k1 hf1 x2
     have sc2:=sc1.trans (cD.ext (n:=w.heap.size) x2 (by omega))
     have z2:=sc2.size
     have r3:=r2.alloc (.cells #[.string ⟨⟨a⟩⟩,.slice none 0 0,.slice none 0 0] 32)
     have k3 : (w2.alloc (.cells #[.string ⟨⟨a⟩⟩,.slice none 0 0,.slice none 0 0] 32)).heap[w2.heap.size]? = some (.cells #[.string ⟨⟨a⟩⟩,.slice none 0 0,.slice none 0 0] 32 (0,0)):=heap_alloc_new _ _
     have hf3:lQ κ2 w2.heap.size:=pD r2.mem (zxy _)
     have k2':=(heap_alloc_old w2 (.cells #[.string ⟨⟨a⟩⟩,.slice none 0 0,.slice none 0 0] 32) (zsz.1 k2).1).trans k2
     obtain ⟨c31,c33,f3⟩:=r3.cell
     have q3:=r3.is [61]
     rw [h61] at q3
     have sc3:=sc2.trans (cD.alloc (κ:=κ2) (w:=w2) (n:=w.heap.size) (by omega) (.cells #[.string ⟨⟨a⟩⟩,.slice none 0 0,.slice none 0 0] 32)))
  | (go_at_call 28; refine q3.mono ?_; rintro e w4 ⟨κ4,m4,rfl,x4,r4⟩
     obtain ⟨k4,hf4⟩:=qE k3 hf3 x4
     obtain ⟨k24,hf24⟩:=qE k2' hf2 x4
     have sc4:=sc3.trans (cD.ext (n:=w.heap.size) x4 (by have:=sc3.size; omega))
     obtain ⟨c41,c43,f4⟩:=r4.cell
     obtain ⟨m5,r5,e5⟩:=r4.next
     obtain ⟨ao,co,c46,_⟩:=r4.out
     obtain ⟨m6,r6,e6⟩:=r5.clear
     have q6:=r6.expr hr ⟨hl2,hs.2⟩ hd)
  | (go_at_call 53; refine q6.mono ?_; rintro e w7 ⟨κ7,m7,rfl,x7,r7⟩
     have hne3:w2.heap.size≠B:=by have:=r2.blt; omega
     have hne1:w.heap.size≠B:=by omega
     have hne2:w.heap.size≠w2.heap.size:=by have:=(zsz.1 k2).1; omega
     obtain ⟨k7,hf7⟩:=qE ((eN 6 (.slice none 0 0) hne3).trans ((eN 1 (.int .i64 (((aE s).i:Int)+1)) hne3).trans k4)) hf4 x7
     obtain ⟨k27,hf27⟩:=qE ((eN 6 (.slice none 0 0) hne1).trans ((eN 1 (.int .i64 (((aE s).i:Int)+1)) hne1).trans k24)) hf24 x7
     have sc7:=sc4.trans ((cD.aPc (n:=w.heap.size) r4 1 (.int .i64 (((aE s).i:Int)+1))).trans ((cD.aPc (n:=w.heap.size) r5 6 (.slice none 0 0)).trans (cD.ext (n:=w.heap.size) x7 (by simp only [lI]; have:=sc4.size; omega))))
     obtain ⟨a7,p7,c76,xr7⟩:=r7.out
     have ck7 : w7.cell? ⟨w2.heap.size,2,none⟩ = some (.slice none 0 0):=Lib.cell_of_heap k7 ..
     have fk7 : ∀ o,w7.frozen? ⟨w2.heap.size,o,none⟩ = false:=fun o=>Lib.frozen_of_heap k7 o
     have sz7:=sc7.size
     have r8:=r7.grown (uX w2.heap.size 2 (.slice a7 r.o.length p7)) fun b e=>by cases e; exact hf7
     have k8:=uW 2 (.slice a7 r.o.length p7) k7
     have k28:=(eN (w:=w7) 2 (.slice a7 r.o.length p7) hne2).trans k27
     have xr8:=xr7.frame (w2:=w7.setCell ⟨w2.heap.size,2,none⟩ (.slice a7 r.o.length p7)) fun b hb h0=>eN _ _ fun e=>h0 (by rw [e]; exact hf7.1)
     have q8:=r8.want h59 (by omega)
     have sc8:=sc7.trans (cD.set (n:=w.heap.size) (κ:=κ7) (w:=w7) sz7 z2 hf7.1 2 (.slice a7 r.o.length p7)))
  | (go_at_call 30; refine q8.mono ?_; rintro e w9 ⟨κ9,m9,rfl,x9,r9⟩
     obtain ⟨k9,hf9⟩:=qE k8 hf7 x9
     obtain ⟨k29,hf29⟩:=qE k28 hf27 x9
     have xr9:=xr8.ext x9
     have sc9:=sc8.trans (cD.ext (n:=w.heap.size) x9 (by have:=sc8.size; omega))
     have d90 : w9.cell? ⟨w2.heap.size,0,none⟩ = some (.string ⟨⟨a⟩⟩):=Lib.cell_of_heap k9 ..
     have d91 : w9.cell? ⟨w2.heap.size,1,none⟩ = some (.slice none 0 0):=Lib.cell_of_heap k9 ..
     have d92 : w9.cell? ⟨w2.heap.size,2,none⟩ = some (.slice a7 r.o.length p7):=Lib.cell_of_heap k9 ..
     have e90 : w9.cell? ⟨w.heap.size,0,none⟩ = some (.string ⟨#[]⟩):=Lib.cell_of_heap k29 ..
     have e91 : w9.cell? ⟨w.heap.size,1,none⟩ = some (.slice none 0 0):=Lib.cell_of_heap k29 ..
     have e92 : w9.cell? ⟨w.heap.size,2,none⟩ = some (.slice none 0 0):=Lib.cell_of_heap k29 ..
     have fk9 : ∀ o,w9.frozen? ⟨w.heap.size,o,none⟩ = false:=fun o=>Lib.frozen_of_heap k29 o)
  )
 obtain ⟨kz,gz⟩:=bFs (.string ⟨⟨a⟩⟩) (.slice none 0 0) (.slice a7 r.o.length p7) k29
 have h0:=hf29
 refine bodyPost_ret (results_cell_row (by rfl) _ _ w.heap.size 32 _ (0,0) _ (by rfl) kz Try.underlying32 (by rfl) aVo) (by rfl) ⟨κ9,m9,none,0,a7,p7,rfl,?_⟩
 refine ⟨r9.grown gz fun b e=>by cases e; exact hf29,sc9.trans (cD.grown gz sc9.size fun b e=>by cases e; exact ⟨zxy _,hf29.1⟩),World.ownsRow_nil _ _ _ _,(fun b e=>by cases e),xr9.frame fun b hb h0=>gz.block b hb fun e=>by cases e; exact h0 hf29.1⟩
end Go.Fbs

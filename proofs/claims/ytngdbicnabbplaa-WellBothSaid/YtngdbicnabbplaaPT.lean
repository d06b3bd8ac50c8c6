import Derived.Test.YtngdbicnabbplaaOF
set_option linter.unusedSimpArgs false
set_option linter.unusedVariables false
set_option linter.unusedSectionVars false
set_option maxRecDepth 100000
namespace Go.Fbs
open Go.Proofs Go.RowKit Go.Maps
attribute [local irreducible] bW cC opt kQ
variable {w w' w2:World} {n:Nat} {κ κ' κ2:Ctx} {m m':Hp} {x:Option Nat} {ρ ρ':Nat→Nat×Nat}
theorem a0r {base n b : Nat} {e : TypeId} {size : Nat} {v : Value} {xs : List Value} (h : w.ownsRow base e size v n xs) (hb : v.ownBlock = some b) : ∃ c,w.heap[b]? = some (.cells c e (0,0)):=by
 rcases h.2 with ⟨h1,_⟩ | ⟨g',cap',cur,h1,_,h4,_⟩
 ·rw [h1] at hb; cases hb
 ·rw [h1] at hb; cases hb
  exact ⟨_,h4⟩
structure kK (x:Option Nat) (κ:Ctx) (w:World) (κ2:Ctx) (w2:World):Prop where
 free : ∀ b,b < w.heap.size → some b ≠ x → lQ κ b → lQ κ2 b ∧ w2.heap[b]? = w.heap[b]?
 mK:∀ b i y,i < κ.hw b→bD w.heap b i=some y→i < κ2.hw b∧bD w2.heap b i=some y
theorem kK.of (s:cD n κ w κ2 w2) (hn:w.heap.size≤n):kK none κ w κ2 w2:=⟨fun b hb _ hf=>s.free b (by omega) hf,fun b i y h1 h2=>⟨zuz h1 (s.hw b),s.mK b i y h1 h2⟩⟩
theorem kK.grown {row:Option Nat} (g:w.grownBy w2 row) (h0:∀ b,row=some b→κ.hw b=0):kK row κ w κ w2:=⟨fun b hb hx hf=>⟨hf,g.block b hb hx⟩,fun b i y h1 h2=>⟨h1,by
 have hlt:=tT h2
 unfold bD at h2 ⊢
 rw [g.block b hlt fun e=>by have:=h0 b e.symm; omega]
 exact h2⟩⟩
theorem kK.ext (e:Ext κ w m κ2 w2 m'):kK none κ w κ2 w2:=kK.of (n:=w.heap.size) (cD.ext e (zxy _)) (zxy _)
theorem a3g.step {a:Option Addr} {xs:List cV} (h:a3g κ w.heap a xs) (s:kK x κ w κ2 w2):a3g κ2 w2.heap a xs:=by
 obtain ⟨b,off,h1,h2⟩:=h
 exact ⟨b,off,h1,fun i q hq j y hy=>s.mK _ _ _ (h2 i q hq j y hy).1 (h2 i q hq j y hy).2⟩
structure yX (n:Nat) (κ:Ctx) (w:World) (r:RM):Prop where
 s:w.ownsRow n 34 3 (.slice r.sa r.aR.length r.sc) r.aR.length (zO r.aR)
 f:∀ b,(Value.slice r.sa r.aR.length r.sc).ownBlock=some b→lQ κ b
 x:a3g κ w.heap r.xa r.steps
theorem yX.step {r:RM} (h:yX n κ w r) (s:kK x κ w κ2 w2) (hx:∀ b,(Value.slice r.sa r.aR.length r.sc).ownBlock=some b→some b≠x):yX n κ2 w2 r :=
 ⟨pE h.s fun b hb=>(s.free b (h.s.lt b hb).2 (hx b hb) (h.f b hb)).2,fun b hb=>(s.free b (h.s.lt b hb).2 (hx b hb) (h.f b hb)).1,h.x.step s⟩
theorem yX.low {r:RM} {n':Nat} (h:yX n κ w r) (hn:n'≤n):yX n' κ w r:=⟨zL h.s hn,h.f,h.x⟩
def a0s (l:List RM):List Value:=l.flatMap yT
def iR (l:List TM):List Value:=l.flatMap qW
theorem wK:∀ l:List TM,(iR l).length=l.length*2
 | []=>rfl
 | q::l=>by
  have:=wK l
  have e:iR (q::l)=qW q++iR l:=rfl
  rw [e,zwy,this,zwx,show (qW q).length=2 from rfl]
  omega
theorem b2f (a b:List RM):a0s (a++b)=a0s a++a0s b:=by simp [a0s]
theorem a66 (a b:List TM):iR (a++b)=iR a++iR b:=by simp [iR]
structure pQ (n:Nat) (κ:Ctx) (w:World) (ρ:Nat→Nat×Nat) (i:Nat) (a:Option Addr) (c:Nat) (rl:List RM):Prop where
 o:w.ownsRow n 32 3 (.slice a rl.length c) rl.length (a0s rl)
 f:∀ b,(Value.slice a rl.length c).ownBlock=some b→lQ κ b
 all : ∀ k r,rl[k]? = some r → yX n κ w r ∧ ∀ b,(Value.slice r.sa r.aR.length r.sc).ownBlock = some b → ρ b = (i,k)
theorem aVp {r : RM} (h : yX n κ w r) {E : TypeId} (hE : E ≠ 34) (hx : ∀ b,x = some b → ∃ c,w.heap[b]? = some (.cells c E (0,0))) : ∀ b,(Value.slice r.sa r.aR.length r.sc).ownBlock = some b → some b ≠ x:=fun b hb e=>by
 obtain ⟨c,hc⟩:=a0r h.s hb
 obtain ⟨c',hc'⟩:=hx b e.symm
 rw [hc] at hc'
 simp only [zzz,Obj.cells.injEq] at hc'
 exact hE hc'.2.1.symm
theorem pQ.step {i c : Nat} {a : Option Addr} {rl : List RM} (h : pQ n κ w ρ i a c rl) (s : kK x κ w κ2 w2) {E : TypeId} (hE : E ≠ 34) (hx : ∀ b,x = some b → ∃ c,w.heap[b]? = some (.cells c E (0,0)))
  (hr:∀ b,(Value.slice a rl.length c).ownBlock=some b→some b≠x) (hρ:∀ b,b < w.heap.size→ρ' b=ρ b):pQ n κ2 w2 ρ' i a c rl :=
 ⟨pE h.o fun b hb=>(s.free b (h.o.lt b hb).2 (hr b hb) (h.f b hb)).2,fun b hb=>(s.free b (h.o.lt b hb).2 (hr b hb) (h.f b hb)).1,fun k r hk=>⟨(h.all k r hk).1.step s (aVp (h.all k r hk).1 hE hx),fun b hb=>(hρ b ((h.all k r hk).1.s.lt b hb).2).trans ((h.all k r hk).2 b hb)⟩⟩
theorem pQ.low {i c n':Nat} {a:Option Addr} {rl:List RM} (h:pQ n κ w ρ i a c rl) (hn:n'≤n):pQ n' κ w ρ i a c rl:=⟨zL h.o hn,h.f,fun k r hk=>⟨(h.all k r hk).1.low hn,(h.all k r hk).2⟩⟩
structure kW (n:Nat) (κ:Ctx) (w:World) (ρ:Nat→Nat×Nat) (a:Option Addr) (c:Nat) (tl:List TM):Prop where
 o:w.ownsRow n 28 2 (.slice a tl.length c) tl.length (iR tl)
 f:∀ b,(Value.slice a tl.length c).ownBlock=some b→lQ κ b
 all : ∀ i t,tl[i]? = some t → pQ n κ w ρ i t.ra t.rc t.aS
theorem kW.aSc {c:Nat} {a:Option Addr} {tl:List TM} (h:kW n κ w ρ a c tl) (s:kK none κ w κ2 w2) (hρ:∀ b,b < w.heap.size→ρ' b=ρ b):kW n κ2 w2 ρ' a c tl :=
 ⟨pE h.o fun b hb=>(s.free b (h.o.lt b hb).2 (by simp) (h.f b hb)).2,fun b hb=>(s.free b (h.o.lt b hb).2 (by simp) (h.f b hb)).1,fun i t hi=>(h.all i t hi).step s (E:=28) (by decide) (fun b e=>by cases e) (fun b _=>by simp) hρ⟩
theorem pQ.push {i c g cp':Nat} {a:Option Addr} {rl:List RM} {r:RM} (h:pQ n κ w ρ i a c rl) (hm:Mem κ w.heap m) (hr:yX n κ w r) (hρ:∀ b,(Value.slice r.sa r.aR.length r.sc).ownBlock=some b→ρ b=(i,rl.length))
  (hg:w.grownBy w2 (Value.slice a rl.length c).ownBlock) (hown:w2.ownsRow n 32 3 (.slice (some ⟨g,0,none⟩) (rl.length+1) cp') (rl.length+1) (a0s rl++yT r)) (hat:(Value.slice a rl.length c).ownBlock=some g∨w.heap.size≤g) :
  pQ n κ w2 ρ i (some ⟨g,0,none⟩) cp' (rl++[r]):=by
 have s:=kK.grown hg fun b e=>(h.f b e).1
 have hx : ∀ b,(Value.slice a rl.length c).ownBlock = some b → ∃ c,w.heap[b]? = some (.cells c 32 (0,0)):=fun b e=>a0r h.o e
 have hlen:(rl++[r]).length=rl.length+1:=by simp
 refine ⟨?_,fun b hb=>?_,fun k q hk=>?_⟩
 ·rw [hlen,b2f]
  simpa [a0s] using hown
 ·cases hb
  rcases hat with e | e
  ·exact h.f _ e
  ·exact pD hm e
 ·by_cases hkl:k < rl.length
  ·rw [ztz hkl] at hk
   exact ⟨(h.all k q hk).1.step s (aVp (h.all k q hk).1 (by decide) hx),(h.all k q hk).2⟩
  ·rw [ztx (by omega)] at hk
   have h0:k - rl.length=0:=by have:=(zzy.1 hk).1; simp at this; omega
   rw [h0] at hk
   cases hk
   have e:k=rl.length:=by omega
   rw [e]
   exact ⟨hr.step s (aVp hr (by decide) hx),hρ⟩
theorem kW.push {c g cp':Nat} {a:Option Addr} {tl:List TM} {t:TM} (h:kW n κ w ρ a c tl) (hm:Mem κ w.heap m) (ht:pQ n κ w ρ tl.length t.ra t.rc t.aS)
  (hg:w.grownBy w2 (Value.slice a tl.length c).ownBlock) (hown:w2.ownsRow n 28 2 (.slice (some ⟨g,0,none⟩) (tl.length+1) cp') (tl.length+1) (iR tl++qW t)) (hat:(Value.slice a tl.length c).ownBlock=some g∨w.heap.size≤g) :
  kW n κ w2 ρ (some ⟨g,0,none⟩) cp' (tl++[t]):=by
 have s:=kK.grown hg fun b e=>(h.f b e).1
 have hx : ∀ b,(Value.slice a tl.length c).ownBlock = some b → ∃ c,w.heap[b]? = some (.cells c 28 (0,0)):=fun b e=>a0r h.o e
 have hrels:∀ {i:Nat} {q:TM},pQ n κ w ρ i q.ra q.rc q.aS→pQ n κ w2 ρ i q.ra q.rc q.aS:=fun {i q} hq=>hq.step s (by decide) hx (fun b hb e=>by
  obtain ⟨c1,h1⟩:=a0r hq.o hb
  obtain ⟨c2,h2⟩:=hx b e.symm
  rw [h1] at h2; cases h2) fun _ _=>rfl
 have hlen:(tl++[t]).length=tl.length+1:=by simp
 refine ⟨?_,fun b hb=>?_,fun k q hk=>?_⟩
 ·rw [hlen,a66]
  simpa [iR] using hown
 ·cases hb
  rcases hat with e | e
  ·exact h.f _ e
  ·exact pD hm e
 ·by_cases hkl:k < tl.length
  ·rw [ztz hkl] at hk
   exact hrels (h.all k q hk)
  ·rw [ztx (by omega)] at hk
   have h0:k - tl.length=0:=by have:=(zzy.1 hk).1; simp at this; omega
   rw [h0] at hk
   cases hk
   have e:k=tl.length:=by omega
   rw [e]
   exact hrels ht
def bJx (t:eP):List Value:=[.int .i64 t.1,.int .i64 (t.2.1:Nat),.string ⟨⟨t.2.2⟩⟩]
def aDv (κ:Ctx) (h:cJ) (a:Option Addr) (xs:List eP):Prop :=
 ∃ b off,(xs ≠ [] → a = some ⟨b,off,none⟩) ∧ ∀ i x,(xs.map bJx)[i]? = some x → ∀ j y,x[j]? = some y → off + i * 3 + j < κ.hw b ∧ bD h b (off + i * 3 + j) = some y
theorem aDv.step {a:Option Addr} {xs:List eP} (h:aDv κ w.heap a xs) (s:kK x κ w κ2 w2):aDv κ2 w2.heap a xs:=by
 obtain ⟨b,off,h1,h2⟩:=h
 exact ⟨b,off,h1,fun i q hq j y hy=>s.mK _ _ _ (h2 i q hq j y hy).1 (h2 i q hq j y hy).2⟩
theorem aDw {b i : Nat} {y : Value} (h : bD w.heap b i = some y) : w.cell? ⟨b,i,none⟩ = some y:=by rw [qL]; exact h
theorem aDv.get {a : Option Addr} {xs : List eP} (h : aDv κ w.heap a xs) {i : Nat} {t : eP} (ht : xs[i]? = some t) : ∃ b off,a = some ⟨b,off,none⟩ ∧ w.cell? ⟨b,off + i * 3,none⟩ = some (.int .i64 t.1) ∧ w.cell? ⟨b,off + i * 3 + 2,none⟩ = some (.string ⟨⟨t.2.2⟩⟩):=by
 obtain ⟨b,off,h1,h2⟩:=h
 exact ⟨b,off,h1 (fun e=>by rw [e] at ht; cases ht),aDw (h2 i _ (nE ht) 0 _ rfl).2,aDw (h2 i _ (nE ht) 2 _ rfl).2⟩
theorem b9a {l:List eP} {v:Value} (r:aW κ w.heap (bJ l) v):∃ a c,v = .slice a l.length c∧aDv κ w.heap a l:=by
 unfold bJ at r
 generalize hes:l.map wB=es at r
 cases r with
 | slnil _ h0 =>
  have:l=[]:=by simpa using hes
  exact ⟨none,0,by rw [this]; rfl,0,0,fun h=>absurd this h,fun i x hx=>by rw [this] at hx; cases hx⟩
 | sl _ _ b off cap sz xs hx hu hl hr _ _ =>
  subst hes
  refine ⟨some ⟨b,off,none⟩,cap,by rw [zsy],b,off,fun _=>rfl,fun i q hq j y hy=>?_⟩
  rw [zvz,zyy] at hq
  obtain ⟨t,ht,rfl⟩:=hq
  have key : ∀ c,([vI t.1,vI (t.2.1 : Nat),.str t.2.2] : List V)[j]? = some c → ∃ z,xs[i * 3 + j]? = some z ∧ aW κ w.heap c z:=fun c hc=>by
   have hj:j < 3:=(zzy.1 hc).1
   have hg:=(a9v (f:=fun t:eP=>([vI t.1,vI (t.2.1:Nat),.str t.2.2]:List V)) (sz:=3) (fun _=>rfl) ht j hj).trans hc
   have hlt:i*3+j < xs.length:=by rw [hl]; exact (zzy.1 hg).1
   exact ⟨_,zyz hlt,hr _ _ _ hg (zyz hlt)⟩
  have fin : ∀ z,xs[i * 3 + j]? = some z → z = y → off + i * 3 + j < κ.hw b ∧ bD w.heap b (off + i * 3 + j) = some y:=fun z hz e=>by
   obtain ⟨g1,g2,_⟩:=hx _ _ hz
   rw [← Nat.add_assoc] at g1 g2
   exact ⟨g1,by rw [g2,e]⟩
  match j,hy with
  | 0,hy=>cases hy; obtain ⟨z,h5,h6⟩:=key _ rfl; exact fin z h5 (eQ h6)
  | 1,hy=>cases hy; obtain ⟨z,h5,h6⟩:=key _ rfl; exact fin z h5 (eQ h6)
  | 2,hy=>cases hy; obtain ⟨z,h5,h6⟩:=key _ rfl; exact fin z h5 (gN h6)
def aHe:Ctx:=⟨fun _=>0,fun _=>none,[]⟩
theorem b9b (h:cJ):Mem aHe h empty:=by
 refine ⟨⟨?_,fun b _=>rfl,?_,?_,?_,?_,?_,?_,fun b _=>rfl,?_,?_,⟨fun _=>false,fun b hb=>(by cases hb),trivial⟩⟩,⟨?_,?_⟩,rfl⟩
 ·rintro b ⟨l,hl⟩; cases hl
 ·intro i j b h1; cases h1
 ·intro L hL; cases hL
 ·intro L hL; cases hL
 ·intro i j L L' h1; cases h1
 ·intro L hL; cases hL
 ·intro L hL; cases hL
 ·intro L hL; cases hL
 ·intro L hL; cases hL
 ·intro l b hl; cases hl
 ·intro l b c hl; cases hl
theorem bH6 (b:Nat):lQ aHe b:=⟨rfl,by rintro (⟨l,hl⟩ | ⟨L,hL,_⟩); cases hl; cases hL⟩
theorem b9c {l:List eP} {nn:Nat} {ya:Value} (k:Mem κ w.heap empty) (hya:aW κ w.heap (bJ l) ya) (h1:ya.oneCell'=true) :
  ∃ κ2 m2,iQ (w.alloc (.cells #[ya,.int .i64 0,.int .i64 (nn:Nat),.int .i64 0,.int .i64 0,.int .i64 0,.slice none 0 0,.int .i64 0] 84)) w.heap.size κ2 m2 ⟨l,0,nn,0,[]⟩∧cD w.heap.size κ w κ2 (w.alloc (.cells #[ya,.int .i64 0,.int .i64 (nn:Nat),.int .i64 0,.int .i64 0,.int .i64 0,.slice none 0 0,.int .i64 0] 84))∧kK none κ w κ2 (w.alloc (.cells #[ya,.int .i64 0,.int .i64 (nn:Nat),.int .i64 0,.int .i64 0,.int .i64 0,.slice none 0 0,.int .i64 0] 84)):=by
 generalize hW:w.alloc (.cells #[ya,.int .i64 0,.int .i64 (nn:Nat),.int .i64 0,.int .i64 0,.int .i64 0,.slice none 0 0,.int .i64 0] 84)=W
 have hB : W.heap[w.heap.size]? = some (.cells #[ya,.int .i64 0,.int .i64 (nn : Nat),.int .i64 0,.int .i64 0,.int .i64 0,.slice none 0 0,.int .i64 0] 84 (0,0)):=by rw [← hW]; exact heap_alloc_new _ _
 have hold : ∀ b,b < w.heap.size → W.heap[b]? = w.heap[b]?:=fun b hb=>by rw [← hW]; exact heap_alloc_old _ _ hb
 have hz:W.heap.size=w.heap.size+1:=by rw [← hW]; simp
 have hos:W.os=w.os:=by rw [← hW]; rfl
 have hou:W.output=w.output:=by rw [← hW]; rfl
 clear hW
 have bD:∀ b i y,i < κ.hw b→bD w.heap b i=some y→bD W.heap b i=some y:=fun b i y hi hy=>by
  have hlt:=tT hy
  unfold bD at hy ⊢
  rw [hold b hlt]; exact hy
 have hbox:∀ b,owned (⟨κ.hw,fun l=>if l=0 then some w.heap.size else none,[]⟩:Ctx) b→b=w.heap.size:=fun b h=>by
  rcases h with ⟨l,hl⟩ | ⟨L,hL,_⟩
  ·simp only at hl
   split at hl
   ·exact (Option.some.inj hl).symm
   ·cases hl
  ·cases hL
 have hne:∀ b,¬ owned κ b:=by
  rintro b (⟨l,hl⟩ | ⟨L,hL,_⟩)
  ·exact absurd (k.2.1.1 l b hl) (by simp [empty])
  ·have:κ.aN=[]:=by have:=k.2.2; simpa [empty] using this
   rw [this] at hL; cases hL
 have hfree : ∀ b,b < w.heap.size → lQ κ b → lQ (⟨κ.hw,fun l=>if l = 0 then some w.heap.size else none,[]⟩ : Ctx) b ∧ W.heap[b]? = w.heap[b]?:=fun b hb hf=>⟨⟨hf.1,fun ho=>by have:=hbox b ho; omega⟩,hold b hb⟩
 refine ⟨⟨κ.hw,fun l=>if l=0 then some w.heap.size else none,[]⟩,⟨[.cells none (rC .full ⟨l,0,nn,0,[]⟩)],[]⟩,⟨⟨⟨?_,?_,?_,?_,?_,?_,?_,?_,fun b hb=>k.1.fresh b (by omega),?_,?_,⟨fun _=>false,fun b hb=>(by cases hb),trivial⟩⟩,⟨?_,?_⟩,rfl⟩,rfl,.full,rfl,.inl rfl⟩,⟨hos,hou,by omega,hfree,fun _=>zxy _,bD⟩,⟨fun b hb _ hf=>hfree b hb hf,fun b i y h1 h2=>⟨h1,bD b i y h1 h2⟩⟩⟩
 ·intro b hb; rw [hbox b (.inl hb)]; omega
 ·intro b hb; rw [hbox b (.inl hb)]; exact k.1.fresh _ (zxy _)
 ·intro i j b h1 h2
  simp only at h1 h2
  split at h1 <;> split at h2 <;> simp_all
 ·intro L hL; cases hL
 ·intro L hL; cases hL
 ·intro i j L L' h1; cases h1
 ·intro L hL; cases hL
 ·intro L hL; cases hL
 ·intro L hL; cases hL
 ·intro L hL; cases hL
 ·intro l b hl
  simp only at hl
  split at hl
  ·rename_i h0; subst h0; exact Nat.one_pos
  ·cases hl
 ·intro q b c hl h2
  have hb:=hbox b (.inl ⟨q,hl⟩)
  subst hb
  simp only at hl
  split at hl
  ·rename_i h0
   subst h0
   cases h2
   refine ⟨_,hB,_,84,rfl,?_,?_,fun q hq=>by cases hq⟩
   ·exact aJ.cons (aHc (κ:=κ) (κ':=(⟨κ.hw,fun l=>if l=0 then some w.heap.size else none,[]⟩:Ctx)) (fun b i y h1 h2=>⟨h1,bD _ _ _ h1 h2⟩) hya (aQ3 _)) (aJ.cons (.int _ _) (aJ.cons (.int _ _) (aJ.cons (.int _ _) (aJ.cons (.int _ _) (aJ.cons (.int _ _) (aJ.cons (.slnil .full fun i h=>(by cases h)) (aJ.cons (.int _ _) aJ.nil)))))))
   ·intro y hy
    simp only [List.mem_cons,List.not_mem_nil,or_false] at hy
    rcases hy with rfl | rfl | rfl | rfl | rfl | rfl | rfl | rfl <;> first | rfl | assumption
  ·cases hl
end Go.Fbs

namespace Go.Fbs
open Go.Proofs Go.RowKit Go.Maps
attribute [local irreducible] bW cC opt kQ
variable {w w' w2 wr wv:World} {n n1 B t10 i:Nat} {κ κ' κr κv:Ctx} {m m' mv:Hp} {ρ ρ':Nat→Nat×Nat} {a:List UInt8} {ta ra:Option Addr} {rc:Nat} {l:List eP} {v v':aY} {rl:List RM}
def dnR (r:RM):Rel:=(r.nm,r.aR,r.steps)
def dnT (t:TM):fM:=(t.nm,t.aS.map dnR)
structure II (n1:Nat) (κr:Ctx) (wr:World) (B t10:Nat) (a:List UInt8) (ta:Option Addr) (l:List eP) (i:Nat) (ρ:Nat→Nat×Nat) (wv:World) (κv:Ctx) (mv:Hp) (v:aY) (rl:List RM) (ρ':Nat→Nat×Nat) (ra:Option Addr) (rc:Nat):Prop where
 rd:iQ wv B κv mv v
 since:cD n1 κr wr κv wv
 iE:aDv κv wv.heap ta l
 k : wv.heap[t10]? = some (.cells #[.string ⟨⟨a⟩⟩,.slice ra rl.length rc] 28 (0,0))
 f:lQ κv t10
 lo:n1≤t10
 n:n1≤wr.heap.size
 lay:pQ n1 κv wv ρ' i ra rc rl
 old:∀ b,b < n1→ρ' b=ρ b
theorem pQ.same {c : Nat} {x : Option Nat} {w2 : World} {κ2 : Ctx} {rl : List RM} (h : pQ n κ w ρ i ra c rl) (s : kK x κ w κ2 w2) (hx : ∀ b,x = some b → ∃ c,w.heap[b]? = some (.cells c 28 (0,0))) : pQ n κ2 w2 ρ i ra c rl :=
 h.step s (by decide) hx (fun b hb e=>by
  obtain ⟨c1,h1⟩:=a0r h.o hb
  obtain ⟨c2,h2⟩:=hx b e.symm
  rw [h1] at h2; cases h2) fun _ _=>rfl
theorem II.ext (I:II n1 κr wr B t10 a ta l i ρ wv κv mv v rl ρ' ra rc) (x:Ext κv wv mv κ' w' m') (r:iQ w' B κ' m' v'):II n1 κr wr B t10 a ta l i ρ w' κ' m' v' rl ρ' ra rc:=by
 obtain ⟨g,e⟩:=qE I.k I.f x
 exact ⟨r,I.since.trans (cD.ext x (Nat.le_trans I.n I.since.size)),I.iE.step (kK.ext x),g,e,I.lo,I.n,I.lay.same (kK.ext x) (fun b h=>by cases h),I.old⟩
theorem aK9 (h:iQ wv B κv mv v) (o:Nat) (u:Value):kK none κv wv κv (wv.setCell ⟨B,o,none⟩ u):=kK.of (n:=wv.heap.size) (cD.aPc h o u) (zxy _)
theorem II.next (I:II n1 κr wr B t10 a ta l i ρ wv κv mv v rl ρ' ra rc):∃ m',II n1 κr wr B t10 a ta l i ρ (wv.setCell ⟨B,1,none⟩ (.int .i64 ((v.i:Int)+1))) κv m' (aE v) rl ρ' ra rc:=by
 obtain ⟨m',h,_⟩:=I.rd.next
 exact ⟨m',h,I.since.trans (cD.aPc I.rd 1 _),I.iE.step (aK9 I.rd 1 _),(eN _ _ (a4f I.rd I.f)).trans I.k,I.f,I.lo,I.n,I.lay.same (aK9 I.rd 1 _) (fun b h=>by cases h),I.old⟩
theorem uY (o:Obj):kK none κ w κ (w.alloc o):=kK.of (n:=w.heap.size) (cD.alloc (zxy _) o) (zxy _)
theorem II.alloc (I:II n1 κr wr B t10 a ta l i ρ wv κv mv v rl ρ' ra rc) (o:Obj):II n1 κr wr B t10 a ta l i ρ (wv.alloc o) κv mv v rl ρ' ra rc :=
 ⟨I.rd.alloc o,I.since.trans (cD.alloc (Nat.le_trans I.n I.since.size) o),I.iE.step (uY o),(heap_alloc_old _ _ (zsz.1 I.k).1).trans I.k,I.f,I.lo,I.n,I.lay.same (uY o) (fun b h=>by cases h),I.old⟩
theorem II.c (I : II n1 κr wr B t10 a ta l i ρ wv κv mv v rl ρ' ra rc) : wv.cell? ⟨t10,0,none⟩ = some (.string ⟨⟨a⟩⟩) ∧ wv.cell? ⟨t10,1,none⟩ = some (.slice ra rl.length rc) ∧ ∀ o,wv.frozen? ⟨t10,o,none⟩ = false :=
 ⟨Lib.cell_of_heap I.k ..,Lib.cell_of_heap I.k ..,fun o=>Lib.frozen_of_heap I.k o⟩
theorem II.rel {q:aY×Rel} {sa xa:Option Addr} {sc xc:Nat} (I:II n1 κr wr B t10 a ta l i ρ wv κv mv v rl ρ' ra rc) (e:aBr wv.heap.size B κv wv q κ' m' w' sa sc xa) :
  ∃ ρ2,II n1 κr wr B t10 a ta l i ρ w' κ' m' q.1 rl ρ2 ra rc∧yX n1 κ' w' ⟨q.2.1,q.2.2.1,q.2.2.2,sa,sc,xa,xc⟩∧∀ b,(Value.slice sa q.2.2.1.length sc).ownBlock=some b→ρ2 b=(i,rl.length):=by
 have s:=kK.of e.since (zxy _)
 have hn:n1≤wv.heap.size:=Nat.le_trans I.n I.since.size
 have ht:=(zsz.1 I.k).1
 refine ⟨fun b=>if b < wv.heap.size then ρ' b else (i,rl.length),⟨e.st,I.since.trans (e.since.low hn),I.iE.step s,(e.since.free _ ht I.f).2.trans I.k,(e.since.free _ ht I.f).1,I.lo,I.n,I.lay.step s (E:=28) (by decide) (fun b h=>by cases h) (fun b _=>by simp) fun b hb=>if_pos hb,fun b hb=>by rw [if_pos (by omega)]; exact I.old b hb⟩,⟨zL e.aR hn,e.free,e.steps⟩,fun b hb=>if_neg ?_⟩
 have:=(e.aR.lt b hb).1
 omega
theorem II.push {r:RM} {g cp':Nat} (I:II n1 κr wr B t10 a ta l i ρ wv κv mv v rl ρ' ra rc) (hr:yX n1 κv wv r) (hρ:∀ b,(Value.slice r.sa r.aR.length r.sc).ownBlock=some b→ρ' b=(i,rl.length))
  (hg:wv.grownBy w2 (Value.slice ra rl.length rc).ownBlock) (hown:w2.ownsRow n1 32 3 (.slice (some ⟨g,0,none⟩) (rl.length+1) cp') (rl.length+1) (a0s rl++yT r)) (hat:(Value.slice ra rl.length rc).ownBlock=some g∨wv.heap.size≤g) :
  II n1 κr wr B t10 a ta l i ρ (w2.setCell ⟨t10,1,none⟩ (.slice (some ⟨g,0,none⟩) (rl.length+1) cp')) κv mv v (rl++[r]) ρ' (some ⟨g,0,none⟩) cp':=by
 have n0:some t10≠(Value.slice ra rl.length rc).ownBlock:=fun e=>by
  obtain ⟨c,h⟩:=a0r I.lay.o e.symm
  rw [I.k] at h; cases h
 have hsz:n1≤wv.heap.size:=Nat.le_trans I.n I.since.size
 have k2:=(hg.block t10 (zsz.1 I.k).1 n0).trans I.k
 have s1:kK _ κv wv κv w2:=kK.grown hg fun b e=>(I.lay.f b e).1
 have s2:kK (some t10) κv w2 κv (w2.setCell ⟨t10,1,none⟩ (.slice (some ⟨g,0,none⟩) (rl.length+1) cp')):=kK.grown (uX _ _ _) fun b e=>by cases e; exact I.f.1
 have r2:=I.rd.grown hg fun b e=>I.lay.f b e
 have l2:=I.lay.push I.rd.mem hr hρ hg hown hat
 have e2:=I.since.trans (cD.grown hg hsz fun b e=>⟨(I.lay.o.lt b e).1,(I.lay.f b e).1⟩)
 have hlen:(rl++[r]).length=rl.length+1:=by simp
 refine ⟨r2.grown (uX _ _ _) (fun b e=>by cases e; exact I.f),e2.trans (cD.set (Nat.le_trans I.n e2.size) I.lo I.f.1 _ _),(I.iE.step s1).step s2,?_,I.f,I.lo,I.n,l2.same s2 (fun b e=>by cases e; exact ⟨_,k2⟩),I.old⟩
 rw [uW 1 _ k2,hlen]
 rfl
theorem II.aIh {r:RM} {H g cp':Nat} (I:II n1 κr wr B t10 a ta l i ρ wv κv mv v rl ρ' ra rc) (hr:yX n1 κv wv r) (hρ:∀ b,(Value.slice r.sa r.aR.length r.sc).ownBlock=some b→ρ' b=(i,rl.length)) (hH:wv.heap.size=H) {o:Obj}
  (hg:(wv.alloc o).grownBy w2 (Value.slice ra rl.length rc).ownBlock) (hown:w2.ownsRow n1 32 3 (.slice (some ⟨g,0,none⟩) (rl.length+1) cp') (rl.length+1) (a0s rl++yT r)) (hat:(Value.slice ra rl.length rc).ownBlock=some g∨g=H+1) :
  II n1 κr wr B t10 a ta l i ρ (w2.setCell ⟨t10,1,none⟩ (.slice (some ⟨g,0,none⟩) (rl.length+1) cp')) κv mv v (rl++[r]) ρ' (some ⟨g,0,none⟩) cp' :=
 (I.alloc o).push (hr.step (uY o) fun b _=>by simp) hρ hg hown (hat.imp id fun e=>by rw [e]; exact Nat.le_of_eq (pF hH _))
theorem II.bJy (I : II n1 κr wr B t10 a ta l i ρ wv κv mv v rl ρ' ra rc) (hg : wv.grownBy w2 (Value.slice ra rl.length rc).ownBlock) : w2.cell? ⟨t10,1,none⟩ = some (.slice ra rl.length rc) ∧ ∀ o,w2.frozen? ⟨t10,o,none⟩ = false:=by
 have k2:=(hg.block t10 (zsz.1 I.k).1 fun e=>by
  obtain ⟨c,h⟩:=a0r I.lay.o e.symm
  rw [I.k] at h; cases h).trans I.k
 exact ⟨Lib.cell_of_heap k2 ..,fun o=>Lib.frozen_of_heap k2 o⟩
theorem aHf {w : World} {H : Nat} (hH : w.heap.size = H) (cs : List Value) (E : TypeId) : ∀ j u,cs[j]? = some u → (w.alloc (.cells ⟨cs⟩ E)).cell? ((⟨H,0,none⟩ : Addr).add j) = some u:=by
 subst hH
 exact World.news_of_block (cs:=⟨cs⟩) (heap_alloc_new w _)
theorem b9d (r:RM):∀ u ∈ yT r,u.oneCell'=true:=by
 intro u hu
 simp only [yT,List.mem_cons,List.not_mem_nil,or_false] at hu
 rcases hu with rfl | rfl | rfl <;> rfl
theorem aDx (t:TM):∀ u ∈ qW t,u.oneCell'=true:=by
 intro u hu
 simp only [qW,List.mem_cons,List.not_mem_nil,or_false] at hu
 rcases hu with rfl | rfl <;> rfl
theorem b2g {wd:List UInt8} (hw:wd.length≤100000) (w:World):Calls Try.prog 25 #[.string ⟨⟨wd⟩⟩] w fun e w'=>∃ κ' ta tc,e = .returned (.tuple #[.slice ta (cP wd).1.length tc,.int .i64 (cP wd).2.1,.int .i64 (cP wd).2.2])∧Mem κ' w'.heap empty∧aW κ' w'.heap (bJ (cP wd).1) (.slice ta (cP wd).1.length tc)∧aDv κ' w'.heap ta (cP wd).1∧cD w.heap.size aHe w κ' w':=by
 have hF:mJ [.str wd]=some (.aO [bJ (cP wd).1,vI (cP wd).2.1,vI (cP wd).2.2]):=if_pos (by unfold mL; omega)
 refine ((a3c.call _ _ hF).1 empty aHe w [.string ⟨⟨wd⟩⟩] (b9b _) (aJ.cons (.str wd) aJ.nil)).mono ?_
 rintro e w' ⟨x,κ',rfl,hx,hv⟩
 cases hv with
 | aO _ xs hl hr =>
  match xs,hl with
  | [y0,y1,y2],_ =>
   have h0:=hr 0 _ y0 rfl rfl
   have h1:=hr 1 _ y1 rfl rfl
   have h2:=hr 2 _ y2 rfl rfl
   obtain ⟨ta,tc,rfl,hrow⟩:=b9a h0
   obtain rfl:=eQ h1
   obtain rfl:=eQ h2
   exact ⟨κ',ta,tc,rfl,hx.mem,h0,hrow,cD.ext hx (zxy _)⟩
end Go.Fbs

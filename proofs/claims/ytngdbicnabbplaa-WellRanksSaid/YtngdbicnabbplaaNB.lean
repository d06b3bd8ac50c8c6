/- A schema in memory; its methods Rel and Rank. -/
import Derived.Test.YtngdbicnabbplaaNA
import Derived.Laws.ResultCell
import Derived.Shelf.SlicesQ.Load
import Derived.StillTailTactics
import Derived.Shelf.SlicesE.Clone
set_option linter.unusedSimpArgs false
set_option linter.unusedVariables false
set_option linter.unusedSectionVars false
set_option maxRecDepth 100000
namespace Go.Fbs
open Go.Proofs Go.RowKit Go.Maps
structure dU (W W':World):Prop where
 os:W'.os=W.os
 output:W'.output=W.output
 size:W.heap.size≤W'.heap.size
 same : ∀ b,b < W.heap.size → W'.heap[b]? = W.heap[b]?
theorem dU.refl (a:World):dU a a:=⟨rfl,rfl,zxy _,fun _ _=>rfl⟩
theorem dU.trans {a b c:World} (h:dU a b) (k:dU b c):dU a c :=
 ⟨k.os.trans h.os,k.output.trans h.output,Nat.le_trans h.size k.size,fun i hi=>(k.same i (zuz hi h.size)).trans (h.same i hi)⟩
theorem aR (w:World) (o:Obj):dU w (w.alloc o):=⟨rfl,rfl,by simp,fun b hb=>heap_alloc_old _ _ hb⟩
theorem fN (w:World):dU w w.drew:=⟨rfl,rfl,zxy _,fun _ _=>rfl⟩
theorem rL {W : World} {a : Addr} {v : Value} (hc : W.cell? a = some v) : a.block < W.heap.size:=by
 unfold World.cell? at hc
 rcases Nat.lt_or_ge a.block W.heap.size with h | h
 ·exact h
 ·rw [Array.getElem?_eq_none h] at hc; cases hc
theorem dU.cell {W W' : World} (h : dU W W') {a : Addr} {v : Value} (hc : W.cell? a = some v) : W'.cell? a = some v:=by
 rw [World.cell?_of_block (h.same _ (rL hc))]; exact hc
structure RX where
 nm:List UInt8
 sa:Option Addr
 sn:Nat
 sc:Nat
 xa:Option Addr
 xn:Nat
 xc:Nat
def aOx (r:RX):Value:=.agg #[.string ⟨⟨r.nm⟩⟩,.slice r.sa r.sn r.sc,.slice r.xa r.xn r.xc]
def rx0:RX:=⟨[],none,0,0,none,0,0⟩
structure jN (w:World) (n k:Nat) (mt:Lit→Option Int) (mr:Lit→Option RX) (mk:Lit→Option Nat):Prop where
 s : w.heap[n + 3]? = some (.cells #[.map (some n),.map (some (n + 1)),.map (some (n + 2))] 96 (0,0))
 t:lU Try.prog 9 w n k fun kl=>(mt kl).map fun i=>.int .i64 i
 r:lU Try.prog 100 w (n+1) k fun kl=>(mr kl).map aOx
 k:lU Try.prog 100 w (n+2) k fun kl=>(mk kl).map fun i:Nat=>Value.int .i64 (i:Int)
variable {W W':World} {n k:Nat} {mt:Lit→Option Int} {mr:Lit→Option RX} {mk:Lit→Option Nat}
theorem jN.lt (h:jN W n k mt mr mk):n+3 < W.heap.size:=(zsz.1 h.s).1
theorem jN.mono (h:jN W n k mt mr mk) {k':Nat} (hk:k≤k'):jN W n k' mt mr mk:=⟨h.s,h.t.mono hk,h.r.mono hk,h.k.mono hk⟩
theorem jN.fI (h : jN W n k mt mr mk) (hs : ∀ b,n ≤ b → b ≤ n + 3 → W'.heap[b]? = W.heap[b]?) : jN W' n k mt mr mk :=
 ⟨(hs _ (by omega) (by omega)).trans h.s,h.t.same (hs _ (by omega) (by omega)),h.r.same (hs _ (by omega) (by omega)),h.k.same (hs _ (by omega) (by omega))⟩
theorem jN.lX (h:jN W n k mt mr mk) (hs:dU W W'):jN W' n k mt mr mk:=h.fI fun b _ hb=>hs.same b (by have:=h.lt; omega)
theorem jN.c0 (h : jN W n k mt mr mk) : W.cell? ⟨n + 3,0,none⟩ = some (.map (some n)):=Lib.cell_of_heap h.s ..
theorem jN.c1 (h : jN W n k mt mr mk) : W.cell? ⟨n + 3,1,none⟩ = some (.map (some (n + 1))):=Lib.cell_of_heap h.s ..
theorem jN.c2 (h : jN W n k mt mr mk) : W.cell? ⟨n + 3,2,none⟩ = some (.map (some (n + 2))):=Lib.cell_of_heap h.s ..
theorem jN.rel (h:jN W n k mt mr mk) {a b:List UInt8} (ha:a.length≤maxLen) (hb:b.length≤maxLen) :
  (Instr.lookup 93 (.map (some (n+1))) (.agg #[.string ⟨⟨a⟩⟩,.string ⟨⟨b⟩⟩]) true).run Try.prog W = .ok (.tuple #[aOx ((mr (gM a b)).getD rx0),.bool (mr (gM a b)).isSome]) W:=by
 refine (h.r.bIs aMq Try.underlying93 (b8r W) (a5n ha hb) trivial).trans ?_
 cases hm:mr (gM a b) <;> rfl
theorem jN.bIv (h:jN W n k mt mr mk) {a b:List UInt8} (ha:a.length≤maxLen) (hb:b.length≤maxLen) :
  (Instr.lookup 93 (.map (some (n+1))) (.agg #[.string ⟨⟨a⟩⟩,.string ⟨⟨b⟩⟩]) false).run Try.prog W = .ok (aOx ((mr (gM a b)).getD rx0)) W:=by
 refine (h.r.look aMq Try.underlying93 (b8r W) (a5n ha hb) trivial).trans ?_
 cases hm:mr (gM a b) <;> rfl
theorem jN.aSt (h:jN W n k mt mr mk) {a b:List UInt8} (ha:a.length≤maxLen) (hb:b.length≤maxLen) :
  (Instr.lookup 94 (.map (some (n+2))) (.agg #[.string ⟨⟨a⟩⟩,.string ⟨⟨b⟩⟩]) false).run Try.prog W = .ok (.int .i64 ((mk (gM a b)).getD 0:Nat)) W:=by
 refine (h.k.look aMq Try.underlying94 (aX5 W) (a5n ha hb) trivial).trans ?_
 cases hm:mk (gM a b) <;> rfl
theorem jN.typ (h:jN W n k mt mr mk) {a:List UInt8} (ha:a.length≤maxLen) :
  (Instr.lookup 92 (.map (some n)) (.string ⟨⟨a⟩⟩) false).run Try.prog W = .ok (.int .i64 ((mt (.string a)).getD 0)) W:=by
 refine (h.t.look bEm Try.underlying92 (aX5 W) (b2j ha) trivial).trans ?_
 cases hm:mt (.string a) <;> rfl
theorem aSu {α:Type} (m:Lit→Option α) (kl:Lit) (v:α) (f:α→Value):(fun x=>(mR m kl v x).map f)=mR (fun x=>(m x).map f) kl (f v):=by
 funext x
 unfold mR
 split <;> rfl
theorem jN.bN0 (h:jN W n k mt mr mk) (hk:k < maxLen) {a:List UInt8} (ha:a.length≤maxLen) (i:Int) :
  ∃ w4,(Instr.mapUpdate 92 (.map (some n)) (.string ⟨⟨a⟩⟩) (.int .i64 i)).run Try.prog W = .ok () w4∧jN w4 n (k+1) (mR mt (.string a) i) mr mk∧W.grownBy w4 (some n):=by
 obtain ⟨w4,h1,h2,h3⟩:=h.t.put bEm Try.underlying92 hk (b2j ha) trivial (val:=.int .i64 i)
 have hlt:=h.lt
 have hb : ∀ b,n < b → b ≤ n + 3 → w4.heap[b]? = W.heap[b]?:=fun b h4 h5=>h3.block b (by omega) fun e=>by cases e; omega
 exact ⟨w4,h1,⟨(hb _ (by omega) (by omega)).trans h.s,by rw [aSu]; exact h2,(h.r.same (hb _ (by omega) (by omega))).mono (by omega),(h.k.same (hb _ (by omega) (by omega))).mono (by omega)⟩,h3⟩
theorem jN.aKn (h:jN W n k mt mr mk) (hk:k < maxLen) {a b:List UInt8} (ha:a.length≤maxLen) (hb:b.length≤maxLen) (r:RX) :
  ∃ w4,(Instr.mapUpdate 93 (.map (some (n+1))) (.agg #[.string ⟨⟨a⟩⟩,.string ⟨⟨b⟩⟩]) (.agg #[.string ⟨⟨r.nm⟩⟩,.slice r.sa r.sn r.sc,.slice r.xa r.xn r.xc])).run Try.prog W = .ok () w4∧jN w4 n (k+1) mt (mR mr (gM a b) r) mk∧W.grownBy w4 (some (n+1)):=by
 obtain ⟨w4,h1,h2,h3⟩:=h.r.put aMq Try.underlying93 hk (a5n ha hb) trivial (val:=aOx r)
 have hlt:=h.lt
 have hb : ∀ b,n + 1 ≠ b → b ≤ n + 3 → w4.heap[b]? = W.heap[b]?:=fun b h4 h5=>h3.block b (by omega) fun e=>by cases e; omega
 exact ⟨w4,h1,⟨(hb _ (by omega) (by omega)).trans h.s,(h.t.same (hb _ (by omega) (by omega))).mono (by omega),by rw [aSu]; exact h2,(h.k.same (hb _ (by omega) (by omega))).mono (by omega)⟩,h3⟩
theorem bIw (u:World):(zeroValue 3).run Try.prog u = .ok (.int .i64 0) u:=aX5 u
def a0f (n:Nat):Value:=.pointer (some ⟨n+3,0,none⟩)
theorem b5m (h:jN W n k mt mr mk) {a b:List UInt8} (ha:a.length≤maxLen) (hb:b.length≤maxLen) :
  Calls Try.prog 19 #[a0f n,.string ⟨⟨a⟩⟩,.string ⟨⟨b⟩⟩] W fun e w'=>e = .returned (.int .i64 ((mk (gM a b)).getD 0:Nat))∧dU W w':=by
 have hc:=h.c2
 have hr:=h.aSt ha hb
 unfold a0f
 go_enter Try.func19,Try.ntmps19
 go_wp2
 go_ret
 exact ⟨rfl,dU.refl _⟩
theorem wM (h:jN W n k mt mr mk) {a b:List UInt8} (ha:a.length≤maxLen) (hb:b.length≤maxLen) :
  Calls Try.prog 18 #[a0f n,.string ⟨⟨a⟩⟩,.string ⟨⟨b⟩⟩] W fun e w'=>e = .returned (.tuple #[aOx ((mr (gM a b)).getD rx0),.bool (mr (gM a b)).isSome])∧dU W w':=by
 unfold a0f
 have h1:=h.lX (aR W (.cells #[.string ⟨#[]⟩,.slice none 0 0,.slice none 0 0] 32))
 have hc:=h1.c1
 have hr:=h1.rel ha hb
 unfold aOx at hr ⊢
 generalize (mr (gM a b)).getD rx0=r at hr ⊢
 generalize (mr (gM a b)).isSome=o at hr ⊢
 go_enter Try.func18,Try.ntmps18
 go_wp2
 obtain ⟨X,hX⟩:∃ X,X=(W.alloc (.cells #[.string ⟨⟨r.nm⟩⟩,.slice r.sa r.sn r.sc,.slice r.xa r.xn r.xc] 32)).alloc (.cells #[.string ⟨⟨r.nm⟩⟩,.slice r.sa r.sn r.sc,.slice r.xa r.xn r.xc] 32):=⟨_,rfl⟩
 have hs:dU W X:=by rw [hX]; exact (aR _ _).trans (aR _ _)
 have y0 : X.cell? ⟨W.heap.size,0,none⟩ = some (.string ⟨⟨r.nm⟩⟩):=by rw [hX]; go_simp
 have y1 : X.cell? ⟨W.heap.size,1,none⟩ = some (.slice r.sa r.sn r.sc):=by rw [hX]; go_simp
 have y2 : X.cell? ⟨W.heap.size,2,none⟩ = some (.slice r.xa r.xn r.xc):=by rw [hX]; go_simp
 rw [← hX]
 clear hX hr hc h1
 have hld:Sem.run Try.prog (loadCellsFrom ⟨W.heap.size,0,none⟩ 0 3 #[]) X = .ok #[.string ⟨⟨r.nm⟩⟩,.slice r.sa r.sn r.sc,.slice r.xa r.xn r.xc] X :=
  run_loadCellsFrom_list _ X _ [.string ⟨⟨r.nm⟩⟩,.slice r.sa r.sn r.sc,.slice r.xa r.xn r.xc] 3 rfl (fun j v hj=>by
   match j,hj with
   | 0,hj=>cases hj; exact y0
   | 1,hj=>cases hj; exact y1
   | 2,hj=>cases hj; exact y2)
 have hres:∀ tmps:Array Value,tmps.getD 6 undef = .pointer (some ⟨W.heap.size,0,none⟩)→tmps.getD 7 undef = .bool o→Sem.run Try.prog (results Try.f18 tmps) X = .ok (.tuple #[.agg #[.string ⟨⟨r.nm⟩⟩,.slice r.sa r.sn r.sc,.slice r.xa r.xn r.xc],.bool o]) X:=fun tmps e e2=>by
  rw [results_cell_tmp (p:=6) (u:=7) (ty:=32) rfl tmps Try.prog X,e,e2]
  simp [asAddr,loadVar,Try.isAgg32,Try.sizeOf32,loadCells,hld,Result.andThen]
 exact ⟨rfl,_,hres _ rfl rfl,rfl,hs⟩
end Go.Fbs

/- A schema in memory; its methods Rel and Rank. -/
import Derived.Test.YtngdbicnabbplaaNA
import Derived.Laws.ResultCell
import Derived.Shelf.SlicesQ.Load
import Derived.StillTailTactics
import Derived.Shelf.SlicesE.Clone
set_option linter.unusedSimpArgs false
set_option linter.unusedVariables false
set_option linter.unusedSectionVars false
set_option maxRecDepth 100000
namespace Go.Fbs
open Go.Proofs Go.RowKit Go.Maps
structure dU (W W':World):Prop where
 os:W'.os=W.os
 output:W'.output=W.output
 size:W.heap.size≤W'.heap.size
 same : ∀ b,b < W.heap.size → W'.heap[b]? = W.heap[b]?
theorem dU.refl (a:World):dU a a:=⟨rfl,rfl,zxy _,fun _ _=>rfl⟩
theorem dU.trans {a b c:World} (h:dU a b) (k:dU b c):dU a c :=
 ⟨k.os.trans h.os,k.output.trans h.output,Nat.le_trans h.size k.size,fun i hi=>(k.same i (zuz hi h.size)).trans (h.same i hi)⟩
theorem aK (w:World) (o:Obj):dU w (w.alloc o):=⟨rfl,rfl,by simp,fun b hb=>heap_alloc_old _ _ hb⟩
theorem eZ (w:World):dU w w.drew:=⟨rfl,rfl,zxy _,fun _ _=>rfl⟩
theorem pN {W : World} {a : Addr} {v : Value} (hc : W.cell? a = some v) : a.block < W.heap.size:=by
 unfold World.cell? at hc
 rcases Nat.lt_or_ge a.block W.heap.size with h | h
 ·exact h
 ·rw [Array.getElem?_eq_none h] at hc; cases hc
theorem dU.cell {W W' : World} (h : dU W W') {a : Addr} {v : Value} (hc : W.cell? a = some v) : W'.cell? a = some v:=by
 rw [World.cell?_of_block (h.same _ (pN hc))]; exact hc
structure RX where
 nm:List UInt8
 sa:Option Addr
 sn:Nat
 sc:Nat
 xa:Option Addr
 xn:Nat
 xc:Nat
def aK2 (r:RX):Value:=.agg #[.string ⟨⟨r.nm⟩⟩,.slice r.sa r.sn r.sc,.slice r.xa r.xn r.xc]
def rx0:RX:=⟨[],none,0,0,none,0,0⟩
structure gL (w:World) (n k:Nat) (mt:Lit→Option Int) (mr:Lit→Option RX) (mk:Lit→Option Nat):Prop where
 s : w.heap[n + 3]? = some (.cells #[.map (some n),.map (some (n + 1)),.map (some (n + 2))] 96 (0,0))
 t:jH Try.prog 9 w n k fun kl=>(mt kl).map fun i=>.int .i64 i
 r:jH Try.prog 100 w (n+1) k fun kl=>(mr kl).map aK2
 k:jH Try.prog 100 w (n+2) k fun kl=>(mk kl).map fun i:Nat=>Value.int .i64 (i:Int)
variable {W W':World} {n k:Nat} {mt:Lit→Option Int} {mr:Lit→Option RX} {mk:Lit→Option Nat}
theorem gL.lt (h:gL W n k mt mr mk):n+3 < W.heap.size:=(zsz.1 h.s).1
theorem gL.mono (h:gL W n k mt mr mk) {k':Nat} (hk:k≤k'):gL W n k' mt mr mk:=⟨h.s,h.t.mono hk,h.r.mono hk,h.k.mono hk⟩
theorem gL.cZ (h : gL W n k mt mr mk) (hs : ∀ b,n ≤ b → b ≤ n + 3 → W'.heap[b]? = W.heap[b]?) : gL W' n k mt mr mk :=
 ⟨(hs _ (by omega) (by omega)).trans h.s,h.t.same (hs _ (by omega) (by omega)),h.r.same (hs _ (by omega) (by omega)),h.k.same (hs _ (by omega) (by omega))⟩
theorem gL.jI (h:gL W n k mt mr mk) (hs:dU W W'):gL W' n k mt mr mk:=h.cZ fun b _ hb=>hs.same b (by have:=h.lt; omega)
theorem gL.c0 (h : gL W n k mt mr mk) : W.cell? ⟨n + 3,0,none⟩ = some (.map (some n)):=Lib.cell_of_heap h.s ..
theorem gL.c1 (h : gL W n k mt mr mk) : W.cell? ⟨n + 3,1,none⟩ = some (.map (some (n + 1))):=Lib.cell_of_heap h.s ..
theorem gL.c2 (h : gL W n k mt mr mk) : W.cell? ⟨n + 3,2,none⟩ = some (.map (some (n + 2))):=Lib.cell_of_heap h.s ..
theorem gL.rel (h:gL W n k mt mr mk) {a b:List UInt8} (ha:a.length≤maxLen) (hb:b.length≤maxLen) :
  (Instr.lookup 93 (.map (some (n+1))) (.agg #[.string ⟨⟨a⟩⟩,.string ⟨⟨b⟩⟩]) true).run Try.prog W = .ok (.tuple #[aK2 ((mr (dY a b)).getD rx0),.bool (mr (dY a b)).isSome]) W:=by
 refine (h.r.bFj aIf Try.underlying93 (b5a W) (a3d ha hb) trivial).trans ?_
 cases hm:mr (dY a b) <;> rfl
theorem gL.bFm (h:gL W n k mt mr mk) {a b:List UInt8} (ha:a.length≤maxLen) (hb:b.length≤maxLen) :
  (Instr.lookup 93 (.map (some (n+1))) (.agg #[.string ⟨⟨a⟩⟩,.string ⟨⟨b⟩⟩]) false).run Try.prog W = .ok (aK2 ((mr (dY a b)).getD rx0)) W:=by
 refine (h.r.look aIf Try.underlying93 (b5a W) (a3d ha hb) trivial).trans ?_
 cases hm:mr (dY a b) <;> rfl
theorem gL.aO5 (h:gL W n k mt mr mk) {a b:List UInt8} (ha:a.length≤maxLen) (hb:b.length≤maxLen) :
  (Instr.lookup 94 (.map (some (n+2))) (.agg #[.string ⟨⟨a⟩⟩,.string ⟨⟨b⟩⟩]) false).run Try.prog W = .ok (.int .i64 ((mk (dY a b)).getD 0:Nat)) W:=by
 refine (h.k.look aIf Try.underlying94 (aU1 W) (a3d ha hb) trivial).trans ?_
 cases hm:mk (dY a b) <;> rfl
theorem gL.typ (h:gL W n k mt mr mk) {a:List UInt8} (ha:a.length≤maxLen) :
  (Instr.lookup 92 (.map (some n)) (.string ⟨⟨a⟩⟩) false).run Try.prog W = .ok (.int .i64 ((mt (.string a)).getD 0)) W:=by
 refine (h.t.look bAt Try.underlying92 (aU1 W) (aYz ha) trivial).trans ?_
 cases hm:mt (.string a) <;> rfl
theorem aO6 {α:Type} (m:Lit→Option α) (kl:Lit) (v:α) (f:α→Value):(fun x=>(kJ m kl v x).map f)=kJ (fun x=>(m x).map f) kl (f v):=by
 funext x
 unfold kJ
 split <;> rfl
theorem gL.bJw (h:gL W n k mt mr mk) (hk:k < maxLen) {a:List UInt8} (ha:a.length≤maxLen) (i:Int) :
  ∃ w4,(Instr.mapUpdate 92 (.map (some n)) (.string ⟨⟨a⟩⟩) (.int .i64 i)).run Try.prog W = .ok () w4∧gL w4 n (k+1) (kJ mt (.string a) i) mr mk∧W.grownBy w4 (some n):=by
 obtain ⟨w4,h1,h2,h3⟩:=h.t.put bAt Try.underlying92 hk (aYz ha) trivial (val:=.int .i64 i)
 have hlt:=h.lt
 have hb : ∀ b,n < b → b ≤ n + 3 → w4.heap[b]? = W.heap[b]?:=fun b h4 h5=>h3.block b (by omega) fun e=>by cases e; omega
 exact ⟨w4,h1,⟨(hb _ (by omega) (by omega)).trans h.s,by rw [aO6]; exact h2,(h.r.same (hb _ (by omega) (by omega))).mono (by omega),(h.k.same (hb _ (by omega) (by omega))).mono (by omega)⟩,h3⟩
theorem gL.a8c (h:gL W n k mt mr mk) (hk:k < maxLen) {a b:List UInt8} (ha:a.length≤maxLen) (hb:b.length≤maxLen) (r:RX) :
  ∃ w4,(Instr.mapUpdate 93 (.map (some (n+1))) (.agg #[.string ⟨⟨a⟩⟩,.string ⟨⟨b⟩⟩]) (.agg #[.string ⟨⟨r.nm⟩⟩,.slice r.sa r.sn r.sc,.slice r.xa r.xn r.xc])).run Try.prog W = .ok () w4∧gL w4 n (k+1) mt (kJ mr (dY a b) r) mk∧W.grownBy w4 (some (n+1)):=by
 obtain ⟨w4,h1,h2,h3⟩:=h.r.put aIf Try.underlying93 hk (a3d ha hb) trivial (val:=aK2 r)
 have hlt:=h.lt
 have hb : ∀ b,n + 1 ≠ b → b ≤ n + 3 → w4.heap[b]? = W.heap[b]?:=fun b h4 h5=>h3.block b (by omega) fun e=>by cases e; omega
 exact ⟨w4,h1,⟨(hb _ (by omega) (by omega)).trans h.s,(h.t.same (hb _ (by omega) (by omega))).mono (by omega),by rw [aO6]; exact h2,(h.k.same (hb _ (by omega) (by omega))).mono (by omega)⟩,h3⟩
theorem bFn (u:World):(zeroValue 3).run Try.prog u = .ok (.int .i64 0) u:=aU1 u
def xA (n:Nat):Value:=.pointer (some ⟨n+3,0,none⟩)
theorem b1z (h:gL W n k mt mr mk) {a b:List UInt8} (ha:a.length≤maxLen) (hb:b.length≤maxLen) :
  Calls Try.prog 19 #[xA n,.string ⟨⟨a⟩⟩,.string ⟨⟨b⟩⟩] W fun e w'=>e = .returned (.int .i64 ((mk (dY a b)).getD 0:Nat))∧dU W w':=by
 have hc:=h.c2
 have hr:=h.aO5 ha hb
 unfold xA
 go_enter Try.func19,Try.ntmps19
 go_wp2
 go_ret
 exact ⟨rfl,dU.refl _⟩
theorem tP (h:gL W n k mt mr mk) {a b:List UInt8} (ha:a.length≤maxLen) (hb:b.length≤maxLen) :
  Calls Try.prog 18 #[xA n,.string ⟨⟨a⟩⟩,.string ⟨⟨b⟩⟩] W fun e w'=>e = .returned (.tuple #[aK2 ((mr (dY a b)).getD rx0),.bool (mr (dY a b)).isSome])∧dU W w':=by
 unfold xA
 have h1:=h.jI (aK W (.cells #[.string ⟨#[]⟩,.slice none 0 0,.slice none 0 0] 32))
 have hc:=h1.c1
 have hr:=h1.rel ha hb
 unfold aK2 at hr ⊢
 generalize (mr (dY a b)).getD rx0=r at hr ⊢
 generalize (mr (dY a b)).isSome=o at hr ⊢
 go_enter Try.func18,Try.ntmps18
 go_wp2
 obtain ⟨X,hX⟩:∃ X,X=(W.alloc (.cells #[.string ⟨⟨r.nm⟩⟩,.slice r.sa r.sn r.sc,.slice r.xa r.xn r.xc] 32)).alloc (.cells #[.string ⟨⟨r.nm⟩⟩,.slice r.sa r.sn r.sc,.slice r.xa r.xn r.xc] 32):=⟨_,rfl⟩
 have hs:dU W X:=by rw [hX]; exact (aK _ _).trans (aK _ _)
 have y0 : X.cell? ⟨W.heap.size,0,none⟩ = some (.string ⟨⟨r.nm⟩⟩):=by rw [hX]; go_simp
 have y1 : X.cell? ⟨W.heap.size,1,none⟩ = some (.slice r.sa r.sn r.sc):=by rw [hX]; go_simp
 have y2 : X.cell? ⟨W.heap.size,2,none⟩ = some (.slice r.xa r.xn r.xc):=by rw [hX]; go_simp
 rw [← hX]
 clear hX hr hc h1
 have hld:Sem.run Try.prog (loadCellsFrom ⟨W.heap.size,0,none⟩ 0 3 #[]) X = .ok #[.string ⟨⟨r.nm⟩⟩,.slice r.sa r.sn r.sc,.slice r.xa r.xn r.xc] X :=
  run_loadCellsFrom_list _ X _ [.string ⟨⟨r.nm⟩⟩,.slice r.sa r.sn r.sc,.slice r.xa r.xn r.xc] 3 rfl (fun j v hj=>by
   match j,hj with
   | 0,hj=>cases hj; exact y0
   | 1,hj=>cases hj; exact y1
   | 2,hj=>cases hj; exact y2)
 have hres:∀ tmps:Array Value,tmps.getD 6 undef = .pointer (some ⟨W.heap.size,0,none⟩)→tmps.getD 7 undef = .bool o→Sem.run Try.prog (results Try.f18 tmps) X = .ok (.tuple #[.agg #[.string ⟨⟨r.nm⟩⟩,.slice r.sa r.sn r.sc,.slice r.xa r.xn r.xc],.bool o]) X:=fun tmps e e2=>by
  rw [results_cell_tmp (p:=6) (u:=7) (ty:=32) rfl tmps Try.prog X,e,e2]
  simp [asAddr,loadVar,Try.isAgg32,Try.sizeOf32,loadCells,hld,Result.andThen]
 exact ⟨rfl,_,hres _ rfl rfl,rfl,hs⟩
end Go.Fbs

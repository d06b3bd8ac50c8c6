import Derived.Test.YtpdnpfdbjoaemaaGreatDoorQK
import Derived.Deep.AppendLies
set_option linter.unusedSimpArgs false
set_option linter.unusedVariables false
set_option linter.unusedSectionVars false
set_option maxRecDepth 100000
namespace Go.Fbs
open Go.Proofs Go.RowKit Go.Shelf
attribute [local go_sem] Oper.semAt_some
structure Cls (w0 : World) (v : Value) (k : Nat) (W : World) : Prop where
 a0 : W.frozen? ⟨w0.heap.size,0,none⟩ = false
 b0 : W.cell? ⟨w0.heap.size,0,none⟩ = some (.slice none 0 0)
 a1 : W.frozen? ⟨w0.heap.size + 1,0,none⟩ = false
 b1 : W.cell? ⟨w0.heap.size + 1,0,none⟩ = some (.int .i64 0)
 a2 : W.frozen? ⟨w0.heap.size + 1 + 1,0,none⟩ = false
 b2 : W.cell? ⟨w0.heap.size + 1 + 1,0,none⟩ = some (.int .i64 0)
 aO : W.frozen? ⟨w0.heap.size + 1 + 1 + 1,0,none⟩ = false
 bO : W.cell? ⟨w0.heap.size + 1 + 1 + 1,0,none⟩ = some v
 aA : W.frozen? ⟨w0.heap.size + 1 + 1 + 1 + 1,0,none⟩ = false
 bA : W.cell? ⟨w0.heap.size + 1 + 1 + 1 + 1,0,none⟩ = some (.int .i64 k)
theorem LS.cls {κ : Ctx} {w0 : World} {v : Value} {out : List Lin} {k : Nat} {W : World} (h : LS κ w0 v out k W) : Cls w0 v k W :=
 ⟨Lib.frozen_of_heap h.r0 0,Lib.cell_of_heap h.r0 ..,Lib.frozen_of_heap h.r1 0,Lib.cell_of_heap h.r1 ..,Lib.frozen_of_heap h.r2 0,Lib.cell_of_heap h.r2 ..,Lib.frozen_of_heap h.rO 0,Lib.cell_of_heap h.rO ..,Lib.frozen_of_heap h.rA 0,Lib.cell_of_heap h.rA ..⟩
def II (κ : Ctx) (w : World) (pre : List (List UInt8)) (W : World) : Prop:=∃ v out k,LS κ w v out k W ∧ (∀ rest,linesF (pre ++ rest) 0 [] = linesF rest k out) ∧ (pre.map fun p=>p.length + 1).sum = k ∧ out.length ≤ pre.length
def IX (s : List UInt8) (w W : World) : Prop:=∃ kk : Nat,linesM s = ([],kk,7) ∧ Bel w.heap.size w W ∧ W.heap[w.heap.size]? = some (.cells #[.slice none 0 0] 61 (0,0)) ∧ W.heap[w.heap.size + 1]? = some (.cells #[.int .i64 kk] 3 (0,0)) ∧ W.heap[w.heap.size + 2]? = some (.cells #[.int .i64 7] 32 (0,0))
theorem al_push (w : World) (o : Obj) : (w.alloc o).heap = w.heap.push o:=rfl
theorem allocs_heap : ∀ (os : List Obj) (w : World),(os.foldl World.alloc w).heap = w.heap ++ os.toArray
 | [],w=>by simp
 | o :: os,w=>by
  rw [List.foldl_cons,allocs_heap os,al_push]
  simp
theorem own_form {w : World} {base : Nat} {e : TypeId} {size n : Nat} {v : Value} {xs : List Value} (h : w.ownsRow base e size v n xs) : ∃ ad cp,v = .slice ad n cp:=by
 obtain ⟨_,h2⟩:=h
 rcases h2 with ⟨rfl,rfl⟩ | ⟨g',cap',cur,rfl,_⟩
 ·exact ⟨none,0,rfl⟩
 ·exact ⟨_,_,rfl⟩
theorem ix_drew {s : List UInt8} {w W : World} (h : IX s w W) : IX s w W.drew:=by
 obtain ⟨kk,e,hb,c0,c1,c2⟩:=h
 exact ⟨kk,e,hb.trans ⟨rfl,rfl,Nat.le_refl _,fun _ _=>rfl⟩,c0,c1,c2⟩
theorem LS.gl {κ : Ctx} {w0 : World} {v : Value} {out : List Lin} {k : Nat} {W : World} (h : LS κ w0 v out k W) (hs : w0.heap.size + 8 ≤ W.heap.size) : ∀ b,GL w0.heap.size v b = true → b < W.heap.size:=by
 intro b hb
 obtain ⟨xs,⟨_,h2⟩,_⟩:=h.row
 unfold GL at hb
 simp only [Bool.or_eq_true,decide_eq_true_eq] at hb
 rcases hb with hb | hb
 ·omega
 ·rcases h2 with ⟨rfl,_⟩ | ⟨g,cap,cur,rfl,_,hh,_⟩
  ·cases hb
  ·cases hb
   exact (Array.getElem?_eq_some_iff.1 hh).1
theorem set_one {W : World} {b E : Nat} {x : Value} (v : Value) (h : W.heap[b]? = some (.cells #[x] E (0,0))) : (W.setCell ⟨b,0,none⟩ v).heap[b]? = some (.cells #[v] E (0,0)):=by
 obtain ⟨g2,_⟩:=setCells_heap b E [v] 0 W ⟨[x]⟩ h (by simp)
 have hsc : W.setCells b 0 [v] = W.setCell ⟨b,0,none⟩ v:=rfl
 rw [hsc] at g2
 rw [g2]; rfl
theorem set_size (W : World) (a : Addr) (v : Value) : (W.setCell a v).heap.size = W.heap.size:=by simp [World.setCell]
theorem wrds_nil {κ : Ctx} {h : Heap} {y : Value} (r : Rep κ h (wrdsV []) y) : ∃ a cp,y = .slice a 0 cp:=by
 unfold wrdsV at r
 rw [List.map_nil] at r
 generalize he : ([] : List V) = es at r
 cases r with
 | slnil g hg=>exact ⟨_,_,rfl⟩
 | sl g es b off cap sz xs=>subst he; exact ⟨_,_,rfl⟩
theorem wrds_cons {κ : Ctx} {h : Heap} {y : Value} {q : Wrd} {ws : List Wrd} (r : Rep κ h (wrdsV (q :: ws)) y) : ∃ b off cp,y = .slice (some ⟨b,off,none⟩) (ws.length + 1) cp ∧ hcell h b (off + 1) = some (.int .i64 q.2):=by
 unfold wrdsV at r
 generalize he : (q :: ws).map wrdW = es at r
 cases r with
 | slnil g hg=>simp at he
 | sl g es b off cap sz xs hx hu hl hr hc ht =>
  subst he
  refine ⟨b,off,cap,by simp,?_⟩
  have hfl : flat ((q :: ws).map wrdW) = .str q.1 :: vI q.2 :: flat (ws.map wrdW):=rfl
  rw [hfl] at hl hr
  obtain ⟨y0,y1,ys,rfl⟩ : ∃ y0 y1 ys,xs = y0 :: y1 :: ys:=by
   match xs,hl with
   | y0 :: y1 :: ys,_=>exact ⟨y0,y1,ys,rfl⟩
  have h1:=rep_int (hr 1 _ y1 rfl rfl)
  have h2:=(hx 1 y1 rfl).2.1
  rw [h2,h1]
theorem LS.at_ {κ : Ctx} {w0 : World} {v : Value} {out : List Lin} {k : Nat} {W : World} (h : LS κ w0 v out k W) (k' : Nat) : LS κ w0 v out k' (W.setCell ⟨w0.heap.size + 1 + 1 + 1 + 1,0,none⟩ (.int .i64 k')):=by
 have s1 : ∀ i,i ≠ w0.heap.size + 1 + 1 + 1 + 1 → (W.setCell ⟨w0.heap.size + 1 + 1 + 1 + 1,0,none⟩ (.int .i64 k')).heap[i]? = W.heap[i]?:=fun i hi=>setCell_other W _ _ hi
 obtain ⟨xs,h1,h2⟩:=h.row
 refine ⟨h.bel.trans ⟨rfl,rfl,by rw [set_size]; exact Nat.le_refl _,fun k hk=>s1 k (by omega)⟩,(s1 _ (by omega)).trans h.r0,(s1 _ (by omega)).trans h.r1,(s1 _ (by omega)).trans h.r2,(s1 _ (by omega)).trans h.rO,set_one _ h.rA,xs,own_same h1 fun g c E fr _ hg hh=>s1 g (by omega),?_⟩
 refine reps_keep (fun b i y hh hG=>?_) (fun b _ _ hG=>hG) h2 (outC_plain out)
 have hb : b ≠ w0.heap.size + 1 + 1 + 1 + 1:=fun e=>by
  have:=hG (by omega)
  rw [GL_low (by omega)] at this; cases this
 unfold hcell at hh ⊢
 rw [s1 b hb]; exact hh
theorem box_same {W w1 w2 w3 : World} (h1 : Sam W w1) (h2 : Sam w1 w2) (h3 : Sam w2 w3) {i : Nat} (hi : i < W.heap.size) : w3.heap[i]? = W.heap[i]?:=by
 have s1:=h1.size
 have s2:=h2.size
 rw [h3.same i (by omega),h2.same i (by omega),h1.same i hi]
theorem Tryz.info25 : (Tryz.prog.info? 25).map (fun i=>(i.zero,i.size,i.bytes)) = some (some (.agg #[.int .i64 0,.slice none 0 0]),2,32):=by kernel_rfl
theorem two_news (w : World) (a b : Value) : ∀ j u,[a,b][j]? = some u → (w.alloc (.cells #[a,b] 25)).drew.cell? ((⟨w.heap.size,0,none⟩ : Addr).add j) = some u :=
 World.news_of_block (w:=(w.alloc (.cells #[a,b] 25)).drew) (cs:=#[a,b]) (heap_alloc_new w _)
theorem op_round {F : Fence} {n : Nat} {P : Program} {o : Oper} {a : Act} {w : World} {K : Act → World → Prop} {Q : Exit → Act → World → Prop} (l : Nat) (hd : ∀ c,o.op ≠ .defer c) (h : o.wpIn F n P a w K Q) : o.wpIn (F.inRound l) n P a w K Q:=by
 refine ⟨h.1,?_⟩
 have h2:=h.2
 rw [Oper.semAt_plain F _ _ hd] at h2
 rw [Oper.semAt_plain (F.inRound l) _ _ hd]
 exact h2
theorem any_round {F : Fence} {n : Nat} {P : Program} {md : Region.Mode} {ops : Array Oper} {Q : Exit → Act → World → Prop} (l : Nat) (hd : ∀ (i : Nat) (o : Oper),ops[i]? = some o → ∀ c,o.op ≠ .defer c) : ∀ (fuel : Nat) (listed : Array Bool) (a : Act) (w : World),wpAnyIn F n P md ops Q fuel listed a w → wpAnyIn (F.inRound l) n P md ops Q fuel listed a w
 | 0,_,_,_,h=>h
 | fuel + 1,listed,a,w,h=>by
  refine ⟨h.1,fun i hi=>?_⟩
  have h2:=h.2 i hi
  unfold wpOpIn at h2 ⊢
  split
  ·rename_i e; rw [e] at h2; exact any_round l hd fuel _ _ _ h2
  ·rename_i o e
   rw [e] at h2
   simp only at h2
   split
   ·rename_i hw
    rw [if_pos hw] at h2
    exact op_round l (hd i o e) (Oper.wpIn_mono (fun a w h=>any_round l hd fuel _ _ _ h) h2)
   ·rename_i hw
    rw [if_neg hw] at h2
    exact ⟨h2.1,any_round l hd fuel _ _ _ h2.2⟩
theorem region_round {F : Fence} {n : Nat} {P : Program} {ops : Array Oper} {Q : Exit → Act → World → Prop} {id : Nat} {a : Act} {w : World} (l : Nat) (hd : (ops.all fun o=>match o.op with | .defer _=>false | _=>true) = true) (hm : P.follows .mixedOrders = true)
  (h : wpAnyIn F n P .any ops Q ops.size (Array.replicate ops.size false) a w.drew) : (Code.region id ops true).wpIn (F.inRound l) n P Q a w :=
 wpIn_region_any hm (any_round l (fun i o ho c hc=>by
  rw [Array.all_eq_true] at hd
  obtain ⟨hi,e⟩:=Array.getElem?_eq_some_iff.1 ho
  have:=hd i hi
  rw [e,hc] at this
  cases this) _ _ _ _ h)
theorem step_run {F : Fence} {n : Nat} {P : Program} {w : World} {ops : Array Oper} {o : Oper} {a : Act} {K : Act → World → Prop} {Q : Exit → Act → World → Prop} {E : Prop} (hg : o.guard = none) (s x : Operand) (t : TypeId)
  (hop : o.op = Op.call { callee:=Callee.builtin Builtin.append,args:=#[s,x],argTypes:=#[t,t] }) {v y v' : Value} {w' : World} (hs : a.eval s = v) (hx : a.eval x = y)
  (hrun : (Builtin.append_ #[t,t] o.type #[v,y]).run P w = .ok v' w') (hK : K (a.put o.dst v') w') : if Region.wanted o (yielded ops a.tmps) = true then Oper.wpIn F n P o a w K Q else E:=by
 have hw : Region.wanted o (yielded ops a.tmps) = true:=by simp [Region.wanted,hg]
 rw [if_pos hw]
 unfold Oper.wpIn
 refine ⟨?_,?_⟩
 ·simp [Oper.about,hop,resolve,Target.leads,Sem.run_pure]
 ·rw [Oper.semAt_plain F _ _ (by rw [hop]; intro c hc'; cases hc')]
  simp [execOp,hop,resolve,invoke,builtin,hs,hx,hrun,Result.andThen]
  exact hK
theorem own_base {w : World} {base : Nat} {e : TypeId} {size n : Nat} {v : Value} {xs : List Value} (h : w.ownsRow base e size v n xs) : ∀ g,v.ownBlock = some g → base ≤ g ∧ ∃ cur,w.heap[g]? = some (.cells cur e (0,0)):=by
 obtain ⟨_,h2⟩:=h
 rcases h2 with ⟨rfl,rfl⟩ | ⟨g',cap',cur,rfl,h1,h3,_⟩
 ·intro k hk; cases hk
 ·intro k hk; cases hk; exact ⟨h1,cur,h3⟩
theorem ls_app {κ : Ctx} {w w3 w4 : World} {v v' y : Value} {out : List Lin} {k : Nat} {xs3 : List Value} {q : Wrd} {ws : List Wrd} {o : Obj} (h : LS κ w v out k w3) (hsz : w.heap.size + 8 ≤ w3.heap.size)
  (hown3 : w3.ownsRow (w.heap.size + 8) 25 2 v out.length xs3) (hreps3 : Reps (nctx κ w.heap.size w3.heap (GL w.heap.size v)) w3.heap (outC out) xs3) (hy : Rep (nctx κ w.heap.size w3.heap (GL w.heap.size v)) w3.heap (wrdsV (q :: ws)) y)
  (hown4 : w4.ownsRow (w.heap.size + 8) 25 2 v' (out.length + 1) (xs3 ++ [.int .i64 q.2,y])) (hgrow : (w3.alloc o).drew.grownBy w4 v.ownBlock) (hblk : v'.ownBlock = v.ownBlock ∨ v'.ownBlock = some (w3.alloc o).drew.heap.size)
  (s4 : ∀ i,i < w.heap.size + 8 → w4.heap[i]? = w3.heap[i]?) : LS κ w v' (out ++ [(q.2,q :: ws)]) k (w4.setCell ⟨w.heap.size + 1 + 1 + 1,0,none⟩ v'):=by
 have s1 : ∀ i,i ≠ w.heap.size + 1 + 1 + 1 → (w4.setCell ⟨w.heap.size + 1 + 1 + 1,0,none⟩ v').heap[i]? = w4.heap[i]?:=fun i hi=>setCell_other w4 _ _ hi
 have s5 : ∀ i,i < w.heap.size + 8 → i ≠ w.heap.size + 1 + 1 + 1 → (w4.setCell ⟨w.heap.size + 1 + 1 + 1,0,none⟩ v').heap[i]? = w3.heap[i]?:=fun i h1 h2=>(s1 i h2).trans (s4 i h1)
 have hdz : (w3.alloc o).drew.heap.size = w3.heap.size + 1:=by simp
 have hs : ∀ b i y,hcell w3.heap b i = some y → (w.heap.size ≤ b → GL w.heap.size v b = false) → hcell (w4.setCell ⟨w.heap.size + 1 + 1 + 1,0,none⟩ v').heap b i = some y:=fun b i y hh hG=>by
  have hlt:=hcell_lt hh
  have e : (w4.setCell ⟨w.heap.size + 1 + 1 + 1,0,none⟩ v').heap[b]? = w3.heap[b]?:=by
   rcases Nat.lt_or_ge b w.heap.size with hb | hb
   ·exact s5 b (by omega) (by omega)
   ·have hg:=hG hb
    rcases Nat.lt_or_ge b (w.heap.size + 8) with hb' | hb'
    ·rw [GL_low hb'] at hg; cases hg
    ·refine (s1 b (by omega)).trans ((hgrow.block b (by rw [hdz]; omega) fun e=>?_).trans (heap_alloc_old w3 _ _ hlt))
     rw [GL_own e.symm] at hg; cases hg
  unfold hcell at hh ⊢
  rw [e]; exact hh
 have hG : ∀ b,b < w3.heap.size → w.heap.size ≤ b → GL w.heap.size v b = false → GL w.heap.size v' b = false:=fun b hlt hb hg=>by
  have h8 : w.heap.size + 8 ≤ b:=by
   rcases Nat.lt_or_ge b (w.heap.size + 8) with hb' | hb'
   ·rw [GL_low hb'] at hg; cases hg
   ·exact hb'
  refine GL_not h8 fun e=>?_
  rcases hblk with e' | e'
  ·rw [GL_own (e'.symm.trans e)] at hg; cases hg
  ·rw [e',hdz] at e
   simp only [Option.some.injEq] at e
   omega
 have r3:=reps_keep hs hG hreps3 (outC_plain out)
 have ry:=nctx_keep hs hG hy (wrdsV_plain _)
 refine ⟨h.bel.trans ⟨hgrow.os.trans rfl,hgrow.output.trans rfl,?_,fun i hi=>s5 i (by omega) (by omega)⟩,(s5 _ (by omega) (by omega)).trans h.r0,(s5 _ (by omega) (by omega)).trans h.r1,(s5 _ (by omega) (by omega)).trans h.r2,set_one _ ((s4 _ (by omega)).trans h.rO),(s5 _ (by omega) (by omega)).trans h.rA,xs3 ++ [.int .i64 q.2,y],?_,?_⟩
 ·rw [set_size]
  have:=hgrow.size
  rw [hdz] at this; omega
 ·rw [show (out ++ [(q.2,q :: ws)]).length = out.length + 1 by simp]
  exact own_same hown4 fun g c E fr _ hg hh=>s1 g (by omega)
 ·rw [outC_app]
  refine ⟨by rw [List.length_append,List.length_append,r3.1]; rfl,fun i c x h1 h2=>?_⟩
  rcases Nat.lt_or_ge i xs3.length with hi | hi
  ·rw [List.getElem?_append_left hi] at h2
   rw [List.getElem?_append_left (by rw [← r3.1]; exact hi)] at h1
   exact r3.2 i c x h1 h2
  ·rw [List.getElem?_append_right hi] at h2
   rw [List.getElem?_append_right (by rw [← r3.1]; exact hi),← r3.1] at h1
   generalize i - xs3.length = j at h1 h2
   match j,h1,h2 with
   | 0,h1,h2=>cases h1; cases h2; exact .int _ _
   | 1,h1,h2=>cases h1; cases h2; exact ry
theorem heap8 (w : World) (s : List UInt8) : (splitW (((((w.alloc (.cells #[.slice none 0 0] 61)).alloc (.cells #[.int .i64 0] 3)).alloc (.cells #[.int .i64 0] 32)).alloc (.cells #[.slice none 0 0] 61)).alloc (.cells #[.int .i64 0] 3)) s).heap
  = w.heap ++ #[.cells #[.slice none 0 0] 61,.cells #[.int .i64 0] 3,.cells #[.int .i64 0] 32,.cells #[.slice none 0 0] 61,.cells #[.int .i64 0] 3,.cells #[.string ⟨⟨s⟩⟩] 9,.cells #[.string ⟨#[10]⟩] 9,.cells #[.int .i64 0] 3]:=by
 exact allocs_heap [.cells #[.slice none 0 0] 61,.cells #[.int .i64 0] 3,.cells #[.int .i64 0] 32,.cells #[.slice none 0 0] 61,.cells #[.int .i64 0] 3,.cells #[.string ⟨⟨s⟩⟩] 9,.cells #[.string ⟨#[10]⟩] 9,.cells #[.int .i64 0] 3] w
theorem app8 {w W : World} {xs : Array Obj} (h : W.heap = w.heap ++ xs) (i : Nat) : W.heap[w.heap.size + i]? = xs[i]?:=by
 rw [h,Array.getElem?_append_right (by omega),Nat.add_sub_cancel_left]
theorem start_ls {κ : Ctx} {w W : World} {s : List UInt8} (h : W.heap = w.heap ++ #[.cells #[.slice none 0 0] 61,.cells #[.int .i64 0] 3,.cells #[.int .i64 0] 32,.cells #[.slice none 0 0] 61,.cells #[.int .i64 0] 3,.cells #[.string ⟨⟨s⟩⟩] 9,.cells #[.string ⟨#[10]⟩] 9,.cells #[.int .i64 0] 3])
  (os : W.os = w.os) (out : W.output = w.output) : LS κ w (.slice none 0 0) [] 0 W ∧ Boxes W.heap (w.heap.size + 5) s:=by
 have e:=app8 h
 refine ⟨⟨⟨os,out,by rw [h]; simp,fun k hk=>by rw [h,Array.getElem?_append_left hk]⟩,e 0,e 1,e 2,e 3,e 4,[],World.ownsRow_nil _ _ _ _,Reps.nil⟩,e 5,e 6,e 7⟩
def a1 (w : World) (s x : List UInt8) : Act:={ defers:=[],tmps:=#[Value.string { data:={ toList:=s } },undef,Value.pointer (some { block:=w.heap.size,off:=0 }),
     Value.pointer (some { block:=w.heap.size + 1,off:=0 }),
     Value.pointer (some { block:=w.heap.size + 1 + 1,off:=0 }),
     Value.pointer (some { block:=w.heap.size + 1 + 1 + 1,off:=0 }),
     Value.pointer (some { block:=w.heap.size + 1 + 1 + 1 + 1,off:=0 }),.string ⟨⟨x⟩⟩,undef,undef,undef,
     Value.string { data:={ toList:=s } },Value.int IntKind.i64 s.length,Value.bool false,Value.bool false,
     Value.string { data:={ toList:=s } },Value.int IntKind.i64 (List.count 10 s),Value.bool false,
     Value.bool false,Value.string { data:={ toList:=s } },
     Value.func (Fn.func 69) #[]
      #[Value.pointer (some { block:=w.heap.size + 1 + 1 + 1 + 1 + 1 + 1,off:=0 }),
       Value.pointer (some { block:=w.heap.size + 1 + 1 + 1 + 1 + 1,off:=0 }),
       Value.pointer (some { block:=w.heap.size + 1 + 1 + 1 + 1 + 1 + 2,off:=0 })],
     .string ⟨⟨x⟩⟩,undef,undef,undef,undef,undef,undef,undef,undef,undef,undef,undef,undef,undef,undef,
     undef,undef,undef,undef,undef,undef,undef,undef,undef,undef,undef,undef,undef,undef,undef,
     undef] }
structure Res (w W X : World) (x0 x1 x2 : Value) : Prop where
 keeps : KeepsOthers W X
 bel : Bel w.heap.size w X
 c0 : X.heap[w.heap.size]? = some (.cells #[x0] 61 (0,0))
 c1 : X.heap[w.heap.size + 1]? = some (.cells #[x1] 3 (0,0))
 c2 : X.heap[w.heap.size + 2]? = some (.cells #[x2] 32 (0,0))
 same : ∀ i,w.heap.size + 3 ≤ i → X.heap[i]? = W.heap[i]?
theorem res_of {w W : World} {y0 y1 y2 : Value} (hb : Bel w.heap.size w W) (h0 : W.heap[w.heap.size]? = some (.cells #[y0] 61 (0,0))) (h1 : W.heap[w.heap.size + 1]? = some (.cells #[y1] 3 (0,0))) (h2 : W.heap[w.heap.size + 2]? = some (.cells #[y2] 32 (0,0))) (x0 x1 x2 : Value) :
  Res w W (((W.setCell ⟨w.heap.size,0,none⟩ x0).setCell ⟨w.heap.size + 1,0,none⟩ x1).setCell ⟨w.heap.size + 1 + 1,0,none⟩ x2) x0 x1 x2:=by
 have s1 : ∀ i,i ≠ w.heap.size → (W.setCell ⟨w.heap.size,0,none⟩ x0).heap[i]? = W.heap[i]?:=fun i hi=>setCell_other W _ _ hi
 have s2 : ∀ i,i ≠ w.heap.size + 1 → ((W.setCell ⟨w.heap.size,0,none⟩ x0).setCell ⟨w.heap.size + 1,0,none⟩ x1).heap[i]? = (W.setCell ⟨w.heap.size,0,none⟩ x0).heap[i]?:=fun i hi=>setCell_other _ _ _ hi
 have s3 : ∀ i,i ≠ w.heap.size + 1 + 1 → (((W.setCell ⟨w.heap.size,0,none⟩ x0).setCell ⟨w.heap.size + 1,0,none⟩ x1).setCell ⟨w.heap.size + 1 + 1,0,none⟩ x2).heap[i]? = ((W.setCell ⟨w.heap.size,0,none⟩ x0).setCell ⟨w.heap.size + 1,0,none⟩ x1).heap[i]?:=fun i hi=>setCell_other _ _ _ hi
 refine ⟨((KeepsOthers.setCell _ _ _).trans (.setCell _ _ _)).trans (.setCell _ _ _),hb.trans ⟨rfl,rfl,by rw [set_size,set_size,set_size]; exact Nat.le_refl _,fun k hk=>by rw [s3 k (by omega),s2 k (by omega),s1 k (by omega)]⟩,?_,?_,?_,fun i hi=>by rw [s3 i (by omega),s2 i (by omega),s1 i (by omega)]⟩
 ·rw [s3 _ (by omega),s2 _ (by omega)]; exact set_one x0 h0
 ·rw [s3 _ (by omega)]; exact set_one x1 ((s1 _ (by omega)).trans h1)
 ·exact set_one x2 ((s2 _ (by omega)).trans ((s1 _ (by omega)).trans h2))
theorem rep_one {κ : Ctx} {h : Heap} {l : Lin} {v : V} {x : Value} (hv : v ∈ linC l) (r : Rep κ h v x) : x.oneCell' = true:=by
 simp only [linC,List.mem_cons,List.not_mem_nil,or_false] at hv
 rcases hv with rfl | rfl
 ·cases r; rfl
 ·unfold wrdsV at r
  generalize l.2.map wrdW = es at r
  cases r <;> rfl
theorem to_new {κ : Ctx} {n : Nat} {h h' : Heap} {G : Nat → Bool} {vs : List V} {xs : List Value} (hs : ∀ b i y,hcell h b i = some y → (n ≤ b → G b = false) → hcell h' b i = some y) (r : Reps (nctx κ n h G) h vs xs) (hp : ∀ v ∈ vs,v.plain = true) : Reps (newHw κ n h') h' vs xs :=
 have r':=reps_keep (G':=G) hs (fun _ _ _ h=>h) r hp
 ⟨r'.1,fun i c x h1 h2=>nctx_end (r'.2 i c x h1 h2) (hp c (List.mem_of_getElem? h1))⟩
theorem flat_lins (out : List Lin) : flat (out.map linW) = outC out:=by
 unfold flat outC
 rw [List.flatMap_map]
 rfl
theorem row_rep {κ : Ctx} {w W X : World} {out : List Lin} {v : Value} {xs : List Value} (hown : W.ownsRow (w.heap.size + 8) 25 2 v out.length xs) (hr : Reps (nctx κ w.heap.size W.heap (GL w.heap.size v)) W.heap (outC out) xs)
  (hs : ∀ i c E fr,W.heap[i]? = some (.cells c E fr) → (i < w.heap.size ∨ w.heap.size + 8 ≤ i) → X.heap[i]? = W.heap[i]?) : Rep (newHw κ w.heap.size X.heap) X.heap (linsV out) v:=by
 have hr':=to_new (h':=X.heap) (fun b i y hh hG=>by
  obtain ⟨c,E,fr,q1,_⟩:=hcell_size hh
  unfold hcell at hh ⊢
  rw [hs b c E fr q1 ?_]; exact hh
  rcases Nat.lt_or_ge b w.heap.size with h | h
  ·exact .inl h
  ·right
   rcases Nat.lt_or_ge b (w.heap.size + 8) with h' | h'
   ·have:=hG h; rw [GL_low h'] at this; cases this
   ·exact h') hr (outC_plain out)
 rcases hown with ⟨hl,⟨rfl,h0⟩ | ⟨g,cap,cur,rfl,hg,hh,hn,_,hsz,htake⟩⟩
 ·obtain rfl : out = []:=List.length_eq_zero_iff.1 h0
  exact .slnil .ro (fun i h=>by cases h)
 ·have hX : X.heap[g]? = some (.cells cur 25 (0,0)):=(hs g _ _ _ hh (.inr hg)).trans hh
  have e : out.length = (out.map linW).length:=by simp
  have hxl : ∀ i x,xs[i]? = some x → cur[i]? = some x:=fun i x hx=>by
   rw [← htake,List.getElem?_take] at hx
   split at hx
   ·rw [← Array.getElem?_toList]; exact hx
   ·cases hx
  unfold linsV
  rw [e]
  refine .sl .ro (out.map linW) g 0 cap 2 xs (fun i x hx=>?_) (fun e he=>?_) (by rw [flat_lins]; exact hr'.1) (fun i c x h1 h2=>by rw [flat_lins] at h1; exact hr'.2 i c x h1 h2) (by rw [← e]; exact hn) trivial
  ·have hc:=hxl i x hx
   rw [Nat.zero_add]
   refine ⟨?_,?_,?_⟩
   ·rw [newHw_new (by omega) hX]; exact (Array.getElem?_eq_some_iff.1 hc).1
   ·unfold hcell; rw [hX]; exact hc
   ·obtain ⟨c,hc'⟩ : ∃ c,(outC out)[i]? = some c:=⟨_,List.getElem?_eq_getElem (by rw [← hr'.1]; exact (List.getElem?_eq_some_iff.1 hx).1)⟩
    obtain ⟨l,_,hm⟩:=List.mem_flatMap.1 (List.mem_of_getElem? hc')
    exact rep_one hm (hr'.2 i c x hc' hx)
  ·obtain ⟨l,_,rfl⟩:=List.mem_map.1 he
   rfl
theorem lines_end {w X : World} {x0 : Value} {k e : Int} {tmps : Array Value} {D : Nat} {R : Value → World → Prop} (hb : Bel w.heap.size w X) (c0 : X.heap[w.heap.size]? = some (.cells #[x0] 61 (0,0))) (c1 : X.heap[w.heap.size + 1]? = some (.cells #[.int .i64 k] 3 (0,0))) (c2 : X.heap[w.heap.size + 2]? = some (.cells #[.int .i64 e] 32 (0,0)))
  (hD : w.heap.size + 8 ≤ D) (hK : X.heap[D]? = some (.deferred (some [])))
  (e1 : tmps.getD 2 undef = .pointer (some ⟨w.heap.size,0,none⟩)) (e2 : tmps.getD 3 undef = .pointer (some ⟨w.heap.size + 1,0,none⟩)) (e3 : tmps.getD 4 undef = .pointer (some ⟨w.heap.size + 1 + 1,0,none⟩))
  (hR : R x0 (X.putObj D (.deferred none))) :
  bodyPostM Fence.wide 5 Tryz.prog Tryz.f20 (fun e' W'=>∃ v,e' = .returned (.tuple #[v,.int .i64 k,.int .i64 e]) ∧ Bel w.heap.size w W' ∧ R v W') .ret { tmps:=tmps,defers:=[{ target:=.collected D,args:=#[] }] } X:=by
 have ho : ∀ i,i ≠ D → (X.putObj D (.deferred none)).heap[i]? = X.heap[i]?:=fun i hi=>World.putObj_heap_other hi
 refine ⟨by simp,.inl ⟨_,_,rfl,run_takeDeferred hK,?_⟩⟩
 refine ⟨_,results_cell3 (x:=x0) (y:=.int .i64 k) (z:=.int .i64 e) rfl agg61 agg3 agg32 e1 e2 e3 (Lib.cell_of_heap ((ho _ (by omega)).trans c0) ..) (Lib.cell_of_heap ((ho _ (by omega)).trans c1) ..) (Lib.cell_of_heap ((ho _ (by omega)).trans c2) ..),x0,rfl,?_,hR⟩
 exact hb.trans ⟨rfl,rfl,by show X.heap.size ≤ (X.putObj D _).heap.size; simp [World.putObj],fun i hi=>ho i (by omega)⟩
theorem pieces_sum : ∀ l : List UInt8,((pieces l).map fun p=>p.length + 1).sum = l.length + 1
 | []=>rfl
 | c :: l=>by
  have ih:=pieces_sum l
  unfold pieces
  split
  ·rw [List.map_cons,List.sum_cons,ih,List.length_cons,List.length_nil]; omega
  ·split
   ·rename_i h; rw [h] at ih; simp at ih
   ·rename_i p ps h
    rw [h] at ih
    simp only [List.map_cons,List.sum_cons,List.length_cons] at ih ⊢
    omega
theorem bareM_le (x : List UInt8) : (bareM x).length ≤ x.length:=by
 unfold bareM
 split
 ·simp
 ·exact Nat.le_refl _
theorem piece_le {s x : List UInt8} {pre : List (List UInt8)} (h : pre ++ [x] <+: pieces s) : (pre.map fun p=>p.length + 1).sum + (x.length + 1) ≤ s.length + 1 ∧ pre.length ≤ (pre.map fun p=>p.length + 1).sum:=by
 obtain ⟨t,ht⟩:=h
 have:=pieces_sum s
 rw [← ht,List.map_append,List.map_append,List.sum_append,List.sum_append] at this
 simp only [List.map_cons,List.map_nil,List.sum_cons,List.sum_nil] at this
 refine ⟨by omega,?_⟩
 clear this ht
 induction pre with
 | nil=>simp
 | cons p pre ih=>simp only [List.map_cons,List.sum_cons,List.length_cons]; omega
theorem wrong_lt {x : List UInt8} {j : Nat} (h : wrongM x = some j) : j < x.length:=by
 unfold wrongM at h
 rw [List.findIdx?_eq_some_iff_getElem] at h
 exact h.1
set_option maxHeartbeats 3200000 in
theorem lines_walk (κ : Ctx) (s : List UInt8) (h1 : ¬ 200000 < s.length) (h2 : ¬ 5000 < s.count 10) (w : World) (htab : Tab0 w.heap) : CallsIn Fence.wide 5 Tryz.prog 20 #[.string ⟨⟨s⟩⟩] w fun e W' =>
  ∃ v,e = .returned (.tuple #[v,.int .i64 (linesM s).2.1,.int .i64 (linesM s).2.2]) ∧ Bel w.heap.size w W' ∧ Rep (newHw κ w.heap.size W'.heap) W'.heap (linsV (linesM s).1) v:=by
 refine callsIn_of_wp_marks Tryz.func20 rfl trivial ?_
 simp only [Tryz.ntmps20,List.size_toArray,List.length_cons,List.length_nil,Nat.reduceAdd,Nat.reduceSub,Array.replicate_succ,Array.replicate_zero,List.push_toArray,List.append_toArray,List.nil_append,List.cons_append]
 have i0 : ¬ (200000 : Int) < (s.length : Int):=by omega
 have i1 : ¬ (5000 : Int) < ((s.count 10 : Nat) : Int):=by omega
 gi_wp2_with (first
  | (refine ⟨trivial,?_⟩; gi_at_call 33; refine (callsIn_wide.2 (count_calls s _)).mono ?_; rintro e w' ⟨rfl,rfl⟩; simp only [countByte_eq])
  | (refine ⟨trivial,?_⟩; gi_at_call 34; refine (callsIn_wide.2 (splitseq_calls s _)).mono ?_; rintro e w' ⟨rfl,rfl⟩))
 obtain ⟨W0,hW0⟩ : ∃ W0,splitW (((((w.alloc (.cells #[.slice none 0 0] 61)).alloc (.cells #[.int .i64 0] 3)).alloc (.cells #[.int .i64 0] 32)).alloc (.cells #[.slice none 0 0] 61)).alloc (.cells #[.int .i64 0] 3)) s = W0:=⟨_,rfl⟩
 have hh:=heap8 w s
 rw [hW0] at hh ⊢
 obtain ⟨hL0,hB0⟩:=start_ls (κ:=κ) hh (by rw [← hW0]; rfl) (by rw [← hW0]; rfl)
 have hsz : W0.heap.size = w.heap.size + 8:=by rw [hh]; simp
 clear hh hW0
 have step : ∀ pre W W',II κ w pre W → Stp w.heap.size W W' → II κ w pre W':=by
  rintro pre W W' ⟨v,out,k,h,r⟩ hs
  exact ⟨v,out,k,h.keep hs,r⟩
 have stepX : ∀ W W',IX s w W → Stp w.heap.size W W' → IX s w W':=by
  rintro W W' ⟨kk,e,hb,c0,c1,c2⟩ hs
  exact ⟨kk,e,hb.trans hs.bel,(hs.cells _ _ _ _ c0 (by omega)).trans c0,(hs.cells _ _ _ _ c1 (by omega)).trans c1,(hs.cells _ _ _ _ c2 (by omega)).trans c2⟩
 refine split_range (b:=w.heap.size + 5) (s:=s) rfl hB0 (by omega) (II κ w) (IX s w)
  (fun pre W l o o' h hl hg ho=>step pre W _ h (.putObj (by omega) hg ho)) (fun pre W v h=>step pre W _ h (.box v))
  (fun W l o o' h hl hg ho=>stepX W _ h (.putObj (by omega) hg ho))
  (fun o1 o2 _ _=>step [] W0 _ ⟨_,[],0,hL0,fun rest=>rfl,rfl,Nat.zero_le _⟩ ((Stp.alloc (by omega) _).trans (.alloc (by simp; omega) _)))
  (a1 w s) ?assign ?body ?done ?stop
 case assign =>
  intro l x W K hK
  unfold a1 at hK
  gi_wp2
  exact hK
 case body =>
  rintro l pre x W hpx hl ⟨rc,hrc⟩ ⟨v,out,k,hLS,hF,hk,ho⟩ ⟨r,hbx⟩
  have hc:=hLS.cls
  obtain ⟨xs,hown,hreps⟩:=hLS.row
  obtain ⟨ad,cp,rfl⟩:=own_form hown
  obtain ⟨rest,hrest⟩:=hpx
  have hple:=piece_le (s:=s) ⟨rest,hrest⟩
  rw [hk] at hple
  have hxl : x.length ≤ 200000:=by omega
  have hkl : k ≤ 200001:=by omega
  have hbx':=bareM_le x
  have hbl : (bareM x).length ≤ 200000:=by omega
  have hM : linesM s = linesF (x :: rest) k out:=by
   unfold linesM
   rw [if_neg (by omega),← hF,← hrest]
   simp
  have hWs : w.heap.size ≤ W.heap.size:=hLS.bel.size
  have hT0 : Tab0 W.heap:=hLS.bel.tab0 htab (Nat.le_refl _)
  have hx0 : (a1 w s x).defers = []:=rfl
  unfold a1
  cases hw : wrongM (bareM x) with
  | some j =>
   have hwI : wrongI (bareM x) = (j : Int):=by unfold wrongI; rw [hw]
   have j0 : (0 : Int) ≤ (j : Int):=Int.natCast_nonneg _
   gi_wp2_with (first
    | (refine ⟨trivial,?_⟩; gi_at_call 35; refine (CallsIn.inRound l (callsIn_wide.2 (bare_calls x hxl _ hT0))).mono ?_; rintro e w1 ⟨rfl,hs1⟩)
    | (refine ⟨trivial,?_⟩; gi_at_call 36; refine (CallsIn.inRound l (callsIn_wide.2 (wrong_calls (bareM x) hbl _ (hs1.tab0 hT0)))).mono ?_; rintro e w2 ⟨rfl,hs2⟩; rw [hwI]; have hL2:=(hLS.keep (hs1.stp hWs)).keep (hs2.stp (Nat.le_trans hWs hs1.size)); obtain ⟨a0,b0,a1,b1,a2,b2,aO,bO,aA,bA⟩:=hL2.cls))
   have a0' : w2.drew.frozen? ⟨w.heap.size,0,none⟩ = false:=a0
   have b0' : w2.drew.cell? ⟨w.heap.size,0,none⟩ = some (.slice none 0 0):=b0
   have a1' : w2.drew.frozen? ⟨w.heap.size + 1,0,none⟩ = false:=a1
   have b1' : w2.drew.cell? ⟨w.heap.size + 1,0,none⟩ = some (.int .i64 0):=b1
   have a2' : w2.drew.frozen? ⟨w.heap.size + 1 + 1,0,none⟩ = false:=a2
   have b2' : w2.drew.cell? ⟨w.heap.size + 1 + 1,0,none⟩ = some (.int .i64 0):=b2
   have bA' : w2.drew.cell? ⟨w.heap.size + 1 + 1 + 1 + 1,0,none⟩ = some (.int .i64 k):=bA
   have hj:=wrong_lt hw
   have hwr : IntKind.i64.wrap ((k : Int) + (j : Int)) = (k : Int) + (j : Int):=by simp [IntKind.wrap,IntKind.signed,IntKind.bits]; omega
   have hM2 : linesM s = ([],k + j,7):=by
    rw [hM]
    unfold linesF
    rw [hw]
   have R:=res_of hL2.bel hL2.r0 hL2.r1 hL2.r2 (.slice none 0 0) (.int .i64 ((k : Int) + (j : Int))) (.int .i64 7)
   have R1 : KeepsOthers W _:=((hs1.keeps.trans hs2.keeps).trans R.keeps).trans (.drew _)
   have R2:=ix_drew ⟨k + j,hM2,R.bel,R.c0,R.c1,R.c2⟩
   gi_region
   all_goals gi_wp2
   all_goals exact ⟨R1,R2⟩
  | none =>
   have hwI : wrongI (bareM x) = -1:=by unfold wrongI; rw [hw]
   have hW8 : w.heap.size + 8 ≤ W.heap.size:=(Array.getElem?_eq_some_iff.1 hbx.v).1
   have hwr1 : IntKind.i64.wrap ((x.length : Int) + 1) = (x.length : Int) + 1:=by simp [IntKind.wrap,IntKind.signed,IntKind.bits]; omega
   have hwr2 : IntKind.i64.wrap ((k : Int) + ((x.length : Int) + 1)) = ((k + x.length + 1 : Nat) : Int):=by simp [IntKind.wrap,IntKind.signed,IntKind.bits]; omega
   have hF2 : ∀ rest,linesF ((pre ++ [x]) ++ rest) 0 [] = linesF rest (k + x.length + 1) (out ++ lineM (bareM x) k):=fun rest=>by
    rw [List.append_assoc,hF,List.singleton_append]
    conv=>lhs; unfold linesF
    rw [hw]
   have hk2 : ((pre ++ [x]).map fun p=>p.length + 1).sum = k + x.length + 1:=by rw [List.map_append,List.sum_append,hk]; simp; omega
   cases hws : wordsM (bareM x) k with
   | nil =>
    have hlm : lineM (bareM x) k = []:=by unfold lineM; rw [hws]
    rw [hlm,List.append_nil] at hF2
    gi_wp2_with (first
     | (refine ⟨trivial,?_⟩; gi_at_call 35; refine (CallsIn.inRound l (callsIn_wide.2 (bare_calls x hxl _ hT0))).mono ?_; rintro e w1 ⟨rfl,hs1⟩)
     | (refine ⟨trivial,?_⟩; gi_at_call 36; refine (CallsIn.inRound l (callsIn_wide.2 (wrong_calls (bareM x) hbl _ (hs1.tab0 hT0)))).mono ?_; rintro e w2 ⟨rfl,hs2⟩; rw [hwI]; have hL2:=(hLS.keep (hs1.stp hWs)).keep (hs2.stp (Nat.le_trans hWs hs1.size)); have bA:=hL2.cls.bA)
     | (refine ⟨trivial,?_⟩; gi_at_call 37; refine (CallsIn.inRound l (callsIn_wide.2 (words_calls κ w.heap.size (GL w.heap.size (.slice ad out.length cp)) (bareM x) k hbl (by omega) _ hL2.bel.size (hL2.gl (Nat.le_trans hW8 (Nat.le_trans hs1.size hs2.size))) (hs2.tab0 (hs1.tab0 hT0))))).mono ?_; rintro e w3 ⟨y,rfl,hs3,hy⟩; rw [hws] at hy; have hL3:=hL2.keep (hs3.stp hL2.bel.size); obtain ⟨a0,b0,a1,b1,a2,b2,aO,bO,aA,bA⟩:=hL3.cls; obtain ⟨ya,yc,rfl⟩:=wrds_nil hy))
    exact ⟨(((hs1.keeps.trans hs2.keeps).trans hs3.keeps).trans (.setCell _ _ _)),fun i g1 g2=>(setCell_other _ _ _ (by omega)).trans (box_same hs1 hs2 hs3 (by omega)),_,out,_,hL3.at_ (k + x.length + 1),hF2,hk2,by simp; omega⟩
   | cons q ws =>
    have hlm : lineM (bareM x) k = [(q.2,q :: ws)]:=by unfold lineM; rw [hws]
    rw [hlm] at hF2
    have l0 : (0 : Int) < (ws.length : Int) + 1:=by omega
    gi_wp2_with (first
     | (refine ⟨trivial,?_⟩; gi_at_call 35; refine (CallsIn.inRound l (callsIn_wide.2 (bare_calls x hxl _ hT0))).mono ?_; rintro e w1 ⟨rfl,hs1⟩)
     | (refine ⟨trivial,?_⟩; gi_at_call 36; refine (CallsIn.inRound l (callsIn_wide.2 (wrong_calls (bareM x) hbl _ (hs1.tab0 hT0)))).mono ?_; rintro e w2 ⟨rfl,hs2⟩; rw [hwI]; have hL2:=(hLS.keep (hs1.stp hWs)).keep (hs2.stp (Nat.le_trans hWs hs1.size)); have bA:=hL2.cls.bA)
     | (refine ⟨trivial,?_⟩; gi_at_call 37; refine (CallsIn.inRound l (callsIn_wide.2 (words_calls κ w.heap.size (GL w.heap.size (.slice ad out.length cp)) (bareM x) k hbl (by omega) _ hL2.bel.size (hL2.gl (Nat.le_trans hW8 (Nat.le_trans hs1.size hs2.size))) (hs2.tab0 (hs1.tab0 hT0))))).mono ?_; rintro e w3 ⟨y,rfl,hs3,hy⟩; rw [hws] at hy; have hL3:=hL2.keep (hs3.stp hL2.bel.size); obtain ⟨a0,b0,a1,b1,a2,b2,aO,bO,aA,bA⟩:=hL3.cls; obtain ⟨yb,yo,yc,rfl,hyc⟩:=wrds_cons hy))
    obtain ⟨xs3,hown3,hreps3⟩:=hL3.row
    have hsz3 : w.heap.size + 8 ≤ w3.heap.size:=Nat.le_trans hW8 (Nat.le_trans (Nat.le_trans hs1.size hs2.size) hs3.size)
    obtain ⟨i0,hi,hz0,hz1,hz2⟩:=info_parts Tryz.info25
    obtain ⟨v',w4,hrun,hown4,hgrow,hnil,hblk⟩:=run_append_own_at (P:=Tryz.prog) ((w3.alloc (.cells #[.int .i64 q.2,.slice (some ⟨yb,yo,none⟩) (ws.length + 1) yc] 25)).drew) (w.heap.size + 8) 61 61 25 i0 _ 2 32 Tryz.underlying61 hi hz0 hz1 hz2 rfl (by decide) (.slice ad out.length cp) out.length xs3
     (own_same hown3 fun g c E fr _ _ hg=>heap_alloc_old w3 _ _ (Array.getElem?_eq_some_iff.1 hg).1) ⟨w3.heap.size,0,none⟩ 1 1 [.int .i64 q.2,.slice (some ⟨yb,yo,none⟩) (ws.length + 1) yc] rfl (two_news w3 _ _) (by intro u hu; simp at hu; rcases hu with rfl | rfl <;> rfl) (by unfold maxLen; omega) (by omega) (by simp; omega)
    obtain ⟨g4,cp4,rfl⟩:=ownsRow_succ hown4
    have hob : ∀ g,(Value.slice ad out.length cp).ownBlock = some g → w.heap.size + 8 ≤ g:=fun g hg=>by
     rcases hown3.2 with ⟨h,_⟩ | ⟨g',_,_,h,h',_⟩
     ·rw [h] at hg; cases hg
     ·rw [h] at hg; cases hg; exact h'
    have s4 : ∀ i,i < w.heap.size + 8 → w4.heap[i]? = w3.heap[i]?:=fun i hi=>(hgrow.block i (by simp; omega) (fun e=>by have:=hob i e.symm; omega)).trans (heap_alloc_old w3 _ _ (by omega))
    have aO4 : w4.frozen? ⟨w.heap.size + 1 + 1 + 1,0,none⟩ = false:=Lib.frozen_of_heap ((s4 _ (by omega)).trans hL3.rO) 0
    have bO4 : w4.cell? ⟨w.heap.size + 1 + 1 + 1,0,none⟩ = some (.slice ad out.length cp):=Lib.cell_of_heap ((s4 _ (by omega)).trans hL3.rO) ..
    have aA4 : w4.frozen? ⟨w.heap.size + 1 + 1 + 1 + 1,0,none⟩ = false:=Lib.frozen_of_heap ((s4 _ (by omega)).trans hL3.rA) 0
    have bA4 : w4.cell? ⟨w.heap.size + 1 + 1 + 1 + 1,0,none⟩ = some (.int .i64 k):=Lib.cell_of_heap ((s4 _ (by omega)).trans hL3.rA) ..
    have bO' : w3.drew.cell? ⟨w.heap.size + 1 + 1 + 1,0,none⟩ = some (.slice ad out.length cp):=bO
    have hy0 : w3.cell? ⟨yb,yo + 1,none⟩ = some (.int .i64 q.2):=(cell?_eq ..).trans hyc
    have hy' : w3.drew.cell? ⟨yb,yo + 1,none⟩ = some (.int .i64 q.2):=hy0
    have bO2 : (w3.alloc (.cells #[.int .i64 q.2,.slice (some ⟨yb,yo,none⟩) (ws.length + 1) yc] 25)).drew.cell? ⟨w.heap.size + 1 + 1 + 1,0,none⟩ = some (.slice ad out.length cp):=Lib.cell_of_heap ((heap_alloc_old w3 _ _ (by omega)).trans hL3.rO) ..
    have bO3 : (w3.drew.alloc (.cells #[.int .i64 q.2,.slice (some ⟨yb,yo,none⟩) (ws.length + 1) yc] 25)).cell? ⟨w.heap.size + 1 + 1 + 1,0,none⟩ = some (.slice ad out.length cp):=bO2
    have R1 : KeepsOthers W ((w4.setCell ⟨w.heap.size + 1 + 1 + 1,0,none⟩ (.slice (some ⟨g4,0,none⟩) (out.length + 1) cp4)).setCell ⟨w.heap.size + 1 + 1 + 1 + 1,0,none⟩ (.int .i64 ((k : Int) + x.length + 1))):=by
     refine ((((((hs1.keeps.trans hs2.keeps).trans hs3.keeps).trans (.alloc w3 _)).trans (.drew _)).trans (.of_grownBy hgrow fun j o hj ho=>?_)).trans (.setCell _ _ _)).trans (.setCell _ _ _)
     obtain ⟨_,cur,hc⟩:=own_base hown3 j hj
     have : (w3.alloc (.cells #[.int .i64 q.2,.slice (some ⟨yb,yo,none⟩) (ws.length + 1) yc] 25)).drew.heap[j]? = some (.cells cur 25 (0,0)):=(heap_alloc_old w3 _ _ (Array.getElem?_eq_some_iff.1 hc).1).trans hc
     rw [this] at ho
     cases ho
     rfl
    have R2 : ∀ i,w.heap.size + 5 ≤ i → i ≤ w.heap.size + 5 + 2 → ((w4.setCell ⟨w.heap.size + 1 + 1 + 1,0,none⟩ (.slice (some ⟨g4,0,none⟩) (out.length + 1) cp4)).setCell ⟨w.heap.size + 1 + 1 + 1 + 1,0,none⟩ (.int .i64 ((k : Int) + x.length + 1))).heap[i]? = W.heap[i]?:=fun i g1 g2 =>
     (setCell_other _ _ _ (by omega)).trans ((setCell_other _ _ _ (by omega)).trans ((s4 i (by omega)).trans (box_same hs1 hs2 hs3 (by omega))))
    have R3 : II κ w (pre ++ [x]) ((w4.setCell ⟨w.heap.size + 1 + 1 + 1,0,none⟩ (.slice (some ⟨g4,0,none⟩) (out.length + 1) cp4)).setCell ⟨w.heap.size + 1 + 1 + 1 + 1,0,none⟩ (.int .i64 ((k : Int) + x.length + 1))) :=
     ⟨_,_,k + x.length + 1,(ls_app hL3 hsz3 hown3 hreps3 hy hown4 hgrow hblk s4).at_ (k + x.length + 1),hF2,hk2,by simp; omega⟩
    clear hown4 hgrow hnil hblk hreps3 hown3 hy hreps hown hF hF2 hM
    refine region_round l (by kernel_rfl) (by kernel_rfl) ?_
    refine wpAnyIn_take (i:=1) (v:=?_) rfl rfl (by kernel_rfl) (by kernel_rfl) (by kernel_rfl) (fun _ _ _ h=>h) ⟨Or.inl ⟨by rfl,?_⟩,fun _=>rfl⟩ ?_
    rotate_left
    ·(intro wx; go_simp; try with_reducible rfl)
    refine wpAnyIn_take (i:=5) (v:=?_) rfl rfl (by kernel_rfl) (by kernel_rfl) (by kernel_rfl) (fun _ _ _ h=>h) ⟨Or.inl ⟨by rfl,?_⟩,fun _=>rfl⟩ ?_
    rotate_left
    ·(intro wx; go_simp; try with_reducible rfl)
    refine wpAnyIn_take (i:=2) (v:=?_) rfl rfl (by kernel_rfl) (by kernel_rfl) (by kernel_rfl) (fun _ _ _ h=>h) ⟨Or.inl ⟨by rfl,?_⟩,fun _=>rfl⟩ ?_
    rotate_left
    ·(intro wx; go_simp; try with_reducible rfl)
    refine wpAnyIn_take (i:=3) (v:=?_) rfl rfl (by kernel_rfl) (by kernel_rfl) (by kernel_rfl) (fun _ _ _ h=>h) ⟨Or.inl ⟨by rfl,?_⟩,fun _=>rfl⟩ ?_
    rotate_left
    ·(intro wx; go_simp; try with_reducible rfl)
    refine wpAnyIn_ready (rs:=[0,4]) (by kernel_rfl) (by simp) ?_
    refine AllReadyIn.cons rfl (fun K hK=>?_) (AllReadyIn.cons rfl (fun K hK=>?_) AllReadyIn.nil)
    ·go_simp
     refine hK _ _ ?_
     clear hK K
     refine wpAnyIn_ready (rs:=[4]) (by kernel_rfl) (by simp) ?_
     refine AllReadyIn.cons rfl (fun K hK=>?_) AllReadyIn.nil
     go_simp
     refine hK _ _ ?_
     clear hK K
     refine wpAnyIn_take (i:=6) (v:=?_) rfl rfl (by kernel_rfl) (by kernel_rfl) (by kernel_rfl) (fun _ _ _ h=>h) ⟨Or.inl ⟨by rfl,?_⟩,fun _=>rfl⟩ ?_
     rotate_left
     ·(intro wx; go_simp; try with_reducible rfl)
     refine wpAnyIn_ready (rs:=[7]) (by kernel_rfl) (by simp) ?_
     refine AllReadyIn.cons rfl (fun K hK=>?_) AllReadyIn.nil
     go_simp
     refine hK _ _ ?_
     clear hK K
     refine wpAnyIn_ready (rs:=[8]) (by kernel_rfl) (by simp) ?_
     refine AllReadyIn.cons rfl (fun K hK=>?_) AllReadyIn.nil
     refine step_run rfl (.tmp 37) (.tmp 44) 61 rfl rfl rfl hrun ?_
     refine hK _ _ ?_
     clear hK K
     refine wpAnyIn_ready (rs:=[9]) (by kernel_rfl) (by simp) ?_
     refine AllReadyIn.cons rfl (fun K hK=>?_) AllReadyIn.nil
     go_simp
     refine hK _ _ ?_
     clear hK K
     refine wpAnyIn_done (by kernel_rfl) ?_ _
     gi_wp2
     exact ⟨R1,R2,R3⟩
    ·go_simp
     refine hK _ _ ?_
     clear hK K
     refine wpAnyIn_take (i:=6) (v:=?_) rfl rfl (by kernel_rfl) (by kernel_rfl) (by kernel_rfl) (fun _ _ _ h=>h) ⟨Or.inl ⟨by rfl,?_⟩,fun _=>rfl⟩ ?_
     rotate_left
     ·(intro wx; go_simp; try with_reducible rfl)
     refine wpAnyIn_ready (rs:=[0,7]) (by kernel_rfl) (by simp) ?_
     refine AllReadyIn.cons rfl (fun K hK=>?_) (AllReadyIn.cons rfl (fun K hK=>?_) AllReadyIn.nil)
     ·go_simp
      refine hK _ _ ?_
      clear hK K
      refine wpAnyIn_ready (rs:=[7]) (by kernel_rfl) (by simp) ?_
      refine AllReadyIn.cons rfl (fun K hK=>?_) AllReadyIn.nil
      go_simp
      refine hK _ _ ?_
      clear hK K
      refine wpAnyIn_ready (rs:=[8]) (by kernel_rfl) (by simp) ?_
      refine AllReadyIn.cons rfl (fun K hK=>?_) AllReadyIn.nil
      refine step_run rfl (.tmp 37) (.tmp 44) 61 rfl rfl rfl hrun ?_
      refine hK _ _ ?_
      clear hK K
      refine wpAnyIn_ready (rs:=[9]) (by kernel_rfl) (by simp) ?_
      refine AllReadyIn.cons rfl (fun K hK=>?_) AllReadyIn.nil
      go_simp
      refine hK _ _ ?_
      clear hK K
      refine wpAnyIn_done (by kernel_rfl) ?_ _
      gi_wp2
      exact ⟨R1,R2,R3⟩
     ·go_simp
      refine hK _ _ ?_
      clear hK K
      refine wpAnyIn_ready (rs:=[0]) (by kernel_rfl) (by simp) ?_
      refine AllReadyIn.cons rfl (fun K hK=>?_) AllReadyIn.nil
      go_simp
      refine hK _ _ ?_
      clear hK K
      refine wpAnyIn_ready (rs:=[8]) (by kernel_rfl) (by simp) ?_
      refine AllReadyIn.cons rfl (fun K hK=>?_) AllReadyIn.nil
      refine step_run rfl (.tmp 37) (.tmp 44) 61 rfl rfl rfl hrun ?_
      refine hK _ _ ?_
      clear hK K
      refine wpAnyIn_ready (rs:=[9]) (by kernel_rfl) (by simp) ?_
      refine AllReadyIn.cons rfl (fun K hK=>?_) AllReadyIn.nil
      go_simp
      refine hK _ _ ?_
      clear hK K
      refine wpAnyIn_done (by kernel_rfl) ?_ _
      gi_wp2
      exact ⟨R1,R2,R3⟩
 case done =>
  rintro D W hD ⟨v,out,k,hLS,hF,hk,ho⟩ hK
  have hc:=hLS.cls
  obtain ⟨xs,hown,hreps⟩:=hLS.row
  obtain ⟨ad,cp,rfl⟩:=own_form hown
  obtain ⟨a0,b0,a1,b1,a2,b2,aO,bO,aA,bA⟩:=hc
  have hM : linesM s = (out,0,0):=by
   unfold linesM
   have:=hF []
   rw [List.append_nil] at this
   rw [if_neg (by omega),this]
   rfl
  have R:=res_of hLS.bel hLS.r0 hLS.r1 hLS.r2 (.slice ad out.length cp) (.int .i64 0) (.int .i64 0)
  have hne : ∀ i c E fr,W.heap[i]? = some (.cells c E fr) → i ≠ D:=fun i c E fr hh e=>by rw [e,hK] at hh; cases hh
  gi_wp2
  rw [hM]
  refine lines_end (R:=fun v W'=>Rep (newHw κ w.heap.size W'.heap) W'.heap (linsV out) v) (k:=((0 : Nat) : Int)) (e:=0) R.bel R.c0 R.c1 R.c2 (by omega) ((R.same D (by omega)).trans hK) rfl rfl rfl ?_
  refine row_rep hown hreps fun i c E fr hh hi=>(World.putObj_heap_other (hne i c E fr hh)).trans ?_
  rcases hi with hi | hi
  ·exact (R.bel.block i hi).trans (hLS.bel.block i hi).symm
  ·exact R.same i (by omega)
 case stop =>
  rintro D W hD ⟨kk,e,hb,c0,c1,c2⟩ hK
  gi_wp2
  rw [e]
  exact lines_end (R:=fun v W'=>Rep (newHw κ w.heap.size W'.heap) W'.heap (linsV []) v) (k:=(kk : Int)) (e:=7) hb c0 c1 c2 (by omega) hK rfl rfl rfl (.slnil .ro (fun i h=>by cases h))
theorem rep_nil {κ : Ctx} {h : Heap} : Rep κ h (linsV []) (.slice none 0 0):=.slnil .ro fun i h=>by cases h
def lineT (l : List UInt8) : V:=.tup [linsV (linesM l).1,vI (linesM l).2.1,vI (linesM l).2.2]
def F_line_Lines : Spec
 | [.str s]=>some (lineT s)
 | _=>none
theorem ok_line_Lines : SpecL Tryz.prog n_line_Lines F_line_Lines:=by
 refine ⟨⟨_,_,Tryz.func20,rfl,by kernel_rfl⟩,fun args v hv=>?_⟩
 unfold F_line_Lines at hv
 split at hv <;> simp only [Option.some.injEq,reduceCtorEq] at hv
 rename_i s
 subst hv
 refine ⟨fun m κ w xs k r=>?_,(cano_plain (show (lineT s).cano = true by simp only [lineT,V.cano,canos,linsV_cano,Bool.and_self])).2⟩
 obtain ⟨x,ys,rfl,r1,r2⟩:=r.inv_cons
 obtain rfl:=r2.inv_nil
 obtain rfl:=rep_str r1
 have done : ∀ {w' : World} {v : Value},Bel w.heap.size w w' → Rep (newHw κ w.heap.size w'.heap) w'.heap (linsV (linesM s).1) v → ∃ x κ',Ending.returned (.tuple #[v,.int .i64 (linesM s).2.1,.int .i64 (linesM s).2.2]) = .returned x ∧ Ext κ w m κ' w' m ∧ Rep κ' w'.heap (lineT s) x:=fun hb hr=>by
  refine ⟨_,_,rfl,newHw_ext k hb.size hb.block hb.os hb.output,.tup _ [_,_,_] rfl fun i c x h1 h2=>?_⟩
  match i,h1,h2 with
  | 0,h1,h2=>cases h1; cases h2; exact hr
  | 1,h1,h2=>cases h1; cases h2; exact .int _ _
  | 2,h1,h2=>cases h1; cases h2; exact .int _ _
 by_cases hbig : 200000 < s.length ∨ 5000 < s.count 10
 ·have hM : linesM s = ([],0,8):=if_pos hbig
  refine (callsIn_wide.1 (lines_big s hbig w)).mono ?_
  rintro e w' ⟨rfl,hb⟩
  have:=done (v:=.slice none 0 0) hb (by rw [hM]; exact rep_nil)
  rw [hM] at this
  exact this
 ·refine (callsIn_wide.1 (lines_walk κ s (fun h=>hbig (.inl h)) (fun h=>hbig (.inr h)) w k.1.tbs.tab0)).mono ?_
  rintro e w' ⟨v,rfl,hb,hr⟩
  exact done hb hr
end Go.Fbs

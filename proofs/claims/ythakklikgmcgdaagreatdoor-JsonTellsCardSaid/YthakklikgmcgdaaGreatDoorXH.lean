import Derived.Test.YthakklikgmcgdaaGreatDoorXF
import Derived.Test.YthakklikgmcgdaaGreatDoorXG
set_option linter.unusedSimpArgs false
set_option linter.unusedVariables false
set_option linter.unusedSectionVars false
set_option maxRecDepth 100000
namespace Go.Fbs
open Go.Proofs Go.RowKit
theorem aD0 {κ : Ctx} {h h' : Heap} {v : V} {x : Value} (r : Rep κ h v x) (hp : v.plain = true) (hs : ∀ b,b < h.size → h'[b]? = h[b]?) : Rep (eX h') h' v x:=by
 refine a1g (κ:=κ) (fun b i y h1 h2=>?_) r hp
 have hb:=gW h2
 have e:=hs b hb
 obtain ⟨c,E,fr,g1,g2⟩:=a8f h2
 refine ⟨?_,?_⟩
 ·show i < (match h'[b]? with | some (.cells c _ _)=>c.size | _=>0)
  rw [e,g1]; exact g2
 ·unfold aW at h2 ⊢; rw [e]; exact h2
theorem Bq.same {B b : Nat} {l : List UInt8} {w w' : World} (h : Bq B b l w) (hs : ∀ k,k < w.heap.size → w'.heap[k]? = w.heap[k]?) : Bq B b l w':=by
 have key:∀ {p:Value},Lib.BuilderAtF 55 5 B b p (Lib.byteCells l) w→Lib.BuilderAtF 55 5 B b p (Lib.byteCells l) w':=by
  rintro p ⟨h1,v,h2,h3,h4⟩
  refine ⟨h1,v,(hs b (Array.getElem?_eq_some_iff.1 h2).1).trans h2,⟨h3.1,?_⟩,h4⟩
  rcases h3.2 with h5 | ⟨g,cap,cur,fz,e,hb,hg,rest⟩
  ·exact .inl h5
  ·exact .inr ⟨g,cap,cur,fz,e,hb,(hs g (Array.getElem?_eq_some_iff.1 hg).1).trans hg,rest⟩
 exact h.elim (fun x=>.inl (key x)) fun x=>.inr (key x)
theorem aQz {n:Nat} {s:List UInt8} {v:V} (hF:jL bH n [.str s]=some (.tup [v,.int .i64 0,.int .i64 0])) (hp:v.plain=true) (w:World) (hT:tD w.heap) :
  Calls Tryz.prog 7 #[.string ⟨⟨s⟩⟩] w fun e w'=>∃ x,e = .returned (.tuple #[x,.int .i64 0,.int .i64 0])∧Rep (eX w'.heap) w'.heap v x∧pU w.heap.size w w':=by
 refine (((aA4 n).call _ _ hF).1 empty (eX w.heap) w [.string ⟨⟨s⟩⟩] (a7k _ hT) (Reps.cons (.str s) Reps.nil)).mono ?_
 rintro e w' ⟨x,κ',rfl,hx,hv⟩
 cases hv with
 | tup _ xs hl hr =>
  match xs,hl with
  | [a,b,c],_ =>
   have h0:=hr 0 _ a rfl rfl
   have h1:=rep_int (hr 1 _ b rfl rfl)
   have h2:=rep_int (hr 2 _ c rfl rfl)
   subst h1 h2
   exact ⟨a,rfl,aD0 h0 hp fun _ _=>rfl,hx.os,hx.out.output,hx.out.size,fun i hi=>hx.le.same i hi xT⟩
theorem aTk {n:Nat} {v:V} (hd:Deep n v) {x y:Value} {w:World} (hT:tD w.heap) (hx:Rep (eX w.heap) w.heap v x) (hy:Rep (eX w.heap) w.heap v y):Calls Tryz.prog 21 #[x,y] w fun e w'=>e = .returned (.bool true)∧pU w.heap.size w w':=by
 refine (((aOh n).call _ _ (a47 hd)).1 empty (eX w.heap) w [x,y] (a7k _ hT) (Reps.cons hx (Reps.cons hy Reps.nil))).mono ?_
 rintro e w' ⟨x,κ',rfl,hx,hv⟩
 exact ⟨by rw [rep_bool hv],hx.os,hx.out.output,hx.out.size,fun i hi=>hx.le.same i hi xT⟩
set_option maxHeartbeats 800000 in
theorem aTl {n N:Nat} {v:V} {l:List UInt8} (ht:mY 21 [] v=some l) (hF:jL bH n [.str l]=some (.tup [v,.int .i64 0,.int .i64 0])) (hd:Deep N v) {κ0:Ctx} {W:World} {x:Value} (hT:tD W.heap) (hx:Rep κ0 W.heap v x) :
  Calls Tryz.prog 8 #[x] W fun e w'=>e = .returned (.tuple #[.string ⟨⟨l⟩⟩,.bool true])∧pU W.heap.size W w':=by
 have hp:v.plain=true:=(iN hd.bR).1
 let κ:Ctx:=⟨fun b=>if b < W.heap.size then κ0.hw b else 0,fun _=>none,[]⟩
 have hxκ:Rep κ W.heap v x:=a1g (κ:=κ0) (fun b i y h1 h2=>⟨by show i < (if b < W.heap.size then κ0.hw b else 0); rw [if_pos (gW h2)]; exact h1,h2⟩) hx hp
 obtain ⟨k,t,ks,ls,rfl⟩:=yV ht
 obtain ⟨a2,n2,z2,a3,n3,z3,rfl,hr⟩:=aAx (h:=W) hxκ
 obtain ⟨W2,hW2⟩:∃ W2,W2=(W.alloc (.cells #[.int .i64 k,.string ⟨⟨t⟩⟩,.slice a2 n2 z2,.slice a3 n3 z3] 27)).alloc (.cells #[.pointer none,.slice none 0 0] 55):=⟨_,rfl⟩
 have s1:∀ o,(W.alloc o).heap.size=W.heap.size+1:=fun o=>by simp
 have s2:W2.heap.size=W.heap.size+1+1:=by rw [hW2]; simp
 have gj : W2.heap[W.heap.size]? = some (.cells #[.int .i64 k,.string ⟨⟨t⟩⟩,.slice a2 n2 z2,.slice a3 n3 z3] 27 (0,0)):=by
  rw [hW2,heap_alloc_old _ _ (by rw [s1]; omega),heap_alloc_new]
 have gb : W2.heap[W.heap.size + 1]? = some (.cells #[.pointer none,.slice none 0 0] 55 (0,0)):=by
  rw [hW2,← s1 (.cells #[.int .i64 k,.string ⟨⟨t⟩⟩,.slice a2 n2 z2,.slice a3 n3 z3] 27),heap_alloc_new]
 have old2 : ∀ b,b < W.heap.size → W2.heap[b]? = W.heap[b]?:=fun b hb=>by
  rw [hW2,heap_alloc_old _ _ (by rw [s1]; omega),heap_alloc_old _ _ hb]
 have bel2:pU W.heap.size W W2:=⟨by rw [hW2]; rfl,by rw [hW2]; rfl,by omega,old2⟩
 have hb2:Bq (W.heap.size+1) (W.heap.size+1) [] W2:=Lib.IsBuilderF.of (.inl ⟨Nat.le_refl _,_,gb,World.ownsRow_nil _ _ _ _,by simp [Value.ownBlock]⟩)
 have hx2:Rep κ W2.heap (jn k t ks ls) (.agg #[.int .i64 k,.string ⟨⟨t⟩⟩,.slice a2 n2 z2,.slice a3 n3 z3]):=a1g (κ:=κ) (fun b i y h1 h2=>⟨h1,by have:=old2 b (gW h2); unfold aW at h2 ⊢; rw [this]; exact h2⟩) hxκ hp
 have htold:=aOg 21 (by omega) _ _ _ ht hp κ (W.heap.size+1) (W.heap.size+1) W2 _ (fun c hc=>if_neg (by omega)) hb2 hx2
 rw [show (21:Int) - ((21:Nat):Int)=0 from rfl] at htold
 go_enter Tryz.func8,Tryz.ntmps8
 go_wp2_with (first
  | (go_at_call 19; rw [← hW2]; refine htold.mono ?_; rintro _ W3 ⟨rfl,h3,o3⟩; clear hW2; have hs3:=aA5 h3)
  | (go_at_call 20; refine hs3.mono ?_; rintro _ W4 ⟨rfl,h4,o4⟩; have hT4:tD W4.heap:=hT.same (by have:=o3.below.size; have:=o4.below.size; omega) (fun b hb=>((o4.below.block b (by omega)).trans (o3.below.block b (by omega))).trans (old2 b hb)); have hp4:=aQz hF hp W4 hT4)
  | (go_at_call 7; refine hp4.mono ?_; rintro _ W5 ⟨bx,rfl,h5,b5⟩; obtain ⟨b2,m2,q2,b3,m3,q3,rfl,_⟩:=aAx (h:=W5) h5; have bq5:=h4.same b5.block; have hsz5:=bq5.size; have gj5:=((b5.block W.heap.size (by have:=h4.size; omega)).trans ((o4.below.block W.heap.size (by omega)).trans (o3.below.block W.heap.size (by omega)))).trans gj; have c0 : W5.cell? ⟨W.heap.size,0,none⟩ = some (.int .i64 k):=(by rw [Lib.cell_of_heap gj5]; rfl); have c1 : W5.cell? ⟨W.heap.size,1,none⟩ = some (.string ⟨⟨t⟩⟩):=(by rw [Lib.cell_of_heap gj5]; rfl); have c2 : W5.cell? ⟨W.heap.size,2,none⟩ = some (.slice a2 n2 z2):=(by rw [Lib.cell_of_heap gj5]; rfl); have c3 : W5.cell? ⟨W.heap.size,3,none⟩ = some (.slice a3 n3 z3):=(by rw [Lib.cell_of_heap gj5]; rfl); have hne : ¬ W.heap.size = W5.heap.size:=(by omega); have hlt5 : W.heap.size < W5.heap.size:=(by omega); have old5 : ∀ b,b < W.heap.size → W5.heap[b]? = W.heap[b]?:=(fun b hb=>((b5.block b (by have:=h4.size; omega)).trans ((o4.below.block b (by omega)).trans (o3.below.block b (by omega)))).trans (old2 b hb)))
  | (go_at_call 21; refine (aTk (w:=W5.alloc _) hd (hT.same (by simp; omega) fun b hb=>(heap_alloc_old _ _ (by omega)).trans (old5 b hb)) (aD0 h5 hp fun b hb=>heap_alloc_old _ _ hb) (aD0 hx hp fun b hb=>(heap_alloc_old _ _ (by omega)).trans (old5 b hb))).mono ?_; rintro _ W8 ⟨rfl,b8⟩; have bq8:=(bq5.alloc (.cells #[.int .i64 k,.string ⟨⟨t⟩⟩,.slice b2 m2 q2,.slice b3 m3 q3] 27)).same b8.block; have hs8:=aA5 bq8)
  | (go_at_call 20; refine hs8.mono ?_; rintro _ W9 ⟨rfl,h9,o9⟩))
 go_ret2
 have e3:=pU.of o3.below
 have e4:=pU.of o4.below
 have e9:=pU.of o9.below
 have e7:pU W5.heap.size W5 (W5.alloc (.cells #[.int .i64 k,.string ⟨⟨t⟩⟩,.slice b2 m2 q2,.slice b3 m3 q3] 27)):=⟨rfl,rfl,by simp,fun b hb=>heap_alloc_old _ _ hb⟩
 refine ⟨rfl,(((((bel2.trans (e3.mono (by omega))).trans (e4.mono (by omega))).trans (b5.mono (by have:=h4.size; omega))).trans (e7.mono (by omega))).trans (b8.mono ?_)).trans (e9.mono (by omega))⟩
 have:=e7.size
 omega
noncomputable def pN (n N:Nat):Spec
 | [v]=>match mY 21 [] v with
  | some l=>(open Classical in if jL bH n [.str l]=some (.tup [v,.int .i64 0,.int .i64 0])∧Deep N v then some (.tup [.str l,.bool true]) else none)
  | none=>none
 | _=>none
theorem aTm {n N:Nat} {v:V} {l:List UInt8} (h1:mY 21 [] v=some l) (h2:jL bH n [.str l]=some (.tup [v,.int .i64 0,.int .i64 0])) (h3:Deep N v):pN n N [v]=some (.tup [.str l,.bool true]):=by
 simp only [pN,h1]
 exact if_pos ⟨h2,h3⟩
theorem aLt (n N:Nat):cZ Tryz.prog a0y (pN n N):=by
 refine ⟨⟨_,_,Tryz.func8,rfl,by kernel_rfl⟩,fun args v hv=>?_⟩
 unfold pN at hv
 split at hv
 ·split at hv
  ·rename_i a l hl
   simp only [Option.ite_none_right_eq_some,Option.some.injEq] at hv
   obtain ⟨⟨h1,h2⟩,rfl⟩:=hv
   refine ⟨fun m=>aC5 fun κ w xs hT r=>?_,rfl⟩
   obtain ⟨x,ys,rfl,r1,r2⟩:=r.inv_cons
   obtain rfl:=r2.inv_nil
   refine ⟨_,aTl hl h1 h2 hT r1,fun h'=>?_⟩
   exact .tup _ [.string ⟨⟨l⟩⟩,.bool true] rfl fun i c x hc hx=>by
    match i,hc,hx with
    | 0,hc,hx=>cases hc; cases hx; exact .str _
    | 1,hc,hx=>cases hc; cases hx; exact .bool _
  ·cases hv
 ·cases hv
end Go.Fbs

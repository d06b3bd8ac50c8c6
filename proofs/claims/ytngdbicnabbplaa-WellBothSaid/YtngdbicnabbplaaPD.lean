import Derived.Shelf.SlGeneric
import Derived.Ground.SlgnProg
import Derived.Shelf.SlicesE.Clone
import Derived.Shelf.Spec.SlicesGrow
import Derived.Test.YtngdbicnabbplaaProg
import Derived.Test.YtngdbicnabbplaaPC
set_option linter.unusedSimpArgs false
set_option linter.unusedVariables false
set_option linter.unusedSectionVars false
set_option maxRecDepth 100000

namespace Go.Proofs
open Go.Shelf
def Try.aU6:Go.Shelf.Ren:=⟨fun | 41=>81 | n=>n,fun | 22=>123 | 23=>126 | 4=>4 | n=>n,fun | n=>n⟩
theorem Try.b8t:Go.Proofs.SlLaysE0.n41 Try.prog Try.aU6:={
 mixed:=by kernel_rfl
 f41:=⟨Try.f81.name,by decide,Try.func81.trans (congrArg some (by kernel_rfl))⟩
 t4:=Try.underlying4
 a4:=Try.isAgg4
 z4:=Try.sizeOf4
 v4:=Try.zeroValue4
 t22:=Try.underlying123
 a22:=Try.isAgg123
 z22:=Try.sizeOf123
 v22:=Try.zeroValue123 }
def Try.aXg:Go.Shelf.Ren:=⟨fun | 4=>88 | n=>n,fun | 22=>123 | 25=>126 | 3=>3 | 4=>4 | 9=>9 | 20=>20 | 0=>0 | n=>n,fun | n=>n⟩
theorem Try.aY1:Go.Proofs.Lays8.n4 Try.prog Try.aXg:={
 mixed:=by kernel_rfl
 f4:=⟨Try.f88.name,by decide,Try.func88.trans (congrArg some (by kernel_rfl))⟩
 t0:=Try.underlying0
 a0:=Try.isAgg0
 z0:=Try.sizeOf0
 v0:=Try.zeroValue0
 t3:=Try.underlying3
 a3:=Try.isAgg3
 z3:=Try.sizeOf3
 v3:=Try.zeroValue3
 t4:=Try.underlying4
 a4:=Try.isAgg4
 z4:=Try.sizeOf4
 v4:=Try.zeroValue4
 t9:=Try.underlying9
 a9:=Try.isAgg9
 z9:=Try.sizeOf9
 v9:=Try.zeroValue9
 t20:=Try.underlying20
 a20:=Try.isAgg20
 z20:=Try.sizeOf20
 v20:=Try.zeroValue20
 t22:=Try.underlying123
 a22:=Try.isAgg123
 z22:=Try.sizeOf123
 v22:=Try.zeroValue123 }
end Go.Proofs

namespace Go.Fbs
open Go.Proofs Go.RowKit Go.Maps
variable {n k:Nat} {l:List TM} {mk:Lit→Option Nat} {w w':World}
theorem a1s {base : Nat} {v : Value} {ws : List Wy} (h : jN base w v ws) (h0 : ws ≠ []) : ∃ g cp,v = .slice (some ⟨g,0,none⟩) ws.length cp ∧ base ≤ g ∧ g < w.heap.size ∧ ∀ j u,(kV ws)[j]? = some u → w.cell? ⟨g,0 + j,none⟩ = some u:=by
 obtain ⟨g,cp,rfl,h1,h2,h3⟩:=sR h (by intro e; exact h0 (List.length_eq_zero_iff.1 e))
 refine ⟨g,cp,rfl,h1,h2,fun j u hj=>?_⟩
 have hlt:j < ws.length*3:=by rw [← a5j ws]; exact (zzy.1 hj).1
 rw [Nat.zero_add]
 exact (World.ownsRow.cellAt h j hlt).trans hj
theorem aJm {base:Nat} {v:Value} {ws:List Wy} (h:jN base w v ws) (h0:ws≠[]) (hl:ws.length≤1000000) :
  Calls Try.prog 81 #[v] w fun e w'=>dU w w'∧∃ v',e = .returned v'∧jN w.heap.size w' v' ws:=by
 obtain ⟨i0,hi,hz0,hz1,hz2⟩:=info_parts Try.a7f
 obtain ⟨g,cp,rfl,h1,h2,h3⟩:=a1s h h0
 have hcon:=AnyE.slices_Clone Try.b8t i0 _ 3 40 hi hz0 hz1 hz2 rfl (by decide) Try.sizeOf126 g 0 ws.length cp (kV ws) w (a5j ws) (by unfold maxLen; omega) (by omega) h3 (aHa ws)
 change Calls Try.prog 81 _ _ _ at hcon
 refine hcon.mono ?_
 rintro e w' ⟨v',rfl,ho,_,hb⟩
 exact ⟨⟨hb.os,hb.output,hb.size,hb.block⟩,v',rfl,ho⟩
theorem b14 (m:Nat) (hm:0 < m) (hl:m≤1000000) :
  Calls Try.prog 88 #[.slice none 0 0,.int .i64 m] w fun e w'=>dU w w'∧∃ v' cp,e = .returned v'∧v' = .slice (some ⟨w.heap.size,0,none⟩) 0 cp∧w'.ownsRow w.heap.size 126 3 v' 0 []:=by
 obtain ⟨i0,hi,hz0,hz1,hz2⟩:=info_parts Try.a7f
 have hcon:=Any8.slices_Grow_grow Try.aY1 i0 _ hi hz0 (by omega) none 0 0 m [] w (zxy _) (by omega) (by rw [hz2]; omega) (by omega) (by simp) (fun _=>rfl) (fun a h=>by cases h)
 change Calls Try.prog 88 _ _ _ at hcon
 refine hcon.mono ?_
 rintro e w' ⟨rfl,rfl⟩
 have hG:=grownCap_ge w (0+m) 0 126
 have hG2:=grownCap_le_maxLen w (0+m) 0 126 (by unfold maxLen; omega)
 refine ⟨(eZ w).trans (aK _ _),_,_,rfl,rfl,by simp,.inr ⟨w.heap.size,_,_,rfl,zxy _,heap_alloc_new w.drew _,Nat.zero_le _,hG2,?_,by simp⟩⟩
 rw [Array.size_append,Array.size_append,size_zeroCells,size_zeroCells]
 change 0+(0+m - 0)*3+(grownCap w (0+m) 0 126 - (0+m))*3=grownCap w (0+m) 0 126*3
 omega
set_option maxHeartbeats 1600000 in
theorem aU7 {base base':Nat} {v u:Value} {ws:List Wy} (ho:w.ownsRow base' 123 1 v 1 [u]) (h:jN base w u ws) (h0:ws≠[]) (hl:ws.length≤1000000) :
  Calls Try.prog 82 #[v] w fun e w'=>dU w w'∧∃ v',e = .returned v'∧jN w.heap.size w' v' ws:=by
 obtain ⟨i0,hi,hz0,hz1,hz2⟩:=info_parts Try.a7f
 obtain ⟨g,cp,rfl,hg1,hg2,hg3⟩:=sR ho (by decide)
 obtain ⟨gu,cu,rfl,hu1,hu2,hu3⟩:=a1s h h0
 have hc : w.cell? ⟨g,0,none⟩ = some (.slice (some ⟨gu,0,none⟩) ws.length cu):=by
  rw [World.ownsRow.cellAt ho 0 (by decide)]; rfl
 have hpos:0 < ws.length:=List.length_pos_iff.2 h0
 have hgr:=b14 (w:=w) ws.length hpos hl
 have hneg:¬ ((ws.length:Int) < 0):=by omega
 have hp0:(0:Int)≤(ws.length:Int):=by omega
 go_enter Try.func82,Try.ntmps82
 go_wp2
 go_loopw [3,11] (fun s i wr=>wr=w∧((s = .int .i64 0∧i = .int .i64 0)∨(s = .int .i64 ws.length∧i = .int .i64 1))) (fun _ i _=>1 - (iG i).toNat)
 case atStart=>exact ⟨rfl,.inl ⟨rfl,rfl⟩⟩
 case round =>
  obtain ⟨rfl,h2⟩:=hrel
  rcases h2 with ⟨rfl,rfl⟩ | ⟨rfl,rfl⟩
  ·go_wp2
   exact ⟨⟨by simp,.inr ⟨by simp,by simp⟩⟩,by simp [iG]⟩
  ·go_wp2_with (go_at_call 88; refine hgr.mono ?_; rintro e w5 ⟨hs5,v5,cp5,rfl,rfl,ho5⟩)
   have hw5:=hs5.size
   have hc5:=hs5.cell hc
   clear hgr
   obtain ⟨w0,hw0⟩:∃ w0,w0=wr:=⟨_,rfl⟩
   subst hw0
   go_loopw [6,27] (fun v i wr=>dU w0 wr∧((v = .slice (some ⟨w0.heap.size,0,none⟩) 0 cp5∧i = .int .i64 0∧wr.ownsRow w0.heap.size 126 3 v 0 [])∨(i = .int .i64 1∧jN w0.heap.size wr v ws))) (fun _ i _=>1 - (iG i).toNat)
   case atStart=>exact ⟨hs5,.inl ⟨rfl,rfl,ho5⟩⟩
   case round =>
    obtain ⟨hs6,h2⟩:=hrel
    have hc6:=hs6.cell hc
    have hgs:g < wr.heap.size:=by have:=hs6.size; omega
    rcases h2 with ⟨rfl,rfl,ho6⟩ | ⟨rfl,ho6⟩
    ·have hws:=hs6.size
     have hnews : ∀ j u,(kV ws)[j]? = some u → wr.cell? ((⟨gu,0,none⟩ : Addr).add j) = some u:=World.ownsRow.cells (j6 h hs6) (g:=gu) rfl
     go_wp2_with (first
      | (at_builtin; refine wpList_append_lies _ rfl _ _ 123 rfl w0.heap.size 126 i0 _ 3 40 Try.underlying123 hi hz0 hz1 hz2 rfl (by decide) _ _ _ rfl ho6 ⟨gu,0,none⟩ ws.length cu (kV ws) rfl (a5j ws) hnews (aHa ws) hpos (by unfold maxLen; omega) (by omega) (by omega) wr.heap.size rfl ?_; intro g7 cp7 w7 hown' hgrow hat hlt)
      | go_in)
     go_wp2
     have hs7:dU w0 w7:=by
      refine ⟨hgrow.os.trans hs6.os,hgrow.output.trans hs6.output,Nat.le_trans hs6.size hgrow.size,fun q hq=>?_⟩
      refine (hgrow.block q (by omega) fun e=>?_).trans (hs6.same q hq)
      have:=(ho6.lt q e.symm).1
      omega
     refine ⟨⟨hs7,.inr ⟨by simp,?_⟩⟩,by simp [iG]⟩
     unfold jN
     rw [Nat.zero_add,List.nil_append] at hown'
     exact hown'
    ·go_wp2
     go_ret
     exact ⟨hs6,_,rfl,ho6⟩
end Go.Fbs

namespace Go.Fbs
open Go.Proofs Go.RowKit Go.Maps
variable {n k:Nat} {l:List TM} {mk:Lit→Option Nat} {w w':World}
def mG (b:Bool) (ws:List Wy):List Wy:=if b then ws.map fun q=>(q.1,q.2.1,1) else ws
def pA (l:List TM) (typ:B8) (st:List (List Wy)) (x:cV):List (List Wy) :=
 if x.1=1∨x.1=2 then jR l typ x::st else
 match st with
 | b::a::r=>(a++mG (decide (x.1=4)) b)::r
 | st=>st
def Stk (base:Nat) (w:World) (v:Value) (st:List (List Wy)):Prop :=
 ∃ vs : List Value,w.ownsRow base 123 1 v st.length vs ∧ ∀ (i : Nat) (ws : List Wy),st.reverse[i]? = some ws → ws ≠ [] ∧ ∃ u,vs[i]? = some u ∧ jN base w u ws
theorem Stk.jI {base:Nat} {v:Value} {st:List (List Wy)} (h:Stk base w v st) (hs:dU w w'):Stk base w' v st:=by
 obtain ⟨vs,h1,h2⟩:=h
 exact ⟨vs,j6 h1 hs,fun i ws hi=>⟨(h2 i ws hi).1,by
  obtain ⟨_,u,hu,hr⟩:=h2 i ws hi
  exact ⟨u,hu,j6 hr hs⟩⟩⟩
theorem aK4 {base : Nat} {e : TypeId} {size n : Nat} {v : Value} {xs : List Value} (h : w.ownsRow base e size v n xs) {q : Nat} (hq : v.ownBlock = some q) : base ≤ q ∧ ∃ cur,w.heap[q]? = some (.cells cur e (0,0)):=by
 rcases h.2 with ⟨rfl,_⟩ | ⟨g,cap,cur,rfl,hb,hg,_⟩
 ·cases hq
 ·cases hq; exact ⟨hb,cur,hg⟩
theorem aQs {base base' m:Nat} {u ov:Value} {ws:List Wy} {xs:List Value} (h:jN base w u ws) (ho:w.ownsRow base' 123 1 ov m xs) (hg:w.grownBy w' ov.ownBlock):jN base w' u ws:=by
 refine World.ownsRow.kept h hg ?_
 cases hu:u.ownBlock with
 | none=>exact .inl rfl
 | some q =>
  refine .inr fun e=>?_
  obtain ⟨_,c1,h1⟩:=aK4 h hu
  obtain ⟨_,c2,h2⟩:=aK4 ho e.symm
  rw [h1] at h2
  cases h2
theorem bCt {base:Nat} {e:TypeId} {size g cap n m:Nat} {xs:List Value} (hm:n≤m)
  (h:w.ownsRow base e size (.slice (some ⟨g,0,none⟩) m cap) m xs):w.ownsRow base e size (.slice (some ⟨g,0,none⟩) n cap) n (xs.take (n*size)):=by
 obtain ⟨h1,h2⟩:=h
 rcases h2 with ⟨h0,_⟩ | ⟨g',cap',cur,hv,hg,hh,hn,hcap,hsz,htake⟩
 ·cases h0
 ·cases hv
  refine ⟨?_,.inr ⟨g,cap,cur,rfl,hg,hh,by omega,hcap,hsz,?_⟩⟩
  ·rw [List.length_take,h1]
   exact Nat.min_eq_left (Nat.mul_le_mul_right _ hm)
  ·rw [← htake,List.take_take,Nat.min_eq_left (Nat.mul_le_mul_right _ hm)]
theorem aU8 {base m:Nat} {ov v v':Value} {st:List (List Wy)} {ws:List Wy} {vs:List Value} (hm:st.length=m) (ho:w.ownsRow base 123 1 ov m vs)
  (hold : ∀ (i : Nat) (ws : List Wy),st.reverse[i]? = some ws → ws ≠ [] ∧ ∃ u,vs[i]? = some u ∧ jN base w u ws) (hnew : jN base w v ws) (hne : ws ≠ []) (hown : w'.ownsRow base 123 1 v' (m + 1) (vs ++ [v])) (hg : w.grownBy w' ov.ownBlock) : Stk base w' v' (ws :: st):=by
 have hvl:vs.length=m:=by have:=ho.1; omega
 refine ⟨vs++[v],by rw [zwx,hm]; exact hown,fun i ws' hi=>?_⟩
 rw [List.reverse_cons] at hi
 rcases Nat.lt_or_ge i st.reverse.length with hlt | hge
 ·rw [ztz hlt] at hi
  obtain ⟨h1,u,hu,hr⟩:=hold i ws' hi
  rw [List.length_reverse,hm] at hlt
  exact ⟨h1,u,by rw [ztz (by omega)]; exact hu,aQs hr ho hg⟩
 ·rw [ztx hge] at hi
  rw [List.length_reverse,hm] at hge hi
  obtain ⟨rfl,rfl⟩:i=m∧ws'=ws:=by
   have h0:i - m=0:=by
    rcases Nat.eq_zero_or_pos (i - m) with h | h
    ·exact h
    ·rw [List.getElem?_eq_none (by simp; omega)] at hi; cases hi
   rw [h0] at hi
   simp only [zux,zzz] at hi
   exact ⟨by omega,hi.symm⟩
  exact ⟨hne,v,by rw [ztx (by omega),hvl]; simp,aQs hnew ho hg⟩
theorem Try.bCu : (Try.prog.info? 123).map (fun i=>(i.zero,i.size,i.bytes)) = some (some (.slice none 0 0),1,24):=by kernel_rfl
theorem aU9 (w : World) (v : Value) : ∀ j u,[v][j]? = some u → (w.alloc (.cells #[v] 123)).cell? ((⟨w.heap.size,0,none⟩ : Addr).add j) = some u :=
 World.news_of_block (cs:=#[v]) (heap_alloc_new w _)
theorem bCv {base:Nat} {v:Value} {a b:List Wy} {r:List (List Wy)} (h:Stk base w v (b::a::r)):∃ g cp vs ua ub,v = .slice (some ⟨g,0,none⟩) (r.length+2) cp∧base≤g∧g < w.heap.size∧r.length+2≤cp ∧
  w.ownsRow base 123 1 (.slice (some ⟨g,0,none⟩) r.length cp) r.length vs ∧ (∀ (i : Nat) (ws : List Wy),r.reverse[i]? = some ws → ws ≠ [] ∧ ∃ u,vs[i]? = some u ∧ jN base w u ws) ∧
  w.cell? ⟨g,r.length,none⟩ = some ua ∧ w.cell? ⟨g,r.length + 1,none⟩ = some ub ∧ a ≠ [] ∧ b ≠ [] ∧ jN base w ua a ∧ jN base w ub b:=by
 obtain ⟨vs,h1,h2⟩:=h
 obtain ⟨g,cp,rfl,hg1,hg2,hg3⟩:=sR h1 (by simp)
 have hlen:(b::a::r).length=r.length+2:=rfl
 rw [hlen] at h1 hg3
 have hrev:(b::a::r).reverse=r.reverse++[a,b]:=by simp
 rw [hrev] at h2
 have hra : (r.reverse ++ [a,b])[r.length]? = some a:=by rw [ztx (by simp)]; simp
 have hrb : (r.reverse ++ [a,b])[r.length + 1]? = some b:=by rw [ztx (by simp)]; simp
 obtain ⟨ha,ua,hua,hra'⟩:=h2 _ _ hra
 obtain ⟨hb,ub,hub,hrb'⟩:=h2 _ _ hrb
 have hvl:vs.length=r.length+2:=by have:=h1.1; omega
 refine ⟨g,cp,_,ua,ub,rfl,hg1,hg2,hg3,bCt (n:=r.length) (by omega) h1,fun i ws hi=>?_,?_,?_,ha,hb,hra',hrb'⟩
 ·have hlt:i < r.length:=by
   rcases Nat.lt_or_ge i r.reverse.length with h | h
   ·simpa using h
   ·rw [List.getElem?_eq_none h] at hi; cases hi
  obtain ⟨h3,u,hu,hw⟩:=h2 i ws (by rw [ztz (by simpa using hlt)]; exact hi)
  exact ⟨h3,u,by rw [List.getElem?_take,if_pos (by omega)]; exact hu,hw⟩
 ·rw [World.ownsRow.cellAt h1 _ (by omega)]; exact hua
 ·rw [World.ownsRow.cellAt h1 _ (by omega)]; exact hub
theorem wE {X:World} {row:Option Nat} (hs:dU w X) (hg:X.grownBy w' row) (hr:∀ q,row=some q→w.heap.size≤q):dU w w':=by
 refine ⟨hg.os.trans hs.os,hg.output.trans hs.output,Nat.le_trans hs.size hg.size,fun q hq=>?_⟩
 refine (hg.block q (zuz hq hs.size) fun e=>?_).trans (hs.same q hq)
 have:=hr q e.symm
 omega
def zM (i:Nat) (ws:List Wy):List Wy:=((ws.take i).map fun q=>(q.1,q.2.1,1))++ws.drop i
theorem aDn (ws:List Wy):zM 0 ws=ws:=by simp [zM]
theorem b5h (ws:List Wy):zM ws.length ws=mG true ws:=by simp [zM,mG]
theorem aQt (i:Nat) (ws:List Wy):(zM i ws).length=ws.length:=by simp [zM]; omega
theorem aQu:∀ (ws:List Wy) (i:Nat),i < ws.length→kV (zM (i+1) ws)=(kV (zM i ws)).set (i*3+2) (.int .i64 1)
 | q::ws,0,_=>by
  rw [aDn]
  show a52 (q.1,q.2.1,1)++kV (zM 0 ws)=(a52 q++kV ws).set 2 _
  rw [aDn]
  rfl
 | q::ws,i+1,h=>by
  have ih:=aQu ws i (by simpa using h)
  show a52 (q.1,q.2.1,1)++kV (zM (i+1) ws)=(a52 (q.1,q.2.1,1)++kV (zM i ws)).set ((i+1)*3+2) _
  rw [ih]
  have e:(i+1)*3+2=(i*3+2)+3:=by omega
  rw [e]
  rfl
end Go.Fbs

namespace Go.Fbs
open Go.Proofs Go.RowKit Go.Maps
variable {n k:Nat} {l:List TM} {mk:Lit→Option Nat} {w w':World}
def qD (l:List TM) (typ:B8) (xs:List cV):List (List Wy):=xs.foldl (pA l typ) []
theorem b5i {typ:B8} (xs:List cV) (x:cV):qD l typ (xs++[x])=pA l typ (qD l typ xs) x:=by unfold qD; rw [List.foldl_append]; rfl
def wF (st:List (List Wy)):Nat:=(st.map List.length).sum
theorem aQv (b:Bool) (ws:List Wy):(mG b ws).length=ws.length:=by unfold mG; split <;> simp
theorem aVa {typ:B8} {st:List (List Wy)} {x:cV} (hx:x.1=1∨x.1=2→(jR l typ x).length≤1000):wF (pA l typ st x)≤wF st+1000:=by
 unfold pA
 split
 ·rename_i h
  have:=hx h
  show (jR l typ x).length+wF st≤_
  omega
 ·split
  ·rename_i b a r
   show (a++mG _ b).length+wF r≤b.length+(a.length+wF r)+1000
   rw [zwy,aQv]
   omega
  ·omega
theorem b8u {typ:B8} {st:List (List Wy)} {x:cV} : (pA l typ st x).length≤st.length+1:=by
 unfold pA
 split
 ·simp
 ·split
  ·simp
  ·omega
set_option maxHeartbeats 6400000 in
theorem b15 {typ:B8} {xs:List cV} {xa:Option Addr} {xc:Nat} {ws:List Wy} (h:rO n l k mk w) (ht:typ.length≤1000) (hrow:nW n w xa 3 (xs.map aK3)) (hxl:xs.length≤1000)
  (hx:∀ x ∈ xs,x.2.1.length≤1000∧x.2.2.length≤1000) (hleaf:∀ x ∈ xs,x.1=1∨x.1=2→jR l typ x≠[]∧(jR l typ x).length≤1000) (hrun:qD l typ xs=[ws]) :
  Calls Try.prog 71 #[.pointer (some ⟨n+3,0,none⟩),.string ⟨⟨typ⟩⟩,.slice xa xs.length xc] w fun e w'=>dU w w'∧∃ v,e = .returned v∧jN w.heap.size w' v ws:=by
 obtain ⟨i0,hi,hz0,hz1,hz2⟩:=info_parts Try.a7f
 obtain ⟨i1,hj,hy0,hy1,hy2⟩:=info_parts Try.bCu
 have hn:=h.lt
 go_enter Try.func71,Try.ntmps71
 go_wp2
 go_loopw [7,15] (fun v i wr=>∃ k:Nat,k≤xs.length∧i = .int .i64 k∧dU w wr∧Stk w.heap.size wr v (qD l typ (xs.take k))∧wF (qD l typ (xs.take k))≤1000*k∧(qD l typ (xs.take k)).length≤k) (fun _ i _=>xs.length - (iG i).toNat)
 case atStart=>exact ⟨0,Nat.zero_le _,rfl,dU.refl _,⟨[],World.ownsRow_nil _ _ _ _,fun i ws hi=>by simp [qD] at hi⟩,Nat.zero_le _,Nat.zero_le _⟩
 case round =>
  obtain ⟨j,hjl,rfl,hsr,hstk,htot,hlen⟩:=hrel
  have hj0:(0:Int)≤(j:Int):=zrz _
  by_cases hjn:j < xs.length
  ·have hj1:(j:Int) < (xs.length:Int):=by omega
   obtain ⟨x,hxj⟩:=hU hjn
   have hxm:=zyx hxj
   have hnext:qD l typ (xs.take (j+1))=pA l typ (qD l typ (xs.take j)) x:=by rw [kG hxj,b5i]
   have htot2:wF (qD l typ (xs.take (j+1)))≤1000*(j+1):=by
    rw [hnext]
    have:=aVa (l:=l) (typ:=typ) (st:=qD l typ (xs.take j)) (x:=x) (fun h=>(hleaf x hxm h).2)
    omega
   have hlen2:(qD l typ (xs.take (j+1))).length≤j+1:=by
    rw [hnext]
    have:=b8u (l:=l) (typ:=typ) (st:=qD l typ (xs.take j)) (x:=x)
    omega
   obtain ⟨b,off,rfl,hb,d0,d1,d2⟩:=(hrow.fV (hsr.fV (by omega))).aDl (nE hxj)
   have hbr:b < wr.heap.size:=by have:=hsr.size; omega
   have hsz:=hsr.size
   have hxs:=hx x hxm
   have hlf:=hleaf x hxm
   generalize qD l typ (xs.take j)=st at hstk htot hlen hnext
   rw [hnext] at htot2 hlen2
   by_cases hk12:x.1=1∨x.1=2
   ·have hst:pA l typ st x=jR l typ x::st:=if_pos hk12
    rw [hst] at hnext htot2 hlen2
    obtain ⟨hne,_⟩:=hlf hk12
    have hcall:=b5g (x:=x) ((h.jI hsr).jI (aK wr (.cells #[.int .i64 x.1,.string ⟨⟨x.2.1⟩⟩,.string ⟨⟨x.2.2⟩⟩] 78))) ht hxs
    obtain ⟨kd,A,B⟩:=x
    dsimp only at d0 d1 d2 hcall hk12
    obtain ⟨vs,ho,hrows⟩:=hstk
    obtain ⟨so,sc,rfl⟩:=yV ho
    generalize jR l typ (kd,A,B)=lf at hnext htot2 hlen2 hne hcall
    clear hleaf hlf hst
    have hor:(kd == 1)=true∨(kd == 1)=false∧(kd == 2)=true:=by
     rcases hk12 with rfl | rfl
     ·exact .inl rfl
     ·exact .inr ⟨rfl,rfl⟩
    clear hk12
    rcases hor with hkb | ⟨hkb,hkc⟩
    all_goals
     go_wp2_with (first
      | (go_at_call 80; refine hcall.mono ?_; rintro e w5 ⟨hs5,v5,rfl,hr5⟩; have hz5:=hs5.size; obtain ⟨va,vc,rfl⟩:=yV hr5)
      | (at_builtin; refine wpList_append_lies _ rfl _ _ 136 rfl w.heap.size 123 i1 _ 1 24 Try.underlying136 hj hy0 hy1 hy2 rfl (by decide) _ _ _ rfl ((j6 (j6 ho (aK wr _)) hs5).alloc _) ⟨w5.heap.size,0,none⟩ 1 1 [.slice va lf.length vc] rfl rfl (aU9 w5 _) (by intro u hu; simp at hu; subst hu; rfl) (by decide) (by unfold maxLen; omega) (by omega) (by simp at hz5 ⊢; omega) (w5.heap.size+1) (by simp) ?_; intro g cp' w6 hown' hgrow hat hlt)
      | go_in)
     have hgr:(w5.alloc (.cells #[.slice va lf.length vc] 123)).grownBy w6 (Value.slice so st.length sc).ownBlock:=hgrow
     have hsA:dU wr (w5.alloc (.cells #[.slice va lf.length vc] 123)):=((aK wr _).trans hs5).trans (aK _ _)
     have hoA:=j6 ho hsA
     have hs6:dU w w6:=wE (hsr.trans hsA) hgr fun q hq=>(hoA.lt q hq).1
     clear hgrow hat
     refine ⟨⟨j+1,by omega,by simp,hs6,?_,by rw [hnext]; exact htot2,by rw [hnext]; exact hlen2⟩,by simp [iG]; omega⟩
     rw [hnext]
     exact aU8 rfl hoA (fun i ws hi=>⟨(hrows i ws hi).1,by
      obtain ⟨_,u,hu,hr⟩:=hrows i ws hi
      exact ⟨u,hu,j6 hr hsA⟩⟩) (zL (j6 hr5 (aK _ _)) (by simp; omega)) hne hown' hgr
   ·have hkb:(x.1 == 1)=false:=by simp; omega
    have hkc:(x.1 == 2)=false:=by simp; omega
    obtain ⟨kd,A,B⟩:=x
    dsimp only at d0 d1 d2 hkb hkc hnext htot2 hlen2
    clear hlf hleaf hxs hxm
    match st,hstk,htot,hlen,hnext,htot2,hlen2 with
    | [],hstk,htot,hlen,hnext,htot2,hlen2 =>
     obtain ⟨vs,ho,hrows⟩:=hstk
     obtain ⟨so,sc,rfl⟩:=yV ho
     have hst:pA l typ [] (kd,A,B)=[]:=if_neg hk12
     rw [hst] at hnext htot2 hlen2
     dsimp only [List.length_nil]
     go_wp2
     refine ⟨⟨j+1,by omega,by simp,hsr.trans (aK _ _),?_,by rw [hnext]; exact htot2,by rw [hnext]; exact hlen2⟩,by simp [iG]; omega⟩
     rw [hnext]
     exact Stk.jI ⟨vs,ho,hrows⟩ (aK _ _)
    | [a],hstk,htot,hlen,hnext,htot2,hlen2 =>
     obtain ⟨vs,ho,hrows⟩:=hstk
     obtain ⟨so,sc,rfl⟩:=yV ho
     have hst:pA l typ [a] (kd,A,B)=[a]:=if_neg hk12
     rw [hst] at hnext htot2 hlen2
     dsimp only [List.length_nil,List.length_cons]
     go_wp2
     refine ⟨⟨j+1,by omega,by simp,hsr.trans (aK _ _),?_,by rw [hnext]; exact htot2,by rw [hnext]; exact hlen2⟩,by simp [iG]; omega⟩
     rw [hnext]
     exact Stk.jI ⟨vs,ho,hrows⟩ (aK _ _)
    | b2::a::r,hstk,htot,hlen,hnext,htot2,hlen2 =>
     have hst:pA l typ (b2::a::r) (kd,A,B)=(a++mG (decide (kd=4)) b2)::r:=if_neg hk12
     rw [hst] at hnext htot2 hlen2
     have hbl:b2.length≤1000000∧a.length≤1000000:=by
      have:wF (b2::a::r)=b2.length+(a.length+wF r):=rfl
      omega
     obtain ⟨g,cp,vs,ua,ub,rfl,hg1,hg2,hg3,hown,hrows,ca,cb,hane,hbne,hra,hrb⟩:=bCv hstk
     obtain ⟨m,hm⟩:∃ m,r.length=m:=⟨_,rfl⟩
     rw [hm] at hg3 hown ca cb ⊢
     have hm2:m≤1000:=by simp at hlen; omega
     clear hstk htot hlen hst
     obtain ⟨gu,cu,rfl,hu1,hu2,hu3⟩:=a1s hra hane
     obtain ⟨gw,cw,rfl,hw1,hw2,hw3⟩:=a1s hrb hbne
     clear hu3 hw3
     have e1:(m:Int)+2 - 1=m+1:=by omega
     have e2:(m:Int)+2 - 2=m:=by omega
     have m0:(0:Int)≤(m:Int):=zrz _
     have m1:(m:Int) < (m:Int)+2:=by omega
     have m2:(m:Int)+1 < (m:Int)+2:=by omega
     have w1:IntKind.i64.wrap (m:Int)=m:=by simp [IntKind.wrap,IntKind.signed,IntKind.bits]; omega
     have w2:IntKind.i64.wrap ((m:Int)+1)=m+1:=by simp [IntKind.wrap,IntKind.signed,IntKind.bits]; omega
     have m4:(m:Int)≤(cp:Int):=by omega
     have m5:(0:Int)≤(m:Int)+1:=by omega
     have m6:(2:Int)≤(m:Int)+2:=by omega
     have hsX:=aK wr (.cells #[.int .i64 kd,.string ⟨⟨A⟩⟩,.string ⟨⟨B⟩⟩] 78)
     have hcl:=aJm (j6 hrb hsX) hbne hbl.1
     obtain ⟨y,hy⟩:∃ y,y=wr.heap.size:=⟨_,rfl⟩
     obtain ⟨X,hX⟩:∃ X,X=wr.alloc (.cells #[.int .i64 kd,.string ⟨⟨A⟩⟩,.string ⟨⟨B⟩⟩] 78):=⟨_,rfl⟩
     have hXB : X.heap[y]? = some (.cells #[.int .i64 kd,.string ⟨⟨A⟩⟩,.string ⟨⟨B⟩⟩] 78 (0,0)):=by rw [hX,hy]; exact heap_alloc_new _ _
     have hk0 : X.cell? ⟨y,0,none⟩ = some (.int .i64 kd):=Lib.cell_of_heap hXB ..
     have hyX:y < X.heap.size:=(zsz.1 hXB).1
     clear hXB
     go_wp2_with (go_at_call 81; refine hcl.mono ?_; rintro e w5 ⟨hs5,v5,rfl,hr5⟩; obtain ⟨gb,cbb,rfl,hgb1,hgb2,_⟩:=a1s hr5 hbne)
     rw [← hX] at hs5 hr5 hgb1 hsX
     rw [← hy]
     clear hX hy hcl d0 d1 d2
     obtain ⟨wo,hwo⟩:∃ wo,wo=wr:=⟨_,rfl⟩
     subst hwo
     go_loopw [48] (fun i wr=>∃ q:Nat,q≤b2.length∧i = .int .i64 q∧dU X wr∧jN X.heap.size wr (.slice (some ⟨gb,0,none⟩) b2.length cbb) (if kd=4 then zM q b2 else b2)) (fun i _=>b2.length - (iG i).toNat)
     case atStart=>exact ⟨0,Nat.zero_le _,rfl,hs5,by rw [aDn]; split <;> exact hr5⟩
     case round =>
      clear hr5 hs5 hgb2
      obtain ⟨q,hq,rfl,hsq,hrq⟩:=hrel
      have hq0:(0:Int)≤(q:Int):=zrz _
      by_cases hqn:q < b2.length
      ·have hq1:(q:Int) < (b2.length:Int):=by omega
       have hkq:=hsq.cell hk0
       by_cases h4:kd=4
       ·subst h4
        rw [if_pos rfl] at hrq
        have hll:=aQt q b2
        unfold jN at hrq
        rw [hll] at hrq
        obtain ⟨z,hz⟩ : ∃ z,(zM q b2)[q]? = some z:=hU (by rw [hll]; exact hqn)
        have hcq : wr.cell? ⟨gb,q * 3 + 2,none⟩ = some (.int .i64 (z.2.2 : Int)):=by
         rw [World.ownsRow.cellAt hrq (q*3+2) (by omega)]
         exact (a8e hz).2.2
        have hfq:=World.ownsRow.frozenAt hrq (q*3+2)
        obtain ⟨hst1,hst2⟩:=World.ownsRow.stored hrq (q*3+2) (.int .i64 1)
        have hq31:(q:Int)+1≤9223372036854775807:=by omega
        go_wp2
        refine ⟨⟨q+1,by omega,by simp,wE hsq hst2 (fun t e=>by cases e; exact hgb1),?_⟩,by simp [iG]; omega⟩
        unfold jN
        rw [aQt,aQu b2 q hqn]
        exact hst1
       ·have h4b:(kd == 4)=false:=by simpa using h4
        go_wp2
        exact ⟨⟨q+1,by omega,by simp,hsq,by rw [if_neg h4] at hrq ⊢; exact hrq⟩,by simp [iG]; omega⟩
      ·have hq1:¬ (q:Int) < (b2.length:Int):=by omega
       obtain rfl:q=b2.length:=by omega
       have hrM:jN X.heap.size wr (.slice (some ⟨gb,0,none⟩) b2.length cbb) (mG (decide (kd=4)) b2):=by
        by_cases h4:kd=4
        ·rw [if_pos h4,b5h] at hrq
         rw [decide_eq_true h4]; exact hrq
        ·rw [if_neg h4] at hrq
         rw [decide_eq_false h4]; exact hrq
       clear hrq
       have hML:=aQv (decide (kd=4)) b2
       generalize mG (decide (kd=4)) b2=bM at hrM hML hnext htot2 hlen2
       unfold jN at hrM
       rw [hML] at hrM
       have hbpos:0 < b2.length:=List.length_pos_iff.2 hbne
       have hsw:dU wo wr:=hsX.trans hsq
       have ca2:=hsw.cell ca
       have hgw:g < wr.heap.size:=by have:=hsw.size; omega
       have hcl:=aJm (w:=wr.drew) (j6 (j6 hra hsw) (eZ wr)) hane hbl.2
       have hwsz:=(hsr.trans hsw).size
       go_wp2
       go_region_law (first
        | (refine step_append_lies _ (by rfl) _ _ _ (by rfl) wr.heap.size 126 i0 _ 3 40 Try.underlying123 hi hz0 hz1 hz2 rfl (by decide) (.slice (some ⟨g3,0,none⟩) a.length c3) a.length (kV a) (by rfl) hr3 ⟨gb,0,none⟩ b2.length cbb (kV bM) (by rfl) (by rw [a5j,hML]) (World.ownsRow.cells (j6 (j6 hrM (eZ wr)) hs3) (g:=gb) rfl) (aHa _) hbpos (by unfold maxLen; omega) (by omega) (by have:=hs3.size; exact this) w3.heap.size rfl ?_; intro g4 cp4 w4 hown4 hgrow4 hat4 hlt4; have hs4:dU wr w4:=wE ((eZ wr).trans hs3) hgrow4 (fun t e=>by cases e; exact hg31))
        | (refine step_append_lies _ (by rfl) _ _ _ (by rfl) w.heap.size 123 i1 _ 1 24 Try.underlying136 hj hy0 hy1 hy2 rfl (by decide) (.slice (some ⟨g,0,none⟩) m cp) m vs (by rfl) ((j6 hown (hsw.trans hs4)).alloc _) ⟨w4.heap.size,0,none⟩ 1 1 [.slice (some ⟨g4,0,none⟩) (a.length+b2.length) cp4] (by rfl) (by rfl) (aU9 w4 _) (by intro u hu; simp at hu; subst hu; rfl) (by decide) (by unfold maxLen; omega) (by omega) (by have:=hs4.size; simp; omega) (w4.heap.size+1) (by simp) ?_; intro g6 cp6 w6 hown6 hgrow6 hat6 hlt6)
        | (go_simp; go_at_call 81; refine hcl.mono ?_; rintro e w3 ⟨hs3,v3,rfl,hr3⟩; obtain ⟨g3,c3,rfl,hg31,hg32,_⟩:=a1s hr3 hane))
       go_wp2
       have hgr:(w4.alloc (.cells #[.slice (some ⟨g4,0,none⟩) (a.length+b2.length) cp4] 123)).grownBy w6 (Value.slice (some ⟨g,0,none⟩) m cp).ownBlock:=hgrow6
       have hsA:dU wo (w4.alloc (.cells #[.slice (some ⟨g4,0,none⟩) (a.length+b2.length) cp4] 123)):=(hsw.trans hs4).trans (aK _ _)
       have hoA:=j6 hown hsA
       have hs6:dU w w6:=wE (hsr.trans hsA) hgr fun q hq=>(hoA.lt q hq).1
       refine ⟨⟨j+1,by omega,by simp,hs6,?_,by rw [hnext]; exact htot2,by rw [hnext]; exact hlen2⟩,by simp [iG]; omega⟩
       rw [hnext]
       have hnew:jN w.heap.size (w4.alloc (.cells #[.slice (some ⟨g4,0,none⟩) (a.length+b2.length) cp4] 123)) (.slice (some ⟨g4,0,none⟩) (a.length+b2.length) cp4) (a++bM):=by
        unfold jN
        rw [zwy,hML,aG9]
        exact zL (j6 hown4 (aK _ _)) hwsz
       exact aU8 hm hoA (fun i ws hi=>⟨(hrows i ws hi).1,by
        obtain ⟨_,u,hu,hr⟩:=hrows i ws hi
        exact ⟨u,hu,j6 hr hsA⟩⟩) hnew (by simp [hane]) hown6 hgr
  ·have hj1:¬ (j:Int) < (xs.length:Int):=by omega
   have:xs.take j=xs:=List.take_of_length_le (by omega)
   rw [this,hrun] at hstk htot
   obtain ⟨vs,ho,hrows⟩:=hstk
   obtain ⟨hne,u,hu,hr⟩:=hrows 0 ws rfl
   have hvl:vs=[u]:=by
    have h1:=ho.1
    match vs,h1,hu with
    | [x],_,hu=>cases hu; rfl
   subst hvl
   have hcc:=aU7 ho hr hne (by
    have:wF [ws]=ws.length:=by simp [wF]
    omega)
   go_wp2_with (go_at_call 82; refine hcc.mono ?_; rintro e w5 ⟨hs5,v5,rfl,hr5⟩)
   go_ret
   exact ⟨hsr.trans hs5,_,rfl,zL hr5 hsr.size⟩
end Go.Fbs

namespace Go.Fbs
open Go.Proofs Go.RowKit Go.Maps
variable {n k:Nat} {l:List TM} {mk:Lit→Option Nat} {w w':World}
theorem aXh:Calls Try.prog 88 #[.slice none 0 0,.int .i64 0] w fun e w'=>e = .returned (.slice none 0 0)∧w'=w:=by
 have hcon:=Any8.slices_Grow_room Try.aY1 none 0 0 0 w (zxy _) (by omega) (by omega) (by omega)
 exact hcon
theorem aRq:Calls Try.prog 82 #[.slice none 0 0] w fun e w'=>e = .returned (.slice none 0 0)∧dU w w':=by
 have hgr:=aXh (w:=w)
 go_enter Try.func82,Try.ntmps82
 go_wp2
 go_loopw [3,11] (fun s i wr=>wr=w∧s = .int .i64 0∧i = .int .i64 0) (fun _ i _=>1 - (iG i).toNat)
 case atStart=>exact ⟨rfl,rfl,rfl⟩
 case round =>
  obtain ⟨hw,rfl,rfl⟩:=hrel
  subst hw
  go_wp2_with (go_at_call 88; refine hgr.mono ?_; rintro e w5 ⟨rfl,rfl⟩)
  obtain ⟨w0,hw0⟩:∃ w0,w0=w5:=⟨_,rfl⟩
  subst hw0
  go_loopw [6,27] (fun s i wr=>wr=w0∧s = .slice none 0 0∧i = .int .i64 0) (fun _ i _=>1 - (iG i).toNat)
  case atStart=>exact ⟨rfl,rfl,rfl⟩
  case round =>
   obtain ⟨hw,rfl,rfl⟩:=hrel
   subst hw
   go_wp2
   go_ret
   exact ⟨rfl,dU.refl _⟩
theorem aVb {typ:B8} (ad:Option Addr) (c:Nat) :
  Calls Try.prog 71 #[.pointer (some ⟨n+3,0,none⟩),.string ⟨⟨typ⟩⟩,.slice ad 0 c] w fun e w'=>dU w w'∧e = .returned (.slice none 0 0):=by
 have hgr:=aRq (w:=w)
 go_enter Try.func71,Try.ntmps71
 go_wp2
 go_loopw [7,15] (fun s i wr=>wr=w∧s = .slice none 0 0∧i = .int .i64 0) (fun _ i _=>1 - (iG i).toNat)
 case atStart=>exact ⟨rfl,rfl,rfl⟩
 case round =>
  obtain ⟨hw,rfl,rfl⟩:=hrel
  subst hw
  go_wp2_with (go_at_call 82; refine hgr.mono ?_; rintro e w5 ⟨rfl,hs⟩)
  go_ret
  exact ⟨hs,rfl⟩
def lS (l:List TM) (typ:B8) (xs:List cV):List Wy:=(qD l typ xs).headD []
structure a7g (l:List TM) (typ:B8) (xs:List cV):Prop where
 leaf:∀ x ∈ xs,x.1=1∨x.1=2→jR l typ x≠[]∧(jR l typ x).length≤1000
 run:xs=[]∨∃ ws,qD l typ xs=[ws]
theorem aXi {typ:B8} {xs:List cV} {xa:Option Addr} {xc:Nat} (h:rO n l k mk w) (ht:typ.length≤1000) (hrow:nW n w xa 3 (xs.map aK3)) (hxl:xs.length≤1000)
  (hx:∀ x ∈ xs,x.2.1.length≤1000∧x.2.2.length≤1000) (hok:a7g l typ xs) :
  Calls Try.prog 71 #[.pointer (some ⟨n+3,0,none⟩),.string ⟨⟨typ⟩⟩,.slice xa xs.length xc] w fun e w'=>dU w w'∧∃ v,e = .returned v∧jN w.heap.size w' v (lS l typ xs):=by
 rcases hok.run with rfl | ⟨ws,hr⟩
 ·refine (aVb xa xc).mono ?_
  rintro e w' ⟨hs,rfl⟩
  exact ⟨hs,_,rfl,World.ownsRow_nil _ _ _ _⟩
 ·have:=b15 (xc:=xc) h ht hrow hxl hx hok.leaf hr
  unfold lS
  rw [hr]
  exact this
theorem aVc {typ:B8} {xs:List cV} (hok:∀ x ∈ xs,x.1=1∨x.1=2→(jR l typ x).length≤1000):wF (qD l typ xs)≤1000*xs.length:=by
 have:∀ (xs:List cV) (st:List (List Wy)),(∀ x ∈ xs,x.1=1∨x.1=2→(jR l typ x).length≤1000)→wF (xs.foldl (pA l typ) st)≤wF st+1000*xs.length:=by
  intro xs
  induction xs with
  | nil=>intro st _; simp
  | cons x xs ih =>
   intro st h
   rw [List.foldl_cons,zwx]
   have h1:=ih (pA l typ st x) fun y hy=>h y (.tail _ hy)
   have h2:=aVa (l:=l) (typ:=typ) (st:=st) (x:=x) (h x (.head _))
   omega
 have:=this xs [] hok
 unfold qD
 simpa [wF] using this
def pO (ss:List Sub):List Wy:=(ss.filter fun s=>!s.2.2.isEmpty).map fun s=>(s.1,s.2.2,0)
def wG (l:List TM) (a:B8) (r:RM):List Wy:=lS l a r.steps++pO r.aR
set_option maxHeartbeats 3200000 in
theorem b5j {a b:B8} {r:RM} (h:rO n l k mk w) (ha:a.length≤1000) (hb:b.length≤1000) (hr:cA l a b=some r) (hok:a7g l a r.steps) :
  Calls Try.prog 55 #[.pointer (some ⟨n+3,0,none⟩),.agg #[.string ⟨⟨a⟩⟩,.string ⟨⟨b⟩⟩]] w fun e w'=>dU w w'∧∃ v,e = .returned v∧jN w.heap.size w' v (wG l a r):=by
 obtain ⟨i0,hi,hz0,hz1,hz2⟩:=info_parts Try.a7f
 have hn:=h.lt
 obtain ⟨⟨hsl1,hsl2⟩,hsub,hstp⟩:=h.short hr
 have hrk:=h.ok hr
 have htot:(lS l a r.steps).length≤1000000:=by
  have h1:=aVc (l:=l) (typ:=a) (xs:=r.steps) fun x hx hk=>(hok.leaf x hx hk).2
  unfold lS
  cases hh:qD l a r.steps with
  | nil=>simp
  | cons x xs =>
   rw [hh] at h1
   have:wF (x::xs)=x.length+wF xs:=rfl
   show x.length≤_
   omega
 obtain ⟨y,hy⟩:∃ y,y=w.heap.size:=⟨_,rfl⟩
 obtain ⟨X,hX⟩:∃ X,X=w.alloc (.cells #[.string ⟨⟨a⟩⟩,.string ⟨⟨b⟩⟩] 100):=⟨_,rfl⟩
 have hXB : X.heap[y]? = some (.cells #[.string ⟨⟨a⟩⟩,.string ⟨⟨b⟩⟩] 100 (0,0)):=by rw [hX,hy]; exact heap_alloc_new _ _
 have x0 : X.cell? ⟨y,0,none⟩ = some (.string ⟨⟨a⟩⟩):=Lib.cell_of_heap hXB ..
 have x1 : X.cell? ⟨y,1,none⟩ = some (.string ⟨⟨b⟩⟩):=Lib.cell_of_heap hXB ..
 have hyX:y < X.heap.size:=(zsz.1 hXB).1
 have hs1:dU w X:=by rw [hX]; exact aK _ _
 have h1:=h.jI hs1
 have hC1:=h1.sch.c1
 have hnX:n+3 < X.heap.size:=h1.lt
 have hsZ:dU X (X.alloc (.cells #[.string ⟨#[]⟩,.slice none 0 0,.slice none 0 0] 32)).drew:=(aK _ _).trans (eZ _)
 have hlk:=(h1.sch.jI hsZ).bFm (a:=a) (b:=b) (by unfold maxLen; omega) (by unfold maxLen; omega)
 rw [aBp h.lG (by unfold maxLen; omega) (by unfold maxLen; omega),hr] at hlk
 have hlk2:=(h1.sch.jI (eZ X)).bFm (a:=a) (b:=b) (by unfold maxLen; omega) (by unfold maxLen; omega)
 rw [aBp h.lG (by unfold maxLen; omega) (by unfold maxLen; omega),hr] at hlk2
 obtain ⟨rn,aR,steps,sa,sc,xa,xc⟩:=r
 unfold wG
 dsimp only at hsl1 hsl2 hsub hstp hok htot ⊢
 replace hlk:(Instr.lookup 93 (.map (some (n+1))) (.agg #[.string ⟨⟨a⟩⟩,.string ⟨⟨b⟩⟩]) false).run Try.prog (X.alloc (.cells #[.string ⟨#[]⟩,.slice none 0 0,.slice none 0 0] 32)).drew = .ok (.agg #[.string ⟨⟨rn⟩⟩,.slice sa aR.length sc,.slice xa steps.length xc]) (X.alloc (.cells #[.string ⟨#[]⟩,.slice none 0 0,.slice none 0 0] 32)).drew:=hlk
 replace hlk2:(Instr.lookup 93 (.map (some (n+1))) (.agg #[.string ⟨⟨a⟩⟩,.string ⟨⟨b⟩⟩]) false).run Try.prog X.drew = .ok (.agg #[.string ⟨⟨rn⟩⟩,.slice sa aR.length sc,.slice xa steps.length xc]) X.drew:=hlk2
 obtain ⟨hrs,hrx⟩:=hrk
 dsimp only at hrs hrx
 go_enter Try.func55,Try.ntmps55
 go_wp2
 rw [← hX,← hy]
 clear hX hy
 go_region
 all_goals
  clear hlk hlk2 x0 hC1 hsZ
  obtain ⟨z,hz⟩:∃ z,z=X.heap.size:=⟨_,rfl⟩
  obtain ⟨Z,hZ⟩:∃ Z,Z=(X.alloc (.cells #[.string ⟨⟨rn⟩⟩,.slice sa aR.length sc,.slice xa steps.length xc] 32)).drew:=⟨_,rfl⟩
  have hZB : Z.heap[z]? = some (.cells #[.string ⟨⟨rn⟩⟩,.slice sa aR.length sc,.slice xa steps.length xc] 32 (0,0)):=by rw [hZ,hz]; exact heap_alloc_new _ _
  have hs2:dU X Z:=by rw [hZ]; exact (aK _ _).trans (eZ _)
  rw [← hZ,← hz]
  clear hZ hz
  have y0 : Z.cell? ⟨y,0,none⟩ = some (.string ⟨⟨a⟩⟩):=hs2.cell (Lib.cell_of_heap hXB ..)
  have z1 : Z.cell? ⟨z,1,none⟩ = some (.slice sa aR.length sc):=Lib.cell_of_heap hZB ..
  have z2 : Z.cell? ⟨z,2,none⟩ = some (.slice xa steps.length xc):=Lib.cell_of_heap hZB ..
  have hcall:=aXi (xc:=xc) (h1.jI hs2) ha (hrx.fV ((hs1.trans hs2).fV (by omega))) hsl2 hstp hok
  go_wp2_with (go_at_call 71; refine hcall.mono ?_; rintro e w5 ⟨hs5,v5,rfl,hr5⟩; have z1':=hs5.cell z1)
  obtain ⟨ad5,cp5,rfl⟩:=yV hr5
  clear hcall
  have hs6:=(hs1.trans hs2).trans hs5
  have hr6:jN w.heap.size w5 (.slice ad5 (lS l a steps).length cp5) (lS l a steps):=zL hr5 (hs1.trans hs2).size
  go_loopw [6,24] (fun v i wr=>∃ j:Nat,j≤aR.length∧i = .int .i64 j∧dU w wr∧∃ ad cp,v = .slice ad (lS l a steps++pO (aR.take j)).length cp∧jN w.heap.size wr v (lS l a steps++pO (aR.take j))) (fun _ i _=>aR.length - (iG i).toNat)
  case atStart=>exact ⟨0,Nat.zero_le _,rfl,hs6,ad5,cp5,by simp [pO],by simpa [pO] using hr6⟩
  case round =>
   clear hr6 hs6 hr5 hs5 z1' z1 z2 y0 hZB hs2
   obtain ⟨j,hj,rfl,hsr,ad,cp,rfl,hown⟩:=hrel
   have hj0:(0:Int)≤(j:Int):=zrz _
   by_cases hjn:j < aR.length
   ·have hj1:(j:Int) < (aR.length:Int):=by omega
    obtain ⟨s,hs⟩:=hU hjn
    obtain ⟨b',off,rfl,hb',d0,d1,d2⟩:=(hrs.fV (hsr.fV (by omega))).aDl (nE hs)
    have hbr:b' < wr.heap.size:=by have:=hsr.size; omega
    have hwsz:=hsr.size
    have hnx:pO (aR.take (j+1))=pO (aR.take j)++pO [s]:=by rw [kG hs]; unfold pO; rw [List.filter_append,List.map_append]
    have hfl:(pO (aR.take j)).length≤1000:=by
     unfold pO
     rw [zsy]
     have:=List.length_filter_le (fun s:Sub=>!s.2.2.isEmpty) (aR.take j)
     rw [List.length_take] at this
     omega
    obtain ⟨st,si,sr⟩:=s
    dsimp only at d0 d1 d2
    by_cases he:sr=[]
    ·subst he
     have hno:pO (aR.take (j+1))=pO (aR.take j):=by rw [hnx]; simp [pO]
     go_wp2
     refine ⟨⟨j+1,by omega,by simp,hsr.trans (aK _ _),ad,cp,by rw [hno],?_⟩,by simp [iG]; omega⟩
     rw [hno]
     exact j6 hown (aK _ _)
    ·have hne:sr.isEmpty=false:=by simpa using he
     have hyes:pO [(st,si,sr)]=[(st,sr,0)]:=by simp [pO,hne]
     rw [hyes] at hnx
     generalize hW:lS l a steps++pO (aR.take j)=W at hown hnx
     have hnx2:lS l a steps++pO (aR.take (j+1))=W++[(st,sr,0)]:=by rw [hnx,← hW,zty]
     have hWl:W.length≤1001000:=by rw [← hW,zwy]; omega
     clear hW hnx
     unfold jN at hown
     go_wp2_with (first
      | (at_builtin; refine wpList_append_lies _ rfl _ _ 123 rfl w.heap.size 126 i0 _ 3 40 Try.underlying123 hi hz0 hz1 hz2 rfl (by decide) _ _ _ rfl ((hown.alloc _).alloc _) ⟨wr.heap.size+1,0,none⟩ 1 1 [.string ⟨⟨st⟩⟩,.string ⟨⟨sr⟩⟩,.int .i64 0] rfl rfl (by simpa using aU5 (wr.alloc _) ⟨⟨st⟩⟩ ⟨⟨sr⟩⟩ 0) (by intro u hu; simp at hu; rcases hu with rfl | rfl | rfl <;> rfl) (by decide) (by unfold maxLen; omega) (by omega) (by simp; omega) (wr.heap.size+2) (by simp) ?_; intro g cp' w2 hown' hgrow hat hlt)
      | go_in)
     have hs7:dU w w2:=wE (hsr.trans ((aK _ _).trans (aK _ _))) hgrow fun q hq=>(hown.lt q hq).1
     refine ⟨⟨j+1,by omega,by simp,hs7,some ⟨g,0,none⟩,cp',?_,?_⟩,by simp [iG]; omega⟩
     ·rw [hnx2,zwy]; rfl
     ·rw [hnx2]
      unfold jN
      rw [zwy,aG9]
      exact hown'
   ·have hj1:¬ (j:Int) < (aR.length:Int):=by omega
    obtain rfl:j=aR.length:=by omega
    rw [List.take_length] at hown
    go_wp2
    go_ret
    refine ⟨hsr,.slice ad (lS l a steps++pO aR).length cp,?_,hown⟩
    simp
end Go.Fbs

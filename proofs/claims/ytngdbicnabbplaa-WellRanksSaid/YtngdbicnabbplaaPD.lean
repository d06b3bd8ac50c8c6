import Derived.Shelf.SlGeneric
import Derived.Ground.SlgnProg
import Derived.Shelf.SlicesE.Clone
import Derived.Shelf.Spec.SlicesGrow
import Derived.Test.YtngdbicnabbplaaProg
import Derived.Test.YtngdbicnabbplaaPC
set_option linter.unusedSimpArgs false
set_option linter.unusedVariables false
set_option linter.unusedSectionVars false
set_option maxRecDepth 100000
namespace Go.Proofs
open Go.Shelf
def Try.aYr:Go.Shelf.Ren:=⟨fun | 41=>81 | n=>n,fun | 22=>123 | 23=>126 | 4=>4 | n=>n,fun | n=>n⟩
theorem Try.bCw:Go.Proofs.SlLaysE0.n41 Try.prog Try.aYr:={
 mixed:=by kernel_rfl
 f41:=⟨Try.f81.name,by decide,Try.func81.trans (congrArg some (by kernel_rfl))⟩
 t4:=Try.underlying4
 a4:=Try.isAgg4
 z4:=Try.sizeOf4
 v4:=Try.zeroValue4
 t22:=Try.underlying123
 a22:=Try.isAgg123
 z22:=Try.sizeOf123
 v22:=Try.zeroValue123 }
def Try.b1j:Go.Shelf.Ren:=⟨fun | 4=>88 | n=>n,fun | 22=>123 | 25=>126 | 3=>3 | 4=>4 | 9=>9 | 20=>20 | 0=>0 | n=>n,fun | n=>n⟩
theorem Try.b2t:Go.Proofs.Lays8.n4 Try.prog Try.b1j:={
 mixed:=by kernel_rfl
 f4:=⟨Try.f88.name,by decide,Try.func88.trans (congrArg some (by kernel_rfl))⟩
 t0:=Try.underlying0
 a0:=Try.isAgg0
 z0:=Try.sizeOf0
 v0:=Try.zeroValue0
 t3:=Try.underlying3
 a3:=Try.isAgg3
 z3:=Try.sizeOf3
 v3:=Try.zeroValue3
 t4:=Try.underlying4
 a4:=Try.isAgg4
 z4:=Try.sizeOf4
 v4:=Try.zeroValue4
 t9:=Try.underlying9
 a9:=Try.isAgg9
 z9:=Try.sizeOf9
 v9:=Try.zeroValue9
 t20:=Try.underlying20
 a20:=Try.isAgg20
 z20:=Try.sizeOf20
 v20:=Try.zeroValue20
 t22:=Try.underlying123
 a22:=Try.isAgg123
 z22:=Try.sizeOf123
 v22:=Try.zeroValue123 }
end Go.Proofs
namespace Go.Fbs
open Go.Proofs Go.RowKit Go.Maps
variable {n k:Nat} {l:List TM} {mk:Lit→Option Nat} {w w':World}
theorem a4v {base : Nat} {v : Value} {ws : List Wy} (h : mD base w v ws) (h0 : ws ≠ []) : ∃ g cp,v = .slice (some ⟨g,0,none⟩) ws.length cp ∧ base ≤ g ∧ g < w.heap.size ∧ ∀ j u,(mY ws)[j]? = some u → w.cell? ⟨g,0 + j,none⟩ = some u:=by
 obtain ⟨g,cp,rfl,h1,h2,h3⟩:=a4f h (by intro e; exact h0 (List.length_eq_zero_iff.1 e))
 refine ⟨g,cp,rfl,h1,h2,fun j u hj=>?_⟩
 have hlt:j < ws.length*3:=by rw [← a8m ws]; exact (zzy.1 hj).1
 rw [Nat.zero_add]
 exact (World.ownsRow.cellAt h j hlt).trans hj
theorem aNz {base:Nat} {v:Value} {ws:List Wy} (h:mD base w v ws) (h0:ws≠[]) (hl:ws.length≤1000000) :
  Calls Try.prog 81 #[v] w fun e w'=>dU w w'∧∃ v',e = .returned v'∧mD w.heap.size w' v' ws:=by
 obtain ⟨i0,hi,hz0,hz1,hz2⟩:=info_parts Try.aAt
 obtain ⟨g,cp,rfl,h1,h2,h3⟩:=a4v h h0
 have hcon:=AnyE.slices_Clone Try.bCw i0 _ 3 40 hi hz0 hz1 hz2 rfl (by decide) Try.sizeOf126 g 0 ws.length cp (mY ws) w (a8m ws) (by unfold maxLen; omega) (by omega) h3 (aLa ws)
 change Calls Try.prog 81 _ _ _ at hcon
 refine hcon.mono ?_
 rintro e w' ⟨v',rfl,ho,_,hb⟩
 exact ⟨⟨hb.os,hb.output,hb.size,hb.block⟩,v',rfl,ho⟩
theorem b51 (m:Nat) (hm:0 < m) (hl:m≤1000000) :
  Calls Try.prog 88 #[.slice none 0 0,.int .i64 m] w fun e w'=>dU w w'∧∃ v' cp,e = .returned v'∧v' = .slice (some ⟨w.heap.size,0,none⟩) 0 cp∧w'.ownsRow w.heap.size 126 3 v' 0 []:=by
 obtain ⟨i0,hi,hz0,hz1,hz2⟩:=info_parts Try.aAt
 have hcon:=Any8.slices_Grow_grow Try.b2t i0 _ hi hz0 (by omega) none 0 0 m [] w (zxy _) (by omega) (by rw [hz2]; omega) (by omega) (by simp) (fun _=>rfl) (fun a h=>by cases h)
 change Calls Try.prog 88 _ _ _ at hcon
 refine hcon.mono ?_
 rintro e w' ⟨rfl,rfl⟩
 have hG:=grownCap_ge w (0+m) 0 126
 have hG2:=grownCap_le_maxLen w (0+m) 0 126 (by unfold maxLen; omega)
 refine ⟨(fN w).trans (aR _ _),_,_,rfl,rfl,by simp,.inr ⟨w.heap.size,_,_,rfl,zxy _,heap_alloc_new w.drew _,Nat.zero_le _,hG2,?_,by simp⟩⟩
 rw [Array.size_append,Array.size_append,size_zeroCells,size_zeroCells]
 change 0+(0+m - 0)*3+(grownCap w (0+m) 0 126 - (0+m))*3=grownCap w (0+m) 0 126*3
 omega
set_option maxHeartbeats 1600000 in
theorem aYs {base base':Nat} {v u:Value} {ws:List Wy} (ho:w.ownsRow base' 123 1 v 1 [u]) (h:mD base w u ws) (h0:ws≠[]) (hl:ws.length≤1000000) :
  Calls Try.prog 82 #[v] w fun e w'=>dU w w'∧∃ v',e = .returned v'∧mD w.heap.size w' v' ws:=by
 obtain ⟨i0,hi,hz0,hz1,hz2⟩:=info_parts Try.aAt
 obtain ⟨g,cp,rfl,hg1,hg2,hg3⟩:=a4f ho (by decide)
 obtain ⟨gu,cu,rfl,hu1,hu2,hu3⟩:=a4v h h0
 have hc : w.cell? ⟨g,0,none⟩ = some (.slice (some ⟨gu,0,none⟩) ws.length cu):=by
  rw [World.ownsRow.cellAt ho 0 (by decide)]; rfl
 have hpos:0 < ws.length:=List.length_pos_iff.2 h0
 have hgr:=b51 (w:=w) ws.length hpos hl
 have hneg:¬ ((ws.length:Int) < 0):=by omega
 have hp0:(0:Int)≤(ws.length:Int):=by omega
 go_enter Try.func82,Try.ntmps82
 go_wp2
 go_loopw [3,11] (fun s i wr=>wr=w∧((s = .int .i64 0∧i = .int .i64 0)∨(s = .int .i64 ws.length∧i = .int .i64 1))) (fun _ i _=>1 - (jJ i).toNat)
 case atStart=>exact ⟨rfl,.inl ⟨rfl,rfl⟩⟩
 case round =>
  obtain ⟨rfl,h2⟩:=hrel
  rcases h2 with ⟨rfl,rfl⟩ | ⟨rfl,rfl⟩
  ·go_wp2
   exact ⟨⟨by simp,.inr ⟨by simp,by simp⟩⟩,by simp [jJ]⟩
  ·go_wp2_with (go_at_call 88; refine hgr.mono ?_; rintro e w5 ⟨hs5,v5,cp5,rfl,rfl,ho5⟩)
   have hw5:=hs5.size
   have hc5:=hs5.cell hc
   clear hgr
   obtain ⟨w0,hw0⟩:∃ w0,w0=wr:=⟨_,rfl⟩
   subst hw0
   go_loopw [6,27] (fun v i wr=>dU w0 wr∧((v = .slice (some ⟨w0.heap.size,0,none⟩) 0 cp5∧i = .int .i64 0∧wr.ownsRow w0.heap.size 126 3 v 0 [])∨(i = .int .i64 1∧mD w0.heap.size wr v ws))) (fun _ i _=>1 - (jJ i).toNat)
   case atStart=>exact ⟨hs5,.inl ⟨rfl,rfl,ho5⟩⟩
   case round =>
    obtain ⟨hs6,h2⟩:=hrel
    have hc6:=hs6.cell hc
    have hgs:g < wr.heap.size:=by have:=hs6.size; omega
    rcases h2 with ⟨rfl,rfl,ho6⟩ | ⟨rfl,ho6⟩
    ·have hws:=hs6.size
     have hnews : ∀ j u,(mY ws)[j]? = some u → wr.cell? ((⟨gu,0,none⟩ : Addr).add j) = some u:=World.ownsRow.cells (iD h hs6) (g:=gu) rfl
     go_wp2_with (first
      | (at_builtin; refine wpList_append_lies _ rfl _ _ 123 rfl w0.heap.size 126 i0 _ 3 40 Try.underlying123 hi hz0 hz1 hz2 rfl (by decide) _ _ _ rfl ho6 ⟨gu,0,none⟩ ws.length cu (mY ws) rfl (a8m ws) hnews (aLa ws) hpos (by unfold maxLen; omega) (by omega) (by omega) wr.heap.size rfl ?_; intro g7 cp7 w7 hown' hgrow hat hlt)
      | go_in)
     go_wp2
     have hs7:dU w0 w7:=by
      refine ⟨hgrow.os.trans hs6.os,hgrow.output.trans hs6.output,Nat.le_trans hs6.size hgrow.size,fun q hq=>?_⟩
      refine (hgrow.block q (by omega) fun e=>?_).trans (hs6.same q hq)
      have:=(ho6.lt q e.symm).1
      omega
     refine ⟨⟨hs7,.inr ⟨by simp,?_⟩⟩,by simp [jJ]⟩
     unfold mD
     rw [Nat.zero_add,List.nil_append] at hown'
     exact hown'
    ·go_wp2
     go_ret
     exact ⟨hs6,_,rfl,ho6⟩
end Go.Fbs
namespace Go.Fbs
open Go.Proofs Go.RowKit Go.Maps
variable {n k:Nat} {l:List TM} {mk:Lit→Option Nat} {w w':World}
def oP (b:Bool) (ws:List Wy):List Wy:=if b then ws.map fun q=>(q.1,q.2.1,1) else ws
def tO (l:List TM) (typ:B8) (st:List (List Wy)) (x:dQ):List (List Wy) :=
 if x.1=1∨x.1=2 then nQ l typ x::st else
 match st with
 | b::a::r=>(a++oP (decide (x.1=4)) b)::r
 | st=>st
def Stk (base:Nat) (w:World) (v:Value) (st:List (List Wy)):Prop :=
 ∃ vs : List Value,w.ownsRow base 123 1 v st.length vs ∧ ∀ (i : Nat) (ws : List Wy),st.reverse[i]? = some ws → ws ≠ [] ∧ ∃ u,vs[i]? = some u ∧ mD base w u ws
theorem Stk.lX {base:Nat} {v:Value} {st:List (List Wy)} (h:Stk base w v st) (hs:dU w w'):Stk base w' v st:=by
 obtain ⟨vs,h1,h2⟩:=h
 exact ⟨vs,iD h1 hs,fun i ws hi=>⟨(h2 i ws hi).1,by
  obtain ⟨_,u,hu,hr⟩:=h2 i ws hi
  exact ⟨u,hu,iD hr hs⟩⟩⟩
theorem aBt {base : Nat} {e : TypeId} {size n : Nat} {v : Value} {xs : List Value} (h : w.ownsRow base e size v n xs) {q : Nat} (hq : v.ownBlock = some q) : base ≤ q ∧ ∃ cur,w.heap[q]? = some (.cells cur e (0,0)):=by
 rcases h.2 with ⟨rfl,_⟩ | ⟨g,cap,cur,rfl,hb,hg,_⟩
 ·cases hq
 ·cases hq; exact ⟨hb,cur,hg⟩
theorem aT9 {base base' m:Nat} {u ov:Value} {ws:List Wy} {xs:List Value} (h:mD base w u ws) (ho:w.ownsRow base' 123 1 ov m xs) (hg:w.grownBy w' ov.ownBlock):mD base w' u ws:=by
 refine World.ownsRow.kept h hg ?_
 cases hu:u.ownBlock with
 | none=>exact .inl rfl
 | some q =>
  refine .inr fun e=>?_
  obtain ⟨_,c1,h1⟩:=aBt h hu
  obtain ⟨_,c2,h2⟩:=aBt ho e.symm
  rw [h1] at h2
  cases h2
theorem bGt {base:Nat} {e:TypeId} {size g cap n m:Nat} {xs:List Value} (hm:n≤m)
  (h:w.ownsRow base e size (.slice (some ⟨g,0,none⟩) m cap) m xs):w.ownsRow base e size (.slice (some ⟨g,0,none⟩) n cap) n (xs.take (n*size)):=by
 obtain ⟨h1,h2⟩:=h
 rcases h2 with ⟨h0,_⟩ | ⟨g',cap',cur,hv,hg,hh,hn,hcap,hsz,htake⟩
 ·cases h0
 ·cases hv
  refine ⟨?_,.inr ⟨g,cap,cur,rfl,hg,hh,by omega,hcap,hsz,?_⟩⟩
  ·rw [List.length_take,h1]
   exact Nat.min_eq_left (Nat.mul_le_mul_right _ hm)
  ·rw [← htake,List.take_take,Nat.min_eq_left (Nat.mul_le_mul_right _ hm)]
theorem aYt {base m:Nat} {ov v v':Value} {st:List (List Wy)} {ws:List Wy} {vs:List Value} (hm:st.length=m) (ho:w.ownsRow base 123 1 ov m vs)
  (hold : ∀ (i : Nat) (ws : List Wy),st.reverse[i]? = some ws → ws ≠ [] ∧ ∃ u,vs[i]? = some u ∧ mD base w u ws) (hnew : mD base w v ws) (hne : ws ≠ []) (hown : w'.ownsRow base 123 1 v' (m + 1) (vs ++ [v])) (hg : w.grownBy w' ov.ownBlock) : Stk base w' v' (ws :: st):=by
 have hvl:vs.length=m:=by have:=ho.1; omega
 refine ⟨vs++[v],by rw [zwx,hm]; exact hown,fun i ws' hi=>?_⟩
 rw [List.reverse_cons] at hi
 rcases Nat.lt_or_ge i st.reverse.length with hlt | hge
 ·rw [ztz hlt] at hi
  obtain ⟨h1,u,hu,hr⟩:=hold i ws' hi
  rw [List.length_reverse,hm] at hlt
  exact ⟨h1,u,by rw [ztz (by omega)]; exact hu,aT9 hr ho hg⟩
 ·rw [ztx hge] at hi
  rw [List.length_reverse,hm] at hge hi
  obtain ⟨rfl,rfl⟩:i=m∧ws'=ws:=by
   have h0:i - m=0:=by
    rcases Nat.eq_zero_or_pos (i - m) with h | h
    ·exact h
    ·rw [List.getElem?_eq_none (by simp; omega)] at hi; cases hi
   rw [h0] at hi
   simp only [zux,zzz] at hi
   exact ⟨by omega,hi.symm⟩
  exact ⟨hne,v,by rw [ztx (by omega),hvl]; simp,aT9 hnew ho hg⟩
theorem Try.bGu : (Try.prog.info? 123).map (fun i=>(i.zero,i.size,i.bytes)) = some (some (.slice none 0 0),1,24):=by kernel_rfl
theorem aYu (w : World) (v : Value) : ∀ j u,[v][j]? = some u → (w.alloc (.cells #[v] 123)).cell? ((⟨w.heap.size,0,none⟩ : Addr).add j) = some u :=
 World.news_of_block (cs:=#[v]) (heap_alloc_new w _)
theorem bGv {base:Nat} {v:Value} {a b:List Wy} {r:List (List Wy)} (h:Stk base w v (b::a::r)):∃ g cp vs ua ub,v = .slice (some ⟨g,0,none⟩) (r.length+2) cp∧base≤g∧g < w.heap.size∧r.length+2≤cp ∧
  w.ownsRow base 123 1 (.slice (some ⟨g,0,none⟩) r.length cp) r.length vs ∧ (∀ (i : Nat) (ws : List Wy),r.reverse[i]? = some ws → ws ≠ [] ∧ ∃ u,vs[i]? = some u ∧ mD base w u ws) ∧
  w.cell? ⟨g,r.length,none⟩ = some ua ∧ w.cell? ⟨g,r.length + 1,none⟩ = some ub ∧ a ≠ [] ∧ b ≠ [] ∧ mD base w ua a ∧ mD base w ub b:=by
 obtain ⟨vs,h1,h2⟩:=h
 obtain ⟨g,cp,rfl,hg1,hg2,hg3⟩:=a4f h1 (by simp)
 have hlen:(b::a::r).length=r.length+2:=rfl
 rw [hlen] at h1 hg3
 have hrev:(b::a::r).reverse=r.reverse++[a,b]:=by simp
 rw [hrev] at h2
 have hra : (r.reverse ++ [a,b])[r.length]? = some a:=by rw [ztx (by simp)]; simp
 have hrb : (r.reverse ++ [a,b])[r.length + 1]? = some b:=by rw [ztx (by simp)]; simp
 obtain ⟨ha,ua,hua,hra'⟩:=h2 _ _ hra
 obtain ⟨hb,ub,hub,hrb'⟩:=h2 _ _ hrb
 have hvl:vs.length=r.length+2:=by have:=h1.1; omega
 refine ⟨g,cp,_,ua,ub,rfl,hg1,hg2,hg3,bGt (n:=r.length) (by omega) h1,fun i ws hi=>?_,?_,?_,ha,hb,hra',hrb'⟩
 ·have hlt:i < r.length:=by
   rcases Nat.lt_or_ge i r.reverse.length with h | h
   ·simpa using h
   ·rw [List.getElem?_eq_none h] at hi; cases hi
  obtain ⟨h3,u,hu,hw⟩:=h2 i ws (by rw [ztz (by simpa using hlt)]; exact hi)
  exact ⟨h3,u,by rw [List.getElem?_take,if_pos (by omega)]; exact hu,hw⟩
 ·rw [World.ownsRow.cellAt h1 _ (by omega)]; exact hua
 ·rw [World.ownsRow.cellAt h1 _ (by omega)]; exact hub
theorem pE {X:World} {row:Option Nat} (hs:dU w X) (hg:X.grownBy w' row) (hr:∀ q,row=some q→w.heap.size≤q):dU w w':=by
 refine ⟨hg.os.trans hs.os,hg.output.trans hs.output,Nat.le_trans hs.size hg.size,fun q hq=>?_⟩
 refine (hg.block q (zuz hq hs.size) fun e=>?_).trans (hs.same q hq)
 have:=hr q e.symm
 omega
def a2i (i:Nat) (ws:List Wy):List Wy:=((ws.take i).map fun q=>(q.1,q.2.1,1))++ws.drop i
theorem aG9 (ws:List Wy):a2i 0 ws=ws:=by simp [a2i]
theorem b9d (ws:List Wy):a2i ws.length ws=oP true ws:=by simp [a2i,oP]
theorem aUa (i:Nat) (ws:List Wy):(a2i i ws).length=ws.length:=by simp [a2i]; omega
theorem aUb:∀ (ws:List Wy) (i:Nat),i < ws.length→mY (a2i (i+1) ws)=(mY (a2i i ws)).set (i*3+2) (.int .i64 1)
 | q::ws,0,_=>by
  rw [aG9]
  show a9e (q.1,q.2.1,1)++mY (a2i 0 ws)=(a9e q++mY ws).set 2 _
  rw [aG9]
  rfl
 | q::ws,i+1,h=>by
  have ih:=aUb ws i (by simpa using h)
  show a9e (q.1,q.2.1,1)++mY (a2i (i+1) ws)=(a9e (q.1,q.2.1,1)++mY (a2i i ws)).set ((i+1)*3+2) _
  rw [ih]
  have e:(i+1)*3+2=(i*3+2)+3:=by omega
  rw [e]
  rfl
end Go.Fbs
namespace Go.Fbs
open Go.Proofs Go.RowKit Go.Maps
variable {n k:Nat} {l:List TM} {mk:Lit→Option Nat} {w w':World}
def sV (l:List TM) (typ:B8) (xs:List dQ):List (List Wy):=xs.foldl (tO l typ) []
theorem b9e {typ:B8} (xs:List dQ) (x:dQ):sV l typ (xs++[x])=tO l typ (sV l typ xs) x:=by unfold sV; rw [List.foldl_append]; rfl
def zO (st:List (List Wy)):Nat:=(st.map List.length).sum
theorem aUc (b:Bool) (ws:List Wy):(oP b ws).length=ws.length:=by unfold oP; split <;> simp
theorem aYv {typ:B8} {st:List (List Wy)} {x:dQ} (hx:x.1=1∨x.1=2→(nQ l typ x).length≤1000):zO (tO l typ st x)≤zO st+1000:=by
 unfold tO
 split
 ·rename_i h
  have:=hx h
  show (nQ l typ x).length+zO st≤_
  omega
 ·split
  ·rename_i b a r
   show (a++oP _ b).length+zO r≤b.length+(a.length+zO r)+1000
   rw [zwy,aUc]
   omega
  ·omega
theorem bCx {typ:B8} {st:List (List Wy)} {x:dQ} : (tO l typ st x).length≤st.length+1:=by
 unfold tO
 split
 ·simp
 ·split
  ·simp
  ·omega
set_option maxHeartbeats 6400000 in
theorem b52 {typ:B8} {xs:List dQ} {xa:Option Addr} {xc:Nat} {ws:List Wy} (h:tN n l k mk w) (ht:typ.length≤1000) (hrow:tM n w xa 3 (xs.map aO3)) (hxl:xs.length≤1000)
  (hx:∀ x ∈ xs,x.2.1.length≤1000∧x.2.2.length≤1000) (hleaf:∀ x ∈ xs,x.1=1∨x.1=2→nQ l typ x≠[]∧(nQ l typ x).length≤1000) (hrun:sV l typ xs=[ws]) :
  Calls Try.prog 71 #[.pointer (some ⟨n+3,0,none⟩),.string ⟨⟨typ⟩⟩,.slice xa xs.length xc] w fun e w'=>dU w w'∧∃ v,e = .returned v∧mD w.heap.size w' v ws:=by
 obtain ⟨i0,hi,hz0,hz1,hz2⟩:=info_parts Try.aAt
 obtain ⟨i1,hj,hy0,hy1,hy2⟩:=info_parts Try.bGu
 have hn:=h.lt
 go_enter Try.func71,Try.ntmps71
 go_wp2
 go_loopw [7,15] (fun v i wr=>∃ k:Nat,k≤xs.length∧i = .int .i64 k∧dU w wr∧Stk w.heap.size wr v (sV l typ (xs.take k))∧zO (sV l typ (xs.take k))≤1000*k∧(sV l typ (xs.take k)).length≤k) (fun _ i _=>xs.length - (jJ i).toNat)
 case atStart=>exact ⟨0,Nat.zero_le _,rfl,dU.refl _,⟨[],World.ownsRow_nil _ _ _ _,fun i ws hi=>by simp [sV] at hi⟩,Nat.zero_le _,Nat.zero_le _⟩
 case round =>
  obtain ⟨j,hjl,rfl,hsr,hstk,htot,hlen⟩:=hrel
  have hj0:(0:Int)≤(j:Int):=zrz _
  by_cases hjn:j < xs.length
  ·have hj1:(j:Int) < (xs.length:Int):=by omega
   obtain ⟨x,hxj⟩:=jZ hjn
   have hxm:=zyx hxj
   have hnext:sV l typ (xs.take (j+1))=tO l typ (sV l typ (xs.take j)) x:=by rw [l4 hxj,b9e]
   have htot2:zO (sV l typ (xs.take (j+1)))≤1000*(j+1):=by
    rw [hnext]
    have:=aYv (l:=l) (typ:=typ) (st:=sV l typ (xs.take j)) (x:=x) (fun h=>(hleaf x hxm h).2)
    omega
   have hlen2:(sV l typ (xs.take (j+1))).length≤j+1:=by
    rw [hnext]
    have:=bCx (l:=l) (typ:=typ) (st:=sV l typ (xs.take j)) (x:=x)
    omega
   obtain ⟨b,off,rfl,hb,d0,d1,d2⟩:=(hrow.iZ (hsr.iZ (by omega))).a1r (lF hxj)
   have hbr:b < wr.heap.size:=by have:=hsr.size; omega
   have hsz:=hsr.size
   have hxs:=hx x hxm
   have hlf:=hleaf x hxm
   generalize sV l typ (xs.take j)=st at hstk htot hlen hnext
   rw [hnext] at htot2 hlen2
   by_cases hk12:x.1=1∨x.1=2
   ·have hst:tO l typ st x=nQ l typ x::st:=if_pos hk12
    rw [hst] at hnext htot2 hlen2
    obtain ⟨hne,_⟩:=hlf hk12
    have hcall:=b9c (x:=x) ((h.lX hsr).lX (aR wr (.cells #[.int .i64 x.1,.string ⟨⟨x.2.1⟩⟩,.string ⟨⟨x.2.2⟩⟩] 78))) ht hxs
    obtain ⟨kd,A,B⟩:=x
    dsimp only at d0 d1 d2 hcall hk12
    obtain ⟨vs,ho,hrows⟩:=hstk
    obtain ⟨so,sc,rfl⟩:=a1t ho
    generalize nQ l typ (kd,A,B)=lf at hnext htot2 hlen2 hne hcall
    clear hleaf hlf hst
    have hor:(kd == 1)=true∨(kd == 1)=false∧(kd == 2)=true:=by
     rcases hk12 with rfl | rfl
     ·exact .inl rfl
     ·exact .inr ⟨rfl,rfl⟩
    clear hk12
    rcases hor with hkb | ⟨hkb,hkc⟩
    all_goals
     go_wp2_with (first
      | (go_at_call 80; refine hcall.mono ?_; rintro e w5 ⟨hs5,v5,rfl,hr5⟩; have hz5:=hs5.size; obtain ⟨va,vc,rfl⟩:=a1t hr5)
      | (at_builtin; refine wpList_append_lies _ rfl _ _ 136 rfl w.heap.size 123 i1 _ 1 24 Try.underlying136 hj hy0 hy1 hy2 rfl (by decide) _ _ _ rfl ((iD (iD ho (aR wr _)) hs5).alloc _) ⟨w5.heap.size,0,none⟩ 1 1 [.slice va lf.length vc] rfl rfl (aYu w5 _) (by intro u hu; simp at hu; subst hu; rfl) (by decide) (by unfold maxLen; omega) (by omega) (by simp at hz5 ⊢; omega) (w5.heap.size+1) (by simp) ?_; intro g cp' w6 hown' hgrow hat hlt)
      | go_in)
     have hgr:(w5.alloc (.cells #[.slice va lf.length vc] 123)).grownBy w6 (Value.slice so st.length sc).ownBlock:=hgrow
     have hsA:dU wr (w5.alloc (.cells #[.slice va lf.length vc] 123)):=((aR wr _).trans hs5).trans (aR _ _)
     have hoA:=iD ho hsA
     have hs6:dU w w6:=pE (hsr.trans hsA) hgr fun q hq=>(hoA.lt q hq).1
     clear hgrow hat
     refine ⟨⟨j+1,by omega,by simp,hs6,?_,by rw [hnext]; exact htot2,by rw [hnext]; exact hlen2⟩,by simp [jJ]; omega⟩
     rw [hnext]
     exact aYt rfl hoA (fun i ws hi=>⟨(hrows i ws hi).1,by
      obtain ⟨_,u,hu,hr⟩:=hrows i ws hi
      exact ⟨u,hu,iD hr hsA⟩⟩) (a62 (iD hr5 (aR _ _)) (by simp; omega)) hne hown' hgr
   ·have hkb:(x.1 == 1)=false:=by simp; omega
    have hkc:(x.1 == 2)=false:=by simp; omega
    obtain ⟨kd,A,B⟩:=x
    dsimp only at d0 d1 d2 hkb hkc hnext htot2 hlen2
    clear hlf hleaf hxs hxm
    match st,hstk,htot,hlen,hnext,htot2,hlen2 with
    | [],hstk,htot,hlen,hnext,htot2,hlen2 =>
     obtain ⟨vs,ho,hrows⟩:=hstk
     obtain ⟨so,sc,rfl⟩:=a1t ho
     have hst:tO l typ [] (kd,A,B)=[]:=if_neg hk12
     rw [hst] at hnext htot2 hlen2
     dsimp only [List.length_nil]
     go_wp2
     refine ⟨⟨j+1,by omega,by simp,hsr.trans (aR _ _),?_,by rw [hnext]; exact htot2,by rw [hnext]; exact hlen2⟩,by simp [jJ]; omega⟩
     rw [hnext]
     exact Stk.lX ⟨vs,ho,hrows⟩ (aR _ _)
    | [a],hstk,htot,hlen,hnext,htot2,hlen2 =>
     obtain ⟨vs,ho,hrows⟩:=hstk
     obtain ⟨so,sc,rfl⟩:=a1t ho
     have hst:tO l typ [a] (kd,A,B)=[a]:=if_neg hk12
     rw [hst] at hnext htot2 hlen2
     dsimp only [List.length_nil,List.length_cons]
     go_wp2
     refine ⟨⟨j+1,by omega,by simp,hsr.trans (aR _ _),?_,by rw [hnext]; exact htot2,by rw [hnext]; exact hlen2⟩,by simp [jJ]; omega⟩
     rw [hnext]
     exact Stk.lX ⟨vs,ho,hrows⟩ (aR _ _)
    | b2::a::r,hstk,htot,hlen,hnext,htot2,hlen2 =>
     have hst:tO l typ (b2::a::r) (kd,A,B)=(a++oP (decide (kd=4)) b2)::r:=if_neg hk12
     rw [hst] at hnext htot2 hlen2
     have hbl:b2.length≤1000000∧a.length≤1000000:=by
      have:zO (b2::a::r)=b2.length+(a.length+zO r):=rfl
      omega
     obtain ⟨g,cp,vs,ua,ub,rfl,hg1,hg2,hg3,hown,hrows,ca,cb,hane,hbne,hra,hrb⟩:=bGv hstk
     obtain ⟨m,hm⟩:∃ m,r.length=m:=⟨_,rfl⟩
     rw [hm] at hg3 hown ca cb ⊢
     have hm2:m≤1000:=by simp at hlen; omega
     clear hstk htot hlen hst
     obtain ⟨gu,cu,rfl,hu1,hu2,hu3⟩:=a4v hra hane
     obtain ⟨gw,cw,rfl,hw1,hw2,hw3⟩:=a4v hrb hbne
     clear hu3 hw3
     have e1:(m:Int)+2 - 1=m+1:=by omega
     have e2:(m:Int)+2 - 2=m:=by omega
     have m0:(0:Int)≤(m:Int):=zrz _
     have m1:(m:Int) < (m:Int)+2:=by omega
     have m2:(m:Int)+1 < (m:Int)+2:=by omega
     have w1:IntKind.i64.wrap (m:Int)=m:=by simp [IntKind.wrap,IntKind.signed,IntKind.bits]; omega
     have w2:IntKind.i64.wrap ((m:Int)+1)=m+1:=by simp [IntKind.wrap,IntKind.signed,IntKind.bits]; omega
     have m4:(m:Int)≤(cp:Int):=by omega
     have m5:(0:Int)≤(m:Int)+1:=by omega
     have m6:(2:Int)≤(m:Int)+2:=by omega
     have hsX:=aR wr (.cells #[.int .i64 kd,.string ⟨⟨A⟩⟩,.string ⟨⟨B⟩⟩] 78)
     have hcl:=aNz (iD hrb hsX) hbne hbl.1
     obtain ⟨y,hy⟩:∃ y,y=wr.heap.size:=⟨_,rfl⟩
     obtain ⟨X,hX⟩:∃ X,X=wr.alloc (.cells #[.int .i64 kd,.string ⟨⟨A⟩⟩,.string ⟨⟨B⟩⟩] 78):=⟨_,rfl⟩
     have hXB : X.heap[y]? = some (.cells #[.int .i64 kd,.string ⟨⟨A⟩⟩,.string ⟨⟨B⟩⟩] 78 (0,0)):=by rw [hX,hy]; exact heap_alloc_new _ _
     have hk0 : X.cell? ⟨y,0,none⟩ = some (.int .i64 kd):=Lib.cell_of_heap hXB ..
     have hyX:y < X.heap.size:=(zsz.1 hXB).1
     clear hXB
     go_wp2_with (go_at_call 81; refine hcl.mono ?_; rintro e w5 ⟨hs5,v5,rfl,hr5⟩; obtain ⟨gb,cbb,rfl,hgb1,hgb2,_⟩:=a4v hr5 hbne)
     rw [← hX] at hs5 hr5 hgb1 hsX
     rw [← hy]
     clear hX hy hcl d0 d1 d2
     obtain ⟨wo,hwo⟩:∃ wo,wo=wr:=⟨_,rfl⟩
     subst hwo
     go_loopw [48] (fun i wr=>∃ q:Nat,q≤b2.length∧i = .int .i64 q∧dU X wr∧mD X.heap.size wr (.slice (some ⟨gb,0,none⟩) b2.length cbb) (if kd=4 then a2i q b2 else b2)) (fun i _=>b2.length - (jJ i).toNat)
     case atStart=>exact ⟨0,Nat.zero_le _,rfl,hs5,by rw [aG9]; split <;> exact hr5⟩
     case round =>
      clear hr5 hs5 hgb2
      obtain ⟨q,hq,rfl,hsq,hrq⟩:=hrel
      have hq0:(0:Int)≤(q:Int):=zrz _
      by_cases hqn:q < b2.length
      ·have hq1:(q:Int) < (b2.length:Int):=by omega
       have hkq:=hsq.cell hk0
       by_cases h4:kd=4
       ·subst h4
        rw [if_pos rfl] at hrq
        have hll:=aUa q b2
        unfold mD at hrq
        rw [hll] at hrq
        obtain ⟨z,hz⟩ : ∃ z,(a2i q b2)[q]? = some z:=jZ (by rw [hll]; exact hqn)
        have hcq : wr.cell? ⟨gb,q * 3 + 2,none⟩ = some (.int .i64 (z.2.2 : Int)):=by
         rw [World.ownsRow.cellAt hrq (q*3+2) (by omega)]
         exact (aBs hz).2.2
        have hfq:=World.ownsRow.frozenAt hrq (q*3+2)
        obtain ⟨hst1,hst2⟩:=World.ownsRow.stored hrq (q*3+2) (.int .i64 1)
        have hq31:(q:Int)+1≤9223372036854775807:=by omega
        go_wp2
        refine ⟨⟨q+1,by omega,by simp,pE hsq hst2 (fun t e=>by cases e; exact hgb1),?_⟩,by simp [jJ]; omega⟩
        unfold mD
        rw [aUa,aUb b2 q hqn]
        exact hst1
       ·have h4b:(kd == 4)=false:=by simpa using h4
        go_wp2
        exact ⟨⟨q+1,by omega,by simp,hsq,by rw [if_neg h4] at hrq ⊢; exact hrq⟩,by simp [jJ]; omega⟩
      ·have hq1:¬ (q:Int) < (b2.length:Int):=by omega
       obtain rfl:q=b2.length:=by omega
       have hrM:mD X.heap.size wr (.slice (some ⟨gb,0,none⟩) b2.length cbb) (oP (decide (kd=4)) b2):=by
        by_cases h4:kd=4
        ·rw [if_pos h4,b9d] at hrq
         rw [decide_eq_true h4]; exact hrq
        ·rw [if_neg h4] at hrq
         rw [decide_eq_false h4]; exact hrq
       clear hrq
       have hML:=aUc (decide (kd=4)) b2
       generalize oP (decide (kd=4)) b2=bM at hrM hML hnext htot2 hlen2
       unfold mD at hrM
       rw [hML] at hrM
       have hbpos:0 < b2.length:=List.length_pos_iff.2 hbne
       have hsw:dU wo wr:=hsX.trans hsq
       have ca2:=hsw.cell ca
       have hgw:g < wr.heap.size:=by have:=hsw.size; omega
       have hcl:=aNz (w:=wr.drew) (iD (iD hra hsw) (fN wr)) hane hbl.2
       have hwsz:=(hsr.trans hsw).size
       go_wp2
       go_region_law (first
        | (refine step_append_lies _ (by rfl) _ _ _ (by rfl) wr.heap.size 126 i0 _ 3 40 Try.underlying123 hi hz0 hz1 hz2 rfl (by decide) (.slice (some ⟨g3,0,none⟩) a.length c3) a.length (mY a) (by rfl) hr3 ⟨gb,0,none⟩ b2.length cbb (mY bM) (by rfl) (by rw [a8m,hML]) (World.ownsRow.cells (iD (iD hrM (fN wr)) hs3) (g:=gb) rfl) (aLa _) hbpos (by unfold maxLen; omega) (by omega) (by have:=hs3.size; exact this) w3.heap.size rfl ?_; intro g4 cp4 w4 hown4 hgrow4 hat4 hlt4; have hs4:dU wr w4:=pE ((fN wr).trans hs3) hgrow4 (fun t e=>by cases e; exact hg31))
        | (refine step_append_lies _ (by rfl) _ _ _ (by rfl) w.heap.size 123 i1 _ 1 24 Try.underlying136 hj hy0 hy1 hy2 rfl (by decide) (.slice (some ⟨g,0,none⟩) m cp) m vs (by rfl) ((iD hown (hsw.trans hs4)).alloc _) ⟨w4.heap.size,0,none⟩ 1 1 [.slice (some ⟨g4,0,none⟩) (a.length+b2.length) cp4] (by rfl) (by rfl) (aYu w4 _) (by intro u hu; simp at hu; subst hu; rfl) (by decide) (by unfold maxLen; omega) (by omega) (by have:=hs4.size; simp; omega) (w4.heap.size+1) (by simp) ?_; intro g6 cp6 w6 hown6 hgrow6 hat6 hlt6)
        | (go_simp; go_at_call 81; refine hcl.mono ?_; rintro e w3 ⟨hs3,v3,rfl,hr3⟩; obtain ⟨g3,c3,rfl,hg31,hg32,_⟩:=a4v hr3 hane))
       go_wp2
       have hgr:(w4.alloc (.cells #[.slice (some ⟨g4,0,none⟩) (a.length+b2.length) cp4] 123)).grownBy w6 (Value.slice (some ⟨g,0,none⟩) m cp).ownBlock:=hgrow6
       have hsA:dU wo (w4.alloc (.cells #[.slice (some ⟨g4,0,none⟩) (a.length+b2.length) cp4] 123)):=(hsw.trans hs4).trans (aR _ _)
       have hoA:=iD hown hsA
       have hs6:dU w w6:=pE (hsr.trans hsA) hgr fun q hq=>(hoA.lt q hq).1
       refine ⟨⟨j+1,by omega,by simp,hs6,?_,by rw [hnext]; exact htot2,by rw [hnext]; exact hlen2⟩,by simp [jJ]; omega⟩
       rw [hnext]
       have hnew:mD w.heap.size (w4.alloc (.cells #[.slice (some ⟨g4,0,none⟩) (a.length+b2.length) cp4] 123)) (.slice (some ⟨g4,0,none⟩) (a.length+b2.length) cp4) (a++bM):=by
        unfold mD
        rw [zwy,hML,aK9]
        exact a62 (iD hown4 (aR _ _)) hwsz
       exact aYt hm hoA (fun i ws hi=>⟨(hrows i ws hi).1,by
        obtain ⟨_,u,hu,hr⟩:=hrows i ws hi
        exact ⟨u,hu,iD hr hsA⟩⟩) hnew (by simp [hane]) hown6 hgr
  ·have hj1:¬ (j:Int) < (xs.length:Int):=by omega
   have:xs.take j=xs:=List.take_of_length_le (by omega)
   rw [this,hrun] at hstk htot
   obtain ⟨vs,ho,hrows⟩:=hstk
   obtain ⟨hne,u,hu,hr⟩:=hrows 0 ws rfl
   have hvl:vs=[u]:=by
    have h1:=ho.1
    match vs,h1,hu with
    | [x],_,hu=>cases hu; rfl
   subst hvl
   have hcc:=aYs ho hr hne (by
    have:zO [ws]=ws.length:=by simp [zO]
    omega)
   go_wp2_with (go_at_call 82; refine hcc.mono ?_; rintro e w5 ⟨hs5,v5,rfl,hr5⟩)
   go_ret
   exact ⟨hsr.trans hs5,_,rfl,a62 hr5 hsr.size⟩
end Go.Fbs
namespace Go.Fbs
open Go.Proofs Go.RowKit Go.Maps
variable {n k:Nat} {l:List TM} {mk:Lit→Option Nat} {w w':World}
theorem b1k:Calls Try.prog 88 #[.slice none 0 0,.int .i64 0] w fun e w'=>e = .returned (.slice none 0 0)∧w'=w:=by
 have hcon:=Any8.slices_Grow_room Try.b2t none 0 0 0 w (zxy _) (by omega) (by omega) (by omega)
 exact hcon
theorem aVe:Calls Try.prog 82 #[.slice none 0 0] w fun e w'=>e = .returned (.slice none 0 0)∧dU w w':=by
 have hgr:=b1k (w:=w)
 go_enter Try.func82,Try.ntmps82
 go_wp2
 go_loopw [3,11] (fun s i wr=>wr=w∧s = .int .i64 0∧i = .int .i64 0) (fun _ i _=>1 - (jJ i).toNat)
 case atStart=>exact ⟨rfl,rfl,rfl⟩
 case round =>
  obtain ⟨hw,rfl,rfl⟩:=hrel
  subst hw
  go_wp2_with (go_at_call 88; refine hgr.mono ?_; rintro e w5 ⟨rfl,rfl⟩)
  obtain ⟨w0,hw0⟩:∃ w0,w0=w5:=⟨_,rfl⟩
  subst hw0
  go_loopw [6,27] (fun s i wr=>wr=w0∧s = .slice none 0 0∧i = .int .i64 0) (fun _ i _=>1 - (jJ i).toNat)
  case atStart=>exact ⟨rfl,rfl,rfl⟩
  case round =>
   obtain ⟨hw,rfl,rfl⟩:=hrel
   subst hw
   go_wp2
   go_ret
   exact ⟨rfl,dU.refl _⟩
theorem aYw {typ:B8} (ad:Option Addr) (c:Nat) :
  Calls Try.prog 71 #[.pointer (some ⟨n+3,0,none⟩),.string ⟨⟨typ⟩⟩,.slice ad 0 c] w fun e w'=>dU w w'∧e = .returned (.slice none 0 0):=by
 have hgr:=aVe (w:=w)
 go_enter Try.func71,Try.ntmps71
 go_wp2
 go_loopw [7,15] (fun s i wr=>wr=w∧s = .slice none 0 0∧i = .int .i64 0) (fun _ i _=>1 - (jJ i).toNat)
 case atStart=>exact ⟨rfl,rfl,rfl⟩
 case round =>
  obtain ⟨hw,rfl,rfl⟩:=hrel
  subst hw
  go_wp2_with (go_at_call 82; refine hgr.mono ?_; rintro e w5 ⟨rfl,hs⟩)
  go_ret
  exact ⟨hs,rfl⟩
def nJ (l:List TM) (typ:B8) (xs:List dQ):List Wy:=(sV l typ xs).headD []
structure aAu (l:List TM) (typ:B8) (xs:List dQ):Prop where
 leaf:∀ x ∈ xs,x.1=1∨x.1=2→nQ l typ x≠[]∧(nQ l typ x).length≤1000
 run:xs=[]∨∃ ws,sV l typ xs=[ws]
theorem b1l {typ:B8} {xs:List dQ} {xa:Option Addr} {xc:Nat} (h:tN n l k mk w) (ht:typ.length≤1000) (hrow:tM n w xa 3 (xs.map aO3)) (hxl:xs.length≤1000)
  (hx:∀ x ∈ xs,x.2.1.length≤1000∧x.2.2.length≤1000) (hok:aAu l typ xs) :
  Calls Try.prog 71 #[.pointer (some ⟨n+3,0,none⟩),.string ⟨⟨typ⟩⟩,.slice xa xs.length xc] w fun e w'=>dU w w'∧∃ v,e = .returned v∧mD w.heap.size w' v (nJ l typ xs):=by
 rcases hok.run with rfl | ⟨ws,hr⟩
 ·refine (aYw xa xc).mono ?_
  rintro e w' ⟨hs,rfl⟩
  exact ⟨hs,_,rfl,World.ownsRow_nil _ _ _ _⟩
 ·have:=b52 (xc:=xc) h ht hrow hxl hx hok.leaf hr
  unfold nJ
  rw [hr]
  exact this
theorem aYx {typ:B8} {xs:List dQ} (hok:∀ x ∈ xs,x.1=1∨x.1=2→(nQ l typ x).length≤1000):zO (sV l typ xs)≤1000*xs.length:=by
 have:∀ (xs:List dQ) (st:List (List Wy)),(∀ x ∈ xs,x.1=1∨x.1=2→(nQ l typ x).length≤1000)→zO (xs.foldl (tO l typ) st)≤zO st+1000*xs.length:=by
  intro xs
  induction xs with
  | nil=>intro st _; simp
  | cons x xs ih =>
   intro st h
   rw [List.foldl_cons,zwx]
   have h1:=ih (tO l typ st x) fun y hy=>h y (.tail _ hy)
   have h2:=aYv (l:=l) (typ:=typ) (st:=st) (x:=x) (h x (.head _))
   omega
 have:=this xs [] hok
 unfold sV
 simpa [zO] using this
def qH (ss:List Sub):List Wy:=(ss.filter fun s=>!s.2.2.isEmpty).map fun s=>(s.1,s.2.2,0)
def uQ (l:List TM) (a:B8) (r:RM):List Wy:=nJ l a r.steps++qH r.aY
set_option maxHeartbeats 3200000 in
theorem b9f {a b:B8} {r:RM} (h:tN n l k mk w) (ha:a.length≤1000) (hb:b.length≤1000) (hr:cG l a b=some r) (hok:aAu l a r.steps) :
  Calls Try.prog 55 #[.pointer (some ⟨n+3,0,none⟩),.agg #[.string ⟨⟨a⟩⟩,.string ⟨⟨b⟩⟩]] w fun e w'=>dU w w'∧∃ v,e = .returned v∧mD w.heap.size w' v (uQ l a r):=by
 obtain ⟨i0,hi,hz0,hz1,hz2⟩:=info_parts Try.aAt
 have hn:=h.lt
 obtain ⟨⟨hsl1,hsl2⟩,hsub,hstp⟩:=h.short hr
 have hrk:=h.ok hr
 have htot:(nJ l a r.steps).length≤1000000:=by
  have h1:=aYx (l:=l) (typ:=a) (xs:=r.steps) fun x hx hk=>(hok.leaf x hx hk).2
  unfold nJ
  cases hh:sV l a r.steps with
  | nil=>simp
  | cons x xs =>
   rw [hh] at h1
   have:zO (x::xs)=x.length+zO xs:=rfl
   show x.length≤_
   omega
 obtain ⟨y,hy⟩:∃ y,y=w.heap.size:=⟨_,rfl⟩
 obtain ⟨X,hX⟩:∃ X,X=w.alloc (.cells #[.string ⟨⟨a⟩⟩,.string ⟨⟨b⟩⟩] 100):=⟨_,rfl⟩
 have hXB : X.heap[y]? = some (.cells #[.string ⟨⟨a⟩⟩,.string ⟨⟨b⟩⟩] 100 (0,0)):=by rw [hX,hy]; exact heap_alloc_new _ _
 have x0 : X.cell? ⟨y,0,none⟩ = some (.string ⟨⟨a⟩⟩):=Lib.cell_of_heap hXB ..
 have x1 : X.cell? ⟨y,1,none⟩ = some (.string ⟨⟨b⟩⟩):=Lib.cell_of_heap hXB ..
 have hyX:y < X.heap.size:=(zsz.1 hXB).1
 have hs1:dU w X:=by rw [hX]; exact aR _ _
 have h1:=h.lX hs1
 have hC1:=h1.sch.c1
 have hnX:n+3 < X.heap.size:=h1.lt
 have hsZ:dU X (X.alloc (.cells #[.string ⟨#[]⟩,.slice none 0 0,.slice none 0 0] 32)).drew:=(aR _ _).trans (fN _)
 have hlk:=(h1.sch.lX hsZ).bIv (a:=a) (b:=b) (by unfold maxLen; omega) (by unfold maxLen; omega)
 rw [aFh h.rD (by unfold maxLen; omega) (by unfold maxLen; omega),hr] at hlk
 have hlk2:=(h1.sch.lX (fN X)).bIv (a:=a) (b:=b) (by unfold maxLen; omega) (by unfold maxLen; omega)
 rw [aFh h.rD (by unfold maxLen; omega) (by unfold maxLen; omega),hr] at hlk2
 obtain ⟨rn,aY,steps,sa,sc,xa,xc⟩:=r
 unfold uQ
 dsimp only at hsl1 hsl2 hsub hstp hok htot ⊢
 replace hlk:(Instr.lookup 93 (.map (some (n+1))) (.agg #[.string ⟨⟨a⟩⟩,.string ⟨⟨b⟩⟩]) false).run Try.prog (X.alloc (.cells #[.string ⟨#[]⟩,.slice none 0 0,.slice none 0 0] 32)).drew = .ok (.agg #[.string ⟨⟨rn⟩⟩,.slice sa aY.length sc,.slice xa steps.length xc]) (X.alloc (.cells #[.string ⟨#[]⟩,.slice none 0 0,.slice none 0 0] 32)).drew:=hlk
 replace hlk2:(Instr.lookup 93 (.map (some (n+1))) (.agg #[.string ⟨⟨a⟩⟩,.string ⟨⟨b⟩⟩]) false).run Try.prog X.drew = .ok (.agg #[.string ⟨⟨rn⟩⟩,.slice sa aY.length sc,.slice xa steps.length xc]) X.drew:=hlk2
 obtain ⟨hrs,hrx⟩:=hrk
 dsimp only at hrs hrx
 go_enter Try.func55,Try.ntmps55
 go_wp2
 rw [← hX,← hy]
 clear hX hy
 go_region
 all_goals
  clear hlk hlk2 x0 hC1 hsZ
  obtain ⟨z,hz⟩:∃ z,z=X.heap.size:=⟨_,rfl⟩
  obtain ⟨Z,hZ⟩:∃ Z,Z=(X.alloc (.cells #[.string ⟨⟨rn⟩⟩,.slice sa aY.length sc,.slice xa steps.length xc] 32)).drew:=⟨_,rfl⟩
  have hZB : Z.heap[z]? = some (.cells #[.string ⟨⟨rn⟩⟩,.slice sa aY.length sc,.slice xa steps.length xc] 32 (0,0)):=by rw [hZ,hz]; exact heap_alloc_new _ _
  have hs2:dU X Z:=by rw [hZ]; exact (aR _ _).trans (fN _)
  rw [← hZ,← hz]
  clear hZ hz
  have y0 : Z.cell? ⟨y,0,none⟩ = some (.string ⟨⟨a⟩⟩):=hs2.cell (Lib.cell_of_heap hXB ..)
  have z1 : Z.cell? ⟨z,1,none⟩ = some (.slice sa aY.length sc):=Lib.cell_of_heap hZB ..
  have z2 : Z.cell? ⟨z,2,none⟩ = some (.slice xa steps.length xc):=Lib.cell_of_heap hZB ..
  have hcall:=b1l (xc:=xc) (h1.lX hs2) ha (hrx.iZ ((hs1.trans hs2).iZ (by omega))) hsl2 hstp hok
  go_wp2_with (go_at_call 71; refine hcall.mono ?_; rintro e w5 ⟨hs5,v5,rfl,hr5⟩; have z1':=hs5.cell z1)
  obtain ⟨ad5,cp5,rfl⟩:=a1t hr5
  clear hcall
  have hs6:=(hs1.trans hs2).trans hs5
  have hr6:mD w.heap.size w5 (.slice ad5 (nJ l a steps).length cp5) (nJ l a steps):=a62 hr5 (hs1.trans hs2).size
  go_loopw [6,24] (fun v i wr=>∃ j:Nat,j≤aY.length∧i = .int .i64 j∧dU w wr∧∃ ad cp,v = .slice ad (nJ l a steps++qH (aY.take j)).length cp∧mD w.heap.size wr v (nJ l a steps++qH (aY.take j))) (fun _ i _=>aY.length - (jJ i).toNat)
  case atStart=>exact ⟨0,Nat.zero_le _,rfl,hs6,ad5,cp5,by simp [qH],by simpa [qH] using hr6⟩
  case round =>
   clear hr6 hs6 hr5 hs5 z1' z1 z2 y0 hZB hs2
   obtain ⟨j,hj,rfl,hsr,ad,cp,rfl,hown⟩:=hrel
   have hj0:(0:Int)≤(j:Int):=zrz _
   by_cases hjn:j < aY.length
   ·have hj1:(j:Int) < (aY.length:Int):=by omega
    obtain ⟨s,hs⟩:=jZ hjn
    obtain ⟨b',off,rfl,hb',d0,d1,d2⟩:=(hrs.iZ (hsr.iZ (by omega))).a1r (lF hs)
    have hbr:b' < wr.heap.size:=by have:=hsr.size; omega
    have hwsz:=hsr.size
    have hnx:qH (aY.take (j+1))=qH (aY.take j)++qH [s]:=by rw [l4 hs]; unfold qH; rw [List.filter_append,List.map_append]
    have hfl:(qH (aY.take j)).length≤1000:=by
     unfold qH
     rw [zsy]
     have:=List.length_filter_le (fun s:Sub=>!s.2.2.isEmpty) (aY.take j)
     rw [List.length_take] at this
     omega
    obtain ⟨st,si,sr⟩:=s
    dsimp only at d0 d1 d2
    by_cases he:sr=[]
    ·subst he
     have hno:qH (aY.take (j+1))=qH (aY.take j):=by rw [hnx]; simp [qH]
     go_wp2
     refine ⟨⟨j+1,by omega,by simp,hsr.trans (aR _ _),ad,cp,by rw [hno],?_⟩,by simp [jJ]; omega⟩
     rw [hno]
     exact iD hown (aR _ _)
    ·have hne:sr.isEmpty=false:=by simpa using he
     have hyes:qH [(st,si,sr)]=[(st,sr,0)]:=by simp [qH,hne]
     rw [hyes] at hnx
     generalize hW:nJ l a steps++qH (aY.take j)=W at hown hnx
     have hnx2:nJ l a steps++qH (aY.take (j+1))=W++[(st,sr,0)]:=by rw [hnx,← hW,zty]
     have hWl:W.length≤1001000:=by rw [← hW,zwy]; omega
     clear hW hnx
     unfold mD at hown
     go_wp2_with (first
      | (at_builtin; refine wpList_append_lies _ rfl _ _ 123 rfl w.heap.size 126 i0 _ 3 40 Try.underlying123 hi hz0 hz1 hz2 rfl (by decide) _ _ _ rfl ((hown.alloc _).alloc _) ⟨wr.heap.size+1,0,none⟩ 1 1 [.string ⟨⟨st⟩⟩,.string ⟨⟨sr⟩⟩,.int .i64 0] rfl rfl (by simpa using aYq (wr.alloc _) ⟨⟨st⟩⟩ ⟨⟨sr⟩⟩ 0) (by intro u hu; simp at hu; rcases hu with rfl | rfl | rfl <;> rfl) (by decide) (by unfold maxLen; omega) (by omega) (by simp; omega) (wr.heap.size+2) (by simp) ?_; intro g cp' w2 hown' hgrow hat hlt)
      | go_in)
     have hs7:dU w w2:=pE (hsr.trans ((aR _ _).trans (aR _ _))) hgrow fun q hq=>(hown.lt q hq).1
     refine ⟨⟨j+1,by omega,by simp,hs7,some ⟨g,0,none⟩,cp',?_,?_⟩,by simp [jJ]; omega⟩
     ·rw [hnx2,zwy]; rfl
     ·rw [hnx2]
      unfold mD
      rw [zwy,aK9]
      exact hown'
   ·have hj1:¬ (j:Int) < (aY.length:Int):=by omega
    obtain rfl:j=aY.length:=by omega
    rw [List.take_length] at hown
    go_wp2
    go_ret
    refine ⟨hsr,.slice ad (nJ l a steps++qH aY).length cp,?_,hown⟩
    simp
end Go.Fbs

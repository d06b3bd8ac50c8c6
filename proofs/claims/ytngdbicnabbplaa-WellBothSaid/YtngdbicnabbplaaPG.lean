import Derived.Test.YtngdbicnabbplaaPF
import Derived.Calls
import Derived.Tactics
import Derived.Orders
import Derived.RowKit3
import Derived.Deep.MidRow
import Derived.Deep.AppendSrc
import Derived.Laws.StructEq
import Derived.Laws.AppendOwn
import Derived.WalkKit
import Derived.Laws.MakeOwn
import Derived.Laws.BytesString
import Derived.Laws.IdiomStrings
import Derived.Deep.Upon
import Derived.Maps.RangeRun
import Derived.Lib.UnsafeStr
import Derived.OrdersIn
import Derived.LoopNIn
import Derived.OwnWalkIn
import Derived.Test.YtngdbicnabbplaaR0
import Derived.LoopN
import Derived.Lib.Bytealg
import Derived.Room.MakeNoZero
import Derived.Carry
import Derived.ChangeMaps5
import Derived.OpenShut
import Derived.Test.YtngdbicnabbplaaS2
import Derived.Shelf.Strings.Builder1
import Derived.Shelf.Strings.OnBuilder
import Derived.Below
import Derived.Test.YtngdbicnabbplaaR3
set_option linter.unusedSimpArgs false
set_option linter.unusedVariables false
set_option linter.unusedSectionVars false
set_option maxRecDepth 100000
namespace Go.Fbs
open Go.Proofs Go.RowKit Go.Maps
def erR (r:RM):RM:=⟨r.nm,r.aR,r.steps,none,0,none,0⟩
def pH (t:TM):TM:=⟨t.nm,t.aS.map erR,none,0⟩
def upR (r:Rel):RM:=⟨r.1,r.2.1,r.2.2,none,0,none,0⟩
def aVi (t:fM):TM:=⟨t.1,t.2.map upR,none,0⟩
def iF (ts:List fM):List TM:=ts.map aVi
theorem aDq (l:List TM):bO (l.map pH)=(bO l).map fun p=>(p.1,erR p.2):=by
 induction l with
 | nil=>rfl
 | cons t l ih =>
  show qB (pH t)++bO (l.map pH)=(qB t++bO l).map _
  rw [ih,List.map_append]
  congr 1
  unfold qB pH
  rw [List.map_map,List.map_map]
  rfl
theorem a4e (l:List TM) (a b:B8):cA (l.map pH) a b=(cA l a b).map erR:=by
 unfold cA
 rw [aDq,List.find?_map,Option.map_map,Option.map_map]
 rfl
theorem bCz (l:List TM) (a:B8):a1d (l.map pH) a=a1d l a:=by unfold a1d; rw [List.any_map]; rfl
theorem aPa (l:List TM) (a b:B8):(cA (l.map pH) a b).isNone=(cA l a b).isNone:=by rw [a4e]; cases cA l a b <;> rfl
theorem aXj (l:List TM) (b:B8):j5 (l.map pH) b=j5 l b:=by funext s; unfold j5; rw [aPa]
theorem b5s (l:List TM):rE (l.map pH)=rE l:=by funext s; unfold rE; rw [aPa,bCz]
theorem b5t (l:List TM) (typ:B8) (x:cV):xB (l.map pH) typ x=xB l typ x:=by
 unfold xB
 rw [a4e,aXj]
 cases cA l typ x.2.1 <;> rfl
theorem b2b (l:List TM) (typ:B8):iM (l.map pH) typ=iM l typ:=by funext x; unfold iM; rw [aPa,b5t]
theorem aJp (l:List TM) (typ:B8):∀ xs,lH (l.map pH) typ xs=lH l typ xs
 | []=>rfl
 | x::xs=>by unfold lH; rw [b2b,aJp l typ xs]
theorem b5u (l:List TM) (typ:B8) (r:RM):kH (l.map pH) typ (erR r)=kH l typ r:=by
 unfold kH
 rw [b5s,aJp]
 rfl
theorem aNh (l:List TM):∀ ps:List (B8×RM),tB (l.map pH) (ps.map fun p=>(p.1,erR p.2))=tB l ps
 | []=>rfl
 | p::ps=>by
  rw [zsx]
  unfold tB
  rw [aNh l ps]
  dsimp only
  rw [b5u]
theorem aJq (l:List TM):fA (l.map pH)=fA l:=by unfold fA; rw [aDq,aNh]
theorem aY5 (l:List TM):dZ (l.map pH)=dZ l:=by unfold dZ; rw [aDq,List.map_map]; rfl
theorem b5v (l:List TM) (a b:B8):qC (l.map pH) a b=qC l a b:=by unfold qC; rw [a4e]; cases cA l a b <;> rfl
theorem aVj (l:List TM) (typ:B8):jR (l.map pH) typ=jR l typ:=by funext x; unfold jR; rw [b5v]
theorem bC0 (l:List TM) (typ:B8):pA (l.map pH) typ=pA l typ:=by funext st x; unfold pA; rw [aVj]
theorem aY6 (l:List TM) (typ:B8) (xs:List cV):qD (l.map pH) typ xs=qD l typ xs:=by unfold qD; rw [bC0]
theorem b5w (l:List TM) (typ:B8) (xs:List cV):lS (l.map pH) typ xs=lS l typ xs:=by unfold lS; rw [aY6]
theorem b8z (l:List TM) (a:B8) (r:RM):wG (l.map pH) a (erR r)=wG l a r:=by unfold wG; rw [b5w]; rfl
theorem aVk (l:List TM):eS (l.map pH)=eS l:=by
 funext q
 unfold eS
 rw [a4e]
 cases cA l q.1 q.2 with
 | none=>rfl
 | some r=>exact b8z l q.1 r
theorem b2c {l:List TM} {typ:B8} {xs:List cV} (h:a7g (l.map pH) typ xs):a7g l typ xs:=by
 obtain ⟨h1,h2⟩:=h
 rw [aVj] at h1
 rw [aY6] at h2
 exact ⟨h1,h2⟩
theorem b80 {l:List TM} {o:List Nm} (h:aDp (l.map pH) o):aDp l o:=by
 obtain ⟨h1,h2,h3,h4,h5⟩:=h
 rw [aVk] at h3
 refine ⟨h1,fun q hq=>?_,h3,h4,h5⟩
 obtain ⟨r,hr,hs⟩:=h2 q hq
 rw [a4e] at hr
 cases hh:cA l q.1 q.2 with
 | none=>rw [hh] at hr; cases hr
 | some r' =>
  rw [hh] at hr
  simp only [Option.map_some,zzz] at hr
  subst hr
  exact ⟨r',rfl,b2c hs⟩
theorem bC1 {l:List TM} (h:a3e (l.map pH)):a3e l:=by
 obtain ⟨h1,h2,h3,h4⟩:=h
 refine ⟨fun t ht=>?_,?_,fun t ht=>?_,?_⟩
 ·obtain ⟨h5,h6⟩:=h1 (pH t) (List.mem_map.2 ⟨t,ht,rfl⟩)
  exact ⟨h5,fun r hr=>h6 (erR r) (List.mem_map.2 ⟨r,hr,rfl⟩)⟩
 ·rw [List.map_map] at h2; exact h2
 ·have:=h3 (pH t) (List.mem_map.2 ⟨t,ht,rfl⟩)
  unfold pH at this
  rw [List.map_map] at this
  exact this
 ·rw [aDq,zsy,zsy] at h4; exact h4
open Classical in
noncomputable def wJ (l:List TM):Option Rk:=if h:∃ R,pB (eS l) (dZ l).reverse.length (dZ l).reverse (fun _=>0) R then Classical.choose h else none
theorem aBq {l:List TM} (h:(dZ l).reverse.Nodup):pB (eS l) (dZ l).reverse.length (dZ l).reverse (fun _=>0) (wJ l):=by
 have hex:=aY3 (eS l) (dZ l).reverse.length (dZ l).reverse h _ (fun _=>0) (zxy _)
 unfold wJ
 rw [dif_pos hex]
 exact Classical.choose_spec hex
theorem aY7 (l:List TM):wJ (l.map pH)=wJ l:=by unfold wJ; rw [aVk,aY5]
noncomputable def gM (l:List TM):Int:=if fA l≠0 then fA l else match wJ l with | none=>14 | some _=>0
noncomputable def mH (l:List TM) (q:Nm):Nat×Bool:=if gM l≠0 then (0,false) else ((match wJ l with | none=>0 | some ρ=>ρ q),(cA l q.1 q.2).isSome)
theorem aQz (l:List TM):gM (l.map pH)=gM l:=by unfold gM; rw [aJq,aY7]
theorem b81 (l:List TM) (q:Nm):mH (l.map pH) q=mH l q:=by
 unfold mH
 rw [aQz,aY7,a4e]
 cases cA l q.1 q.2 <;> rfl
structure a65 (l:List TM):Prop where
 lG:a3e l
 ord:fA l=0→aDp l (dZ l).reverse
theorem aVl {l:List TM} (h:a65 (l.map pH)):a65 l:=⟨bC1 h.lG,fun h0=>by
 have:=h.ord (by rw [aJq]; exact h0)
 rw [aY5] at this
 exact b80 this⟩
variable {w w':World}
theorem pP {l:List TM} {a:Option Addr} {cp n:Nat} (hn:n=w.heap.size) (hok:a65 l) (hl:rN n w a l) :
  Calls Try.prog 7 #[.slice a l.length cp] w fun e w'=>e = .returned (.int .i64 (gM l))∧fH n w w':=by
 have hof:=aY4 (cp:=cp) (R:=wJ l) hn hok.lG hl hok.ord (fun h0=>aBq (hok.ord h0).nodup)
 unfold gM
 clear hn
 by_cases h0:fA l=0
 ·rw [if_neg (by simpa using h0)]
  cases hR:wJ l with
  | none =>
   go_enter Try.func7,Try.ntmps7
   go_wp2_with (go_at_call 17; refine hof.mono ?_; rintro e w5 h5; obtain rfl:=h5.loop h0 hR)
   go_ret
   exact ⟨rfl,h5.fV⟩
  | some ρ =>
   go_enter Try.func7,Try.ntmps7
   unfold xA at *
   go_wp2_with (go_at_call 17; refine hof.mono ?_; rintro e w5 h5; obtain ⟨rfl,h6⟩:=h5.pC h0 ρ hR; unfold xA)
   go_ret
   exact ⟨rfl,h5.fV⟩
 ·rw [if_pos h0]
  go_enter Try.func7,Try.ntmps7
  go_wp2_with (go_at_call 17; refine hof.mono ?_; rintro e w5 h5; obtain rfl:=h5.bad h0)
  go_ret
  exact ⟨rfl,h5.fV⟩
end Go.Fbs

namespace Go.Fbs
open Go.Proofs Go.RowKit Go.Maps
variable {w w':World}
theorem aDr {l:List TM} {a:Option Addr} {cp n:Nat} {t rel:B8} (hn:n=w.heap.size) (hok:a65 l) (hl:rN n w a l) (ht:t.length≤1000) (hr:rel.length≤1000) :
  Calls Try.prog 8 #[.slice a l.length cp,.string ⟨⟨t⟩⟩,.string ⟨⟨rel⟩⟩] w fun e w'=>e = .returned (.tuple #[.int .i64 (((mH l (t,rel)).1:Nat):Int),.bool (mH l (t,rel)).2])∧fH n w w':=by
 have hof:=aY4 (cp:=cp) (R:=wJ l) hn hok.lG hl hok.ord (fun h0=>aBq (hok.ord h0).nodup)
 have hns:n≤w.heap.size:=by omega
 clear hn
 by_cases h0:fA l=0
 ·cases hR:wJ l with
  | none =>
   rw [show mH l (t,rel)=(0,false) from by simp [mH,gM,h0,hR]]
   go_enter Try.func8,Try.ntmps8
   go_wp2_with (go_at_call 17; refine hof.mono ?_; rintro e w5 h5; obtain rfl:=h5.loop h0 hR)
   go_ret2
   exact ⟨rfl,h5.fV⟩
  | some ρ =>
   rw [show mH l (t,rel)=(ρ (t,rel),(cA l t rel).isSome) from by simp [mH,gM,h0,hR]]
   dsimp only
   go_enter Try.func8,Try.ntmps8
   go_wp2_with (first
    | (go_at_call 17; refine hof.mono ?_; rintro e w5 h5; obtain ⟨rfl,k',mk',h6,h7⟩:=h5.pC h0 ρ hR
       have henv:rO n l k' mk' w5:=⟨hok.lG,h6,fun p hp=>by
        obtain ⟨t,ht,_,hr⟩:=jF hp
        exact ((hl.fV h5.fV).all t ht).all _ hr⟩
       obtain ⟨q,hq⟩:=henv.tP ht hr
       unfold xA)
    | (go_at_call 18; refine hq.mono ?_; rintro e w6 ⟨rfl,hs6⟩
       have hs7:=hs6.trans (aK w6 (.cells #[.string ⟨⟨q.nm⟩⟩,.slice q.sa q.sn q.sc,.slice q.xa q.xn q.xc] 32))
       have hrk:=b1z (h6.jI hs7) (a:=t) (b:=rel) (by unfold maxLen; omega) (by unfold maxLen; omega)
       rw [h7 (t,rel) ht hr] at hrk
       unfold xA at hrk)
    | (go_at_call 19; refine hrk.mono ?_; rintro e w8 ⟨rfl,hs8⟩))
   go_ret2
   exact ⟨rfl,h5.fV.trans ((hs7.trans hs8).fV (by have:=h6.lt; omega))⟩
 ·rw [show mH l (t,rel)=(0,false) from by simp [mH,gM,h0]]
  have heb:(fA l == 0)=false:=by simpa using h0
  go_enter Try.func8,Try.ntmps8
  go_wp2_with (go_at_call 17; refine hof.mono ?_; rintro e w5 h5; obtain rfl:=h5.bad h0)
  go_ret2
  exact ⟨rfl,h5.fV⟩
end Go.Fbs

namespace Go.Fbs
open Go.Proofs Go.RowKit Go.Maps
theorem aAn {α β : Type} : ∀ {P : Nat → α → β → Prop} {xs : List α},(∀ i x,xs[i]? = some x → ∃ y,P i x y) → ∃ ys : List β,ys.length = xs.length ∧ ∀ i x,xs[i]? = some x → ∃ y,ys[i]? = some y ∧ P i x y
 | P,[],_=>⟨[],rfl,fun i x h=>by cases h⟩
 | P,x::xs,h=>by
  obtain ⟨y,hy⟩:=h 0 x rfl
  obtain ⟨ys,hl,hys⟩:=aAn (P:=fun i=>P (i+1)) (xs:=xs) fun i z hz=>h (i+1) z (by simpa using hz)
  refine ⟨y::ys,by simp [hl],fun i z hz=>?_⟩
  cases i with
  | zero =>
   simp only [zux,zzz] at hz
   subst hz
   exact ⟨y,rfl,hy⟩
  | succ i =>
   obtain ⟨u,hu,hP⟩:=hys i z (by simpa using hz)
   exact ⟨u,by simpa using hu,hP⟩
theorem aQ0 {α β γ : Type} {f : α → γ} {g : β → γ} {xs : List α} {ys : List β} (hl : ys.length = xs.length) (h : ∀ (i : Nat) (x : α),xs[i]? = some x → ∃ y : β,ys[i]? = some y ∧ g y = f x) : ys.map g = xs.map f:=by
 refine List.ext_getElem? fun i=>?_
 rw [zvz,zvz]
 cases hx : xs[i]? with
 | none =>
  have : ys[i]? = none:=by
   rw [List.getElem?_eq_none_iff] at hx ⊢
   omega
  rw [this]; rfl
 | some x =>
  obtain ⟨y,hy,e⟩:=h i x hx
  rw [hy]
  show some (g y)=some (f x)
  rw [e]
theorem aEq {α β : Type} {Q : β → Prop} {xs : List α} {ys : List β} (hl : ys.length = xs.length) (h : ∀ (i : Nat) (x : α),xs[i]? = some x → ∃ y : β,ys[i]? = some y ∧ Q y) : ∀ y ∈ ys,Q y:=fun y hy=>by
 obtain ⟨i,hi⟩:=List.getElem?_of_mem hy
 have hlt:i < xs.length:=by rw [← hl]; exact (zzy.1 hi).1
 obtain ⟨u,hu,hQ⟩:=h i xs[i] (zyz hlt)
 rw [hi] at hu
 cases hu
 exact hQ
theorem aQ1 (c:List V) (l:List V):flat (V.agg c::l)=c++flat l:=rfl
theorem a9v {α : Type} {f : α → List V} {sz : Nat} (hs : ∀ x,(f x).length = sz) : ∀ {xs : List α} {i : Nat} {x : α},xs[i]? = some x → ∀ j,j < sz → (flat (xs.map fun x=>V.agg (f x)))[i * sz + j]? = (f x)[j]?
 | y::xs,0,x,h,j,hj=>by
  simp only [zux,zzz] at h
  subst h
  rw [zsx,aQ1,Nat.zero_mul,Nat.zero_add,ztz (by rw [hs]; exact hj)]
 | y::xs,i+1,x,h,j,hj=>by
  rw [zsx,aQ1,ztx (by rw [hs]; rw [Nat.succ_mul]; omega),hs]
  have e:(i+1)*sz+j - sz=i*sz+j:=by rw [Nat.succ_mul]; omega
  rw [e]
  exact a9v hs (by simpa using h) j hj
variable {κ:Ctx} {w w':World}
theorem aDs {α:Type} {f:α→List V} {sz:Nat} (hs:∀ x,(f x).length=sz) {xs:List α} {v:Value} (r:aW κ w.heap (.sl .ro (xs.map fun x=>V.agg (f x))) v) :
  ∃ a cap,v = .slice a xs.length cap ∧ ∃ b off,(xs ≠ [] → a = some ⟨b,off,none⟩) ∧ ∀ i x,xs[i]? = some x → ∀ j c,(f x)[j]? = some c → ∃ z,w.cell? ⟨b,off + i * sz + j,none⟩ = some z ∧ aW κ w.heap c z:=by
 rcases a2c r with ⟨he,hx,_⟩ | ⟨b,off,cap,sz',vs,hb,_,hr,hcap,_,hx⟩
 ·obtain rfl:xs=[]:=by simpa using he
  subst hx
  exact ⟨none,0,rfl,0,0,fun h=>absurd rfl h,fun i x h=>by cases h⟩
 ·subst hx
  rw [zsy]
  refine ⟨_,_,rfl,b,off,fun _=>rfl,fun i x hi j c hc=>?_⟩
  have hj:j < sz:=by rw [← hs x]; exact (zzy.1 hc).1
  have hg:=(a9v hs hi j hj).trans hc
  have hlt:i*sz+j < vs.length:=by rw [hr.1]; exact (zzy.1 hg).1
  have hz:=zyz hlt
  refine ⟨_,?_,hr.2 _ _ _ hg hz⟩
  rw [qL,Nat.add_assoc]
  exact (hb _ _ hz).2.1
theorem b82 {xs:List Sub} {v:Value} (r:aW κ w.heap (mF xs) v):∃ a cap,v = .slice a xs.length cap∧nW w.heap.size w a 3 (xs.map a0d):=by
 obtain ⟨a,cap,rfl,b,off,ha,hc⟩:=aDs (f:=fun s:Sub=>[.str s.1,.str s.2.1,.str s.2.2]) (sz:=3) (fun _=>rfl) r
 have bD : ∀ i c,(xs.map a0d)[i]? = some c → ∀ j x,c[j]? = some x → w.cell? ⟨b,off + i * 3 + j,none⟩ = some x:=fun i c hi j x hx=>by
  rw [zvz,zyy] at hi
  obtain ⟨s,hs,rfl⟩:=hi
  match j,hx with
  | 0,hx=>cases hx; obtain ⟨z,h1,h2⟩:=hc i s hs 0 _ rfl; rw [h1,gN h2]
  | 1,hx=>cases hx; obtain ⟨z,h1,h2⟩:=hc i s hs 1 _ rfl; rw [h1,gN h2]
  | 2,hx=>cases hx; obtain ⟨z,h1,h2⟩:=hc i s hs 2 _ rfl; rw [h1,gN h2]
 refine ⟨a,cap,rfl,b,off,fun hne=>?_,bD⟩
 cases xs with
 | nil=>exact absurd rfl hne
 | cons x xs=>exact ⟨ha (by simp),pN (bD 0 _ rfl 0 _ rfl)⟩
theorem b83 {xs:List cV} {v:Value} (r:aW κ w.heap (fE xs) v):∃ a cap,v = .slice a xs.length cap∧nW w.heap.size w a 3 (xs.map aK3):=by
 obtain ⟨a,cap,rfl,b,off,ha,hc⟩:=aDs (f:=fun s:cV=>[vI s.1,.str s.2.1,.str s.2.2]) (sz:=3) (fun _=>rfl) r
 have bD : ∀ i c,(xs.map aK3)[i]? = some c → ∀ j x,c[j]? = some x → w.cell? ⟨b,off + i * 3 + j,none⟩ = some x:=fun i c hi j x hx=>by
  rw [zvz,zyy] at hi
  obtain ⟨s,hs,rfl⟩:=hi
  match j,hx with
  | 0,hx=>cases hx; obtain ⟨z,h1,h2⟩:=hc i s hs 0 _ rfl; rw [h1,eQ h2]
  | 1,hx=>cases hx; obtain ⟨z,h1,h2⟩:=hc i s hs 1 _ rfl; rw [h1,gN h2]
  | 2,hx=>cases hx; obtain ⟨z,h1,h2⟩:=hc i s hs 2 _ rfl; rw [h1,gN h2]
 refine ⟨a,cap,rfl,b,off,fun hne=>?_,bD⟩
 cases xs with
 | nil=>exact absurd rfl hne
 | cons x xs=>exact ⟨ha (by simp),pN (bD 0 _ rfl 0 _ rfl)⟩
theorem b84 {xs:List Rel} {v:Value} (r:aW κ w.heap (nH xs) v):∃ a cap,v = .slice a xs.length cap∧∃ ms:List RM,ms.length=xs.length∧ms.map erR=xs.map upR∧(∀ m ∈ ms,m.ok w.heap.size w)∧nW w.heap.size w a 3 (ms.map yT):=by
 obtain ⟨a,cap,rfl,b,off,ha,hc⟩:=aDs (f:=fun s:Rel=>[.str s.1,mF s.2.1,fE s.2.2]) (sz:=3) (fun _=>rfl) r
 have hex : ∀ i x,xs[i]? = some x → ∃ m : RM,erR m = upR x ∧ m.ok w.heap.size w ∧ ∀ j u,(yT m)[j]? = some u → w.cell? ⟨b,off + i * 3 + j,none⟩ = some u:=fun i x hx=>by
  obtain ⟨z0,a0,r0⟩:=hc i x hx 0 _ rfl
  obtain ⟨z1,a1,r1⟩:=hc i x hx 1 _ rfl
  obtain ⟨z2,a2,r2⟩:=hc i x hx 2 _ rfl
  obtain ⟨sa,sc,rfl,hs⟩:=b82 r1
  obtain ⟨xa,xc,rfl,hxx⟩:=b83 r2
  refine ⟨⟨x.1,x.2.1,x.2.2,sa,sc,xa,xc⟩,rfl,⟨hs,hxx⟩,fun j u hu=>?_⟩
  match j,hu with
  | 0,hu=>cases hu; rw [a0,gN r0]
  | 1,hu=>cases hu; exact a1
  | 2,hu=>cases hu; exact a2
 obtain ⟨ms,hl,hms⟩:=aAn hex
 have bD : ∀ i c,(ms.map yT)[i]? = some c → ∀ j x,c[j]? = some x → w.cell? ⟨b,off + i * 3 + j,none⟩ = some x:=fun i c hi j u hu=>by
  rw [zvz,zyy] at hi
  obtain ⟨m,hm,rfl⟩:=hi
  have hlt:i < xs.length:=by rw [← hl]; exact (zzy.1 hm).1
  obtain ⟨m',hm',_,_,h3⟩:=hms i xs[i] (zyz hlt)
  rw [hm] at hm'
  cases hm'
  exact h3 j u hu
 refine ⟨a,cap,rfl,ms,hl,aQ0 hl fun i x hx=>?_,aEq hl fun i x hx=>?_,b,off,fun hne=>?_,bD⟩
 ·obtain ⟨m,h1,h2,_⟩:=hms i x hx
  exact ⟨m,h1,h2⟩
 ·obtain ⟨m,h1,_,h2,_⟩:=hms i x hx
  exact ⟨m,h1,h2⟩
 ·cases ms with
  | nil=>exact absurd rfl hne
  | cons m ms =>
   refine ⟨ha fun e=>?_,pN (bD 0 _ rfl 0 _ rfl)⟩
   rw [e] at hl
   cases hl
theorem aVm {xs:List fM} {v:Value} (r:aW κ w.heap (fT xs) v):∃ a cap,v = .slice a xs.length cap∧∃ l:List TM,l.length=xs.length∧l.map pH=iF xs∧rN w.heap.size w a l:=by
 obtain ⟨a,cap,rfl,b,off,ha,hc⟩:=aDs (f:=fun s:fM=>[.str s.1,nH s.2]) (sz:=2) (fun _=>rfl) r
 have hex : ∀ i x,xs[i]? = some x → ∃ m : TM,pH m = aVi x ∧ m.ok w.heap.size w ∧ ∀ j u,(qW m)[j]? = some u → w.cell? ⟨b,off + i * 2 + j,none⟩ = some u:=fun i x hx=>by
  obtain ⟨z0,a0,r0⟩:=hc i x hx 0 _ rfl
  obtain ⟨z1,a1,r1⟩:=hc i x hx 1 _ rfl
  obtain ⟨ra,rc,rfl,ms,hl,hm,hok,hrow⟩:=b84 r1
  refine ⟨⟨x.1,ms,ra,rc⟩,by unfold pH aVi; rw [hm],⟨hrow,hok⟩,fun j u hu=>?_⟩
  match j,hu with
  | 0,hu=>cases hu; rw [a0,gN r0]
  | 1,hu=>cases hu; rw [hl]; exact a1
 obtain ⟨ms,hl,hms⟩:=aAn hex
 have bD : ∀ i c,(ms.map qW)[i]? = some c → ∀ j x,c[j]? = some x → w.cell? ⟨b,off + i * 2 + j,none⟩ = some x:=fun i c hi j u hu=>by
  rw [zvz,zyy] at hi
  obtain ⟨m,hm,rfl⟩:=hi
  have hlt:i < xs.length:=by rw [← hl]; exact (zzy.1 hm).1
  obtain ⟨m',hm',_,_,h3⟩:=hms i xs[i] (zyz hlt)
  rw [hm] at hm'
  cases hm'
  exact h3 j u hu
 refine ⟨a,cap,rfl,ms,hl,aQ0 hl fun i x hx=>?_,⟨b,off,fun hne=>?_,bD⟩,aEq hl fun i x hx=>?_⟩
 ·obtain ⟨m,h1,h2,_⟩:=hms i x hx
  exact ⟨m,h1,h2⟩
 ·cases ms with
  | nil=>exact absurd rfl hne
  | cons m ms =>
   refine ⟨ha fun e=>?_,pN (bD 0 _ rfl 0 _ rfl)⟩
   rw [e] at hl
   cases hl
 ·obtain ⟨m,h1,_,h2,_⟩:=hms i x hx
  exact ⟨m,h1,h2⟩
theorem aNi {a b:List fM} (h:fT a=fT b):a=b:=by
 simp only [fT,V.sl.injEq,true_and] at h
 exact sO (fun _ _=>aKt) h
noncomputable def a3f:Spec:=gV (fun ts:List fM=>[fT ts]) (fun ts=>a65 (iF ts)) (fun ts=>vI (gM (iF ts)))
theorem b5x {ts:List fM} (h:a65 (iF ts)):a3f [fT ts]=some (vI (gM (iF ts))):=gD (a:=ts) (fun a b h=>aNi (by simpa using h)) h
theorem aRr:fS Try.prog yK a3f:=by
 refine ⟨⟨_,_,Try.func7,rfl,by kernel_rfl⟩,fun args v hv=>?_⟩
 obtain ⟨ts,rfl,hok,rfl⟩:=eO hv
 refine ⟨fun m κ w xs k r=>?_,rfl⟩
 obtain ⟨x,ys,rfl,r1,r2⟩:=r.dP
 obtain rfl:=r2.sX
 obtain ⟨a,cap,rfl,l,hl,he,hts⟩:=aVm r1
 rw [← he] at hok ⊢
 rw [aQz]
 have:=pP (cp:=cap) rfl (aVl hok) hts
 rw [hl] at this
 refine this.mono ?_
 rintro e w' ⟨rfl,hb⟩
 exact ⟨_,_,rfl,aGa k hb.size hb.block hb.os hb.output,.int _ _⟩
noncomputable def xH:Spec:=gV (fun q:List fM×B8×B8=>[fT q.1,.str q.2.1,.str q.2.2]) (fun q=>a65 (iF q.1)∧q.2.1.length≤1000∧q.2.2.length≤1000) (fun q=>.aO [vI (((mH (iF q.1) q.2).1:Nat):Int),.bool (mH (iF q.1) q.2).2])
theorem bAv {ts:List fM} {a b:B8} (h:a65 (iF ts)) (ha:a.length≤1000) (hb:b.length≤1000):xH [fT ts,.str a,.str b]=some (.aO [vI (((mH (iF ts) (a,b)).1:Nat):Int),.bool (mH (iF ts) (a,b)).2]) :=
 gD (a:=(ts,a,b)) (fun x y h=>by
  simp only [List.cons.injEq,V.str.injEq,and_true] at h
  exact Prod.ext (aNi h.1) (Prod.ext h.2.1 h.2.2)) ⟨h,ha,hb⟩
theorem aVn:fS Try.prog xG xH:=by
 refine ⟨⟨_,_,Try.func8,rfl,by kernel_rfl⟩,fun args v hv=>?_⟩
 obtain ⟨⟨ts,t,rel⟩,rfl,⟨hok,ht,hr⟩,rfl⟩:=eO hv
 refine ⟨fun m κ w xs k r=>?_,rfl⟩
 obtain ⟨x,ys,rfl,r1,r2⟩:=r.dP
 obtain ⟨x2,ys2,rfl,r3,r4⟩:=r2.dP
 obtain ⟨x3,ys3,rfl,r5,r6⟩:=r4.dP
 obtain rfl:=r6.sX
 obtain rfl:=gN r3
 obtain rfl:=gN r5
 obtain ⟨a,cap,rfl,l,hl,he,hts⟩:=aVm r1
 dsimp only at hok ⊢
 rw [← he] at hok ⊢
 rw [b81]
 have:=aDr (cp:=cap) (t:=t) (rel:=rel) rfl (aVl hok) hts ht hr
 rw [hl] at this
 refine this.mono ?_
 rintro e w' ⟨rfl,hb⟩
 refine ⟨_,_,rfl,aGa k hb.size hb.block hb.os hb.output,.aO _ [_,_] rfl fun i c x hc hx=>?_⟩
 match i,hc,hx with
 | 0,hc,hx=>cases hc; cases hx; exact .int _ _
 | 1,hc,hx=>cases hc; cases hx; exact .bool _
end Go.Fbs

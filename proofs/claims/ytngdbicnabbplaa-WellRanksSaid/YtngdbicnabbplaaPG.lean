import Derived.Test.YtngdbicnabbplaaPF
import Derived.Calls
import Derived.Tactics
import Derived.Orders
import Derived.RowKit3
import Derived.Deep.MidRow
import Derived.Deep.AppendSrc
import Derived.Laws.StructEq
import Derived.Laws.AppendOwn
import Derived.WalkKit
import Derived.Laws.MakeOwn
import Derived.Laws.BytesString
import Derived.Laws.IdiomStrings
import Derived.Deep.Upon
import Derived.Maps.RangeRun
import Derived.Lib.UnsafeStr
import Derived.OrdersIn
import Derived.LoopNIn
import Derived.OwnWalkIn
import Derived.Test.YtngdbicnabbplaaR0
import Derived.LoopN
import Derived.Lib.Bytealg
import Derived.Room.MakeNoZero
import Derived.Carry
import Derived.ChangeMaps5
import Derived.OpenShut
import Derived.Test.YtngdbicnabbplaaS2
import Derived.Shelf.Strings.Builder1
import Derived.Shelf.Strings.OnBuilder
import Derived.Below
import Derived.Test.YtngdbicnabbplaaR3
set_option linter.unusedSimpArgs false
set_option linter.unusedVariables false
set_option linter.unusedSectionVars false
set_option maxRecDepth 100000
namespace Go.Fbs
open Go.Proofs Go.RowKit Go.Maps
def erR (r:RM):RM:=⟨r.nm,r.aY,r.steps,none,0,none,0⟩
def pU (t:TM):TM:=⟨t.nm,t.bP.map erR,none,0⟩
def upR (r:Rel):RM:=⟨r.1,r.2.1,r.2.2,none,0,none,0⟩
def a64 (t:gI):TM:=⟨t.1,t.2.map upR,none,0⟩
def gG (ts:List gI):List TM:=ts.map a64
theorem aBw (l:List TM):dJ (l.map pU)=(dJ l).map fun p=>(p.1,erR p.2):=by
 induction l with
 | nil=>rfl
 | cons t l ih =>
  show qX (pU t)++dJ (l.map pU)=(qX t++dJ l).map _
  rw [ih,List.map_append]
  congr 1
  unfold qX pU
  rw [List.map_map,List.map_map]
  rfl
theorem a4h (l:List TM) (a b:B8):cG (l.map pU) a b=(cG l a b).map erR:=by
 unfold cG
 rw [aBw,List.find?_map,Option.map_map,Option.map_map]
 rfl
theorem bG0 (l:List TM) (a:B8):aG8 (l.map pU) a=aG8 l a:=by unfold aG8; rw [List.any_map]; rfl
theorem aS4 (l:List TM) (a b:B8):(cG (l.map pU) a b).isNone=(cG l a b).isNone:=by rw [a4h]; cases cG l a b <;> rfl
theorem b1m (l:List TM) (b:B8):nH (l.map pU) b=nH l b:=by funext s; unfold nH; rw [aS4]
theorem b9p (l:List TM):wS (l.map pU)=wS l:=by funext s; unfold wS; rw [aS4,bG0]
theorem b9q (l:List TM) (typ:B8) (x:dQ):a5w (l.map pU) typ x=a5w l typ x:=by
 unfold a5w
 rw [a4h,b1m]
 cases cG l typ x.2.1 <;> rfl
theorem b58 (l:List TM) (typ:B8):lG (l.map pU) typ=lG l typ:=by funext x; unfold lG; rw [aS4,b9q]
theorem aN1 (l:List TM) (typ:B8):∀ xs,qG (l.map pU) typ xs=qG l typ xs
 | []=>rfl
 | x::xs=>by unfold qG; rw [b58,aN1 l typ xs]
theorem b9r (l:List TM) (typ:B8) (r:RM):p5 (l.map pU) typ (erR r)=p5 l typ r:=by
 unfold p5
 rw [b9p,aN1]
 rfl
theorem aQ6 (l:List TM):∀ ps:List (B8×RM),vV (l.map pU) (ps.map fun p=>(p.1,erR p.2))=vV l ps
 | []=>rfl
 | p::ps=>by
  rw [zsx]
  unfold vV
  rw [aQ6 l ps]
  dsimp only
  rw [b9r]
theorem aEh (l:List TM):gP (l.map pU)=gP l:=by unfold gP; rw [aBw,aQ6]
theorem b2w (l:List TM):iN (l.map pU)=iN l:=by unfold iN; rw [aBw,List.map_map]; rfl
theorem aUf (l:List TM) (a b:B8):nI (l.map pU) a b=nI l a b:=by unfold nI; rw [a4h]; cases cG l a b <;> rfl
theorem aY2 (l:List TM) (typ:B8):nQ (l.map pU) typ=nQ l typ:=by funext x; unfold nQ; rw [aUf]
theorem bG1 (l:List TM) (typ:B8):tO (l.map pU) typ=tO l typ:=by funext st x; unfold tO; rw [aY2]
theorem b2x (l:List TM) (typ:B8) (xs:List dQ):sV (l.map pU) typ xs=sV l typ xs:=by unfold sV; rw [bG1]
theorem b9s (l:List TM) (typ:B8) (xs:List dQ):nJ (l.map pU) typ xs=nJ l typ xs:=by unfold nJ; rw [b2x]
theorem bC2 (l:List TM) (a:B8) (r:RM):uQ (l.map pU) a (erR r)=uQ l a r:=by unfold uQ; rw [b9s]; rfl
theorem aY3 (l:List TM):iM (l.map pU)=iM l:=by
 funext q
 unfold iM
 rw [a4h]
 cases cG l q.1 q.2 with
 | none=>rfl
 | some r=>exact bC2 l q.1 r
theorem b59 {l:List TM} {typ:B8} {xs:List dQ} (h:aAu (l.map pU) typ xs):aAu l typ xs:=by
 obtain ⟨h1,h2⟩:=h
 rw [aY2] at h1
 rw [b2x] at h2
 exact ⟨h1,h2⟩
theorem bC3 {l:List TM} {o:List Nm} (h:aHa (l.map pU) o):aHa l o:=by
 obtain ⟨h1,h2,h3,h4,h5⟩:=h
 rw [aY3] at h3
 refine ⟨h1,fun q hq=>?_,h3,h4,h5⟩
 obtain ⟨r,hr,hs⟩:=h2 q hq
 rw [a4h] at hr
 cases hh:cG l q.1 q.2 with
 | none=>rw [hh] at hr; cases hr
 | some r' =>
  rw [hh] at hr
  simp only [Option.map_some,zzz] at hr
  subst hr
  exact ⟨r',rfl,b59 hs⟩
theorem b2y {l:List TM} (h:a1s (l.map pU)):a1s l:=by
 obtain ⟨h1,h2,h3,h4⟩:=h
 refine ⟨fun t ht=>?_,?_,fun t ht=>?_,?_⟩
 ·obtain ⟨h5,h6⟩:=h1 (pU t) (List.mem_map.2 ⟨t,ht,rfl⟩)
  exact ⟨h5,fun r hr=>h6 (erR r) (List.mem_map.2 ⟨r,hr,rfl⟩)⟩
 ·rw [List.map_map] at h2; exact h2
 ·have:=h3 (pU t) (List.mem_map.2 ⟨t,ht,rfl⟩)
  unfold pU at this
  rw [List.map_map] at this
  exact this
 ·rw [aBw,zsy,zsy] at h4; exact h4
open Classical in
noncomputable def a0x (l:List TM):Option Rk:=if h:∃ R,uK (iM l) (iN l).reverse.length (iN l).reverse (fun _=>0) R then Classical.choose h else none
theorem aFi {l:List TM} (h:(iN l).reverse.Nodup):uK (iM l) (iN l).reverse.length (iN l).reverse (fun _=>0) (a0x l):=by
 have hex:=bGw (iM l) (iN l).reverse.length (iN l).reverse h _ (fun _=>0) (zxy _)
 unfold a0x
 rw [dif_pos hex]
 exact Classical.choose_spec hex
theorem b2z (l:List TM):a0x (l.map pU)=a0x l:=by unfold a0x; rw [aY3,b2w]
noncomputable def qI (l:List TM):Int:=if gP l≠0 then gP l else match a0x l with | none=>14 | some _=>0
noncomputable def tP (l:List TM) (q:Nm):Nat×Bool:=if qI l≠0 then (0,false) else ((match a0x l with | none=>0 | some ρ=>ρ q),(cG l q.1 q.2).isSome)
theorem aUg (l:List TM):qI (l.map pU)=qI l:=by unfold qI; rw [aEh,b2z]
theorem bC4 (l:List TM) (q:Nm):tP (l.map pU) q=tP l q:=by
 unfold tP
 rw [aUg,b2z,a4h]
 cases cG l q.1 q.2 <;> rfl
structure aAh (l:List TM):Prop where
 rD:a1s l
 ord:gP l=0→aHa l (iN l).reverse
theorem aY4 {l:List TM} (h:aAh (l.map pU)):aAh l:=⟨b2y h.rD,fun h0=>by
 have:=h.ord (by rw [aEh]; exact h0)
 rw [b2w] at this
 exact bC3 this⟩
variable {w w':World}
theorem b6a {l:List TM} {a:Option Addr} {cp n:Nat} (hn:n=w.heap.size) (hok:aAh l) (hl:aBr n w a l) :
  Calls Try.prog 7 #[.slice a l.length cp] w fun e w'=>e = .returned (.int .i64 (qI l))∧uU n w w':=by
 have hof:=b2v (cp:=cp) (R:=a0x l) hn hok.rD hl hok.ord (fun h0=>aFi (hok.ord h0).nodup)
 unfold qI
 clear hn
 by_cases h0:gP l=0
 ·rw [if_neg (by simpa using h0)]
  cases hR:a0x l with
  | none =>
   go_enter Try.func7,Try.ntmps7
   go_wp2_with (go_at_call 17; refine hof.mono ?_; rintro e w5 h5; obtain rfl:=h5.loop h0 hR)
   go_ret
   exact ⟨rfl,h5.iZ⟩
  | some ρ =>
   go_enter Try.func7,Try.ntmps7
   unfold a0f at *
   go_wp2_with (go_at_call 17; refine hof.mono ?_; rintro e w5 h5; obtain ⟨rfl,h6⟩:=h5.a4g h0 ρ hR; unfold a0f)
   go_ret
   exact ⟨rfl,h5.iZ⟩
 ·rw [if_pos h0]
  go_enter Try.func7,Try.ntmps7
  go_wp2_with (go_at_call 17; refine hof.mono ?_; rintro e w5 h5; obtain rfl:=h5.bad h0)
  go_ret
  exact ⟨rfl,h5.iZ⟩
end Go.Fbs
namespace Go.Fbs
open Go.Proofs Go.RowKit Go.Maps
variable {w w':World}
theorem b6b {l:List TM} {a:Option Addr} {cp n:Nat} {t rel:B8} (hn:n=w.heap.size) (hok:aAh l) (hl:aBr n w a l) (ht:t.length≤1000) (hr:rel.length≤1000) :
  Calls Try.prog 8 #[.slice a l.length cp,.string ⟨⟨t⟩⟩,.string ⟨⟨rel⟩⟩] w fun e w'=>e = .returned (.tuple #[.int .i64 (((tP l (t,rel)).1:Nat):Int),.bool (tP l (t,rel)).2])∧uU n w w':=by
 have hof:=b2v (cp:=cp) (R:=a0x l) hn hok.rD hl hok.ord (fun h0=>aFi (hok.ord h0).nodup)
 have hns:n≤w.heap.size:=by omega
 clear hn
 by_cases h0:gP l=0
 ·cases hR:a0x l with
  | none =>
   rw [show tP l (t,rel)=(0,false) from by simp [tP,qI,h0,hR]]
   go_enter Try.func8,Try.ntmps8
   go_wp2_with (go_at_call 17; refine hof.mono ?_; rintro e w5 h5; obtain rfl:=h5.loop h0 hR)
   go_ret2
   exact ⟨rfl,h5.iZ⟩
  | some ρ =>
   rw [show tP l (t,rel)=(ρ (t,rel),(cG l t rel).isSome) from by simp [tP,qI,h0,hR]]
   dsimp only
   go_enter Try.func8,Try.ntmps8
   go_wp2_with (first
    | (go_at_call 17; refine hof.mono ?_; rintro e w5 h5; obtain ⟨rfl,k',mk',h6,h7⟩:=h5.a4g h0 ρ hR
       have henv:tN n l k' mk' w5:=⟨hok.rD,h6,fun p hp=>by
        obtain ⟨t,ht,_,hr⟩:=pL hp
        exact ((hl.iZ h5.iZ).all t ht).all _ hr⟩
       obtain ⟨q,hq⟩:=henv.wM ht hr
       unfold a0f)
    | (go_at_call 18; refine hq.mono ?_; rintro e w6 ⟨rfl,hs6⟩
       have hs7:=hs6.trans (aR w6 (.cells #[.string ⟨⟨q.nm⟩⟩,.slice q.sa q.sn q.sc,.slice q.xa q.xn q.xc] 32))
       have hrk:=b5m (h6.lX hs7) (a:=t) (b:=rel) (by unfold maxLen; omega) (by unfold maxLen; omega)
       rw [h7 (t,rel) ht hr] at hrk
       unfold a0f at hrk)
    | (go_at_call 19; refine hrk.mono ?_; rintro e w8 ⟨rfl,hs8⟩))
   go_ret2
   exact ⟨rfl,h5.iZ.trans ((hs7.trans hs8).iZ (by have:=h6.lt; omega))⟩
 ·rw [show tP l (t,rel)=(0,false) from by simp [tP,qI,h0]]
  have heb:(gP l == 0)=false:=by simpa using h0
  go_enter Try.func8,Try.ntmps8
  go_wp2_with (go_at_call 17; refine hof.mono ?_; rintro e w5 h5; obtain rfl:=h5.bad h0)
  go_ret2
  exact ⟨rfl,h5.iZ⟩
end Go.Fbs
namespace Go.Fbs
open Go.Proofs Go.RowKit Go.Maps
theorem aEi {α β : Type} : ∀ {P : Nat → α → β → Prop} {xs : List α},(∀ i x,xs[i]? = some x → ∃ y,P i x y) → ∃ ys : List β,ys.length = xs.length ∧ ∀ i x,xs[i]? = some x → ∃ y,ys[i]? = some y ∧ P i x y
 | P,[],_=>⟨[],rfl,fun i x h=>by cases h⟩
 | P,x::xs,h=>by
  obtain ⟨y,hy⟩:=h 0 x rfl
  obtain ⟨ys,hl,hys⟩:=aEi (P:=fun i=>P (i+1)) (xs:=xs) fun i z hz=>h (i+1) z (by simpa using hz)
  refine ⟨y::ys,by simp [hl],fun i z hz=>?_⟩
  cases i with
  | zero =>
   simp only [zux,zzz] at hz
   subst hz
   exact ⟨y,rfl,hy⟩
  | succ i =>
   obtain ⟨u,hu,hP⟩:=hys i z (by simpa using hz)
   exact ⟨u,by simpa using hu,hP⟩
theorem aUh {α β γ : Type} {f : α → γ} {g : β → γ} {xs : List α} {ys : List β} (hl : ys.length = xs.length) (h : ∀ (i : Nat) (x : α),xs[i]? = some x → ∃ y : β,ys[i]? = some y ∧ g y = f x) : ys.map g = xs.map f:=by
 refine List.ext_getElem? fun i=>?_
 rw [zvz,zvz]
 cases hx : xs[i]? with
 | none =>
  have : ys[i]? = none:=by
   rw [List.getElem?_eq_none_iff] at hx ⊢
   omega
  rw [this]; rfl
 | some x =>
  obtain ⟨y,hy,e⟩:=h i x hx
  rw [hy]
  show some (g y)=some (f x)
  rw [e]
theorem aIq {α β : Type} {Q : β → Prop} {xs : List α} {ys : List β} (hl : ys.length = xs.length) (h : ∀ (i : Nat) (x : α),xs[i]? = some x → ∃ y : β,ys[i]? = some y ∧ Q y) : ∀ y ∈ ys,Q y:=fun y hy=>by
 obtain ⟨i,hi⟩:=List.getElem?_of_mem hy
 have hlt:i < xs.length:=by rw [← hl]; exact (zzy.1 hi).1
 obtain ⟨u,hu,hQ⟩:=h i xs[i] (zyz hlt)
 rw [hi] at hu
 cases hu
 exact hQ
theorem aUi (c:List V) (l:List V):flat (V.agg c::l)=c++flat l:=rfl
theorem aUj {α : Type} {f : α → List V} {sz : Nat} (hs : ∀ x,(f x).length = sz) : ∀ {xs : List α} {i : Nat} {x : α},xs[i]? = some x → ∀ j,j < sz → (flat (xs.map fun x=>V.agg (f x)))[i * sz + j]? = (f x)[j]?
 | y::xs,0,x,h,j,hj=>by
  simp only [zux,zzz] at h
  subst h
  rw [zsx,aUi,Nat.zero_mul,Nat.zero_add,ztz (by rw [hs]; exact hj)]
 | y::xs,i+1,x,h,j,hj=>by
  rw [zsx,aUi,ztx (by rw [hs]; rw [Nat.succ_mul]; omega),hs]
  have e:(i+1)*sz+j - sz=i*sz+j:=by rw [Nat.succ_mul]; omega
  rw [e]
  exact aUj hs (by simpa using h) j hj
variable {κ:Ctx} {w w':World}
theorem aHb {α:Type} {f:α→List V} {sz:Nat} (hs:∀ x,(f x).length=sz) {xs:List α} {v:Value} (r:bW κ w.heap (.sl .ro (xs.map fun x=>V.agg (f x))) v) :
  ∃ a cap,v = .slice a xs.length cap ∧ ∃ b off,(xs ≠ [] → a = some ⟨b,off,none⟩) ∧ ∀ i x,xs[i]? = some x → ∀ j c,(f x)[j]? = some c → ∃ z,w.cell? ⟨b,off + i * sz + j,none⟩ = some z ∧ bW κ w.heap c z:=by
 rcases a42 r with ⟨he,hx,_⟩ | ⟨b,off,cap,sz',vs,hb,_,hr,hcap,_,hx⟩
 ·obtain rfl:xs=[]:=by simpa using he
  subst hx
  exact ⟨none,0,rfl,0,0,fun h=>absurd rfl h,fun i x h=>by cases h⟩
 ·subst hx
  rw [zsy]
  refine ⟨_,_,rfl,b,off,fun _=>rfl,fun i x hi j c hc=>?_⟩
  have hj:j < sz:=by rw [← hs x]; exact (zzy.1 hc).1
  have hg:=(aUj hs hi j hj).trans hc
  have hlt:i*sz+j < vs.length:=by rw [hr.1]; exact (zzy.1 hg).1
  have hz:=zyz hlt
  refine ⟨_,?_,hr.2 _ _ _ hg hz⟩
  rw [uB,Nat.add_assoc]
  exact (hb _ _ hz).2.1
theorem bC5 {xs:List Sub} {v:Value} (r:bW κ w.heap (lV xs) v):∃ a cap,v = .slice a xs.length cap∧tM w.heap.size w a 3 (xs.map b5x):=by
 obtain ⟨a,cap,rfl,b,off,ha,hc⟩:=aHb (f:=fun s:Sub=>[.str s.1,.str s.2.1,.str s.2.2]) (sz:=3) (fun _=>rfl) r
 have fY : ∀ i c,(xs.map b5x)[i]? = some c → ∀ j x,c[j]? = some x → w.cell? ⟨b,off + i * 3 + j,none⟩ = some x:=fun i c hi j x hx=>by
  rw [zvz,zyy] at hi
  obtain ⟨s,hs,rfl⟩:=hi
  match j,hx with
  | 0,hx=>cases hx; obtain ⟨z,h1,h2⟩:=hc i s hs 0 _ rfl; rw [h1,k9 h2]
  | 1,hx=>cases hx; obtain ⟨z,h1,h2⟩:=hc i s hs 1 _ rfl; rw [h1,k9 h2]
  | 2,hx=>cases hx; obtain ⟨z,h1,h2⟩:=hc i s hs 2 _ rfl; rw [h1,k9 h2]
 refine ⟨a,cap,rfl,b,off,fun hne=>?_,fY⟩
 cases xs with
 | nil=>exact absurd rfl hne
 | cons x xs=>exact ⟨ha (by simp),rL (fY 0 _ rfl 0 _ rfl)⟩
theorem bC6 {xs:List dQ} {v:Value} (r:bW κ w.heap (bT xs) v):∃ a cap,v = .slice a xs.length cap∧tM w.heap.size w a 3 (xs.map aO3):=by
 obtain ⟨a,cap,rfl,b,off,ha,hc⟩:=aHb (f:=fun s:dQ=>[vI s.1,.str s.2.1,.str s.2.2]) (sz:=3) (fun _=>rfl) r
 have fY : ∀ i c,(xs.map aO3)[i]? = some c → ∀ j x,c[j]? = some x → w.cell? ⟨b,off + i * 3 + j,none⟩ = some x:=fun i c hi j x hx=>by
  rw [zvz,zyy] at hi
  obtain ⟨s,hs,rfl⟩:=hi
  match j,hx with
  | 0,hx=>cases hx; obtain ⟨z,h1,h2⟩:=hc i s hs 0 _ rfl; rw [h1,iU h2]
  | 1,hx=>cases hx; obtain ⟨z,h1,h2⟩:=hc i s hs 1 _ rfl; rw [h1,k9 h2]
  | 2,hx=>cases hx; obtain ⟨z,h1,h2⟩:=hc i s hs 2 _ rfl; rw [h1,k9 h2]
 refine ⟨a,cap,rfl,b,off,fun hne=>?_,fY⟩
 cases xs with
 | nil=>exact absurd rfl hne
 | cons x xs=>exact ⟨ha (by simp),rL (fY 0 _ rfl 0 _ rfl)⟩
theorem bC7 {xs:List Rel} {v:Value} (r:bW κ w.heap (lW xs) v):∃ a cap,v = .slice a xs.length cap∧∃ ms:List RM,ms.length=xs.length∧ms.map erR=xs.map upR∧(∀ m ∈ ms,m.ok w.heap.size w)∧tM w.heap.size w a 3 (ms.map b5y):=by
 obtain ⟨a,cap,rfl,b,off,ha,hc⟩:=aHb (f:=fun s:Rel=>[.str s.1,lV s.2.1,bT s.2.2]) (sz:=3) (fun _=>rfl) r
 have hex : ∀ i x,xs[i]? = some x → ∃ m : RM,erR m = upR x ∧ m.ok w.heap.size w ∧ ∀ j u,(b5y m)[j]? = some u → w.cell? ⟨b,off + i * 3 + j,none⟩ = some u:=fun i x hx=>by
  obtain ⟨z0,a0,r0⟩:=hc i x hx 0 _ rfl
  obtain ⟨z1,a1,r1⟩:=hc i x hx 1 _ rfl
  obtain ⟨z2,a2,r2⟩:=hc i x hx 2 _ rfl
  obtain ⟨sa,sc,rfl,hs⟩:=bC5 r1
  obtain ⟨xa,xc,rfl,hxx⟩:=bC6 r2
  refine ⟨⟨x.1,x.2.1,x.2.2,sa,sc,xa,xc⟩,rfl,⟨hs,hxx⟩,fun j u hu=>?_⟩
  match j,hu with
  | 0,hu=>cases hu; rw [a0,k9 r0]
  | 1,hu=>cases hu; exact a1
  | 2,hu=>cases hu; exact a2
 obtain ⟨ms,hl,hms⟩:=aEi hex
 have fY : ∀ i c,(ms.map b5y)[i]? = some c → ∀ j x,c[j]? = some x → w.cell? ⟨b,off + i * 3 + j,none⟩ = some x:=fun i c hi j u hu=>by
  rw [zvz,zyy] at hi
  obtain ⟨m,hm,rfl⟩:=hi
  have hlt:i < xs.length:=by rw [← hl]; exact (zzy.1 hm).1
  obtain ⟨m',hm',_,_,h3⟩:=hms i xs[i] (zyz hlt)
  rw [hm] at hm'
  cases hm'
  exact h3 j u hu
 refine ⟨a,cap,rfl,ms,hl,aUh hl fun i x hx=>?_,aIq hl fun i x hx=>?_,b,off,fun hne=>?_,fY⟩
 ·obtain ⟨m,h1,h2,_⟩:=hms i x hx
  exact ⟨m,h1,h2⟩
 ·obtain ⟨m,h1,_,h2,_⟩:=hms i x hx
  exact ⟨m,h1,h2⟩
 ·cases ms with
  | nil=>exact absurd rfl hne
  | cons m ms =>
   refine ⟨ha fun e=>?_,rL (fY 0 _ rfl 0 _ rfl)⟩
   rw [e] at hl
   cases hl
theorem aO8 {xs:List gI} {v:Value} (r:bW κ w.heap (gQ xs) v):∃ a cap,v = .slice a xs.length cap∧∃ l:List TM,l.length=xs.length∧l.map pU=gG xs∧aBr w.heap.size w a l:=by
 obtain ⟨a,cap,rfl,b,off,ha,hc⟩:=aHb (f:=fun s:gI=>[.str s.1,lW s.2]) (sz:=2) (fun _=>rfl) r
 have hex : ∀ i x,xs[i]? = some x → ∃ m : TM,pU m = a64 x ∧ m.ok w.heap.size w ∧ ∀ j u,(bCv m)[j]? = some u → w.cell? ⟨b,off + i * 2 + j,none⟩ = some u:=fun i x hx=>by
  obtain ⟨z0,a0,r0⟩:=hc i x hx 0 _ rfl
  obtain ⟨z1,a1,r1⟩:=hc i x hx 1 _ rfl
  obtain ⟨ra,rc,rfl,ms,hl,hm,hok,hrow⟩:=bC7 r1
  refine ⟨⟨x.1,ms,ra,rc⟩,by unfold pU a64; rw [hm],⟨hrow,hok⟩,fun j u hu=>?_⟩
  match j,hu with
  | 0,hu=>cases hu; rw [a0,k9 r0]
  | 1,hu=>cases hu; rw [hl]; exact a1
 obtain ⟨ms,hl,hms⟩:=aEi hex
 have fY : ∀ i c,(ms.map bCv)[i]? = some c → ∀ j x,c[j]? = some x → w.cell? ⟨b,off + i * 2 + j,none⟩ = some x:=fun i c hi j u hu=>by
  rw [zvz,zyy] at hi
  obtain ⟨m,hm,rfl⟩:=hi
  have hlt:i < xs.length:=by rw [← hl]; exact (zzy.1 hm).1
  obtain ⟨m',hm',_,_,h3⟩:=hms i xs[i] (zyz hlt)
  rw [hm] at hm'
  cases hm'
  exact h3 j u hu
 refine ⟨a,cap,rfl,ms,hl,aUh hl fun i x hx=>?_,⟨b,off,fun hne=>?_,fY⟩,aIq hl fun i x hx=>?_⟩
 ·obtain ⟨m,h1,h2,_⟩:=hms i x hx
  exact ⟨m,h1,h2⟩
 ·cases ms with
  | nil=>exact absurd rfl hne
  | cons m ms =>
   refine ⟨ha fun e=>?_,rL (fY 0 _ rfl 0 _ rfl)⟩
   rw [e] at hl
   cases hl
 ·obtain ⟨m,h1,_,h2,_⟩:=hms i x hx
  exact ⟨m,h1,h2⟩
theorem aHc {a b:List gI} (h:gQ a=gQ b):a=b:=by
 simp only [gQ,V.sl.injEq,true_and] at h
 exact rB (fun _ _=>aG7) h
noncomputable def yH:Spec:=fG (fun ts:List gI=>[gQ ts]) (fun ts=>aAh (gG ts)) (fun ts=>vI (qI (gG ts)))
theorem aY5 {ts:List gI} (h:aAh (gG ts)):yH [gQ ts]=some (vI (qI (gG ts))):=cK (a:=ts) (fun a b h=>aHc (by simpa using h)) h
theorem aIr:cU Try.prog rT yH:=by
 refine ⟨⟨_,_,Try.func7,rfl,by kernel_rfl⟩,fun args v hv=>?_⟩
 obtain ⟨ts,rfl,hok,rfl⟩:=bO hv
 refine ⟨fun m κ w xs k r=>?_,rfl⟩
 obtain ⟨x,ys,rfl,r1,r2⟩:=r.gW
 obtain rfl:=r2.uY
 obtain ⟨a,cap,rfl,l,hl,he,hts⟩:=aO8 r1
 rw [← he] at hok ⊢
 rw [aUg]
 have:=b6a (cp:=cap) rfl (aY4 hok) hts
 rw [hl] at this
 refine this.mono ?_
 rintro e w' ⟨rfl,hb⟩
 exact ⟨_,_,rfl,aKj k hb.size hb.block hb.os hb.output,.int _ _⟩
noncomputable def tX:Spec:=fG (fun q:List gI×B8×B8=>[gQ q.1,.str q.2.1,.str q.2.2]) (fun q=>aAh (gG q.1)∧q.2.1.length≤1000∧q.2.2.length≤1000) (fun q=>.aH [vI (((tP (gG q.1) q.2).1:Nat):Int),.bool (tP (gG q.1) q.2).2])
theorem bEr {ts:List gI} {a b:B8} (h:aAh (gG ts)) (ha:a.length≤1000) (hb:b.length≤1000):tX [gQ ts,.str a,.str b]=some (.aH [vI (((tP (gG ts) (a,b)).1:Nat):Int),.bool (tP (gG ts) (a,b)).2]) :=
 cK (a:=(ts,a,b)) (fun x y h=>by
  simp only [List.cons.injEq,V.str.injEq,and_true] at h
  exact Prod.ext (aHc h.1) (Prod.ext h.2.1 h.2.2)) ⟨h,ha,hb⟩
theorem aLd:cU Try.prog pV tX:=by
 refine ⟨⟨_,_,Try.func8,rfl,by kernel_rfl⟩,fun args v hv=>?_⟩
 obtain ⟨⟨ts,t,rel⟩,rfl,⟨hok,ht,hr⟩,rfl⟩:=bO hv
 refine ⟨fun m κ w xs k r=>?_,rfl⟩
 obtain ⟨x,ys,rfl,r1,r2⟩:=r.gW
 obtain ⟨x2,ys2,rfl,r3,r4⟩:=r2.gW
 obtain ⟨x3,ys3,rfl,r5,r6⟩:=r4.gW
 obtain rfl:=r6.uY
 obtain rfl:=k9 r3
 obtain rfl:=k9 r5
 obtain ⟨a,cap,rfl,l,hl,he,hts⟩:=aO8 r1
 dsimp only at hok ⊢
 rw [← he] at hok ⊢
 rw [bC4]
 have:=b6b (cp:=cap) (t:=t) (rel:=rel) rfl (aY4 hok) hts ht hr
 rw [hl] at this
 refine this.mono ?_
 rintro e w' ⟨rfl,hb⟩
 refine ⟨_,_,rfl,aKj k hb.size hb.block hb.os hb.output,.aH _ [_,_] rfl fun i c x hc hx=>?_⟩
 match i,hc,hx with
 | 0,hc,hx=>cases hc; cases hx; exact .int _ _
 | 1,hc,hx=>cases hc; cases hx; exact .bool _
end Go.Fbs

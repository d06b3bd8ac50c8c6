import Derived.Test.YtngdbicnabbplaaPG
import Derived.Test.YtngdbicnabbplaaPA
set_option linter.unusedSimpArgs false
set_option linter.unusedVariables false
set_option linter.unusedSectionVars false
set_option maxRecDepth 100000
namespace Go.Fbs
open Go.Proofs Go.RowKit Go.Maps
variable {w w':World}
set_option maxHeartbeats 1600000 in
theorem bG2 {l : List TM} {a : Option Addr} {cp B : Nat} {t rel : B8} {i k : Nat} {ty : TM} {r : RM} (hl : aBr B w a l) (hB : B ≤ w.heap.size) (hf : a1s l) (hi : l[i]? = some ty) (ht : ty.nm = t) (hk : ty.bP[k]? = some r) (hr : r.nm = rel) :
  Calls Try.prog 20 #[.slice a l.length cp,.string ⟨⟨t⟩⟩,.string ⟨⟨rel⟩⟩] w fun e w'=>e = .returned (.tuple #[.int .i64 i,.int .i64 k])∧w'=w:=by
 have hfew:=hf.few
 have htm:=zyx hi
 have hrl:ty.bP.length≤100000:=by have:=aK8 htm; omega
 have hil:i < l.length:=(zzy.1 hi).1
 have hkl:k < ty.bP.length:=(zzy.1 hk).1
 go_enter Try.func20,Try.ntmps20
 go_wp2
 go_loopw [8] (fun v wr=>∃ j:Nat,j≤i∧v = .int .i64 j∧wr=w) (fun v _=>l.length - (jJ v).toNat)
 case atStart=>exact ⟨0,Nat.zero_le _,rfl,rfl⟩
 case round =>
  obtain ⟨j,hj,rfl,hw⟩:=hrel
  subst hw
  have hj0:(0:Int)≤(j:Int):=zrz _
  have hj1:(j:Int) < (l.length:Int):=by omega
  obtain ⟨tj,htj⟩:=jZ (show j < l.length by omega)
  obtain ⟨b,off,rfl,hb,c0,c1⟩:=hl.r.b5w (lF htj)
  have hbr:b < wr.heap.size:=by omega
  by_cases hji:j=i
  ·subst hji
   rw [hi] at htj
   cases htj
   subst ht
   go_wp2
   obtain ⟨w0,hw0⟩:∃ w0,w0=wr:=⟨_,rfl⟩
   subst hw0
   have hrow:=(hl.all _ htm).r
   obtain ⟨tn,bP,ra,rc⟩:=ty
   dsimp only at *
   go_loopw [9] (fun v wr=>∃ q:Nat,q≤k∧v = .int .i64 q∧wr=w0) (fun v _=>bP.length - (jJ v).toNat)
   case atStart=>exact ⟨0,Nat.zero_le _,rfl,rfl⟩
   case round =>
    obtain ⟨q,hq,rfl,hw⟩:=hrel
    subst hw
    have hq0:(0:Int)≤(q:Int):=zrz _
    have hq1:(q:Int) < (bP.length:Int):=by omega
    obtain ⟨rq,hrq⟩:=jZ (show q < bP.length by omega)
    obtain ⟨b2,off2,rfl,hb2,d0,d1,d2⟩:=hrow.a1r (lF hrq)
    have hb2r:b2 < wr.heap.size:=by omega
    by_cases hqk:q=k
    ·subst hqk
     rw [hk] at hrq
     cases hrq
     subst hr
     go_wp2
     go_ret2
     exact ⟨rfl,rfl⟩
    ·have hne:rq.nm≠rel:=fun e=>a5v (hf.bP _ htm) hk rq (by
      rw [List.mem_iff_getElem?]
      exact ⟨q,by rw [List.getElem?_take,if_pos (by omega)]; exact hrq⟩) (e.trans hr.symm)
     have hneb:(rq.nm == rel)=false:=by simpa using hne
     go_wp2
     exact ⟨⟨q+1,by omega,by simp,by simp⟩,by simp [jJ]; omega⟩
  ·have hne:tj.nm≠t:=fun e=>a5v hf.types hi tj (by
    rw [List.mem_iff_getElem?]
    exact ⟨j,by rw [List.getElem?_take,if_pos (by omega)]; exact htj⟩) (e.trans ht.symm)
   have hneb:(tj.nm == t)=false:=by simpa using hne
   go_wp2
   exact ⟨⟨j+1,by omega,by simp,by simp⟩,by simp [jJ]; omega⟩
theorem bC8 {l : List TM} {a b : B8} {r : RM} (h : cG l a b = some r) : ∃ (i k : Nat) (ty : TM),l[i]? = some ty ∧ ty.nm = a ∧ ty.bP[k]? = some r ∧ r.nm = b:=by
 obtain ⟨hp,hn⟩:=rX h
 obtain ⟨t,ht,e,hr⟩:=pL hp
 obtain ⟨i,hi⟩:=List.getElem?_of_mem ht
 obtain ⟨k,hk⟩:=List.getElem?_of_mem hr
 exact ⟨i,k,t,hi,e.symm,hk,hn⟩
set_option maxHeartbeats 1600000 in
theorem aUk {l:List TM} {a:Option Addr} {cp B:Nat} {t rel:B8} {r:RM} (hl:aBr B w a l) (hB:B≤w.heap.size) (hf:a1s l) (h:cG l t rel=some r) :
  Calls Try.prog 9 #[.slice a l.length cp,.string ⟨⟨t⟩⟩,.string ⟨⟨rel⟩⟩] w fun e w'=>e = .returned (.tuple #[.agg #[.string ⟨⟨r.nm⟩⟩,.slice r.sa r.aY.length r.sc,.slice r.xa r.steps.length r.xc],.bool true])∧dU w w':=by
 obtain ⟨i,k,ty,hi,ht,hk,hr⟩:=bC8 h
 clear h
 subst hr
 subst ht
 have hfew:=hf.few
 have htm:=zyx hi
 have hrl:ty.bP.length≤100000:=by have:=aK8 htm; omega
 have hil:i < l.length:=(zzy.1 hi).1
 have hkl:k < ty.bP.length:=(zzy.1 hk).1
 have hs1:=aR w (.cells #[.string ⟨#[]⟩,.slice none 0 0,.slice none 0 0] 32)
 have hcall:=bG2 (cp:=cp) (hl.iZ (hs1.iZ hB)) (by have:=hs1.size; omega) hf hi rfl hk rfl
 have hrow:=(hl.all _ htm).r
 obtain ⟨tn,bP,ra,rc⟩:=ty
 dsimp only at *
 have hi0:(0:Int)≤(i:Int):=zrz _
 have hk0:(0:Int)≤(k:Int):=zrz _
 have hi1:(i:Int) < (l.length:Int):=by omega
 have hk1:(k:Int) < (bP.length:Int):=by omega
 obtain ⟨b,off,rfl,hb,c0,c1⟩:=hl.r.b5w (lF hi)
 obtain ⟨b2,off2,rfl,hb2,d0,d1,d2⟩:=hrow.a1r (lF hk)
 have hbr:b < w.heap.size:=by omega
 have hb2r:b2 < w.heap.size:=by omega
 go_enter Try.func9,Try.ntmps9
 go_wp2_with (go_at_call 20; refine hcall.mono ?_; rintro e w5 ⟨rfl,rfl⟩)
 obtain ⟨X,hX⟩:∃ X,X=w.alloc (.cells #[.string ⟨⟨r.nm⟩⟩,.slice r.sa r.aY.length r.sc,.slice r.xa r.steps.length r.xc] 32):=⟨_,rfl⟩
 have hs:dU w X:=by rw [hX]; exact aR _ _
 have y0 : X.cell? ⟨w.heap.size,0,none⟩ = some (.string ⟨⟨r.nm⟩⟩):=by rw [hX]; go_simp
 have y1 : X.cell? ⟨w.heap.size,1,none⟩ = some (.slice r.sa r.aY.length r.sc):=by rw [hX]; go_simp
 have y2 : X.cell? ⟨w.heap.size,2,none⟩ = some (.slice r.xa r.steps.length r.xc):=by rw [hX]; go_simp
 rw [← hX]
 clear hX hcall
 have hld:Sem.run Try.prog (loadCellsFrom ⟨w.heap.size,0,none⟩ 0 3 #[]) X = .ok #[.string ⟨⟨r.nm⟩⟩,.slice r.sa r.aY.length r.sc,.slice r.xa r.steps.length r.xc] X :=
  run_loadCellsFrom_list _ X _ [.string ⟨⟨r.nm⟩⟩,.slice r.sa r.aY.length r.sc,.slice r.xa r.steps.length r.xc] 3 rfl (fun j v hj=>by
   match j,hj with
   | 0,hj=>cases hj; exact y0
   | 1,hj=>cases hj; exact y1
   | 2,hj=>cases hj; exact y2)
 have hres:∀ tmps:Array Value,tmps.getD 6 undef = .pointer (some ⟨w.heap.size,0,none⟩)→tmps.getD 7 undef = .bool true→Sem.run Try.prog (results Try.f9 tmps) X = .ok (.tuple #[.agg #[.string ⟨⟨r.nm⟩⟩,.slice r.sa r.aY.length r.sc,.slice r.xa r.steps.length r.xc],.bool true]) X:=fun tmps e e2=>by
  rw [results_cell_tmp (p:=6) (u:=7) (ty:=32) rfl tmps Try.prog X,e,e2]
  simp [asAddr,loadVar,Try.isAgg32,Try.sizeOf32,loadCells,hld,Result.andThen]
 exact ⟨rfl,_,hres _ rfl rfl,rfl,hs⟩
end Go.Fbs
namespace Go.Fbs
open Go.Proofs
end Go.Fbs
namespace Go.Fbs
inductive Tr where
 | nm (a:List UInt8)
 | ar (a b:List UInt8)
 | op (k:Int) (x y:Tr)
def Tr.ok:Tr→Prop
 | .nm _=>True
 | .ar _ _=>True
 | .op k x y=>(3≤k∧k≤5)∧x.ok∧y.ok
def Tr.steps:Tr→List dQ
 | .nm a=>[(1,a,[])]
 | .ar a b=>[(2,a,b)]
 | .op k x y=>x.steps++(y.steps++[(k,[],[])])
end Go.Fbs
namespace Go.Fbs
open Go.Proofs Go.RowKit Go.Maps
variable {w w':World}
theorem aLe:∀ t:Tr,0 < t.steps.length
 | .nm _=>by simp [Tr.steps]
 | .ar _ _=>by simp [Tr.steps]
 | .op _ x y=>by simp [Tr.steps]; omega
set_option maxHeartbeats 1600000 in
theorem aEj {xa:Option Addr} {xc B:Nat} {w:World} (hB:B≤w.heap.size):∀ (t:Tr) (pre post:List dQ),t.ok→tM B w xa 3 ((pre++t.steps++post).map aO3)→(pre++t.steps++post).length≤1000→∀ e:Nat,e+1=pre.length+t.steps.length →
  Calls Try.prog 24 #[.slice xa (pre++t.steps++post).length xc,.int .i64 e] w fun en w'=>en = .returned (.int .i64 (pre.length:Int))∧w'=w
 | .nm a,pre,post,_,hrow,hl,e,he=>by
  have hg : (pre ++ (Tr.nm a).steps ++ post)[e]? = some (1,a,[]):=by
   obtain rfl:e=pre.length:=by simp [Tr.steps] at he; omega
   simp [Tr.steps]
  have hlt:e < (pre++(Tr.nm a).steps++post).length:=(zzy.1 hg).1
  obtain rfl:e=pre.length:=by simp [Tr.steps] at he; omega
  generalize pre++(Tr.nm a).steps++post=xs at hrow hl hg hlt
  obtain ⟨b,off,rfl,hb,d0,d1,d2⟩:=hrow.a1r (lF hg)
  have hbr:b < w.heap.size:=by omega
  have h0:(0:Int)≤(pre.length:Int):=zrz _
  have h1:(pre.length:Int) < (xs.length:Int):=by omega
  go_enter Try.func24,Try.ntmps24
  go_wp2
  go_ret
  exact ⟨rfl,rfl⟩
 | .ar a c,pre,post,_,hrow,hl,e,he=>by
  have hg : (pre ++ (Tr.ar a c).steps ++ post)[e]? = some (2,a,c):=by
   obtain rfl:e=pre.length:=by simp [Tr.steps] at he; omega
   simp [Tr.steps]
  have hlt:e < (pre++(Tr.ar a c).steps++post).length:=(zzy.1 hg).1
  obtain rfl:e=pre.length:=by simp [Tr.steps] at he; omega
  generalize pre++(Tr.ar a c).steps++post=xs at hrow hl hg hlt
  obtain ⟨b,off,rfl,hb,d0,d1,d2⟩:=hrow.a1r (lF hg)
  have hbr:b < w.heap.size:=by omega
  have h0:(0:Int)≤(pre.length:Int):=zrz _
  have h1:(pre.length:Int) < (xs.length:Int):=by omega
  go_enter Try.func24,Try.ntmps24
  go_wp2
  go_ret
  exact ⟨rfl,rfl⟩
 | .op kd x y,pre,post,⟨hk,hox,hoy⟩,hrow,hl,e,he=>by
  have hx:=aLe x
  have hy:=aLe y
  have hsl:(Tr.op kd x y).steps.length=x.steps.length+(y.steps.length+1):=by simp [Tr.steps]
  have e1:pre++(Tr.op kd x y).steps++post=(pre++x.steps)++y.steps++((kd,[],[])::post):=by simp [Tr.steps]
  have e2:pre++(Tr.op kd x y).steps++post=pre++x.steps++(y.steps++(kd,[],[])::post):=by simp [Tr.steps]
  have hg : (pre ++ (Tr.op kd x y).steps ++ post)[e]? = some (kd,[],[]):=by
   rw [e1,ztx (by simp; omega)]
   have:e - ((pre++x.steps)++y.steps).length=0:=by simp; omega
   rw [this]; rfl
  have hlt:e < (pre++(Tr.op kd x y).steps++post).length:=(zzy.1 hg).1
  obtain ⟨m,hm⟩:∃ m,m=pre.length+x.steps.length:=⟨_,rfl⟩
  have ihy:=aEj (xc:=xc) hB y (pre++x.steps) ((kd,[],[])::post) hoy (by rw [← e1]; exact hrow) (by rw [← e1]; exact hl) (e - 1) (by simp; omega)
  have ihx:=aEj (xc:=xc) hB x pre (y.steps++(kd,[],[])::post) hox (by rw [← e2]; exact hrow) (by rw [← e2]; exact hl) (m - 1) (by omega)
  rw [← e1] at ihy
  rw [← e2] at ihx
  rw [show (pre++x.steps).length=m by rw [zwy,hm]] at ihy
  rw [show ((e - 1:Nat):Int)=(e:Int) - 1 by omega] at ihy
  rw [show ((m - 1:Nat):Int)=(m:Int) - 1 by omega] at ihx
  have m0:(0:Int)≤(m:Int) - 1:=by omega
  have m1:(1:Int)≤(m:Int):=by omega
  have f0:(0:Int)≤(e:Int) - 1:=by omega
  have f1:(1:Int)≤(e:Int):=by omega
  have m9:m≤1000:=by omega
  have f9:e≤1000:=by omega
  clear e1 e2 hm he hsl
  generalize pre++(Tr.op kd x y).steps++post=xs at hrow hl hg hlt ihx ihy
  obtain ⟨b,off,rfl,hb,d0,d1,d2⟩:=hrow.a1r (lF hg)
  have hbr:b < w.heap.size:=by omega
  have h0:(0:Int)≤(e:Int):=zrz _
  have h1:(e:Int) < (xs.length:Int):=by omega
  have hk1:(kd == 1)=false:=by simp; omega
  have hk2:(kd == 2)=false:=by simp; omega
  go_enter Try.func24,Try.ntmps24
  go_wp2_with (first
   | (go_at_call 24; refine ihy.mono ?_; rintro en w5 ⟨rfl,hw5⟩; clear ihy; subst hw5)
   | (go_at_call 24; refine ihx.mono ?_; rintro en w5 ⟨rfl,rfl⟩))
  go_ret
  exact ⟨rfl,rfl⟩
end Go.Fbs
namespace Go.Fbs
open Go.Proofs Go.RowKit Go.Maps
variable {w w':World}
abbrev Dy:=B8×B8×Bool
def dyC (q:Dy):List Value:=[.string ⟨⟨q.1⟩⟩,.string ⟨⟨q.2.1⟩⟩,.bool q.2.2]
def zQ (ws:List Dy):List Value:=ws.flatMap dyC
theorem aDc (a b:List Dy):zQ (a++b)=zQ a++zQ b:=by simp [zQ]
def a3a (base:Nat) (w:World) (v:Value) (ws:List Dy):Prop:=w.ownsRow base 48 3 v ws.length (zQ ws)
theorem Try.bJm : (Try.prog.info? 48).map (fun i=>(i.zero,i.size,i.bytes)) = some (some (.agg #[.string ⟨#[]⟩,.string ⟨#[]⟩,.bool false]),3,40):=by kernel_rfl
theorem Try.bL3 : (Try.prog.info? 4).map (fun i=>(i.zero,i.size,i.bytes)) = some (some (.bool false),1,1):=by kernel_rfl
theorem aMv (w : World) (a b : ByteArray) (k : Bool) : ∀ j u,[Value.string a,.string b,.bool k][j]? = some u → (w.alloc (.cells #[.string a,.string b,.bool k] 48)).cell? ((⟨w.heap.size,0,none⟩ : Addr).add j) = some u :=
 World.news_of_block (cs:=#[.string a,.string b,.bool k]) (heap_alloc_new w _)
theorem aQ7 (a b:ByteArray) (k:Bool):∀ u ∈ [Value.string a,.string b,.bool k],u.oneCell'=true:=by
 intro u hu
 simp only [List.mem_cons,List.not_mem_nil,or_false] at hu
 rcases hu with rfl | rfl | rfl <;> rfl
def lL (ss:List Sub):List Dy:=(ss.filter fun s=>!s.2.2.isEmpty).map fun s=>(s.1,s.2.2,false)
def a2j:Option dQ→Bool
 | some x=>decide (x.1=4)
 | none=>false
def cW (xs : List dQ) (bg : Nat → Nat) (i j : Nat) : Bool:=(List.range i).any fun p=>a2j xs[p]? && decide (bg p ≤ j) && decide (j < p)
theorem b6c (xs : List dQ) (bg : Nat → Nat) (i j : Nat) {x : dQ} (h : xs[i]? = some x) : cW xs bg (i + 1) j = (cW xs bg i j || (decide (x.1 = 4) && decide (bg i ≤ j) && decide (j < i))):=by
 unfold cW
 rw [List.range_succ,List.any_append]
 simp [h,a2j]
def rN (l:List TM) (typ:B8) (x:dQ) (b:Bool):List Dy :=
 if x.1=1 then [(typ,x.2.1,b)] else if x.1=2 then (typ,x.2.1,b)::(nI l typ x.2.1).map fun s=>(s.1,x.2.2,b) else []
def pM (l:List TM) (typ:B8) (xs:List dQ) (f:Nat→Bool):List Dy:=(xs.zipIdx).flatMap fun p=>rN l typ p.1 (f p.2)
def wU (l:List TM) (typ:B8) (r:RM) (bg:Nat→Nat):List Dy:=lL r.aY++pM l typ r.steps (cW r.steps bg r.steps.length)
theorem b1n {l : List TM} {typ : B8} {xs : List dQ} {f : Nat → Bool} {i : Nat} {x : dQ} (h : xs[i]? = some x) : pM l typ (xs.take (i + 1)) f = pM l typ (xs.take i) f ++ rN l typ x (f i):=by
 unfold pM
 rw [l4 h,List.zipIdx_append,List.flatMap_append]
 have hl:(xs.take i).length=i:=by
  rw [List.length_take]
  have:=(zzy.1 h).1
  omega
 simp [hl]
theorem aDd {w w':World} {base base':Nat} {e e':TypeId} {size size' n n':Nat} {v v':Value} {xs ys:List Value} (h:w.ownsRow base e size v n xs) (ho:w.ownsRow base' e' size' v' n' ys) (hne:e≠e') (hg:w.grownBy w' v'.ownBlock):w'.ownsRow base e size v n xs:=by
 refine World.ownsRow.kept h hg ?_
 cases hu:v.ownBlock with
 | none=>exact .inl rfl
 | some q =>
  refine .inr fun h2=>?_
  obtain ⟨_,c1,h3⟩:=aBt h hu
  obtain ⟨_,c2,h4⟩:=aBt ho h2.symm
  rw [h3] at h4
  simp only [zzz,Obj.cells.injEq] at h4
  exact hne h4.2.1
def qR (n:Nat) (f:Nat→Bool):List Value:=(List.range n).map fun j=>.bool (f j)
theorem aBx {n j : Nat} {f : Nat → Bool} (h : j < n) : (qR n f)[j]? = some (.bool (f j)):=by
 unfold qR
 rw [zvz,List.getElem?_range h]
 rfl
theorem b9t {n q:Nat} {f g:Nat→Bool} (hq:q < n) (h1:g q=true) (h2:∀ j,j < n→j≠q→g j=f j):(qR n f).set q (.bool true)=qR n g:=by
 refine List.ext_getElem? fun j=>?_
 rcases Nat.lt_or_ge j n with hj | hj
 ·rw [aBx hj]
  by_cases e:j=q
  ·subst e
   rw [List.getElem?_set_self (by simp [qR]; exact hq),h1]
  ·rw [List.getElem?_set_ne (fun h=>e h.symm),aBx hj,h2 j hj e]
 ·rw [List.getElem?_eq_none (by simp [qR]; exact hj),List.getElem?_eq_none (by simp [qR]; exact hj)]
theorem aLf {n:Nat} {f g:Nat→Bool} (h:∀ j,j < n→f j=g j):qR n f=qR n g:=by
 unfold qR
 refine List.map_congr_left fun j hj=>?_
 rw [h j (List.mem_range.1 hj)]
end Go.Fbs

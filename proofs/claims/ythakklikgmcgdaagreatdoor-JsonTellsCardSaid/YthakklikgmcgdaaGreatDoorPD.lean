import Derived.Test.YthakklikgmcgdaaGreatDoorXK
import Derived.Test.YthakklikgmcgdaaGreatDoorXL
set_option linter.unusedSimpArgs false
set_option linter.unusedVariables false
set_option linter.unusedSectionVars false
set_option maxRecDepth 100000
namespace Go.Fbs
open Go.Proofs Go.RowKit
structure kD (p:aE) (pre rest:List UInt8):Prop where
 s:p.s=pre++rest
 a:p.a=pre.length
 e:p.e=0
def mv (p:aE) (k:Nat):aE:={ p with a:=p.a+k }
theorem aB2 (p:aE) (a b:Nat):mv (mv p a) b=mv p (a+b):=by unfold mv; congr 1; simp [Int.add_assoc]
theorem a61 (p:aE):mv p 0=p:=by unfold mv; simp
theorem aFq (p:aE):fI p=mv p 1:=rfl
theorem kD.go {p:aE} {pre x rest:List UInt8} (h:kD p pre (x++rest)):kD (mv p x.length) (pre++x) rest :=
 ⟨by rw [List.append_assoc]; exact h.s,by show p.a+x.length=_; rw [h.a,List.length_append]; omega,h.e⟩
theorem kD.drop {p:aE} {pre rest:List UInt8} (h:kD p pre rest):p.s.drop p.a.toNat=rest:=by
 rw [h.s,h.a,Int.toNat_natCast]; simp
theorem kD.here {p:aE} {pre rest:List UInt8} (h:kD p pre rest):dU p=rest.getD 0 0:=by
 unfold dU
 rw [h.s,h.a,Int.toNat_natCast,List.getD_eq_getElem?_getD,List.getD_eq_getElem?_getD,List.getElem?_append_right (Nat.le_refl _),Nat.sub_self]
theorem kD.end_ {p:aE} {pre rest:List UInt8} (h:kD p pre rest) (c:List UInt8):lE p.s p.a c=p.a+((rest.length:Int) - ((p8 rest c).length:Int)):=by
 unfold lE
 rw [h.drop,h.s,h.a,List.length_append]; omega
theorem aLu {c x rest:List UInt8} (hx:∀ b ∈ x,c.contains b=true) (hr:∀ b r,rest=b::r→c.contains b=false):p8 (x++rest) c=rest:=by
 induction x with
 | nil =>
  unfold p8
  cases rest with
  | nil=>rfl
  | cons b r=>rw [List.nil_append,List.dropWhile_cons,if_neg (by rw [hr b r rfl]; decide)]
 | cons b x ih =>
  unfold p8 at ih ⊢
  rw [List.cons_append,List.dropWhile_cons,if_pos (hx b (List.mem_cons_self ..))]
  exact ih fun b' h'=>hx b' (List.mem_cons_of_mem _ h')
theorem kD.skip {p:aE} {pre x rest:List UInt8} (h:kD p pre (x++rest)) (hx:∀ b ∈ x,kJ.contains b=true) (hr:∀ b r,rest=b::r→kJ.contains b=false):aF p=mv p x.length:=by
 show ({ p with a:=lE p.s p.a kJ } : aE)=_
 rw [h.end_,aLu hx hr]
 unfold mv
 congr 1
 rw [List.length_append]; omega
theorem kD.b23 {p:aE} {pre rest:List UInt8} (h:kD p pre rest) (hr:∀ b r,rest=b::r→kJ.contains b=false):aF p=p:=by
 have:=kD.skip (x:=[]) h (fun b hb=>by cases hb) hr
 rw [this]; exact a61 p
theorem kD.run {p:aE} {pre x rest:List UInt8} (h:kD p pre (x++rest)) (h0:x≠[]) (hx:∀ b ∈ x,eY.contains b=true) (hr:∀ b r,rest=b::r→eY.contains b=false):runM p=mv p x.length:=by
 have he:lE p.s p.a eY=p.a+x.length:=by
  rw [h.end_,aLu hx hr,List.length_append]; omega
 have hl:0 < x.length:=List.length_pos_iff.2 h0
 unfold runM
 rw [he,if_neg (by omega)]; rfl
theorem kD.hb {p:aE} {pre r:List UInt8} {c:UInt8} (h:kD p pre (c::r)):hI p=c.toNat:=by
 unfold hI; rw [h.here]; rfl
theorem kD.b1s {p:aE} {pre:List UInt8} (h:kD p pre []):hI p=0:=by
 unfold hI; rw [h.here]; rfl
def a5x (d:List UInt8):Prop:=d≠[]∧∀ c ∈ d,eY.contains c=true
def aQ1 (s:List UInt8):Prop:=∃ sg i f x:List UInt8,s=sg++(i++(f++x))∧(sg=[]∨sg=[45])∧(i=[48]∨(a5x i∧∀ r,i≠48::r))∧(f=[]∨∃ d,f=46::d∧a5x d) ∧
 (x=[]∨∃ c sg2 d,x=c::(sg2++d)∧(c=101∨c=69)∧(sg2=[]∨sg2=[43]∨sg2=[45])∧a5x d)
def Stop (rest:List UInt8):Prop:=∀ b r,rest=b::r→eY.contains b=false∧b≠46∧b≠101∧b≠69
theorem a5x.open {d:List UInt8} (h:a5x d):∃ c r,d=c::r∧eY.contains c=true:=by
 cases d with
 | nil=>exact absurd rfl h.1
 | cons c r=>exact ⟨c,r,rfl,h.2 c (List.mem_cons_self ..)⟩
theorem toNat_inj {c:UInt8} {n:UInt8} (h:(c.toNat:Int)=(n.toNat:Int)):c=n:=UInt8.toNat_inj.1 (by omega)
end Go.Fbs

namespace Go.Fbs
open Go.Proofs Go.RowKit
def Asc (t:List UInt8):Prop:=∀ c ∈ t,c.toNat < 128
theorem a0l (t:List UInt8):(iQ t).length=(t.flatMap jR).length+2:=by unfold iQ; simp
theorem a62:∀ t:List UInt8,t.length≤(t.flatMap jR).length
 | []=>Nat.le_refl _
 | c::t=>by
  have h1:=a62 t
  have h2:1≤(jR c).length:=by unfold jR; split; simp; split <;> simp
  rw [List.flatMap_cons,List.length_append,List.length_cons]; omega
end Go.Fbs

namespace Go.Fbs
open Go.Proofs Go.RowKit
def cW:List (List UInt8)→List UInt8
 | []=>[]
 | [x]=>x
 | x::y::r=>x++[44]++cW (y::r)
def aA9 (v:V) (x:List UInt8):Prop :=
 (v=jn 1 [] [] []∧x=[110,117,108,108])∨(v=jn 2 [] [] []∧x=[102,97,108,115,101])∨(v=jn 3 [] [] []∧x=[116,114,117,101])∨(aQ1 x∧v=jn 4 x [] [])∨∃ t,Asc t∧v=jn 5 t [] []∧x=iQ t
def Wf:Nat→V→List UInt8→Prop
 | 0,v,x=>aA9 v x
 | n+1,v,x=>aA9 v x∨(∃ l:List (V×List UInt8),(∀ q ∈ l,Wf n q.1 q.2)∧v=jn 6 [] [] (l.map (·.1))∧x=[91]++cW (l.map (·.2))++[93]) ∨
  (∃ l:List (List UInt8×V×List UInt8),(∀ q ∈ l,Asc q.1∧Wf n q.2.1 q.2.2)∧(l.map (·.1)).Nodup∧v=jn 7 [] ((l.map (·.1)).map V.str) (l.map (·.2.1))∧x=[123]++cW (l.map fun q=>iQ q.1++[58]++q.2.2)++[125])
def vQ (x:List UInt8):Prop:=∃ c r,x=c::r∧kJ.contains c=false∧c≠44∧c≠93∧c≠125
theorem aId {x:List UInt8} (h:aQ1 x):∃ c r,x=c::r∧(c=45∨eY.contains c=true):=by
 obtain ⟨sg,i,f,x,rfl,hsg,hi,_,_⟩:=h
 rcases hsg with rfl | rfl
 ·rcases hi with rfl | ⟨hd,_⟩
  ·exact ⟨48,_,rfl,.inr (by decide)⟩
  ·obtain ⟨c,r,rfl,hc⟩:=hd.open
   exact ⟨c,_,rfl,.inr hc⟩
 ·exact ⟨45,_,rfl,.inl rfl⟩
theorem aTn {c:UInt8} (h:eY.contains c=true):c=48∨c=49∨c=50∨c=51∨c=52∨c=53∨c=54∨c=55∨c=56∨c=57:=by
 have:c ∈ eY:=by simpa using h
 simpa only [eY,List.mem_cons,List.not_mem_nil,or_false] using this
theorem aFr {v:V} {x:List UInt8} (h:aA9 v x):vQ x:=by
 rcases h with ⟨_,rfl⟩ | ⟨_,rfl⟩ | ⟨_,rfl⟩ | ⟨h,_⟩ | ⟨t,_,_,rfl⟩
 ·exact ⟨_,_,rfl,by decide,by decide,by decide,by decide⟩
 ·exact ⟨_,_,rfl,by decide,by decide,by decide,by decide⟩
 ·exact ⟨_,_,rfl,by decide,by decide,by decide,by decide⟩
 ·obtain ⟨c,r,rfl,hc⟩:=aId h
  refine ⟨c,r,rfl,?_⟩
  rcases hc with rfl | hc
  ·exact ⟨by decide,by decide,by decide,by decide⟩
  ·rcases aTn hc with rfl | rfl | rfl | rfl | rfl | rfl | rfl | rfl | rfl | rfl <;> exact ⟨by decide,by decide,by decide,by decide⟩
 ·exact ⟨34,_,rfl,by decide,by decide,by decide,by decide⟩
theorem aD2:∀ {n:Nat} {v:V} {x:List UInt8},Wf n v x→vQ x
 | 0,_,_,h=>aFr h
 | n+1,_,_,h=>by
  rcases h with h | ⟨l,_,_,rfl⟩ | ⟨l,_,_,_,rfl⟩
  ·exact aFr h
  ·exact ⟨91,_,rfl,by decide,by decide,by decide,by decide⟩
  ·exact ⟨123,_,rfl,by decide,by decide,by decide,by decide⟩
structure Bd (n:Nat) (p:aE):Prop where
 s:p.s.length≤200000
 d0:0≤p.d
 d:p.d+n≤20
inductive Run {A:Type} (S:A→List UInt8→A→Prop):List (List UInt8)→A→A→Prop
 | nil (a:A):Run S [] a a
 | cons {y:List UInt8} {ys:List (List UInt8)} {a b c:A} (h:S a y b) (r:Run S ys b c):Run S (y::ys) a c
end Go.Fbs

namespace Go.Fbs
open Go.Proofs Go.RowKit
theorem xC:∀ (ys:List (List UInt8)),(∀ y ∈ ys,vQ y)→ys.length≤(cW ys).length
 | [],_=>Nat.zero_le _
 | [y],h=>by
  obtain ⟨c,r,e,_⟩:=h y (by simp)
  show 1≤y.length
  rw [e]; simp
 | x::y::r,h=>by
  have:=xC (y::r) fun z hz=>h z (List.mem_cons_of_mem _ hz)
  simp only [cW,List.length_append,List.length_cons,List.length_nil] at this ⊢
  omega
def aWq (n:Nat) (a:List V) (y:List UInt8) (b:List V):Prop:=∃ v,Wf n v y∧b=a++[v]∧a.length≤100000000
def aWr (n:Nat) (a:qR) (y:List UInt8) (b:qR):Prop:=∃ key v x,Asc key∧Wf n v x∧y=iQ key++[58]++x∧key ∉ a.seen∧b=⟨a.keys++[key],a.ls++[v],key::a.seen⟩∧key.length≤1000000000∧a.seen.length≤100000000∧a.keys.length≤100000000∧a.ls.length≤100000000
theorem a3u:∀ {ys:List (List UInt8)} {y:List UInt8},y ∈ ys→y.length≤(cW ys).length
 | [x],y,h=>by (have e:y=x:=by simpa using h); rw [e]; exact Nat.le_refl _
 | x::z::r,y,h=>by
  simp only [cW,List.length_append]
  rcases List.mem_cons.1 h with rfl | h
  ·omega
  ·have:=a3u h; omega
end Go.Fbs

namespace Go.Fbs
open Go.Proofs Go.RowKit
def a2t (ys:List (List UInt8)):List UInt8:=ys.flatMap (44 :: ·)
theorem join_cons:∀ (y:List UInt8) (ys:List (List UInt8)),cW (y::ys)=y++a2t ys
 | y,[]=>by simp [cW,a2t]
 | y,z::ys=>by
  have:=join_cons z ys
  simp only [cW,this,a2t,List.flatMap_cons,List.append_assoc,List.cons_append,List.nil_append]
theorem aC9 {f:Nat→List UInt8→Option (List UInt8)} {ys:List (List UInt8)} (hf:∀ i m,(h:i < ys.length)→(m++ys[i]).length≤200000→f i m=some (m++ys[i])):∀ (r i:Nat) (m:List UInt8),0 < i→i+r=ys.length→(m++a2t (ys.drop i)).length≤200000→uO f r i m=some (m++a2t (ys.drop i))
 | 0,i,m,_,hi,_=>by rw [List.drop_of_length_le (by omega)]; simp [uO,a2t]
 | r+1,i,m,h0,hi,hl=>by
  have hlt:i < ys.length:=by omega
  have e:a2t (ys.drop i)=44::(ys[i]++a2t (ys.drop (i+1))):=by unfold a2t; rw [List.drop_eq_getElem_cons hlt,List.flatMap_cons]; rfl
  rw [e] at hl ⊢
  simp only [List.length_append,List.length_cons] at hl
  rw [uO,if_pos (by omega),if_pos h0,hf i (m++[44]) hlt (by simp only [List.length_append,List.length_cons,List.length_nil]; omega)]
  dsimp only
  rw [aC9 hf r (i+1) _ (by omega) (by omega) (by simp only [List.length_append,List.length_cons,List.length_nil]; omega)]
  simp
theorem aOi {f:Nat→List UInt8→Option (List UInt8)} {ys:List (List UInt8)} (hf:∀ i m,(h:i < ys.length)→(m++ys[i]).length≤200000→f i m=some (m++ys[i])) {x y:UInt8} {n:Nat} (hn:n=ys.length) (hn2:n≤1000000000) {l:List UInt8} (hl:(l++([x]++cW ys++[y])).length≤200000):joM f x y n l=some (l++([x]++cW ys++[y])):=by
 subst hn
 have hl2:=hl
 simp only [List.length_append,List.length_cons,List.length_nil] at hl2
 unfold joM
 rw [if_pos ⟨by omega,hn2⟩]
 unfold aJb
 have hgo:uO f ys.length 0 (l++[x])=some (l++[x]++cW ys):=by
  cases ys with
  | nil=>simp [uO,cW]
  | cons z ys =>
   rw [join_cons] at hl2 ⊢
   simp only [List.length_append] at hl2
   rw [List.length_cons,uO,if_pos (by simp only [List.length_append,List.length_cons,List.length_nil]; omega),if_neg (Nat.lt_irrefl 0),hf 0 (l++[x]) (by simp) (by simp only [List.length_append,List.length_cons,List.length_nil,List.getElem_cons_zero]; omega)]
   dsimp only
   have:=aC9 hf ys.length 1 (l++[x]++z) (by omega) (by simp; omega) (by simp only [List.length_append,List.length_cons,List.length_nil,List.drop_succ_cons,List.drop_zero]; omega)
   simp only [List.getElem_cons_zero] at this ⊢
   rw [this]; simp
 rw [hgo]
 dsimp only
 rw [if_pos (by simp only [List.length_append,List.length_cons,List.length_nil]; omega)]
 simp
theorem aIe (f:Nat) {v:V} {x l:List UInt8} (h:aA9 v x) (hl:(l++x).length≤200000):mY (f+1) l v=some (l++x):=by
 rw [List.length_append] at hl
 rcases h with ⟨rfl,rfl⟩ | ⟨rfl,rfl⟩ | ⟨rfl,rfl⟩ | ⟨hn,rfl⟩ | ⟨t,ha,rfl,rfl⟩
 ·rw [uP,if_neg (by omega)]; rfl
 ·rw [uP,if_neg (by omega)]; rfl
 ·rw [uP,if_neg (by omega)]; rfl
 ·rw [uP,if_neg (by omega),if_pos (by omega),if_neg (by decide),if_neg (by decide),if_neg (by decide),if_pos rfl]
 ·have h1:=a62 t
  have h2:=a0l t
  rw [uP,if_neg (by omega),if_pos (by omega),if_neg (by decide),if_neg (by decide),if_neg (by decide),if_neg (by decide),if_pos rfl]
theorem aLv:∀ (n:Nat) (v:V) (x:List UInt8),Wf n v x→∀ f,n < f→∀ l,(l++x).length≤200000→mY f l v=some (l++x)
 | 0,v,x,h,0,hf,_,_=>absurd hf (Nat.lt_irrefl 0)
 | 0,v,x,h,f+1,_,l,hl=>aIe f h hl
 | n+1,v,x,h,0,hf,_,_=>absurd hf (by omega)
 | n+1,v,x,h,f+1,hf,l,hl=>by
  have hM:=fun v x hw=>aLv n v x hw f (by omega)
  rcases h with h | ⟨q,hq,rfl,rfl⟩ | ⟨q,hq,hnd,rfl,rfl⟩
  ·exact aIe f h hl
  ·have hfo:∀ y ∈ q.map (·.2),vQ y:=fun y hy=>by
    obtain ⟨z,hz,rfl⟩:=List.mem_map.1 hy
    exact aD2 (hq z hz)
   have hjl:=xC _ hfo
   have hl2:=hl
   simp only [List.length_append,List.length_cons,List.length_nil,List.length_map] at hl2 hjl
   rw [uP,if_neg (by omega),if_pos (by simp),if_neg (by decide),if_neg (by decide),if_neg (by decide),if_neg (by decide),if_neg (by decide),if_pos rfl]
   refine aOi (fun i m hi hm=>?_) (by simp) (by simp; omega) hl
   have hi':i < q.length:=by simpa using hi
   simp only [List.getElem_map] at hm ⊢
   show ((q.map (·.1))[i]?).bind (mY f m)=_
   rw [List.getElem?_map,List.getElem?_eq_getElem hi']
   exact hM _ _ (hq _ (List.getElem_mem hi')) m hm
  ·have hfo:∀ y ∈ q.map (fun q=>iQ q.1++[58]++q.2.2),vQ y:=fun y hy=>by
    obtain ⟨z,hz,rfl⟩:=List.mem_map.1 hy
    exact ⟨34,_,rfl,by decide,by decide,by decide,by decide⟩
   have hjl:=xC _ hfo
   have hl2:=hl
   simp only [List.length_append,List.length_cons,List.length_nil,List.length_map] at hl2 hjl
   rw [uP,if_neg (by omega),if_pos (by simp),if_neg (by decide),if_neg (by decide),if_neg (by decide),if_neg (by decide),if_neg (by decide),if_neg (by decide),if_pos rfl]
   refine aOi (fun i m hi hm=>?_) (by simp) (by simp; omega) hl
   have hi':i < q.length:=by simpa using hi
   have hqi:=hq _ (List.getElem_mem hi')
   simp only [List.getElem_map] at hm ⊢
   have h1:=a62 q[i].1
   have h2:=a0l q[i].1
   have hm2:=hm
   simp only [List.length_append,List.length_cons,List.length_nil] at hm2
   show (match ((q.map (·.1)).map V.str)[i]?,(q.map (·.2.1))[i]? with
    | some (.str key),some e=>if m.length≤500000000∧key.length≤50000000∧(m++iQ key).length≤500000000 then mY f (m++iQ key++[58]) e else none
    | _,_=>none)=_
   rw [List.getElem?_map,List.getElem?_map,List.getElem?_map,List.getElem?_eq_getElem hi']
   dsimp only [Option.map_some]
   rw [if_pos ⟨by omega,by omega,by rw [List.length_append]; omega⟩,hM _ _ hqi.2 _ (by simp only [List.length_append,List.length_cons,List.length_nil]; omega)]
   simp
theorem aFs (k:Int) (t:List UInt8) (n:Nat):Deep (n+1) (jn k t [] []):=⟨k,t,[],[],rfl,by decide,by decide,fun e h=>by cases h⟩
theorem aB3:∀ (n:Nat) (v:V) (x:List UInt8),Wf n v x→x.length≤200000→Deep (n+1) v
 | 0,v,x,h,_=>by
  rcases h with ⟨rfl,_⟩ | ⟨rfl,_⟩ | ⟨rfl,_⟩ | ⟨_,rfl⟩ | ⟨t,_,rfl,_⟩ <;> exact aFs _ _ _
 | n+1,v,x,h,hl=>by
  rcases h with h | ⟨q,hq,rfl,rfl⟩ | ⟨q,hq,hnd,rfl,rfl⟩
  ·rcases h with ⟨rfl,_⟩ | ⟨rfl,_⟩ | ⟨rfl,_⟩ | ⟨_,rfl⟩ | ⟨t,_,rfl,_⟩ <;> exact aFs _ _ _
  ·have hfo:∀ y ∈ q.map (·.2),vQ y:=fun y hy=>by
    obtain ⟨z,hz,rfl⟩:=List.mem_map.1 hy
    exact aD2 (hq z hz)
   have hjl:=xC _ hfo
   simp only [List.length_append,List.length_cons,List.length_nil,List.length_map] at hl hjl
   refine ⟨6,[],[],_,rfl,by simp,by simp; omega,fun e he=>?_⟩
   obtain ⟨z,hz,rfl⟩:=List.mem_map.1 he
   exact aB3 n _ _ (hq z hz) (by have:=a3u (List.mem_map.2 ⟨z,hz,rfl⟩:z.2 ∈ q.map (·.2)); omega)
  ·have hfo:∀ y ∈ q.map (fun q=>iQ q.1++[58]++q.2.2),vQ y:=fun y hy=>by
    obtain ⟨z,hz,rfl⟩:=List.mem_map.1 hy
    exact ⟨34,_,rfl,by decide,by decide,by decide,by decide⟩
   have hjl:=xC _ hfo
   simp only [List.length_append,List.length_cons,List.length_nil,List.length_map] at hl hjl
   refine ⟨7,[],_,_,rfl,by simp; omega,by simp; omega,fun e he=>?_⟩
   obtain ⟨z,hz,rfl⟩:=List.mem_map.1 he
   exact aB3 n _ _ (hq z hz).2 (by have:=a3u (List.mem_map.2 ⟨z,hz,rfl⟩:(iQ z.1++[58]++z.2.2) ∈ q.map (fun q=>iQ q.1++[58]++q.2.2)); simp only [List.length_append] at this; omega)
end Go.Fbs

namespace Go.Fbs
open Go.Proofs Go.RowKit
theorem andM (a:Int) {j:Nat} (hj:j < 63) {c:Int} (hc:c=((2 ^ j - 1:Nat):Int)) {m:Nat} (hm:m=2 ^ j):aC .and (.int .i64 a) (.int .i64 c)=some (.int .i64 ((a % (m:Int)).toNat:Nat)):=by
 subst hc hm
 rw [aK7 hj,Int.toNat_of_nonneg (Int.emod_nonneg a (by have:=Nat.two_pow_pos j; omega))]
theorem b1t {a:Int} {b:Nat} (hb:b≤64):aC .shr (.int .i64 a) (.int .u64 b)=some (.int .i64 (a.fdiv (2 ^ b))):=by
 have e:min (b:Int).toNat IntKind.i64.bits=b:=by
  show min (b:Int).toNat 64=b
  rw [Int.toNat_natCast]; omega
 have e2:min b IntKind.i64.bits=b:=by rw [Int.toNat_natCast] at e; exact e
 simp [aC,wT,e2]
theorem tM {a b:List UInt8} (h:a.length+b.length≤1000000):aC .add (.str a) (.str b)=some (.str (a++b)):=by
 show (if ((a.length+b.length:Nat):Int)≤9223372036854775807 then some (V.str (a++b)) else none)=_
 rw [if_pos (by omega)]
end Go.Fbs

namespace Go.Fbs
open Go.Proofs Go.RowKit
theorem kD.of {p:aE} (h:aZ p) (he:p.e=0):kD p (p.s.take p.a.toNat) (p.s.drop p.a.toNat):=by
 obtain ⟨_,h2,h3⟩:=h
 refine ⟨(List.take_append_drop _ _).symm,?_,he⟩
 rw [List.length_take]; omega
theorem wN {p:aE} {x y:Int} (hy:y≠0):(aU p x y).e≠0:=by
 unfold aU
 split
 ·exact hy
 ·assumption
theorem kD.uQ {p:aE} {pre rest:List UInt8} {c:UInt8} (h:kD p pre rest) (hc:c≠0) (hI':hI p=c.toNat):∃ r,rest=c::r:=by
 cases rest with
 | nil=>rw [h.b1s] at hI'; exact absurd (UInt8.toNat_inj.1 (by simpa using hI'.symm)) hc
 | cons b r=>rw [h.hb] at hI'; exact ⟨r,by rw [toNat_inj hI']⟩
theorem yY (f:UInt8→Bool):∀ l:List UInt8,∃ x:List UInt8,l=x++l.dropWhile f∧(∀ b ∈ x,f b=true)∧∀ b r,l.dropWhile f=b::r→f b=false
 | []=>⟨[],rfl,fun b h=>(by cases h),fun b r h=>(by cases h)⟩
 | c::l=>by
  by_cases hc:f c=true
  ·obtain ⟨x,h1,h2,h3⟩:=yY f l
   rw [List.dropWhile_cons,if_pos hc]
   refine ⟨c::x,by rw [List.cons_append,← h1],fun b hb=>?_,h3⟩
   rcases List.mem_cons.1 hb with rfl | hb
   ·exact hc
   ·exact h2 b hb
  ·rw [List.dropWhile_cons,if_neg hc]
   refine ⟨[],rfl,fun b h=>(by cases h),fun b r e=>?_⟩
   cases e
   exact Bool.eq_false_iff.2 hc
theorem kD.aG0 {p:aE} {pre rest:List UInt8} (h:kD p pre rest) (he:(runM p).e=0):∃ x r,rest=x++r∧a5x x∧runM p=mv p x.length:=by
 obtain ⟨x,h1,h2,h3⟩:=yY (fun b=>eY.contains b) rest
 by_cases hx:x=[]
 ·rw [hx,List.nil_append] at h1
  refine absurd he ?_
  have e:lE p.s p.a eY=p.a:=by
   rw [h.end_]
   unfold p8
   rw [← h1]; omega
  unfold runM
  rw [if_pos e]
  exact wN (by decide)
 ·rw [h1] at h
  exact ⟨x,_,h1,⟨hx,h2⟩,h.run hx h2 h3⟩
theorem aWs {p:aE} {pre rest:List UInt8} (h:kD p pre rest):∃ x r,rest=x++r∧(x=[]∨x=[45])∧nM p=mv p x.length:=by
 unfold nM
 split
 ·rename_i hc
  obtain ⟨r,rfl⟩:=h.uQ (c:=45) (by decide) hc
  exact ⟨[45],r,rfl,.inr rfl,rfl⟩
 ·exact ⟨[],rest,rfl,.inl rfl,(a61 p).symm⟩
theorem aWt {p:aE} {pre rest:List UInt8} (h:kD p pre rest) (he:(rZ p).e=0):∃ x r,rest=x++r∧(x=[48]∨(a5x x∧∀ r,x≠48::r))∧rZ p=mv p x.length:=by
 unfold rZ at he ⊢
 split
 ·rename_i hc
  obtain ⟨r,rfl⟩:=h.uQ (c:=48) (by decide) hc
  exact ⟨[48],r,rfl,.inl rfl,rfl⟩
 ·rename_i hc
  rw [if_neg hc] at he
  obtain ⟨x,r,rfl,hd,e⟩:=h.aG0 he
  refine ⟨x,r,rfl,.inr ⟨hd,fun r' hr=>hc ?_⟩,e⟩
  subst hr
  exact kD.hb (r:=r'++r) h
theorem aWu {p:aE} {pre rest:List UInt8} (h:kD p pre rest):∃ x r,rest=x++r∧(x=[]∨x=[43]∨x=[45])∧mU p=mv p x.length:=by
 unfold mU
 split
 ·rename_i hc
  rcases hc with hc | hc
  ·obtain ⟨r,rfl⟩:=h.uQ (c:=43) (by decide) hc
   exact ⟨[43],r,rfl,.inr (.inl rfl),rfl⟩
  ·obtain ⟨r,rfl⟩:=h.uQ (c:=45) (by decide) hc
   exact ⟨[45],r,rfl,.inr (.inr rfl),rfl⟩
 ·exact ⟨[],rest,rfl,.inl rfl,(a61 p).symm⟩
theorem aWv {p:aE} {pre rest:List UInt8} (h:kD p pre rest) (he:(lG p).e=0):∃ x r,rest=x++r∧(x=[]∨∃ d,x=46::d∧a5x d)∧lG p=mv p x.length:=by
 unfold lG at he ⊢
 split
 ·rename_i hc
  rw [if_pos hc] at he
  obtain ⟨r,rfl⟩:=h.uQ (c:=46) (by decide) hc.2
  have h2:kD (fI p) (pre++[46]) r:=by rw [aFq]; exact kD.go (x:=[46]) h
  obtain ⟨d,r2,rfl,hd,e⟩:=h2.aG0 he
  refine ⟨46::d,r2,rfl,.inr ⟨d,rfl,hd⟩,?_⟩
  rw [e,aFq,aB2,List.length_cons,Nat.add_comm]
 ·exact ⟨[],rest,rfl,.inl rfl,(a61 p).symm⟩
theorem aWw {p:aE} {pre rest:List UInt8} (h:kD p pre rest) (he:(jO p).e=0):∃ x r,rest=x++r∧(x=[]∨∃ c sg2 d,x=c::(sg2++d)∧(c=101∨c=69)∧(sg2=[]∨sg2=[43]∨sg2=[45])∧a5x d)∧jO p=mv p x.length:=by
 unfold jO at he ⊢
 split
 ·rename_i hc
  rw [if_pos hc] at he
  obtain ⟨c,hcc,r,rfl⟩:∃ c:UInt8,(c=101∨c=69)∧∃ r,rest=c::r:=by
   rcases hc.2 with hc | hc
   ·obtain ⟨r,rfl⟩:=h.uQ (c:=101) (by decide) hc
    exact ⟨101,.inl rfl,r,rfl⟩
   ·obtain ⟨r,rfl⟩:=h.uQ (c:=69) (by decide) hc
    exact ⟨69,.inr rfl,r,rfl⟩
  have h2:kD (fI p) (pre++[c]) r:=by rw [aFq]; exact kD.go (x:=[c]) h
  obtain ⟨sg,r2,rfl,hsg,e5⟩:=aWu h2
  have h3:kD (mU (fI p)) (pre++[c]++sg) r2:=by rw [e5]; exact h2.go
  obtain ⟨d,r3,rfl,hd,e⟩:=h3.aG0 he
  refine ⟨c::(sg++d),r3,by simp,.inr ⟨c,sg,d,rfl,hcc,hsg,hd⟩,?_⟩
  rw [e,e5,aFq,aB2,aB2]
  congr 1
  rw [List.length_cons,List.length_append]; omega
 ·exact ⟨[],rest,rfl,.inl rfl,(a61 p).symm⟩
theorem num_inv {p:aE} {pre rest:List UInt8} (h:kD p pre rest) (he:(gN p).e=0):aQ1 (x9 p)∧gN p=mv p (x9 p).length:=by
 have he4:(jO (lG (rZ (nM p)))).e=0:=he
 have he3:(lG (rZ (nM p))).e=0:=by
  unfold jO at he4
  split at he4
  ·rename_i hc; exact hc.1
  ·exact he4
 have he2:(rZ (nM p)).e=0:=by
  unfold lG at he3
  split at he3
  ·rename_i hc; exact hc.1
  ·exact he3
 obtain ⟨sg,r1,rfl,hsg,e1⟩:=aWs h
 have h1:=h.go
 rw [← e1] at h1
 obtain ⟨i,r2,rfl,hi,e2⟩:=aWt h1 he2
 have h2:=h1.go
 rw [← e2] at h2
 obtain ⟨f,r3,rfl,hf,e3⟩:=aWv h2 he3
 have h3:=h2.go
 rw [← e3] at h3
 obtain ⟨x,r4,rfl,hx,e4⟩:=aWw h3 he4
 have hfin:gN p=mv p (sg++(i++(f++x))).length:=by
  show jO (lG (rZ (nM p)))=_
  rw [e4,e3,e2,e1,aB2,aB2,aB2]
  congr 1
  simp only [List.length_append] <;> omega
 have hT:x9 p=sg++(i++(f++x)):=by
  unfold x9
  rw [hfin]
  show (p.s.take (p.a+((sg++(i++(f++x))).length:Int)).toNat).drop p.a.toNat=_
  have hs:p.s=pre++((sg++(i++(f++x)))++r4):=by rw [h.s]; simp
  rw [hs,h.a]
  have ea:((pre.length:Int)+((sg++(i++(f++x))).length:Int)).toNat=pre.length+(sg++(i++(f++x))).length:=by omega
  rw [ea,Int.toNat_natCast]
  generalize sg++(i++(f++x))=y
  rw [← List.append_assoc,← List.length_append,List.take_left' rfl,List.drop_left' rfl]
 rw [hT]
 exact ⟨⟨sg,i,f,x,rfl,hsg,hi,hf,hx⟩,hfin⟩
theorem a3v {p:aE} {c:UInt8} (h:(aV p c).1=true):dU p=c∧p.e=0∧aV p c=(true,mv p 1):=by
 unfold aV at h ⊢
 split at h
 ·cases h
 ·rename_i hc
  rw [if_neg hc]
  simp only [not_or,Decidable.not_not] at hc
  exact ⟨hc.2,hc.1,rfl⟩
theorem a3w {p:aE} {c:UInt8} (h:¬ (aV p c).1=true):(aV p c).2.e≠0:=by
 unfold aV at h ⊢
 split
 ·exact wN (by decide)
 ·rename_i hc
  rw [if_neg hc] at h
  exact absurd rfl h
theorem aLw:∀ {t:List UInt8} {p:aE},(gD t p).e=0→(gD t p).a=p.a+t.length
 | [],p,_=>(Int.add_zero _).symm
 | c::t,p,h=>by
  rw [gD] at h ⊢
  by_cases hc:(aV p c).1=true
  ·rw [if_pos hc] at h ⊢
   rw [aLw h,(a3v hc).2.2]
   show p.a+1+(t.length:Int)=p.a+((t.length+1:Nat):Int)
   omega
  ·rw [if_neg hc] at h
   exact absurd h (a3w hc)
theorem aTo {c x:UInt8} (h:wM c=some x):x.toNat < 128:=by
 unfold wM at h
 repeat' split at h
 all_goals first | cases h; decide | cases h
theorem aZ6 {l:List UInt8} : ∃ r,xA l=some r∧(r.2≠0→2≤r.2∧r.1.toNat < 128):=by
 unfold xA
 split
 ·exact ⟨_,rfl,fun h=>absurd rfl h⟩
 ·split
  ·rename_i x hx
   exact ⟨_,rfl,fun _=>⟨Nat.le_refl 2,aTo hx⟩⟩
  ·split
   ·exact ⟨_,rfl,fun h=>absurd rfl h⟩
   ·split
    ·split
     ·exact ⟨_,rfl,fun h=>absurd rfl h⟩
     ·rename_i h127
      refine ⟨_,rfl,fun _=>⟨by show 2≤6; decide,?_⟩⟩
      show (Nat.toUInt8 _).toNat < 128
      rw [Nat.toUInt8,UInt8.toNat_ofNat']
      omega
    ·exact ⟨_,rfl,fun h=>absurd rfl h⟩
theorem aTp (c:UInt8):(jR c).length≤6:=by unfold jR; split; simp; split <;> simp
theorem aBa:∀ (n:Nat) (out:List UInt8) (p:aE),aZ p→p.s.length≤100000000→(out.length:Int)≤p.a→1≤n→(p.e=0→(p.s.length:Int) - p.a+2≤n) →
  ∃ t q,qA n out p=some (t,q)∧eZ p q∧(t.length:Int)≤q.a∧(q.e=0→p.a < q.a∧∃ t',t=out++t'∧Asc t'∧((t'.flatMap jR).length:Int)+1≤6*(q.a - p.a))
 | 0,_,_,_,_,_,h,_=>absurd h (by decide)
 | n+1,out,p,hd,hs,ho,_,hn=>by
  rw [qA]
  by_cases he:p.e=0
  ·rw [if_pos he]
   have hn':=hn he
   by_cases h34:hI p=34
   ·rw [if_pos h34]
    refine ⟨_,_,rfl,fM hd (by rw [h34]; decide),by show (out.length:Int)≤p.a+1; omega,fun _=>⟨by show p.a < p.a+1; omega,[],(List.append_nil _).symm,fun c h=>(by cases h),?_⟩⟩
    show (0:Int)+1≤6*(p.a+1 - p.a)
    omega
   ·rw [if_neg h34]
    have hoo:out.length≤1000000000:=by have:=hd.2.2; omega
    by_cases h92:hI p=92
    ·rw [if_pos h92]
     obtain ⟨r,hr,hra⟩:=aZ6 (l:=p.s.drop p.a.toNat)
     have hah:=a2p hd hr
     have hlt:=a45 hd (by rw [h92]; decide)
     rw [hr]
     dsimp only
     rw [if_pos hoo]
     by_cases h0:r.2=0
     ·have hqe:(xB p r.2).e≠0:=by
       unfold xB
       rw [if_pos h0]
       exact wN (by decide)
      match n,hn' with
      | 0,hn'=>exact absurd hn' (by omega)
      | n+1,hn' =>
       rw [qA,if_neg hqe]
       exact ⟨_,_,rfl,hah,by have:=hah.aO.2.1; simpa using this,fun h=>absurd h hqe⟩
     ·obtain ⟨hr2,hr1⟩:=hra h0
      have hqa:(xB p r.2).a=p.a+r.2:=by unfold xB; rfl
      have hqs:(xB p r.2).s=p.s:=hah.s
      obtain ⟨t,q,h1,h2,h9,h3⟩:=aBa n (out++[r.1]) (xB p r.2) hah.aO (by rw [hqs]; exact hs) (by rw [hqa,List.length_append,List.length_singleton]; omega) (by omega) (fun _=>by rw [hqs,hqa]; omega)
      refine ⟨t,q,h1,hah.trans h2,h9,fun hq=>?_⟩
      obtain ⟨ha,t',rfl,hasc,hl⟩:=h3 hq
      rw [hqa] at ha hl
      refine ⟨by omega,r.1::t',by simp,fun c hc=>?_,?_⟩
      ·rcases List.mem_cons.1 hc with rfl | hc
       ·exact hr1
       ·exact hasc c hc
      ·rw [List.flatMap_cons,List.length_append]
       have:=aTp r.1
       omega
    ·rw [if_neg h92]
     by_cases hb:hI p < 32∨126 < hI p
     ·rw [if_pos hb]
      have hah:=pA hd p.a 9
      have hqe:(aU p p.a 9).e≠0:=wN (by decide)
      match n,hn' with
      | 0,hn'=>exact absurd hn' (by have:=hd.2.2; omega)
      | n+1,hn' =>
       rw [qA,if_neg hqe]
       exact ⟨_,_,rfl,hah,by have:=hah.aO.2.1; simpa using this,fun h=>absurd h hqe⟩
     ·rw [if_neg hb,if_pos hoo]
      have hb1:¬ hI p < 32:=fun h=>hb (.inl h)
      have hb2:¬ 126 < hI p:=fun h=>hb (.inr h)
      have hah:=fM hd (by omega)
      have hlt:=a45 hd (by omega)
      have hqa:(fI p).a=p.a+1:=rfl
      have hqs:(fI p).s=p.s:=rfl
      obtain ⟨t,q,h1,h2,h9,h3⟩:=aBa n (out++[dU p]) (fI p) hah.aO (by rw [hqs]; exact hs) (by rw [hqa,List.length_append,List.length_singleton]; omega) (by omega) (fun _=>by rw [hqs,hqa]; omega)
      refine ⟨t,q,h1,hah.trans h2,h9,fun hq=>?_⟩
      obtain ⟨ha,t',rfl,hasc,hl⟩:=h3 hq
      rw [hqa] at ha hl
      refine ⟨by omega,dU p::t',by simp,fun c hc=>?_,?_⟩
      ·rcases List.mem_cons.1 hc with rfl | hc
       ·unfold hI at hb2; omega
       ·exact hasc c hc
      ·rw [List.flatMap_cons,List.length_append]
       have:=aTp (dU p)
       omega
  ·rw [if_neg he]
   exact ⟨_,_,rfl,mV hd,by have:=hd.2.1; simpa using this,fun h=>absurd h he⟩
theorem a48 {p:aE} (hd:aZ p) (hs:p.s.length≤100000000):∃ t q,mW p=some (t,q)∧eZ p q∧(t.length:Int)≤q.a∧(q.e=0→p.a < q.a∧Asc t∧(t.length:Int)≤6*p.s.length∧((iQ t).length:Int)≤6*(q.a - p.a)):=by
 have hah:=kN hd 34 (by decide)
 unfold mW
 by_cases hc:(aV p 34).1=true
 ·rw [if_pos hc]
  obtain ⟨hh,he,e⟩:=a3v hc
  have e2:(aV p 34).2=mv p 1:=by rw [e]
  rw [e2] at hah ⊢
  have hqa:(mv p 1).a=p.a+1:=rfl
  have hqs:(mv p 1).s=p.s:=rfl
  obtain ⟨t,q,h1,h2,h9,h3⟩:=aBa (p.s.length+2) [] (mv p 1) hah.aO hs (by rw [hqa]; have:=hd.2.1; simp; omega) (by omega) (fun _=>by rw [hqs,hqa]; have:=hd.2.1; omega)
  refine ⟨t,q,h1,hah.trans h2,h9,fun hq=>?_⟩
  obtain ⟨ha,t',ht,hasc,hl⟩:=h3 hq
  rw [hqa] at ha hl
  rw [List.nil_append] at ht
  subst ht
  have hg:=a62 t
  have hqd:=h2.aO.2.2
  have hqs2:q.s=p.s:=h2.s
  rw [hqs2] at hqd
  have:=hd.2.1
  refine ⟨by omega,hasc,by omega,?_⟩
  rw [a0l]; omega
 ·rw [if_neg hc]
  exact ⟨_,_,rfl,hah,by have:=hah.aO.2.1; simpa using this,fun h=>absurd h (a3w hc)⟩
end Go.Fbs

namespace Go.Fbs
open Go.Proofs Go.RowKit
structure Plc (n:Nat) (p:aE):Prop where
 aO:aZ p
 s:p.s.length≤100000000
 e:p.e=0
 d0:0≤p.d
 d:p.d+n=20
theorem Plc.ahead {n:Nat} {p q:aE} (h:Plc n p) (k:eZ p q) (he:q.e=0):Plc n q:=⟨k.aO,by rw [k.s]; exact h.s,he,by rw [k.d]; exact h.d0,by rw [k.d]; exact h.d⟩
def Rng {A:Type} (Z:A→Int→Prop):Prop:=∀ a i j,Z a i→i≤j→Z a j
def aFt {A:Type} (one:A→aE→Option (A×aE)) (n:Nat) (Z:A→Int→Prop) (S:A→List UInt8→A→Prop):Prop :=
 ∀ acc p,Plc n p→Z acc p.a→∃ acc' q,one acc p=some (acc',q)∧eZ p q∧(q.e=0→p.a < q.a∧Z acc' q.a∧∃ y,S acc y acc'∧(y.length:Int)≤6*(q.a - p.a))
theorem k9 {p:aE} (h:aZ p):eZ p (aF p):=⟨iY h,rfl,rfl,(vO kJ h.2.1 h.2.2).1⟩
theorem aTq (y:List UInt8) {ys:List (List UInt8)} (h:ys≠[]):cW (y::ys)=y++[44]++cW ys:=by
 cases ys with
 | nil=>exact absurd rfl h
 | cons z r=>rfl
theorem aIf {A:Type} {one:A→aE→Option (A×aE)} {n:Nat} {Z:A→Int→Prop} {S:A→List UInt8→A→Prop} {c:UInt8} (hc:c≠0) (hZ:Rng Z) (ho:aFt one n Z S):∀ (f:Nat) (acc:A) (p:aE),Plc n p→Z acc p.a→(p.s.length:Int) - p.a < f →
  ∃ acc' q,tV one c f acc p=some (acc',q)∧eZ p q∧(q.e=0→∃ ys,ys≠[]∧Run S ys acc acc'∧((cW ys).length:Int)+1≤6*(q.a - p.a))
 | 0,_,p,h,_,hf=>absurd hf (by have:=h.aO.2.2; omega)
 | f+1,acc,p,h,hz,hf=>by
  have k1:=k9 h.aO
  have h1:=h.ahead k1 (show (aF p).e=0 from h.e)
  obtain ⟨acc',p2,e2,k2,r2⟩:=ho acc (aF p) h1 (hZ _ _ _ hz k1.a)
  have k3:=k9 k2.aO
  have k13:=(k1.trans k2).trans k3
  rw [tV,if_neg (by simp [h.e]),e2]
  dsimp only
  by_cases he:(aF p2).e=0
  ·rw [if_neg (by simp [he])]
   obtain ⟨q1,q2,y,q3,q4⟩:=r2 he
   have b1:=k1.a
   have b3:=k3.a
   by_cases hh:dU (aF p2)=44
   ·rw [if_neg (by simp [hh])]
    have k4:eZ (aF p2) { aF p2 with a:=(aF p2).a+1 }:=fM k3.aO (by unfold hI; rw [hh]; decide)
    have h4:=h.ahead (k13.trans k4) he
    have hs4:({ aF p2 with a:=(aF p2).a+1 } : aE).s.length=p.s.length:=by rw [(k13.trans k4).s]
    have ha4:({ aF p2 with a:=(aF p2).a+1 } : aE).a=(aF p2).a+1:=rfl
    obtain ⟨acc2,q,m1,m2,m3⟩:=aIf hc hZ ho f acc' { aF p2 with a:=(aF p2).a+1 } h4 (hZ _ _ _ q2 (by rw [ha4]; omega)) (by rw [hs4,ha4]; omega)
    refine ⟨acc2,q,m1,(k13.trans k4).trans m2,fun hq=>?_⟩
    obtain ⟨ys,y1,y2,y3⟩:=m3 hq
    refine ⟨y::ys,by simp,.cons q3 y2,?_⟩
    rw [aTq y y1]
    simp only [List.length_append,List.length_cons,List.length_nil]
    rw [ha4] at y3
    omega
   ·rw [if_pos hh]
    have k4:=kN k3.aO c hc
    refine ⟨acc',_,rfl,k13.trans k4,fun hq=>?_⟩
    by_cases hn:(aV (aF p2) c).1=true
    ·refine ⟨[y],by simp,.cons q3 (.nil _),?_⟩
     rw [(a3v hn).2.2]
     show (y.length:Int)+1≤6*((aF p2).a+1 - p.a)
     omega
    ·exact absurd hq (a3w hn)
  ·rw [if_pos he]
   exact ⟨_,_,rfl,k13,fun h=>absurd h he⟩
theorem aFu {A:Type} {one:A→aE→Option (A×aE)} {n:Nat} {Z:A→Int→Prop} {S:Nat→A→List UInt8→A→Prop} {c:UInt8} (hc:c≠0) (hZ:Rng Z) (ho:∀ m,n=m+1→aFt one m Z (S m)) {acc:A} {p:aE} (h:Plc n p) (hh:dU p≠0) (hz:Z acc p.a) :
  ∃ acc' q,jW one c (p.s.length+2) acc p=some (acc',q)∧eZ p q∧(q.e=0→p.a < q.a∧∃ ys m,n=m+1∧Run (S m) ys acc acc'∧((cW ys).length:Int)+2≤6*(q.a - p.a)):=by
 unfold jW
 by_cases hd:p.d=20
 ·rw [if_pos hd]
  exact ⟨_,_,rfl,pA h.aO _ _,fun hq=>absurd hq (wN (by decide))⟩
 ·rw [if_neg hd]
  have hnd:=h.d
  obtain ⟨m,hm⟩:∃ m,n=m+1:=⟨n - 1,by omega⟩
  have hlt:=qO h.aO hh
  have d0:aZ ({ p with d:=p.d+1,a:=p.a+1 } : aE):=⟨h.aO.1,by show 0≤p.a+1; have:=h.aO.2.1; omega,by show p.a+1≤(p.s.length:Int); omega⟩
  have k1:=k9 d0
  have a0:Plc m ({ p with d:=p.d+1,a:=p.a+1 } : aE):=⟨d0,h.s,h.e,by show 0≤p.d+1; have:=h.d0; omega,by show p.d+1+(m:Int)=20; omega⟩
  have a1:=a0.ahead k1 h.e
  have b1:p.a+1≤(aF { p with d:=p.d+1,a:=p.a+1 }).a:=k1.a
  have s1:(aF { p with d:=p.d+1,a:=p.a+1 }).s=p.s:=k1.s
  have e1:(aF { p with d:=p.d+1,a:=p.a+1 }).d=p.d+1:=k1.d
  generalize aF { p with d:=p.d+1,a:=p.a+1 } = p1 at *
  dsimp only
  by_cases hcc:dU p1=c
  ·rw [if_pos hcc]
   have k2:=fM a1.aO (by unfold hI; rw [hcc]; intro h0; exact hc (UInt8.toNat_inj.1 (by simpa using h0)))
   refine ⟨acc,_,rfl,⟨k2.aO,s1,by show p1.d - 1=p.d; omega,by show p.a≤p1.a+1; omega⟩,fun _=>⟨by show p.a < p1.a+1; omega,[],m,hm,.nil _,?_⟩⟩
   show (0:Int)+2≤6*(p1.a+1 - p.a)
   omega
  ·rw [if_neg hcc]
   obtain ⟨acc',q,m1,m2,m3⟩:=aIf hc hZ (ho m hm) (p.s.length+2) acc p1 a1 (hZ _ _ _ hz (by omega)) (by rw [s1]; have:=a1.aO.2.1; omega)
   rw [m1]
   have b2:=m2.a
   refine ⟨acc',_,rfl,⟨m2.aO,m2.s.trans s1,by show q.d - 1=p.d; rw [m2.d]; omega,by show p.a≤q.a; omega⟩,fun hq=>?_⟩
   obtain ⟨ys,y1,y2,y3⟩:=m3 hq
   exact ⟨by show p.a < q.a; omega,ys,m,hm,y2,by show _≤6*(q.a - p.a); omega⟩
theorem aLx {n:Nat} : ∀ {ys:List (List UInt8)} {a b:List V},Run (aWq n) ys a b→∃ l:List (V×List UInt8),(∀ q ∈ l,Wf n q.1 q.2)∧b=a++l.map (·.1)∧ys=l.map (·.2)
 | _,_,_,.nil a=>⟨[],fun q h=>(by cases h),(List.append_nil _).symm,rfl⟩
 | _,_,_,.cons (y:=y) ⟨v,hw,hb,_⟩ r=>by
  obtain ⟨l,h1,h2,h3⟩:=aLx r
  refine ⟨(v,y)::l,fun q hq=>?_,by rw [h2,hb]; simp,by rw [h3]; rfl⟩
  rcases List.mem_cons.1 hq with rfl | hq
  ·exact hw
  ·exact h1 q hq
theorem aLy {n:Nat} : ∀ {ys:List (List UInt8)} {a b:qR},Run (aWr n) ys a b→∃ l:List (List UInt8×V×List UInt8),(∀ q ∈ l,Asc q.1∧Wf n q.2.1 q.2.2)∧(l.map (·.1)).Nodup∧(∀ q ∈ l,q.1 ∉ a.seen)∧b.keys=a.keys++l.map (·.1)∧b.ls=a.ls++l.map (·.2.1)∧ys=l.map fun q=>iQ q.1++[58]++q.2.2
 | _,_,_,.nil a=>⟨[],fun q h=>(by cases h),List.nodup_nil,fun q h=>(by cases h),(List.append_nil _).symm,(List.append_nil _).symm,rfl⟩
 | _,a,_,.cons (y:=y) ⟨key,v,x,hk,hw,hy,hn,hb,_⟩ r=>by
  obtain ⟨l,h1,h2,h3,h4,h5,h6⟩:=aLy r
  rw [hb] at h3 h4 h5
  refine ⟨(key,v,x)::l,fun q hq=>?_,?_,fun q hq=>?_,by rw [h4]; simp,by rw [h5]; simp,by rw [h6,hy]; rfl⟩
  ·rcases List.mem_cons.1 hq with rfl | hq
   ·exact ⟨hk,hw⟩
   ·exact h1 q hq
  ·rw [List.map_cons,List.nodup_cons]
   refine ⟨fun hm=>?_,h2⟩
   obtain ⟨q,hq,e⟩:=List.mem_map.1 hm
   exact h3 q hq (by rw [e]; exact List.mem_cons_self ..)
  ·rcases List.mem_cons.1 hq with rfl | hq
   ·exact hn
   ·exact fun hm=>h3 q hq (List.mem_cons_of_mem _ hm)
def Tot (M:RM) (n:Nat):Prop:=∀ p,Plc n p→∃ v q,M p=some (v,q)∧eZ p q∧(q.e=0→p.a < q.a∧∃ x,Wf n v x∧(x.length:Int)≤6*(q.a - p.a))
def ZL (a:List V) (i:Int):Prop:=(a.length:Int)≤i
def ZO (a:qR) (i:Int):Prop:=(a.keys.length:Int)≤i∧(a.ls.length:Int)≤i∧(a.seen.length:Int)≤i
theorem aL0 {M:RM} {n:Nat} (hM:Tot M n):aFt (yS M) n ZL (aWq n):=by
 intro acc p h hz
 unfold ZL at hz
 have hl:acc.length≤100000000:=by have:=h.aO.2.2; have:=h.s; omega
 obtain ⟨v,q,h1,h2,h3⟩:=hM p h
 unfold yS
 rw [if_pos hl,h1]
 refine ⟨_,q,rfl,h2,fun hq=>?_⟩
 obtain ⟨q1,x,q2,q3⟩:=h3 hq
 exact ⟨q1,by unfold ZL; rw [List.length_append,List.length_singleton]; omega,x,⟨v,q2,rfl,hl⟩,q3⟩
theorem aTr {p q:aE} (seen:List (List UInt8)) (key:List UInt8) (h:eZ p q):eZ p (gO seen p q key):=by
 unfold gO
 split
 ·exact h.trans (pA h.aO _ _)
 ·exact h
theorem aTs {seen:List (List UInt8)} {p q:aE} {key:List UInt8} (h:(gO seen p q key).e=0):q.e=0∧key ∉ seen∧gO seen p q key=q:=by
 unfold gO at h ⊢
 split
 ·rename_i hc
  rw [if_pos hc] at h
  exact absurd h (wN (by decide))
 ·rename_i hc
  rw [if_neg hc] at h
  exact ⟨h,fun hm=>hc ⟨h,hm⟩,rfl⟩
theorem aL1 {M:RM} {n:Nat} (hM:Tot M n):aFt (qS M) n ZO (aWr n):=by
 intro acc p h hz
 obtain ⟨z1,z2,z3⟩:=hz
 have hal:=h.aO.2.2
 have hsl:=h.s
 obtain ⟨key,p1,t1,t2,t0,t3⟩:=a48 h.aO h.s
 have k2:=aTr acc.seen key t2
 have k3:=k2.trans (k9 k2.aO)
 have k4:=k3.trans (kN k3.aO 58 (by decide))
 unfold qS
 rw [t1]
 dsimp only
 have hkl:key.length≤1000000000:=by have:=t2.aO.2.2; have:=t2.s; rw [t2.s] at *; omega
 rw [if_pos ⟨hkl,by omega,by omega,by omega⟩]
 ·by_cases hn:(aV (aF (gO acc.seen p p1 key)) 58).1=true
  ·rw [if_pos hn]
   obtain ⟨_,n2,n3⟩:=a3v hn
   obtain ⟨w1,w2,w3⟩:=aTs (show (gO acc.seen p p1 key).e=0 from n2)
   obtain ⟨u1,u2,u3,u4⟩:=t3 w1
   rw [w3] at n3 k3 k4 n2 ⊢
   rw [n3] at k4 ⊢
   dsimp only at k4 ⊢
   have k5:=k4.trans (k9 k4.aO)
   have b5:(aF p1).a+1≤(aF (mv (aF p1) 1)).a:=(k9 k4.aO).a
   have b2:p1.a≤(aF p1).a:=(k9 t2.aO).a
   obtain ⟨v,q,h1,h2,h3⟩:=hM _ (h.ahead k5 (show (aF p1).e=0 from n2))
   rw [h1]
   refine ⟨_,q,rfl,k5.trans h2,fun hq=>?_⟩
   obtain ⟨q1,x,q2,q3⟩:=h3 hq
   refine ⟨by omega,⟨?_,?_,?_⟩,_,⟨key,v,x,u2,q2,rfl,w2,rfl,hkl,by omega,by omega,by omega⟩,?_⟩
   ·show ((acc.keys++[key]).length:Int)≤_
    rw [List.length_append,List.length_singleton]; omega
   ·show ((acc.ls++[v]).length:Int)≤_
    rw [List.length_append,List.length_singleton]; omega
   ·show ((key::acc.seen).length:Int)≤_
    rw [List.length_cons]; omega
   ·simp only [List.length_append,List.length_cons,List.length_nil]; omega
  ·rw [if_neg hn]
   exact ⟨_,_,rfl,k4,fun hq=>absurd hq (a3w hn)⟩
theorem aB4 {n:Nat} {v:V} {x:List UInt8} (h:aA9 v x):Wf n v x:=by
 cases n with
 | zero=>exact h
 | succ n=>exact .inl h
theorem aQ2 {t:List UInt8} {p:aE} {v:V} {n:Nat} (h:Plc n p) (ht:∀ c ∈ t,c≠0) (h0:t≠[]) (hv:aA9 v t):∃ v' q,some (v,gD t p)=some (v',q)∧eZ p q∧(q.e=0→p.a < q.a∧∃ x,Wf n v' x∧(x.length:Int)≤6*(q.a - p.a)):=by
 refine ⟨_,_,rfl,sD h.aO ht,fun hq=>?_⟩
 have hl:0 < t.length:=List.length_pos_iff.2 h0
 rw [aLw hq]
 exact ⟨by omega,t,aB4 hv,by omega⟩
theorem aB5:∀ (f n:Nat),n < f→Tot (aT bH f) n
 | 0,_,h=>absurd h (Nat.not_lt_zero _)
 | f+1,n,hf=>by
  intro p h
  have hd20:p.d≤20:=by have:=h.d; omega
  have hrec:∀ m,n=m+1→Tot (aT bH f) m:=fun m hm=>aB5 f m (by omega)
  rw [aT]
  by_cases h1:hI p=123
  ·rw [if_pos h1]
   obtain ⟨acc,q,e,k,r⟩:=aFu (c:=125) (Z:=ZO) (S:=aWr) (acc:=⟨[],[],[]⟩) (by decide) (fun a i j hz hij=>⟨Int.le_trans hz.1 hij,Int.le_trans hz.2.1 hij,Int.le_trans hz.2.2 hij⟩) (fun m hm=>aL1 (hrec m hm)) h (by intro h0; unfold hI at h1; rw [h0] at h1; exact absurd h1 (by decide)) ⟨h.aO.2.1,h.aO.2.1,h.aO.2.1⟩
   have ho:bH (aT bH f) p=(jW (qS (aT bH f)) 125 (p.s.length+2) ⟨[],[],[]⟩ p).map fun r=>(jn 7 [] (r.1.keys.map V.str) r.1.ls,r.2):=if_pos ⟨h1,h.d0,hd20⟩
   rw [ho,e]
   refine ⟨_,q,rfl,k,fun hq=>?_⟩
   obtain ⟨r1,ys,m,hm,r2,r3⟩:=r hq
   obtain ⟨l,l1,l2,_,l4,l5,l6⟩:=aLy r2
   refine ⟨r1,[123]++cW ys++[125],?_,by simp only [List.length_append,List.length_cons,List.length_nil]; omega⟩
   subst hm
   refine .inr (.inr ⟨l,l1,l2,?_,by rw [l6]⟩)
   show jn 7 [] (acc.keys.map V.str) acc.ls=_
   rw [l4,l5]; rfl
  rw [if_neg h1]
  by_cases h2:hI p=91
  ·rw [if_pos h2]
   obtain ⟨acc,q,e,k,r⟩:=aFu (c:=93) (Z:=ZL) (S:=aWq) (acc:=[]) (by decide) (fun a i j hz hij=>Int.le_trans hz hij) (fun m hm=>aL0 (hrec m hm)) h (by intro h0; unfold hI at h2; rw [h0] at h2; exact absurd h2 (by decide)) h.aO.2.1
   have ho:a00 (aT bH f) p=(jW (yS (aT bH f)) 93 (p.s.length+2) [] p).map fun r=>(jn 6 [] [] r.1,r.2):=if_pos ⟨h2,h.d0,hd20⟩
   rw [ho,e]
   refine ⟨_,q,rfl,k,fun hq=>?_⟩
   obtain ⟨r1,ys,m,hm,r2,r3⟩:=r hq
   obtain ⟨l,l1,l2,l3⟩:=aLx r2
   refine ⟨r1,[91]++cW ys++[93],?_,by simp only [List.length_append,List.length_cons,List.length_nil]; omega⟩
   subst hm
   refine .inr (.inl ⟨l,l1,?_,by rw [l3]⟩)
   show jn 6 [] [] acc=_
   rw [l2]; rfl
  rw [if_neg h2]
  by_cases h3:hI p=34
  ·rw [if_pos h3]
   obtain ⟨t,q,e,k,_,r⟩:=a48 h.aO h.s
   rw [e]
   refine ⟨_,q,rfl,k,fun hq=>?_⟩
   obtain ⟨r1,r2,_,r3⟩:=r hq
   exact ⟨r1,iQ t,aB4 (.inr (.inr (.inr (.inr ⟨t,r2,rfl,rfl⟩)))),r3⟩
  rw [if_neg h3]
  by_cases h4:hI p=110
  ·rw [if_pos h4]; exact aQ2 h (by decide) (by simp) (.inl ⟨rfl,rfl⟩)
  rw [if_neg h4]
  by_cases h5:hI p=102
  ·rw [if_pos h5]; exact aQ2 h (by decide) (by simp) (.inr (.inl ⟨rfl,rfl⟩))
  rw [if_neg h5]
  by_cases h6:hI p=116
  ·rw [if_pos h6]; exact aQ2 h (by decide) (by simp) (.inr (.inr (.inl ⟨rfl,rfl⟩)))
  rw [if_neg h6]
  refine ⟨_,_,rfl,yT h.aO,fun hq=>?_⟩
  obtain ⟨w1,w2⟩:=num_inv (kD.of h.aO h.e) hq
  obtain ⟨c,r,hx,_⟩:=aId w1
  have hl:0 < (x9 p).length:=by rw [hx]; simp
  rw [w2]
  refine ⟨by show p.a < p.a+_; omega,x9 p,aB4 (.inr (.inr (.inr (.inl ⟨w1,rfl⟩)))),?_⟩
  show _≤6*(p.a+((x9 p).length:Int) - p.a)
  omega
end Go.Fbs

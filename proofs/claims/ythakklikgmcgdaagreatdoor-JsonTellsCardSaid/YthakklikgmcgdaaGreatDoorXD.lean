import Derived.Test.YthakklikgmcgdaaGreatDoorPE
import Derived.Test.YthakklikgmcgdaaGreatDoorWEA
set_option linter.unusedSimpArgs false
set_option linter.unusedVariables false
set_option linter.unusedSectionVars false
set_option maxRecDepth 100000
namespace Go.Fbs
open Go.Proofs Go.RowKit
def joM (f:Nat→List UInt8→Option (List UInt8)) (x y:UInt8) (n:Nat) (l:List UInt8):Option (List UInt8):=if l.length≤500000000∧n≤1000000000 then aJb f x y n l else none
def mY:Nat→List UInt8→V→Option (List UInt8)
 | 0,l,v=>match v with
  | .agg [.int .i64 _,.str _,.sl .ro _,.sl .ro _]=>some l
  | _=>none
 | n+1,l,v=>match v with
  | .agg [.int .i64 k,.str t,.sl .ro ks,.sl .ro ls] =>
   if 200000 < l.length then some l
   else if t.length≤50000000 then
    if k=1 then some (l++[110,117,108,108])
    else if k=2 then some (l++[102,97,108,115,101])
    else if k=3 then some (l++[116,114,117,101])
    else if k=4 then some (l++t)
    else if k=5 then some (l++iQ t)
    else if k=6 then joM (fun i m=>(ls[i]?).bind (mY n m)) 91 93 ls.length l
    else if k = 7 then joM (fun i m=>match ks[i]?,ls[i]? with
     | some (.str key),some e=>if m.length≤500000000∧key.length≤50000000∧(m++iQ key).length≤500000000 then mY n (m++iQ key++[58]) e else none
     | _,_=>none) 123 125 (min ks.length ls.length) l
    else some l
   else none
  | _=>none
theorem aQw {W : World} {b i : Nat} {y : Value} (h : aW W.heap b i = some y) : W.cell? ⟨b,i,none⟩ = some y:=by
 unfold aW at h
 split at h
 ·rename_i hb
  rw [Lib.cell_of_heap hb]; exact h
 ·cases h
theorem yV {n:Nat} {l r:List UInt8} {v:V} (h:mY n l v=some r):∃ k t ks ls,v=jn k t ks ls:=by
 cases n <;> unfold mY at h <;> split at h <;> first | exact ⟨_,_,_,_,rfl⟩ | cases h
theorem aGw {κ : Ctx} {W : World} {es : List V} {x : Value} (r : Rep κ W.heap (.sl .ro es) x) {i : Nat} {e : V} (hi : es[i]? = some e) : ∃ c off cap,x = .slice (some ⟨c,off,none⟩) es.length cap ∧ es.length ≤ cap ∧ i < es.length ∧
  ∃ ys : List Value,Reps κ W.heap e.cells ys ∧ (∀ y ∈ ys,y.oneCell' = true) ∧ ∀ j y,ys[j]? = some y → W.cell? ⟨c,off + i * e.cells.length + j,none⟩ = some y:=by
 have hil:i < es.length:=(List.getElem?_eq_some_iff.1 hi).1
 rcases rep_sl (w:=W) r with ⟨rfl,_⟩ | ⟨b,off,cap,sz,xs,hx,hu,hrs,hc,_,rfl⟩
 ·cases hi
 ·have he : e.cells.length = sz:=hu e (List.mem_of_getElem? hi)
  have hfl:=lP hu
  have hle:i*sz+sz≤es.length*sz:=by
   have:=Nat.mul_le_mul_right sz hil
   rw [Nat.succ_mul] at this; exact this
  have hxl:xs.length=es.length*sz:=by rw [hrs.1,hfl]
  have hget : ∀ j,j < sz → ((xs.drop (i * sz)).take sz)[j]? = xs[i * sz + j]?:=fun j hj=>by
   rw [List.getElem?_take,if_pos hj,List.getElem?_drop]
  have hlen:((xs.drop (i*sz)).take sz).length=sz:=by rw [List.length_take,List.length_drop]; omega
  refine ⟨b,off,cap,rfl,hc,hil,(xs.drop (i*sz)).take sz,⟨by rw [hlen,he],fun j c y h1 h2=>?_⟩,fun y hy=>?_,fun j y hy=>?_⟩
  ·have hj:j < sz:=by rw [← hlen]; exact (List.getElem?_eq_some_iff.1 h2).1
   rw [hget j hj] at h2
   exact hrs.2 (i*sz+j) c y (by rw [aDd hu i j e hi hj]; exact h1) h2
  ·obtain ⟨j,hj⟩:=List.getElem?_of_mem hy
   have hj':j < sz:=by rw [← hlen]; exact (List.getElem?_eq_some_iff.1 hj).1
   rw [hget j hj'] at hj
   exact (hx _ _ hj).2.2
  ·have hj:j < sz:=by rw [← hlen]; exact (List.getElem?_eq_some_iff.1 hy).1
   rw [hget j hj] at hy
   rw [he]
   have:=aQw (hx _ _ hy).2.1
   rw [show off+i*sz+j=off+(i*sz+j) by omega]
   exact this
theorem aTf {κ:Ctx} {B:Nat} {W W':World} (hκ:∀ c,B≤c→κ.hw c=0) (h:Below B W W') {v:V} {x:Value} (r:Rep κ W.heap v x) (hp:v.plain=true):Rep κ W'.heap v x:=by
 refine a1g (κ:=κ) (fun b i y h1 h2=>⟨h1,?_⟩) r hp
 have hb:b < B:=by
  rcases Nat.lt_or_ge b B with h3 | h3
  ·exact h3
  ·rw [hκ b h3] at h1; exact absurd h1 (Nat.not_lt_zero _)
 unfold aW at h2 ⊢
 rw [h.block b hb]; exact h2
theorem aFn {κ:Ctx} {B:Nat} {W W':World} (hκ:∀ c,B≤c→κ.hw c=0) (h:Below B W W') {vs:List V} {xs:List Value} (r:Reps κ W.heap vs xs) (hp:bT vs=true):Reps κ W'.heap vs xs :=
 ⟨r.1,fun i c x h1 h2=>aTf hκ h (r.2 i c x h1 h2) (bS.1 hp c (List.mem_of_getElem? h1))⟩
theorem a8s {k:Int} {t:List UInt8} {ks ls:List V} (h:(jn k t ks ls).plain=true):bT [.int .i64 k,.str t,.sl .ro ks,.sl .ro ls]=true∧bT ks=true∧bT ls=true:=by
 simp only [jn,V.plain,bT,Bool.and_eq_true,Bool.true_and,Bool.and_true] at h ⊢
 exact ⟨h,h.1,h.2⟩
structure aA7 (κ:Ctx) (B b xb xj xd:Nat) (k:Int) (t:List UInt8) (ks ls:List V) (d:Int) (a2:Option Addr) (n2 c2:Nat) (a3:Option Addr) (n3 c3:Nat) (W:World):Prop where
 cb : ∃ E,W.heap[xb]? = some (.cells #[.pointer (some ⟨b,0,none⟩)] E (0,0)) ∧ E ≠ 5
 cj : ∃ E,W.heap[xj]? = some (.cells #[.int .i64 k,.string ⟨⟨t⟩⟩,.slice a2 n2 c2,.slice a3 n3 c3] E (0,0)) ∧ E ≠ 5
 cd : ∃ E,W.heap[xd]? = some (.cells #[.int .i64 d] E (0,0)) ∧ E ≠ 5
 rs:Reps κ W.heap [.int .i64 k,.str t,.sl .ro ks,.sl .ro ls] (jx k t a2 n2 c2 a3 n3 c3)
theorem aGx {B b : Nat} {W W' : World} (o : Wr B b W W') {x : Nat} {ys : Array Value} {E : TypeId} (h : W.heap[x]? = some (.cells ys E (0,0))) (hE : E ≠ 5) (hx : x ≠ b) : W'.heap[x]? = some (.cells ys E (0,0)) :=
 o.kept x _ h (fun e=>hx (Option.some.inj e)) fun c fz e=>by cases e; exact hE rfl
theorem aA7.cA {κ:Ctx} {B b xb xj xd:Nat} {k:Int} {t:List UInt8} {ks ls:List V} {d:Int} {a2:Option Addr} {n2 c2:Nat} {a3:Option Addr} {n3 c3:Nat} {W W':World} (hκ:∀ c,B≤c→κ.hw c=0) (hp:(jn k t ks ls).plain=true) (hn:xb≠b∧xj≠b∧xd≠b) (o:Wr B b W W')
  (h:aA7 κ B b xb xj xd k t ks ls d a2 n2 c2 a3 n3 c3 W):aA7 κ B b xb xj xd k t ks ls d a2 n2 c2 a3 n3 c3 W':=by
 obtain ⟨⟨E1,h1,e1⟩,⟨E2,h2,e2⟩,⟨E3,h3,e3⟩,hr⟩:=h
 exact ⟨⟨E1,aGx o h1 e1 hn.1,e1⟩,⟨E2,aGx o h2 e2 hn.2.1,e2⟩,⟨E3,aGx o h3 e3 hn.2.2,e3⟩,aFn hκ o.below hr (a8s hp).1⟩
def a1k (n:Nat):Prop:=∀ (v:V) (l r:List UInt8),mY n l v=some r→v.plain=true→∀ (κ:Ctx) (B b:Nat) (W:World) (x:Value),(∀ c,B≤c→κ.hw c=0)→Bq B b l W→Rep κ W.heap v x →
 Calls Tryz.prog 19 #[.pointer (some ⟨b,0,none⟩),x,.int .i64 (21 - n)] W fun e W'=>e = .returned (.tuple #[])∧Bq B b r W'∧Wr B b W W'
end Go.Fbs

/- Common texts: values, words, what they answer; no statement of the seat. -/
import Derived.Test.YtnmcilaebamncaaS0
/- A small language that code is told back in: what its words answer. -/
namespace Go.Fbs
mutual
def V.aJ:V→V
 | .sl _ es=>.sl .ro (a0p es)
 | .agg cs=>.agg (a0p cs)
 | .ro cs=>.ro (a0p cs)
 | .func f cs=>.func f (a0p cs)
 | .aM vs=>.aM (a0p vs)
 | .bool b=>.bool b
 | .int k n=>.int k n
 | .str s=>.str s
 | .ptr l off=>.ptr l off
 | .dQ=>.dQ
 | .map l=>.map l
 | .slr l off n c=>.slr l off n c
 | .undef=>.undef
 | .any=>.any
def a0p:List V→List V
 | []=>[]
 | v::vs=>v.aJ::a0p vs
end
theorem cF:∀ l:List V,a0p l=l.map V.aJ
 | []=>by simp [a0p]
 | v::vs=>by simp [a0p,cF vs]
theorem a3c (v:V):v.aJ.cells=v.cells.map V.aJ:=by
 cases v <;> simp [V.aJ,V.cells,cF]
theorem qR (v:V):v.aJ.cells.length=v.cells.length:=by rw [a3c,List.length_map]
theorem aMc (v:V):v.aJ.fZ=v.fZ:=by cases v <;> simp [V.aJ,V.fZ]
theorem a5q (es:List V):flat (es.map V.aJ)=(flat es).map V.aJ:=by
 induction es with
 | nil=>rfl
 | cons e es ih=>simp only [flat,List.map_cons,List.flatMap_cons,List.map_append] at ih ⊢; rw [ih,a3c]
theorem a8t {κ:Ctx} {h:bN} {v:V} {x:Value} (r:aE κ h v x):aE κ h v.aJ x:=by
 have get : ∀ {cs : List V} {xs : List Value},(∀ (i : Nat) c x,cs[i]? = some c → xs[i]? = some x → aE κ h c.aJ x) → ∀ (i : Nat) c x,(a0p cs)[i]? = some c → xs[i]? = some x → aE κ h c x:=by
  intro cs xs ih i c x h1 h2
  rw [cF,zvz,zyy] at h1
  obtain ⟨c0,h3,rfl⟩:=h1
  exact ih i c0 x h3 h2
 induction r with
 | bool b=>exact .bool b
 | int k n=>exact .int k n
 | str s=>exact .str s
 | ptr i off b hb=>exact .ptr i off b hb
 | ro cs b off xs hx hl _ ih=>exact .ro _ b off xs hx (by rw [cF]; simpa using hl) (get ih)
 | dQ=>exact .dQ
 | slnil g hg=>exact .slnil .ro (by simp)
 | sl g es b off cap sz xs hx hu hl _ hc ht ih =>
  have e:(a0p es).length=es.length:=by rw [cF,List.length_map]
  simp only [V.aJ]
  rw [← e]
  refine .sl .ro (a0p es) b off cap sz xs hx ?_ ?_ ?_ (by rw [e]; exact hc) trivial
  ·intro v hv
   rw [cF] at hv
   obtain ⟨v0,h1,rfl⟩:=List.mem_map.1 hv
   rw [qR]; exact hu v0 h1
  ·rw [cF,a5q,List.length_map]; exact hl
  ·intro i c x h1 h2
   rw [cF,a5q,zvz,zyy] at h1
   obtain ⟨c0,h3,rfl⟩:=h1
   exact ih i c0 x h3 h2
 | dM=>exact .dM
 | map i b hb=>exact .map i b hb
 | slr i off n c b cap hb hn hc=>exact .slr i off n c b cap hb hn hc
 | func f caps xs hl _ ih=>exact .func f _ xs (by rw [cF]; simpa using hl) (get ih)
 | agg cs xs hl ho _ ih=>exact .agg _ xs (by rw [cF]; simpa using hl) ho (get ih)
 | aM cs xs hl _ ih=>exact .aM _ xs (by rw [cF]; simpa using hl) (get ih)
 | undef=>exact .undef
 | any x=>exact .any x
theorem b4o {κ:Ctx} {h:bN} {vs:List V} {xs:List Value} (r:aC κ h vs xs):aC κ h (vs.map V.aJ) xs :=
 ⟨by rw [r.1,List.length_map],fun i c x h1 h2=>by
  rw [zvz,zyy] at h1
  obtain ⟨c0,h3,rfl⟩:=h1
  exact a8t (r.2 i c0 x h3 h2)⟩
theorem aVr (v:V):v.er1.aJ=v.aJ:=by
 cases v with
 | sl g es=>cases g <;> simp [V.er1,V.aJ]
 | _=>rfl
theorem b1f (v:V):v.er.aJ=v.aJ:=by
 have h:∀ cs:List V,(cs.map V.er1).map V.aJ=cs.map V.aJ:=fun cs=>by simp [List.map_map,Function.comp_def,aVr]
 cases v <;> simp [V.er,V.aJ,cF,h,aVr]
def sc (v:V):Bool :=
 match v with
 | .undef | .any | .aM _ | .agg _=>false
 | _=>true
theorem a5r {v:V} (h:sc v=true):v.cells=[v]:=by cases v <;> simp_all [sc,V.cells]
theorem aRj {v:V} (h:sc v=true):v.fZ=true:=by cases v <;> simp_all [sc,V.fZ]
theorem aRk (v:V):sc v.aJ=sc v:=by cases v <;> rfl
inductive A where
 | v (i:Nat)
 | k (x:V)
 | c (i j:Nat)
 deriving Inhabited
def a7 (x:V) (j:Nat):V:=x.cells.getD j .undef
def A.den (ρ:Nat→V):A→V
 | .v i=>ρ i
 | .k x=>x
 | .c i j=>a7 (ρ i) j
inductive E where
 | id (a:A)
 | jP (a:A)
 | dU (a:A)
 | bin (op:BinOp) (a b:A)
 | eqB (neg:Bool) (a b:A)
 | eqA (qs:List Nat) (neg:Bool) (a b:A)
 | un (op:UnOp) (a:A)
 | mm (max:Bool) (a b:A)
 | vK (k:IntKind) (a:A)
 | uC (a:A)
 | uD (a:A)
 | slS (a:A) (lo hi:Option A)
 | slL (n:Nat) (a:A) (lo hi:Option A)
 | aYa (a i:A)
 | aYb (g:Bool) (n:Nat) (a i:A)
 | b4p (len:Nat) (g:Bool) (n:Nat) (a i:A)
 | part (g:Bool) (n off:Nat) (a:A)
 | agg (l:List A)
 | lit (n:Nat) (l:List A)
 | make (n:Nat) (z:V) (cS:Nat) (l c:A)
 | app (n cS:Nat) (x y:A)
 | aRn (cS:Nat) (x y:A)
 | call (f:FuncId) (l:List A)
 | aKg (f:A) (l:List A)
 | fn (f:FuncId) (l:List A)
 | aYc (a:A)
 | ext (a:A) (i:Nat)
 | pick (c a b:A)
 | chk (n:Nat) (a:A)
 | aYd (a:A)
 | b4q (a:A)
 | inb (n:Nat) (i:A)
 | nth (l:List A) (i:A)
 | pre (n:Nat) (a:A)
 deriving Inhabited
inductive L where
 | bind (e:E) (g:Option (A×Bool)) (k:L)
 | ite (c:A) (t e:L)
 | ret (a:A)
 | b4r (l:List A)
 | join (m:Nat) (body k:L)
 | loop (init:List A) (body:L)
 | jmp (d:Nat) (l:List A)
 deriving Inhabited
def aB (op:BinOp) (x y:V):Option V :=
 match x,y with
 | .int k a,.int k' b =>
  match op with
  | .shl | .shr=>vV op k a b
  | _=>if k=k' then hX op k a b else none
 | .str a,.str b=>sI op a b
 | _,_=>none
def eqS (q:Nat) (x y:V):Option Bool :=
 match q,x,y with
 | 0,.bool a,.bool b=>some (a == b)
 | 1,.int k a,.int k' b=>if k=k' then some (a == b) else none
 | 2,.str a,.str b=>some (a == b)
 | _,_,_=>none
def eY:List Nat→List V→List V→Option Bool
 | [],[],[]=>some true
 | q::qs,x::xs,y::ys =>
  match eqS q x y,eY qs xs ys with
  | some a,some b=>some (a && b)
  | _,_=>none
 | _,_,_=>none
def aAj (neg:Bool) (x y:V):Option V :=
 match x,y with
 | .bool a,.bool b=>some (.bool ((a == b) != neg))
 | _,_=>none
def aAk (qs:List Nat) (neg:Bool) (x y:V):Option V :=
 match x,y with
 | .agg xs,.agg ys=>(eY qs xs ys).map fun b=>.bool (b != neg)
 | _,_=>none
def mmK (max:Bool) (x y:V):Option V :=
 match x,y with
 | .int k a,.int _ b=>some (.int k (if max then (if b > a then b else a) else (if b < a then b else a)))
 | _,_=>none
def aYe (n:Nat) (x:V) (lo hi:Option V):Option V :=
 match x with
 | .sl _ es =>
  match lN hi es.length es.length with
  | some h =>
   match lN lo 0 h with
   | some l=>if es.all (fun e=>e.cells.length == n)=true then some (.sl .ro ((es.take h).drop l)) else none
   | none=>none
  | none=>none
 | _=>none
def bD (n:Nat) (x:V):Option V :=
 match x with
 | .agg cs=>if cs.length=n∧cs.all sc=true then some (.agg cs) else none
 | _=>none
def iJ (x:V):Option V:=if sc x then some x else none
def eJ (g:Bool) (n:Nat) (x i:V):Option V :=
 match x,i with
 | .sl _ es,.int _ k =>
  if 0≤k then
   match es[k.toNat]? with
   | some e=>if g then bD n e else iJ e
   | none=>none
  else none
 | _,_=>none
def qL (g:Bool) (n off:Nat) (x:V):Option V :=
 match x with
 | .agg cs =>
  if g then (if off+n≤cs.length then bD n (.agg ((cs.drop off).take n)) else none)
  else (match cs[off]? with | some c=>iJ c | none=>none)
 | _=>none
def aI (l:List V):Option V:=if l.all sc then some (.agg l) else none
def hG (n:Nat) (l:List V):Option V :=
 if l.length*n≤1000000∧l.all (fun e=>e.cells.length == n && e.fZ)=true then some (.sl .ro l) else none
def aO1 (z:V) (cS:Nat) (l c:V):Option V :=
 match l,c with
 | .int _ n,.int _ k=>if 0≤n∧n≤k∧k≤9223372036854775807∧cS*k≤140737488355328 then some (.sl .ro (List.replicate n.toNat z)) else none
 | _,_=>none
def iB (n cS:Nat) (x y:V):Option V :=
 match x,y with
 | .sl _ es,.sl _ ys =>
  if (es.length+ys.length)*(cS+1)≤70368744177664∧es.all (fun e=>e.cells.length == n)=true∧ys.all (fun e=>e.cells.length == n)=true then some (.sl .ro (es++ys)) else none
 | _,_=>none
def aYf (cS:Nat) (x y:V):Option V :=
 match y with
 | .str s=>iB 1 cS x (.sl .ro (s.map fun b=>.int .u8 b.toNat))
 | _=>none
def z8:Nat:=1000000
def uE (p:PT) (f:V) (l:List V):Option V :=
 match f with
 | .func g caps=>bif Nat.blt g z8 then p g (l++caps) else none
 | _=>none
def hJ (n:Nat) (x:V):Option V :=
 match x with
 | .aM vs=>some (.aM (vs.take n))
 | _=>none
def tO:V→Bool
 | .bool _ | .undef=>true
 | _=>false
def iT (x:V):Option V:=if tO x then some x else none
def b4s (n:Nat) (i:V):Option V :=
 match i with
 | .int k m=>if 0≤m∧m < n then some (.int k m) else none
 | _=>none
def b4t (l:List V) (i:V):Option V :=
 match i with
 | .int _ m =>
  if 0≤m then
   match l[m.toNat]? with
   | some x=>iJ x
   | none=>none
  else none
 | _=>none
def aO2 (x:V):Option V :=
 match x with
 | .func f cs=>some (.func f cs)
 | _=>none
def E.ev (p:PT) (ρ:Nat→V):E→Option V
 | .id a=>some (a.den ρ)
 | .jP a=>Fbs.jP (a.den ρ)
 | .dU a=>Fbs.dU (a.den ρ)
 | .bin op a b=>aB op (a.den ρ) (b.den ρ)
 | .eqB n a b=>aAj n (a.den ρ) (b.den ρ)
 | .eqA n g a b=>aAk n g (a.den ρ) (b.den ρ)
 | .un op a=>rU op (a.den ρ)
 | .mm g a b=>mmK g (a.den ρ) (b.den ρ)
 | .vK k a=>Fbs.vK k (a.den ρ)
 | .uC a=>Fbs.uC (a.den ρ)
 | .uD a=>Fbs.uD (a.den ρ)
 | .slS a lo hi=>wG (a.den ρ) (lo.map (A.den ρ)) (hi.map (A.den ρ))
 | .slL n a lo hi=>aYe n (a.den ρ) (lo.map (A.den ρ)) (hi.map (A.den ρ))
 | .aYa a i=>gD (a.den ρ) (i.den ρ)
 | .aYb g n a i=>eJ g n (a.den ρ) (i.den ρ)
 | .b4p len g n a i=>a5p len g n (a.den ρ) (i.den ρ)
 | .part g n off a=>qL g n off (a.den ρ)
 | .agg l=>aI (l.map (A.den ρ))
 | .lit n l=>hG n (l.map (A.den ρ))
 | .make _ z b l c=>aO1 z b (l.den ρ) (c.den ρ)
 | .app n b x y=>iB n b (x.den ρ) (y.den ρ)
 | .aRn b x y=>aYf b (x.den ρ) (y.den ρ)
 | .call f l=>p f (l.map (A.den ρ))
 | .aKg f l=>uE p (f.den ρ) (l.map (A.den ρ))
 | .fn f l=>some (.func f (l.map (A.den ρ)))
 | .aYc a=>aO2 (a.den ρ)
 | .ext a i=>aD (a.den ρ) i
 | .pick c a b=>aZ (c.den ρ) (a.den ρ) (b.den ρ)
 | .chk n a=>bD n (a.den ρ)
 | .aYd a=>iJ (a.den ρ)
 | .b4q a=>iT (a.den ρ)
 | .inb n i=>b4s n (i.den ρ)
 | .nth l i=>b4t (l.map (A.den ρ)) (i.den ρ)
 | .pre n a=>hJ n (a.den ρ)
def ext (ρ:Nat→V) (n:Nat) (y:V):Nat→V:=fun i=>bif Nat.beq i n then y else ρ i
def gv (vs:List V) (i:Nat):V:=vs.getD i .undef
def exts (ρ:Nat→V) (n:Nat) (vs:List V):Nat→V:=fun i=>bif Nat.ble n i then gv vs (i - n) else ρ i
def bG (c:V) (t e:Prop):Prop :=
 match c with
 | .bool b=>if b then t else e
 | _=>False
def b6y (p:PT) (ρ:Nat→V) (e:E):Option (A×Bool)→Option V
 | none=>e.ev p ρ
 | some (g,want)=>aK (g.den ρ) want (e.ev p ρ)
def aFz (F:(List V→Prop)→List V→Prop):Nat→List V→Prop
 | 0,_=>False
 | n+1,vs=>F (aFz F n) vs
def kZ (F:(List V→Prop)→List V→Prop) (vs:List V):Prop:=∃ n,aFz F n vs
def nX (k:List V→Prop) (body:(List V→Prop)→Prop):Prop:=body k
def L.wp (p:PT) (Q:V→Prop):L→Nat→(Nat→V)→List (List V→Prop)→Prop
 | .bind e g k,n,ρ,ks=>opt (b6y p ρ e g) fun y=>k.wp p Q (n+1) (ext ρ n y) ks
 | .ite c t e,n,ρ,ks=>bG (c.den ρ) (t.wp p Q n ρ ks) (e.wp p Q n ρ ks)
 | .ret a,_,ρ,_=>Q (a.den ρ)
 | .b4r l,_,ρ,_=>Q (.aM (l.map (A.den ρ)))
 | .join m body k,n,ρ,ks=>nX (fun vs=>vs.length=m∧k.wp p Q (n+m) (exts ρ n vs) ks) fun r=>body.wp p Q n ρ (r::ks)
 | .loop init body,n,ρ,ks=>kZ (fun r vs=>vs.length=init.length∧body.wp p Q (n+init.length) (exts ρ n vs) (r::ks)) (init.map (A.den ρ))
 | .jmp d l,_,ρ,ks =>
  match ks[d]? with
  | some k=>k (l.map (A.den ρ))
  | none=>False
theorem fK {F:(List V→Prop)→List V→Prop} {vs:List V} (I:List V→Prop) (μ:List V→Nat) (h0:I vs)
  (round:∀ (r:List V→Prop) (vs:List V),I vs→(∀ vs',I vs'→μ vs' < μ vs→r vs')→F r vs):kZ F vs:=by
 have key:∀ n vs,μ vs < n→I vs→aFz F n vs:=by
  intro n
  induction n with
  | zero=>intro vs h; omega
  | succ n ih=>exact fun vs h hI=>round _ vs hI fun vs' hI' hμ=>ih vs' (by omega) hI'
 exact ⟨_,key _ vs (Nat.lt_succ_self _) h0⟩
end Go.Fbs

/- Calls that are led to boxes: what goes in,what comes out. -/
namespace Go.Fbs
mutual
def V.bP:V→Bool
 | .ptr _ _=>false
 | .map (some _)=>false
 | .slr ..=>false
 | .sl .ro es=>aO es
 | .sl _ _=>false
 | .agg cs=>aO cs
 | .ro cs=>aO cs
 | .func _ cs=>aO cs
 | .aM vs=>aO vs
 | _=>true
def aO:List V→Bool
 | []=>true
 | v::vs=>v.bP && aO vs
end
theorem rB:∀ {vs:List V},aO vs=true↔∀ v ∈ vs,v.bP=true
 | []=>by simp [aO]
 | v::vs=>by simp [aO,rB (vs:=vs)]
mutual
theorem rC:∀ {v:V},v.bP=true→v.plain=true∧v.aJ=v
 | .bool _,_=>⟨rfl,rfl⟩
 | .int _ _,_=>⟨rfl,rfl⟩
 | .str _,_=>⟨rfl,rfl⟩
 | .ptr _ _,h=>by simp [V.bP] at h
 | .ro cs,h=>by
  simp only [V.bP] at h
  have:=nI h
  exact ⟨this.1,by simp only [V.aJ,this.2]⟩
 | .dQ,_=>⟨rfl,rfl⟩
 | .sl .ro es,h=>by
  simp only [V.bP] at h
  have:=nI h
  exact ⟨this.1,by simp only [V.aJ,this.2]⟩
 | .sl .full es,h=>by simp [V.bP] at h
 | .sl (.own i) es,h=>by simp [V.bP] at h
 | .map none,_=>⟨rfl,rfl⟩
 | .map (some _),h=>by simp [V.bP] at h
 | .slr ..,h=>by simp [V.bP] at h
 | .func _ cs,h=>by
  simp only [V.bP] at h
  have:=nI h
  exact ⟨this.1,by simp only [V.aJ,this.2]⟩
 | .agg cs,h=>by
  simp only [V.bP] at h
  have:=nI h
  exact ⟨this.1,by simp only [V.aJ,this.2]⟩
 | .aM cs,h=>by
  simp only [V.bP] at h
  have:=nI h
  exact ⟨this.1,by simp only [V.aJ,this.2]⟩
 | .undef,_=>⟨rfl,rfl⟩
 | .any,_=>⟨rfl,rfl⟩
theorem nI:∀ {vs:List V},aO vs=true→r7 vs=true∧a0p vs=vs
 | [],_=>⟨rfl,rfl⟩
 | v::vs,h=>by
  simp only [aO,zxz] at h
  have h1:=rC h.1
  have h2:=nI h.2
  exact ⟨by simp only [r7,h1.1,h2.1]; rfl,by simp only [a0p,h1.2,h2.2]⟩
end
def pack:List V→V
 | [a]=>a
 | l=>.aM l
inductive CK where
 | pl
 | gr (sz:Nat)
 deriving Inhabited
inductive AK where
 | v
 | b (off:Nat) (ks:List CK)
 deriving Inhabited
inductive GK where
 | one
 | mR (f:FuncId) (n:Nat)
 deriving Inhabited
structure hY where
 cP:Nat
 as:List AK
 gr:List GK
 deriving Inhabited
def qN:List GK→List V→Option (List V)
 | [],vs=>some vs
 | .one::gs,v::vs=>(qN gs vs).map (v :: ·)
 | .mR f n::gs,.func f' cs::vs=>if f'=f∧cs.length=n then (qN gs vs).map (cs ++ ·) else none
 | _,_=>none
def unA:List GK→List V→List V
 | [],vs=>vs
 | .one::gs,vs=>vs.take 1++unA gs (vs.drop 1)
 | .mR f n::gs,vs=>.func f (vs.take n)::unA gs (vs.drop n)
abbrev bHf:=List (FuncId×(FuncId×hY))
def cO:List AK→List (List CK)
 | []=>[]
 | .v::r=>cO r
 | .b _ ks::r=>ks::cO r
def nD (T:List (Nat×Nat)):List CK→List V→Option (List V×List GA)
 | [],[]=>some ([],[])
 | .pl::ks,c::cs=>(nD T ks cs).map fun q=>(c.aJ::q.1,q.2)
 | .gr sz::ks,.sl .full es::cs=>if 0 < sz then (nD T ks cs).map fun q=>(.sl .ro (es.map V.aJ)::q.1,.full es.length sz::q.2) else none
 | .gr sz :: ks,.sl (.own i) es :: cs=>if 0 < sz ∧ T[i]? = some (es.length,sz) then (nD T ks cs).map fun q=>(.sl .ro (es.map V.aJ) :: q.1,.own i :: q.2) else none
 | _,_=>none
def pN (m:Hp):List AK→List V→Option (List V×List Nat×List GA)
 | [],[]=>some ([],[],[])
 | .v::ks,a::as=>(pN m ks as).map fun q=>(a.aJ::q.1,q.2)
 | .b off cks::ks,.ptr l o::as =>
  if o=off then
   match m.H[l]? with
   | some (.cells cs) =>
    match nD m.T cks cs,pN m ks as with
    | some (w,gs),some q=>some (.agg w::q.1,l::q.2.1,gs++q.2.2)
    | _,_=>none
   | _=>none
  else none
 | _,_=>none
def iY (q:Nat):List CK→List V→List V×List (Nat×Nat)
 | .gr sz::ks,.sl _ es::ws=>(.sl (.own q) es::(iY (q+1) ks ws).1,(es.length,sz)::(iY (q+1) ks ws).2)
 | _::ks,w::ws=>(w::(iY q ks ws).1,(iY q ks ws).2)
 | _,_=>([],[])
def jJ (b q:Nat):List AK→List V→List V×List LO×List (Nat×Nat)
 | .v::ks,w::ws=>(w::(jJ b q ks ws).1,(jJ b q ks ws).2)
 | .b off cks::ks,.agg cs::ws =>
  (.ptr b off::(jJ (b+1) (q+(iY q cks cs).2.length) ks ws).1,.cells (iY q cks cs).1::(jJ (b+1) (q+(iY q cks cs).2.length) ks ws).2.1,(iY q cks cs).2++(jJ (b+1) (q+(iY q cks cs).2.length) ks ws).2.2)
 | _,_=>([],[],[])
def a5s (m:Hp):Nat→List (List CK)→Option (List V×List GA)
 | _,[]=>some ([],[])
 | b,cks::kss =>
  match m.H[b]? with
  | some (.cells cs) =>
   match nD m.T cks cs,a5s m (b+1) kss with
   | some (w,gs),some q=>some (.agg w::q.1,gs++q.2)
   | _,_=>none
  | _=>none
def oN:Nat→List (List CK)→List Nat→List V→List LO→List LO×List (Nat×Nat)
 | q,cks::kss,l::ls,.agg ws::outs,H =>
  ((oN (q+(iY q cks ws).2.length) kss ls outs (H.set l (.cells (iY q cks ws).1))).1,(iY q cks ws).2++(oN (q+(iY q cks ws).2.length) kss ls outs (H.set l (.cells (iY q cks ws).1))).2)
 | _,_,_,_,H=>(H,[])
def oY:List CK→List V→Bool
 | [],[]=>true
 | .pl::ks,_::ws=>oY ks ws
 | .gr _::ks,.sl .ro _::ws=>oY ks ws
 | _,_=>false
def hZ:List (List CK)→List V→Bool
 | [],[]=>true
 | ks::kss,.agg ws::outs=>ws.all sc && oY ks ws && hZ kss outs
 | _,_=>false
structure bD2 (sg:hY) (v:V):Prop where
 aM:∃ rs,v = .aM rs∧sg.cP≤rs.length∧hZ (cO sg.as) (rs.drop sg.cP)=true
def a0q {α : Type} (f : Nat → α) (l : List α) : Prop:=∀ (i j n : Nat),l[i]? = some (f n) → l[j]? = some (f n) → i = j
def a7s (l:List Nat):Prop:=a0q (fun n=>n) l
def aDq (l:List GA):Prop:=a0q GA.own l
open Classical in
noncomputable def aMd (sg:hY) (F:List V→Option V) (args:List V) (m:Hp):Option (V×Hp) :=
 match (qN sg.gr args).bind (pN m sg.as) with
 | some (words,ls,gs) =>
  if a7s ls∧aDq gs then
   match F words with
   | some (.aM rs)=>some (pack (rs.take sg.cP),⟨(oN m.T.length (cO sg.as) ls (rs.drop sg.cP) m.H).1,a0o gs m.T++(oN m.T.length (cO sg.as) ls (rs.drop sg.cP) m.H).2⟩)
   | _=>none
  else none
 | none=>none
def aO3 (m1:Hp) (kss:List (List CK)) (outs:List V):Prop:=∃ gs,a5s m1 0 kss=some (outs,gs)∧aDq gs
def Callee (P:Program) (f:FuncId) (sg:hY) (words rs:List V):Prop :=
 ∀ (κ:Ctx) (w:World) (xs:List Value),Mem κ w.heap ⟨(jJ 0 0 sg.as words).2.1,(jJ 0 0 sg.as words).2.2⟩→aC κ w.heap (unA sg.gr (jJ 0 0 sg.as words).1) xs →
  Calls P f ⟨xs⟩ w (fun e w'=>∃ x κ' m1,e = .returned x∧Ext κ w ⟨(jJ 0 0 sg.as words).2.1,(jJ 0 0 sg.as words).2.2⟩ κ' w' m1∧aE κ' w'.heap (pack (rs.take sg.cP)) x∧aO3 m1 (cO sg.as) (rs.drop sg.cP))
section
variable {κ κ':Ctx} {h:bN}
theorem aKh (hw:∀ b,κ.hw b≤κ'.hw b) {v:V} {x:Value} (r:aE κ h v x) (hp:v.aJ.bP=true):aE κ' h v.aJ x :=
 a3a hw (a8t r) (rC hp).1
theorem aNm (hw : ∀ b,κ.hw b ≤ κ'.hw b) {g : Tag} {es : List V} {x : Value} (r : aE κ h (.sl g es) x) (hes : aO (es.map V.aJ) = true) {j : Nat} {L' : fM} (hj : κ'.aR[j]? = some L')
  (hg : (∃ i,g = .own i ∧ κ.aR[i]? = some L') ∨ (g = .full ∧ L'.kind = .full ∧ L'.n = es.length)) : aE κ' h (.sl (.own j) (es.map V.aJ)) x:=by
 cases r with
 | slnil _ h0 =>
  refine .slnil _ fun q hq=>?_
  simp only [Tag.own.injEq] at hq
  subst hq
  refine ⟨L',hj,fun hk=>?_⟩
  rcases hg with ⟨i,rfl,hi⟩ | ⟨_,hk',_⟩
  ·obtain ⟨L,h1,h2⟩:=h0 i rfl
   rw [hi] at h1
   simp only [zzz] at h1
   subst h1
   exact h2 hk
  ·rw [hk'] at hk; simp at hk
 | sl _ _ b off cap sz xs hx hu hl hr hc ht =>
  have e:(es.map V.aJ).length=es.length:=List.length_map ..
  rw [← e]
  refine .sl _ _ b off cap sz xs (fun i y hy=>let ⟨h1,h2⟩:=hx i y hy; ⟨zuz h1 (hw _),h2⟩) (fun v hv=>?_) (by rw [a5q,List.length_map]; exact hl) (fun i c x h1 h2=>?_) (by rw [e]; exact hc) ?_
  ·obtain ⟨v0,h1,rfl⟩:=List.mem_map.1 hv
   rw [qR]; exact hu v0 h1
  ·rw [a5q,zvz,zyy] at h1
   obtain ⟨c0,h3,rfl⟩:=h1
   have hp:c0.aJ.plain=true:=by
    refine aAe (nI hes).1 _ ?_
    rw [a5q]
    exact List.mem_map.2 ⟨c0,zyx h3,rfl⟩
   exact a3a hw (a8t (hr i c0 x h3 h2)) hp
  ·rw [e]
   refine ⟨L',hj,?_⟩
   rcases hg with ⟨i,rfl,hi⟩ | ⟨rfl,hk,hn⟩
   ·obtain ⟨L,h1,h2⟩:=ht
    rw [hi] at h1
    simp only [zzz] at h1
    subst h1
    exact h2
   ·refine ⟨fun hr=>by rw [hk] at hr; simp at hr,fun _=>⟨by omega,fun _=>ht⟩⟩
end
section
variable {κ κp κ1 κ':Ctx} {h h1:bN} {m m1:Hp}
theorem a5t {T:List (Nat×Nat)} (hT:κ.aR.map fM.told=T) (hw:∀ b,κ.hw b≤κp.hw b):∀ {cks:List CK} {cs w:List V} {gs:List GA} {q:Nat} {xs:List Value},nD T cks cs=some (w,gs)→aO w=true →
  (∀ (i : Nat) g,gs[i]? = some g → κp.aR[q + i]? = some (GA.aR κ g)) → aC κ h cs xs → aC κp h (iY q cks w).1 xs ∧ (iY q cks w).2 = gs.map fun g=>(GA.aR κ g).told
 | [],[],w,gs,q,xs,e,hc,hg,r=>by
  simp only [nD,zzz,zvy] at e
  obtain ⟨rfl,rfl⟩:=e
  obtain rfl:=r.mY
  exact ⟨aC.nil,rfl⟩
 | .pl::ks,c::cs,w,gs,q,xs,e,hc,hg,r=>by
  simp only [nD,zyy] at e
  obtain ⟨⟨w',gs'⟩,e,h1⟩:=e
  simp only [zvy] at h1
  obtain ⟨rfl,rfl⟩:=h1
  simp only [aO,zxz] at hc
  obtain ⟨x,xs',rfl,rx,r'⟩:=r.fJ
  obtain ⟨h2,h3⟩:=a5t hT hw e hc.2 hg r'
  exact ⟨aC.cons (aKh hw rx hc.1) h2,h3⟩
 | .gr sz::ks,.sl .full es::cs,w,gs,q,xs,e,hc,hg,r=>by
  simp only [nD] at e
  split at e
  ·simp only [zyy] at e
   obtain ⟨⟨w',gs'⟩,e,h1⟩:=e
   simp only [zvy] at h1
   obtain ⟨rfl,rfl⟩:=h1
   simp only [aO,zxz,V.bP] at hc
   obtain ⟨x,xs',rfl,rx,r'⟩:=r.fJ
   obtain ⟨h2,h3⟩:=a5t (q:=q+1) hT hw e hc.2 (fun i g hi=>by rw [show q+1+i=q+(i+1) by omega]; exact hg (i+1) g (by simpa using hi)) r'
   have h0:=hg 0 _ rfl
   rw [Nat.add_zero] at h0
   refine ⟨aC.cons (aNm hw rx hc.1 h0 (.inr ⟨rfl,rfl,rfl⟩)) h2,?_⟩
   simp only [iY,h3,List.map_cons,List.length_map]
   rfl
  ·simp at e
 | .gr sz::ks,.sl (.own i0) es::cs,w,gs,q,xs,e,hc,hg,r=>by
  simp only [nD] at e
  split at e
  ·rename_i hsz
   simp only [zyy] at e
   obtain ⟨⟨w',gs'⟩,e,h1⟩:=e
   simp only [zvy] at h1
   obtain ⟨rfl,rfl⟩:=h1
   simp only [aO,zxz,V.bP] at hc
   obtain ⟨x,xs',rfl,rx,r'⟩:=r.fJ
   obtain ⟨h2,h3⟩:=a5t (q:=q+1) hT hw e hc.2 (fun i g hi=>by rw [show q+1+i=q+(i+1) by omega]; exact hg (i+1) g (by simpa using hi)) r'
   have h0:=hg 0 _ rfl
   rw [Nat.add_zero] at h0
   have hti:=hsz.2
   rw [← hT,zvz,zyy] at hti
   obtain ⟨L,hL,hLt⟩:=hti
   have hga:GA.aR κ (.own i0)=L:=by simp [GA.aR,hL]
   rw [hga] at h0
   refine ⟨aC.cons (aNm hw rx hc.1 h0 (.inl ⟨i0,rfl,hL⟩)) h2,?_⟩
   simp only [iY,h3,List.map_cons,List.length_map,hga,hLt]
  ·simp at e
 | [],_::_,_,_,_,_,e,_,_,_=>by simp [nD] at e
 | .pl::_,[],_,_,_,_,e,_,_,_=>by simp [nD] at e
 | .gr _::_,[],_,_,_,_,e,_,_,_=>by simp [nD] at e
 | .gr _::_,.sl .ro _::_,_,_,_,_,e,_,_,_=>by simp [nD] at e
 | .gr _::_,.bool _::_,_,_,_,_,e,_,_,_=>by simp [nD] at e
 | .gr _::_,.int _ _::_,_,_,_,_,e,_,_,_=>by simp [nD] at e
 | .gr _::_,.str _::_,_,_,_,_,e,_,_,_=>by simp [nD] at e
 | .gr _::_,.ptr _ _::_,_,_,_,_,e,_,_,_=>by simp [nD] at e
 | .gr _::_,.ro _::_,_,_,_,_,e,_,_,_=>by simp [nD] at e
 | .gr _::_,.dQ::_,_,_,_,_,e,_,_,_=>by simp [nD] at e
 | .gr _::_,.map _::_,_,_,_,_,e,_,_,_=>by simp [nD] at e
 | .gr _::_,.slr .. :: _,_,_,_,_,e,_,_,_=>by simp [nD] at e
 | .gr _::_,.func _ _::_,_,_,_,_,e,_,_,_=>by simp [nD] at e
 | .gr _::_,.agg _::_,_,_,_,_,e,_,_,_=>by simp [nD] at e
 | .gr _::_,.aM _::_,_,_,_,_,e,_,_,_=>by simp [nD] at e
 | .gr _::_,.undef::_,_,_,_,_,e,_,_,_=>by simp [nD] at e
 | .gr _::_,.any::_,_,_,_,_,e,_,_,_=>by simp [nD] at e
theorem b4u {T:List (Nat×Nat)} (hT:κ.aR.map fM.told=T):∀ {cks:List CK} {cs w:List V} {gs:List GA} {q:Nat},nD T cks cs=some (w,gs)→(iY q cks w).2=gs.map fun g=>(GA.aR κ g).told:=by
 intro cks cs
 fun_induction nD T cks cs with
 | case1=>intro w gs q e; simp only [zzz,zvy] at e; obtain ⟨rfl,rfl⟩:=e; rfl
 | case2 ks c cs ih =>
  intro w gs q e
  simp only [zyy] at e
  obtain ⟨⟨w',gs'⟩,e,h1⟩:=e
  simp only [zvy] at h1
  obtain ⟨rfl,rfl⟩:=h1
  exact ih e
 | case3 sz ks es cs hs ih =>
  intro w gs q e
  simp only [zyy] at e
  obtain ⟨⟨w',gs'⟩,e,h1⟩:=e
  simp only [zvy] at h1
  obtain ⟨rfl,rfl⟩:=h1
  simp only [iY,ih e,List.map_cons,List.length_map]
  rfl
 | case4=>intro w gs q e; simp at e
 | case5 sz ks i0 es cs hs ih =>
  intro w gs q e
  simp only [zyy] at e
  obtain ⟨⟨w',gs'⟩,e,h1⟩:=e
  simp only [zvy] at h1
  obtain ⟨rfl,rfl⟩:=h1
  have hti:=hs.2
  rw [← hT,zvz,zyy] at hti
  obtain ⟨L,hL,hLt⟩:=hti
  have hga:GA.aR κ (.own i0)=L:=by simp [GA.aR,hL]
  simp only [iY,ih e,List.map_cons,List.length_map,hga,hLt]
 | case6=>intro w gs q e; simp at e
 | case7=>intro w gs q e; simp at e
theorem aRq {T : List (Nat × Nat)} : ∀ {cks : List CK} {cs w : List V} {gs : List GA},nD T cks cs = some (w,gs) → ∀ (q i : Nat),gs[q]? = some (.own i) → ∃ n sz,T[i]? = some (n,sz) ∧ 0 < sz:=by
 intro cks cs
 fun_induction nD T cks cs with
 | case1=>intro w gs e q i hi; simp only [zzz,zvy] at e; obtain ⟨_,rfl⟩:=e; simp at hi
 | case2 ks c cs ih =>
  intro w gs e q i hi
  simp only [zyy] at e
  obtain ⟨⟨w',gs'⟩,e,h1⟩:=e
  simp only [zvy] at h1
  obtain ⟨_,rfl⟩:=h1
  exact ih e q i hi
 | case3 sz ks es cs hs ih =>
  intro w gs e q i hi
  simp only [zyy] at e
  obtain ⟨⟨w',gs'⟩,e,h1⟩:=e
  simp only [zvy] at h1
  obtain ⟨_,rfl⟩:=h1
  cases q with
  | zero=>simp at hi
  | succ q=>exact ih e q i (by simpa using hi)
 | case4=>intro w gs e; simp at e
 | case5 sz ks i0 es cs hs ih =>
  intro w gs e q i hi
  simp only [zyy] at e
  obtain ⟨⟨w',gs'⟩,e,h1⟩:=e
  simp only [zvy] at h1
  obtain ⟨_,rfl⟩:=h1
  cases q with
  | zero=>simp only [List.getElem?_cons_zero,zzz,GA.own.injEq] at hi; subst hi; exact ⟨_,_,hs.2,hs.1⟩
  | succ q=>exact ih e q i (by simpa using hi)
 | case6=>intro w gs e; simp at e
 | case7=>intro w gs e; simp at e
theorem aAl {m : Hp} : ∀ {ks : List AK} {args words : List V} {ls : List Nat} {gs : List GA},pN m ks args = some (words,ls,gs) → (∀ (q i : Nat),gs[q]? = some (.own i) → ∃ n sz,m.T[i]? = some (n,sz) ∧ 0 < sz) ∧ ls.length = (cO ks).length
 | [],[],words,ls,gs,e=>by
  simp only [pN,zzz,zvy] at e
  obtain ⟨_,rfl,rfl⟩:=e
  exact ⟨fun q i hi=>by simp at hi,rfl⟩
 | .v::ks,a::as,words,ls,gs,e=>by
  simp only [pN,zyy] at e
  obtain ⟨⟨w',ls',gs'⟩,e,h1⟩:=e
  simp only [zvy] at h1
  obtain ⟨_,rfl,rfl⟩:=h1
  exact aAl (ks:=ks) e
 | .b off cks::ks,a::as,words,ls,gs,e=>by
  cases a
  case ptr l o =>
    simp only [pN] at e
    split at e
    ·split at e
     ·split at e
      ·rename_i w gs1 q h1 h2
       simp only [zzz,zvy] at e
       obtain ⟨_,rfl,rfl⟩:=e
       obtain ⟨i1,i2⟩:=aAl (words:=q.1) (ls:=q.2.1) (gs:=q.2.2) h2
       refine ⟨fun p i hi=>?_,by simp [cO,i2]⟩
       rw [List.getElem?_append] at hi
       split at hi
       ·exact aRq h1 _ _ hi
       ·exact i1 _ _ hi
      ·simp at e
     ·simp at e
    ·simp at e
  all_goals simp [pN] at e
 | [],_::_,_,_,_,e=>by simp [pN] at e
 | .v::_,[],_,_,_,e=>by simp [pN] at e
 | .b _ _::_,[],_,_,_,e=>by simp [pN] at e
theorem b84 (k:Mem κ h m) {ks:List AK} {args words:List V} {ls:List Nat} {gs:List GA} (e:pN m ks args=some (words,ls,gs)) (h1:a7s ls) (h2:aDq gs):yF κ ls gs where
 nb:=h1
 ng:=h2
 ex p i hi:=by
  obtain ⟨n,sz,h3,h4⟩:=(aAl e).1 p i hi
  rw [← k.2.2,zvz,zyy] at h3
  obtain ⟨L,hL,hLt⟩:=h3
  refine ⟨L,hL,fun hk=>?_⟩
  unfold fM.told at hLt
  rw [if_pos hk] at hLt
  simp only [zvy] at hLt
  omega
theorem aMe (k:Mem κ h m) {LS:List Nat} {GS:List GA} : ∀ {ks:List AK} {args words:List V} {ls:List Nat} {gs:List GA} {b q:Nat} {xs:List Value},pN m ks args=some (words,ls,gs)→aO words=true →
  (∀ (i l : Nat),ls[i]? = some l → LS[b + i]? = some l) → (∀ (i : Nat) g,gs[i]? = some g → GS[q + i]? = some g) → aC κ h args xs →
  aC (part κ LS GS) h (jJ b q ks words).1 xs∧(jJ b q ks words).2.1.length=ls.length∧(jJ b q ks words).2.2=gs.map (fun g=>(GA.aR κ g).told) ∧
  ∀ (j l cJ : Nat) c,ls[j]? = some l → κ.box l = some cJ → (jJ b q ks words).2.1[j]? = some c → ∃ o,h[cJ]? = some o ∧ sH (part κ LS GS) h c o
 | [],[],words,ls,gs,b,q,xs,e,hc,hl,hg,r=>by
  simp only [pN,zzz,zvy] at e
  obtain ⟨rfl,rfl,rfl⟩:=e
  obtain rfl:=r.mY
  exact ⟨aC.nil,rfl,rfl,fun j l cJ c h1=>by simp at h1⟩
 | .v::ks,a::as,words,ls,gs,b,q,xs,e,hc,hl,hg,r=>by
  simp only [pN,zyy] at e
  obtain ⟨⟨w',ls',gs'⟩,e,h1⟩:=e
  simp only [zvy] at h1
  obtain ⟨rfl,rfl,rfl⟩:=h1
  simp only [aO,zxz] at hc
  obtain ⟨x,xs',rfl,rx,r'⟩:=r.fJ
  obtain ⟨h2,h3,h4,h5⟩:=aMe k e hc.2 hl hg r'
  exact ⟨aC.cons (aKh (κ:=κ) (κ':=part κ LS GS) (fun _=>zxy _) rx hc.1) h2,h3,h4,h5⟩
 | .b off cks::ks,a::as,words,ls,gs,b,q,xs,e,hc,hl,hg,r=>by
  cases a
  case ptr l o =>
    simp only [pN] at e
    split at e
    ·rename_i ho
     subst ho
     split at e
     ·rename_i cs hcs
      split at e
      ·rename_i w gs1 qq h1 h2
       obtain ⟨ws',ls',gs'⟩:=qq
       simp only [zzz,zvy] at e
       obtain ⟨rfl,rfl,rfl⟩:=e
       simp only [aO,zxz,V.bP] at hc
       obtain ⟨x,xs',rfl,rx,r'⟩:=r.fJ
       have hlen:∀ {xs0:List Value},aC κ h cs xs0→aC (part κ LS GS) h (iY q cks w).1 xs0∧(iY q cks w).2=gs1.map fun g=>(GA.aR κ g).told:=fun r0 =>
        a5t (κp:=part κ LS GS) k.2.2 (fun _=>zxy _) h1 hc.1 (fun i g hi=>by
         have:=hg i g (by rw [List.getElem?_append_left (zzy.1 hi).1]; exact hi)
         simp only [part,zvz,this]; rfl) r0
       obtain ⟨cJ,hblk,hx⟩:=fH rx
       obtain ⟨ob,hob,xs0,E,hoe,hr0,hone⟩:=k.2.1.2 l cJ (.cells cs) hblk hcs
       obtain ⟨g1,g2⟩:=hlen hr0
       have gl:(iY q cks w).2.length=gs1.length:=by rw [g2,List.length_map]
       obtain ⟨h3,h4,h5,h6⟩:=aMe (LS:=LS) (GS:=GS) (b:=b+1) (q:=q+(iY q cks w).2.length) k h2 hc.2
        (fun i l hi=>by rw [show b+1+i=b+(i+1) by omega]; exact hl (i+1) l (by simpa using hi))
        (fun i g hi=>by
         rw [gl,show q+gs1.length+i=q+(gs1.length+i) by omega]
         refine hg (gs1.length+i) g ?_
         rw [List.getElem?_append_right (by omega),show gs1.length+i - gs1.length=i by omega]; exact hi) r'
       refine ⟨aC.cons ?_ h3,by simp only [jJ,zwx,h4],by simp only [jJ]; rw [h5,g2,List.map_append],fun j l' blk' c hj hb hcj=>?_⟩
       ·rw [hx]
        refine .ptr b o cJ ?_
        have:=hl 0 l rfl
        rw [Nat.add_zero] at this
        simp only [part,this]
        exact hblk
       ·cases j with
        | zero =>
         simp only [List.getElem?_cons_zero,zzz] at hj
         subst hj
         simp only [jJ,List.getElem?_cons_zero,zzz] at hcj
         subst hcj
         rw [hblk] at hb
         simp only [zzz] at hb
         subst hb
         exact ⟨ob,hob,xs0,E,hoe,g1,hone⟩
        | succ j =>
         simp only [zvx] at hj
         simp only [jJ,zvx] at hcj
         exact h6 j l' blk' c hj hb hcj
      ·simp at e
     ·simp at e
    ·simp at e
  all_goals simp [pN] at e
 | [],_::_,_,_,_,_,_,_,e,_,_,_,_=>by simp [pN] at e
 | .v::_,[],_,_,_,_,_,_,e,_,_,_,_=>by simp [pN] at e
 | .b _ _::_,[],_,_,_,_,_,_,e,_,_,_,_=>by simp [pN] at e
theorem aNn {m1 : Hp} : ∀ {kss : List (List CK)} {b : Nat} {outs : List V} {gs : List GA},a5s m1 b kss = some (outs,gs) → (∀ (q i : Nat),gs[q]? = some (.own i) → ∃ n sz,m1.T[i]? = some (n,sz) ∧ 0 < sz) ∧ outs.length = kss.length
 | [],b,outs,gs,e=>by
  simp only [a5s,zzz,zvy] at e
  obtain ⟨rfl,rfl⟩:=e
  exact ⟨fun q i hi=>by simp at hi,rfl⟩
 | cks::kss,b,outs,gs,e=>by
  simp only [a5s] at e
  split at e
  ·split at e
   ·rename_i w gs1 q h1 h2
    simp only [zzz,zvy] at e
    obtain ⟨rfl,rfl⟩:=e
    obtain ⟨i1,i2⟩:=aNn (outs:=q.1) (gs:=q.2) h2
    refine ⟨fun p i hi=>?_,by simp [i2]⟩
    rw [List.getElem?_append] at hi
    split at hi
    ·exact aRq h1 _ _ hi
    ·exact i1 _ _ hi
   ·simp at e
  ·simp at e
theorem aVs (k1:Mem κ1 h1 m1) (hw:∀ b,κ1.hw b≤κ'.hw b):∀ {kss:List (List CK)} {b q:Nat} {outs:List V} {gos:List GA} {ls:List Nat} {H:List LO},a5s m1 b kss=some (outs,gos)→ls.length=kss.length→aO outs=true →
  (∀ (i : Nat) g,gos[i]? = some g → κ'.aR[q + i]? = some (GA.aR κ1 g)) → a7s ls →
  (oN q kss ls outs H).2 = gos.map (fun g=>(GA.aR κ1 g).told) ∧ (oN q kss ls outs H).1.length = H.length ∧ (∀ l : Nat,(∀ i : Nat,ls[i]? ≠ some l) → (oN q kss ls outs H).1[l]? = H[l]?) ∧
  ∀ (j l cJ : Nat) c,ls[j]? = some l → κ1.box (b + j) = some cJ → (oN q kss ls outs H).1[l]? = some c → ∃ o,h1[cJ]? = some o ∧ sH κ' h1 c o
 | [],b,q,outs,gos,ls,H,e,hl,hc,hg,hd=>by
  simp only [a5s,zzz,zvy] at e
  obtain ⟨rfl,rfl⟩:=e
  obtain rfl:=List.eq_nil_of_length_eq_zero hl
  exact ⟨rfl,rfl,fun _ _=>rfl,fun j l cJ c h1=>by simp at h1⟩
 | cks::kss,b,q,outs,gos,[],H,e,hl,hc,hg,hd=>by simp at hl
 | cks::kss,b,q,outs,gos,l::ls,H,e,hl,hc,hg,hd=>by
  simp only [a5s] at e
  split at e
  ·rename_i cs hcs
   split at e
   ·rename_i w gs1 qq h2 h3
    obtain ⟨ws',gs'⟩:=qq
    simp only [zzz,zvy] at e
    obtain ⟨rfl,rfl⟩:=e
    simp only [aO,zxz,V.bP] at hc
    have hlen:∀ {xs0:List Value},aC κ1 h1 cs xs0→aC κ' h1 (iY q cks w).1 xs0∧(iY q cks w).2=gs1.map fun g=>(GA.aR κ1 g).told:=fun r0 =>
     a5t k1.2.2 hw h2 hc.1 (fun i g hi=>hg i g (by rw [List.getElem?_append_left (zzy.1 hi).1]; exact hi)) r0
    have told:(iY q cks w).2=gs1.map fun g=>(GA.aR κ1 g).told:=b4u k1.2.2 h2
    have gl:(iY q cks w).2.length=gs1.length:=by rw [told,List.length_map]
    have hd':a7s ls:=fun i j n h4 h5=>by
     have:=hd (i+1) (j+1) n (by simpa using h4) (by simpa using h5)
     omega
    have hn : ∀ i : Nat,ls[i]? ≠ some l:=fun i hi=>by
     have:=hd 0 (i+1) l rfl (by simpa using hi)
     omega
    obtain ⟨h4,h5,h6,h7⟩:=aVs (H:=H.set l (.cells (iY q cks w).1)) (b:=b+1) (q:=q+(iY q cks w).2.length) k1 hw h3 (by simpa using hl) hc.2
     (fun i g hi=>by
      rw [gl,show q+gs1.length+i=q+(gs1.length+i) by omega]
      refine hg (gs1.length+i) g ?_
      rw [List.getElem?_append_right (by omega),show gs1.length+i - gs1.length=i by omega]; exact hi) hd'
    refine ⟨by simp only [oN]; rw [h4,told,List.map_append],by simp only [oN,h5,List.length_set],fun l' hl'=>?_,fun j l' cJ c hj hb hcj=>?_⟩
    ·simp only [oN]
     rw [h6 l' fun i hi=>hl' (i+1) (by simpa using hi),List.getElem?_set_ne (fun e=>hl' 0 (by simp [e]))]
    ·cases j with
     | zero =>
      simp only [List.getElem?_cons_zero,zzz] at hj
      subst hj
      simp only [oN] at hcj
      rw [h6 l hn] at hcj
      have hlt:l < H.length:=by have:=(zzy.1 hcj).1; simpa using this
      rw [List.getElem?_set_self hlt] at hcj
      simp only [zzz] at hcj
      subst hcj
      obtain ⟨ob,hob,xs0,E,hoe,hr0,hone⟩:=k1.2.1.2 b cJ (.cells cs) hb hcs
      exact ⟨ob,hob,xs0,E,hoe,(hlen hr0).1,hone⟩
     | succ j =>
      simp only [zvx] at hj
      simp only [oN] at hcj
      exact h7 j l' cJ c hj (by rw [show b+1+j=b+(j+1) by omega]; exact hb) hcj
   ·simp at e
  ·simp at e
theorem aMf {κ:Ctx} {h:bN} : ∀ {gr:List GK} {args vs:List V} {xs:List Value},aC κ h args xs→qN gr args=some vs →
  ∃ ys:List Value,aC κ h vs ys∧∀ (κ':Ctx) (h':bN) (vs':List V),aC κ' h' vs' ys→aC κ' h' (unA gr vs') xs
 | [],args,vs,xs,r,e=>by
  simp only [qN,zzz] at e
  subst e
  exact ⟨xs,r,fun _ _ _ r'=>r'⟩
 | .one::gs,[],vs,xs,r,e=>by simp [qN] at e
 | .one::gs,a::args,vs,xs,r,e=>by
  simp only [qN,zyy] at e
  obtain ⟨vs0,e,rfl⟩:=e
  obtain ⟨x,xs',rfl,rx,r'⟩:=r.fJ
  obtain ⟨ys,h1,h2⟩:=aMf r' e
  refine ⟨x::ys,aC.cons rx h1,fun κ' h' vs' r0=>?_⟩
  have h3:=(r0.take 1).append (h2 κ' h' _ (r0.drop 1))
  exact h3
 | .mR f n::gs,[],vs,xs,r,e=>by simp [qN] at e
 | .mR f n::gs,a::args,vs,xs,r,e=>by
  cases a
  case func f' cs =>
   simp only [qN] at e
   split at e
   ·rename_i hc
    obtain ⟨rfl,hn⟩:=hc
    simp only [zyy] at e
    obtain ⟨vs0,e,rfl⟩:=e
    obtain ⟨x,xs',rfl,rx,r'⟩:=r.fJ
    obtain ⟨ys,h1,h2⟩:=aMf r' e
    cases rx with
    | func _ _ zs hl hr =>
     have rz:aC κ h cs zs:=⟨hl,hr⟩
     refine ⟨zs++ys,rz.append h1,fun κ' h' vs' r0=>?_⟩
     have ht:=r0.take n
     have hd:=r0.drop n
     have hz:zs.length=n:=by rw [← hn]; exact rz.1
     rw [← hz,List.take_left,hz] at ht
     rw [← hz,List.drop_left,hz] at hd
     exact aC.cons (.func _ _ _ ht.1 ht.2) (h2 κ' h' _ hd)
   ·simp at e
  all_goals simp [qN] at e
theorem b4v {P:Program} {f:FuncId} {sg:hY} {words rs args:List V} {ls:List Nat} {gs:List GA} {m:Hp} (e:(qN sg.gr args).bind (pN m sg.as)=some (words,ls,gs)) (h1:a7s ls) (h2:aDq gs) (hw:aO words=true) (hr:aO rs=true)
  (hp:(pack (rs.take sg.cP)).plain=true) (hF:Callee P f sg words rs) :
  a0e P f args m (pack (rs.take sg.cP)) ⟨(oN m.T.length (cO sg.as) ls (rs.drop sg.cP) m.H).1,a0o gs m.T++(oN m.T.length (cO sg.as) ls (rs.drop sg.cP) m.H).2⟩:=by
 intro κ w xs k ra
 obtain ⟨fargs,hfl,e⟩:=zwz.1 e
 obtain ⟨ys,rf1,rf2⟩:=aMf ra hfl
 have p:=b84 k e h1 h2
 obtain ⟨a1,a2,a3,a4⟩:=aMe (LS:=ls) (GS:=gs) (b:=0) (q:=0) k e hw (fun i l h=>by rw [Nat.zero_add]; exact h) (fun i g h=>by rw [Nat.zero_add]; exact h) rf1
 have a1:=rf2 _ _ _ a1
 have km:Mem (part κ ls gs) w.heap ⟨(jJ 0 0 sg.as words).2.1,(jJ 0 0 sg.as words).2.2⟩:=by
  have:=b4n (gs:=gs) k p a2 (fun b l cJ c hl hb hc=>a4 b l cJ c hl hb hc)
  rw [a3]
  simpa [part,List.map_map,Function.comp_def] using this
 refine (hF (part κ ls gs) w xs km a1).mono fun e0 w' ⟨x,κ1,m1,he,hx,hv,gos,hend,hdist⟩=>?_
 obtain ⟨o1,o2⟩:=aNn hend
 have q:rW κ1 gos:=⟨hdist,fun p i hi=>by
  obtain ⟨n,sz,h3,_⟩:=o1 p i hi
  rw [← hx.mem.2.2,zvz,zyy] at h3
  obtain ⟨L,hL,_⟩:=h3
  exact ⟨L,hL⟩⟩
 have hkl:κ.aR.length=m.T.length:=by rw [← k.2.2,List.length_map]
 have hlen:=(aAl e).2
 have hcr:aO (rs.drop sg.cP)=true:=rB.2 fun v hv=>rB.1 hr v (List.mem_of_mem_drop hv)
 obtain ⟨b1,b2,b3,b4⟩:=aVs (κ':=back κ κ1 gs gos) (H:=m.H) (b:=0) (q:=m.T.length) hx.mem (fun b=>zxy _) hend hlen hcr (fun i g hi=>by
  simp only [back]
  rw [List.getElem?_append_right (by simp; omega)]
  simp only [List.length_mapIdx,hkl,Nat.add_sub_cancel_left,zvz,hi]
  rfl) h1
 refine ⟨x,back κ κ1 gs gos,he,⟨aVq p hx.le q,?_,by simp only [b2]; exact zxy _,fun l _ hb=>hb,hx.os,hx.out⟩,a3a (κ:=κ1) (κ':=back κ κ1 gs gos) (fun b=>zxy _) hv hp⟩
 refine back_mem k p hx.le hx.mem q b2 (fun l hl=>b3 l hl) (fun b l cJ c hl hb hc=>b4 b l cJ c hl ?_ hc) (by rw [b1])
 rw [Nat.zero_add]
 refine hx.le.box b cJ ?_
 simp only [part,hl]
 exact hb
end
end Go.Fbs

/- From code to the small language. -/
namespace Go.Fbs
inductive TD where
 | bool | int (k:IntKind) | str
 | sl (e:TypeId)
 | st (fs:List (Nat×TypeId))
 | arr (n:Nat) (e:TypeId)
 | other
 deriving Inhabited
structure TI where
 t:TypeId
 d:TD
 sz:Nat
 agg:Bool
 cS:Nat
 z:Option (List V)
 eq:Bool
 deriving Inhabited
def aKi:List TI→TypeId→Option TI
 | [],_=>none
 | i::r,t=>bif Nat.beq i.t t then some i else aKi r t
def assoc {α:Type} : List (Nat×α)→Nat→Option α
 | [],_=>none
 | (j,x)::r,i=>bif Nat.beq j i then some x else assoc r i
structure TT where
 ts:List TI
 sg:bHf
 dyn:List Nat
def TT.dy (tt:TT) (l:List Nat):TT:=⟨tt.ts,tt.sg,l⟩
def dS (tt:TT) (t:TypeId):Option TI:=aKi tt.ts t
def a2j (tt:TT) (e:FuncId):Option (FuncId×hY):=bif Nat.ble z8 e then assoc tt.sg e else none
def isE (tt:TT) (f:FuncId):Bool:=tt.sg.any fun q=>Nat.beq q.2.1 f
def aIa (P:Program) (t:TypeId):TD→Prop
 | .bool=>P.underlying t=some .bool
 | .int k=>P.underlying t=some (.int k)
 | .str=>P.underlying t=some .string
 | .sl e=>P.underlying t=some (.slice e)
 | .st fs => ∃ a : Array Field, P.underlying t = some (.struct a) ∧ a.toList.map (fun f => (f.offset, f.type)) = fs ∧ a.toList.all (fun f => f.name != "_") = true
 | .arr n e=>P.underlying t=some (.array n e)
 | .other=>True
structure aU (P:Program) (i:TI):Prop where
 d:aIa P i.t i.d
 sz:dW P i.t=some i.sz
 agg:kG P i.t=some i.agg
 cS:jN P i.t=some i.cS
 z:∀ z,i.z=some z→∃ v,iS P i.t=some v∧v.cells=z∧(i.agg=true→v = .agg z)∧(i.agg=false→z=[v])
 eq:i.eq=true→P.stoodInHeld i.t=false∧P.eqGuardType P.depth i.t=false
def a8u (tt:TT) (f:TypeId→Option (List Nat)):Nat→List (Nat×TypeId)→Option (List Nat)
 | _,[]=>some []
 | n,(off,t)::r =>
  match dS tt t,f t with
  | some ti,some q=>bif Nat.beq off n && Nat.blt 0 ti.sz then (a8u tt f (n+ti.sz) r).map (q ++ ·) else none
  | _,_=>none
def leaves (tt:TT):Nat→TypeId→Option (List Nat)
 | 0,_=>none
 | d+1,t =>
  match dS tt t with
  | some ti =>
   match ti.d with
   | .bool=>bif Nat.beq ti.sz 1 && !ti.agg then some [0] else none
   | .int _=>bif Nat.beq ti.sz 1 && !ti.agg then some [1] else none
   | .str=>bif Nat.beq ti.sz 1 && !ti.agg then some [2] else none
   | .st fs =>
    bif ti.eq && ti.agg then
     match a8u tt (leaves tt d) 0 fs with
     | some q=>bif Nat.beq q.length ti.sz then some q else none
     | none=>none
    else none
   | _=>none
  | none=>none
abbrev Gd:=Option (A×Bool)
inductive SV where
 | val (a:A)
 | lL (a:A) (g:Gd)
 | grow (k sz:Nat) (a:A)
 | lT
 | elem (a:A) (n off:Nat) (g:Gd)
 | ptr (b off:Nat) (g:Gd)
 | pix (b off n:Nat) (i:A) (g:Gd)
 | stv (a:A) (nl:List Nat)
 | mR (f:Nat) (caps:List (Nat×Nat))
 deriving Inhabited
structure SS where
 cH:List (Nat×SV)
 boxes:List (Option (List SV))
 known:List (Nat×Nat)
 cW:List Nat
 a0r:List Nat
 nv:Nat
 nk:Nat
 dep:Nat
 own:Nat
 deriving Inhabited
def SS.look (S:SS) (t:Nat):Option SV:=assoc S.cH t
def aDt:A:=.k (.sl .ro [])
def uF:SV:=.val (.k .undef)
def SV.a? : SV → Option A
 | .val a=>some a
 | .grow _ _ a=>some a
 | .lT=>some aDt
 | .stv a _=>some a
 | _=>none
def a5a:V→SV
 | .sl .full []=>.lT
 | v=>.val (.k v.aJ)
def SS.gG (S:SS):Operand→Option SV
 | .tmp t=>S.look t
 | .const v=>(V.nS v).map a5a
 | .func f=>some (.val (.k (.func f [])))
 | .global _=>none
def SS.opA (S:SS) (x:Operand):Option A:=(S.gG x).bind SV.a?
def SS.bHg (S:SS):List Operand→Option (List A)
 | []=>some []
 | x::xs =>
  match S.opA x,S.bHg xs with
  | some a,some as=>some (a::as)
  | _,_=>none
def SS.bI0 (S:SS):Option Operand→Option (Option A)
 | none=>some none
 | some x=>(S.opA x).map some
def a6v:V→V→Bool
 | .bool a,.bool b=>a == b
 | .int k a,.int k' b=>decide (k=k') && decide (a=b)
 | .str a,.str b=>decide (a=b)
 | .dQ,.dQ=>true
 | .sl .ro [],.sl .ro []=>true
 | _,_=>false
def A.same:A→A→Bool
 | .v i,.v j=>Nat.beq i j
 | .c i j,.c i' j'=>Nat.beq i i' && Nat.beq j j'
 | .k x,.k y=>a6v x y
 | _,_=>false
def Gd.same:Gd→Gd→Bool
 | none,none=>true
 | some (a,b),some (a',b')=>a.same a' && (b == b')
 | _,_=>false
def aF0:List (Nat×Nat)→List (Nat×Nat)→Bool
 | [],[]=>true
 | (a,b)::r,(a',b')::r'=>Nat.beq a a' && Nat.beq b b' && aF0 r r'
 | _,_=>false
def SV.same:SV→SV→Bool
 | .lT,.lT=>true
 | .elem a n off g,.elem a' n' off' g'=>a.same a' && Nat.beq n n' && Nat.beq off off' && g.same g'
 | .ptr b off g,.ptr b' off' g'=>Nat.beq b b' && Nat.beq off off' && g.same g'
 | .pix b off n i g,.pix b' off' n' i' g'=>Nat.beq b b' && Nat.beq off off' && Nat.beq n n' && i.same i' && g.same g'
 | .mR f l,.mR f' l'=>Nat.beq f f' && aF0 l l'
 | _,_=>false
def SV.ag (g:Gd):SV→Option A
 | .lL a g'=>bif g'.same g then some a else none
 | s=>s.a?
def SS.iN (S:SS) (g:Gd) (x:Operand):Option A:=(S.gG x).bind (SV.ag g)
def SS.mL (S:SS) (g:Gd):List Operand→Option (List A)
 | []=>some []
 | x::xs =>
  match S.iN g x,S.mL g xs with
  | some a,some as=>some (a::as)
  | _,_=>none
def SS.a62 (S:SS) (g:Gd):Option Operand→Option (Option A)
 | none=>some none
 | some x=>(S.iN g x).map some
def SV.pk (g side:Gd) (s:SV):Option A :=
 match s.ag g with
 | some a=>some a
 | none=>s.ag side
def SS.aAm (S:SS) (g side:Gd) (x:Operand):Option A:=(S.gG x).bind (SV.pk g side)
def SV.fits (s:Option SV) (t:SV):Bool :=
 match s,t with
 | some s,.val a=>(match s.a? with | some a'=>a'.same a | none=>false)
 | some s,t=>s.same t
 | none,_=>false
def A.below (n:Nat):A→Bool
 | .v i=>Nat.blt i n
 | .c i _=>Nat.blt i n
 | .k _=>true
def Gd.below (n:Nat):Gd→Bool
 | none=>true
 | some (a,_)=>a.below n
def SV.below (n:Nat):SV→Bool
 | .val a=>a.below n
 | .lL a g=>a.below n && g.below n
 | .grow _ _ a=>a.below n
 | .lT=>true
 | .elem a _ _ g=>a.below n && g.below n
 | .ptr _ _ g=>g.below n
 | .pix _ _ _ i g=>i.below n && g.below n
 | .stv a _=>a.below n
 | .mR _ _=>true
def SS.l4 (S:SS) (a:A) (n:Nat):Bool :=
 match a with
 | .v i=>(match assoc S.known i with | some m=>Nat.beq m n | none=>false)
 | .c i j=>Nat.beq n 0 && (match assoc S.known i with | some m=>Nat.blt j m | none=>false)
 | .k x=>Nat.beq n 0 && sc x
def cellsOf (i:Nat):Nat→Nat→List A
 | 0,_=>[]
 | n+1,j=>.c i j::cellsOf i n (j+1)
def aMg (n:Nat):Option Nat:=bif Nat.beq n 0 then none else some n
def rX:E→Option Nat
 | .jP _ | .dU _ | .bin .. | .eqB .. | .eqA .. | .un .. | .mm .. | .vK .. | .uC _ | .uD _ | .slS .. | .slL .. | .aYa .. | .lit .. | .make .. | .app .. | .aRn .. | .fn .. | .aYc _ | .aYd _ | .inb .. | .nth ..=>some 0
 | .aYb g n _ _=>bif g then aMg n else some 0
 | .part g n _ _=>bif g then aMg n else some 0
 | .chk n _=>aMg n
 | .agg l=>aMg l.length
 | _=>none
abbrev OL:=Option L
def jH (l:List Nat) (t:Nat):Bool:=l.any (Nat.beq t)
def SS.isB (S:SS):A→Bool
 | .v i=>jH S.cW i
 | .k x=>tO x
 | _=>false
def aF1:BinOp→Bool
 | .eql | .neq | .lss | .leq | .gtr | .geq=>true
 | _=>false
def aAn (S:SS):E→Bool
 | .bin op _ _=>aF1 op
 | .eqB .. | .eqA .. | .un .not _=>true
 | .pick _ a b=>S.isB a && S.isB b
 | _=>false
def SS.k9 (S:SS) (nv:Nat) (kn:List (Nat×Nat)) (bl:List Nat×List Nat):SS:={ S with nv:=nv,known:=kn,cW:=bl.1,a0r:=bl.2 }
def SS.zB (S:SS):A→List Nat
 | .v i=>bif jH S.cW i then S.cW else i::S.cW
 | _=>S.cW
def SS.sure (S:SS):A→Bool
 | .v i=>!jH S.a0r i
 | .c i _=>!jH S.a0r i
 | .k _=>true
def emit (g:Gd) (e:E) (S:SS) (k:A→SS→OL):OL :=
 (k (.v S.nv) (S.k9 (S.nv+1)
  (match g,rX e with
   | none,some n=>(S.nv,n)::S.known
   | _,_=>S.known)
  (bif aAn S e then S.nv::S.cW else S.cW,match g with | none=>S.a0r | some _=>S.nv::S.a0r))).map (L.bind e g)
def rY (g:Gd) (e:E) (S:SS) (k:SV→SS→OL):OL:=emit g e S fun a S=>k (.val a) S
def j3 (g:Gd) (as:List A) (e:E) (S:SS) (k:SV→SS→OL):OL :=
 match g with
 | none=>rY none e S k
 | some q=>bif as.all S.sure then emit none e S fun a S=>k (.lL a (some q)) S else rY (some q) e S k
def aYg (g:Gd) (op:BinOp) (a b:A) (S:SS) (k:SV→SS→OL):OL :=
 match op with
 | .quo | .rem | .shl | .shr=>rY g (.bin op a b) S k
 | _=>j3 g [a,b] (.bin op a b) S k
def a0t (g:Gd) (n:Nat) (a:A) (S:SS) (k:List A→SS→OL):OL :=
 bif Nat.beq n 0 then none else
 match a with
 | .v i=>bif S.l4 (.v i) n then k (cellsOf i n 0) S else emit g (.chk n a) S fun _ S'=>k (cellsOf S.nv n 0) S'
 | a=>emit g (.chk n a) S fun _ S'=>k (cellsOf S.nv n 0) S'
def aDu (g:Gd) (a:A) (S:SS) (k:A→SS→OL):OL :=
 bif S.l4 a 0 then k a S else emit g (.aYd a) S k
def gO {α:Type} (cs:List α) (off:Nat) (new:List α):List α:=cs.take off++new++cs.drop (off+new.length)
def a3d (tt:TT) (g:Gd) (place:Nat→Option (Nat×TypeId)):List (Nat×Operand)→List A→SS→(List A→SS→OL)→OL
 | [],cs,S,k=>k cs S
 | (i,x)::r,cs,S,k =>
  match place i,S.iN g x with
  | some (off,t),some a =>
   match dS tt t with
   | some ti =>
    bif Nat.ble (off+ti.sz) cs.length then
     bif ti.agg then a0t g ti.sz a S fun l S'=>a3d tt g place r (gO cs off l) S' k
     else bif Nat.beq ti.sz 1 then aDu g a S fun a' S'=>a3d tt g place r (gO cs off [a']) S' k else none
    else none
   | none=>none
  | _,_=>none
def a8v:Nat→List (Nat×Operand)→Bool
 | _,[]=>true
 | n,(i,_)::r=>Nat.beq i n && a8v (n+1) r
def aF2:List SV→Option (List A)
 | []=>some []
 | s::r =>
  match s.a?,aF2 r with
  | some a,some as=>some (a::as)
  | _,_=>none
def aVt:List A→Option Nat
 | .c i 0::_=>some i
 | _=>none
def a1t (i:Nat):Nat→List A→Bool
 | _,[]=>true
 | j,.c i' j'::r=>Nat.beq i i' && Nat.beq j j' && a1t i (j+1) r
 | _,_=>false
def jQ (k:Nat):SV→SV
 | .grow k' sz a=>bif Nat.beq k k' then .val a else .grow k' sz a
 | s=>s
def SS.jQ (S:SS) (k:Nat):SS :=
 {S with cH:=S.cH.map (fun p=>(p.1,Fbs.jQ k p.2)),boxes:=S.boxes.map (Option.map (List.map (Fbs.jQ k))) }
def aKj (ti:TI) (g:Gd) (cells:List SV) (off:Nat) (S:SS) (k:SV→SS→OL):OL :=
 bif ti.agg then
  bif Nat.ble (off+ti.sz) cells.length then
  match aF2 ((cells.drop off).take ti.sz) with
  | some as =>
   match g,aVt as with
   | none,some i=>bif a1t i 0 as && S.l4 (.v i) ti.sz && Nat.beq as.length ti.sz then k (.val (.v i)) S else j3 g as (.agg as) S k
   | _,_=>j3 g as (.agg as) S k
  | none=>none
  else none
 else
  match cells[off]? with
  | some s =>
   match g with
   | none=>k s S
   | some _=>(match s.a? with | some a=>k (.lL a g) S | none=>none)
  | none=>none
def kP (have_:Gd) (op:Gd):Bool :=
 match have_ with
 | none=>true
 | some _=>have_.same op
def cellsIn:List CK→List SV→Option (List A×List Nat)
 | [],[]=>some ([],[])
 | .pl::ks,s::ss =>
  match s.a?,cellsIn ks ss with
  | some a,some q=>some (a::q.1,q.2)
  | _,_=>none
 | .gr sz::ks,s::ss =>
  match s,cellsIn ks ss with
  | .grow k sz' a,some q=>bif Nat.beq sz' sz && Nat.blt 0 sz then some (a::q.1,k::q.2) else none
  | .lT,some q=>bif Nat.blt 0 sz then some (aDt::q.1,q.2) else none
  | _,_=>none
 | _,_=>none
inductive AI where
 | w (a:A)
 | b (b:Nat) (as:List A) (ks:List CK)
 deriving Inhabited
inductive Ob where
 | op (x:Operand)
 | bx (b:Nat)
def SS.obj (S:SS):Ob→Option SV
 | .op x=>S.gG x
 | .bx b=>some (.ptr b 0 none)
def wI (S:SS):List AK→List Ob→Option (List AI×List Nat)
 | [],[]=>some ([],[])
 | .v::ks,.op x::xs =>
  match S.opA x,wI S ks xs with
  | some a,some q=>some (.w a::q.1,q.2)
  | _,_=>none
 | .b off cks::ks,x::xs =>
  match S.obj x with
  | some (.ptr b o none) =>
   bif Nat.beq o off then
    match S.boxes[b]? with
    | some (some cells) =>
     match cellsIn cks cells,wI S ks xs with
     | some (as,ids),some q=>some (.b b as cks::q.1,ids++q.2)
     | _,_=>none
    | _=>none
   else none
  | _=>none
 | _,_=>none
def lC:List AI→List Nat
 | []=>[]
 | .w _::r=>lC r
 | .b b _ _::r=>b::lC r
def uG (l:List Nat) (t:Nat):Bool:=l.any (Nat.beq t)
def yS:List Nat→Bool
 | []=>true
 | n::r=>!uG r n && yS r
def aKk:List AI→SS→(List A→SS→OL)→OL
 | [],S,k=>k [] S
 | .w a::r,S,k=>aKk r S fun l S'=>k (a::l) S'
 | .b _ as _::r,S,k=>emit none (.agg as) S fun y S'=>aKk r S' fun l S''=>k (y::l) S''
def SS.qS (S:SS):List Nat→SS
 | []=>S
 | q::r=>(S.jQ q).qS r
def SS.forget (S:SS):List Nat→SS
 | []=>S
 | b::r=>({ S with boxes:=S.boxes.set b none } : SS).forget r
def jD (z:Nat):Nat→Nat→List CK→List SV
 | _,_,[]=>[]
 | j,q,.pl::ks=>.val (.c z j)::jD z (j+1) q ks
 | j,q,.gr sz::ks=>.grow q sz (.c z j)::jD z (j+1) (q+1) ks
def tD:List CK→Nat
 | []=>0
 | .pl::ks=>tD ks
 | .gr _::ks=>tD ks+1
def aKl (y:A):Nat→List AI→SS→(SS→OL)→OL
 | _,[],S,k=>k S
 | i,.w _::r,S,k=>aKl y i r S k
 | i,.b b _ ks::r,S,k=>emit none (.ext y i) S fun z S=>emit none (.chk ks.length z) S fun _ S' =>
   aKl y (i+1) r { S' with boxes:=S'.boxes.set b (some (jD S.nv 0 S'.nk ks)),nk:=S'.nk+tD ks } k
def b4w (S:SS) (x:Ob):Option (Nat×List SV) :=
 match S.obj x with
 | some (.ptr b o none) =>
  match S.boxes[b]? with
  | some (some cells)=>some (o,cells)
  | _=>none
 | _=>none
def aRr:V→Bool
 | .sl _ _=>true
 | _=>false
def a1u:CK→SV→Option Bool
 | .pl,_=>some true
 | .gr _,.grow ..=>some true
 | .gr _,.lT=>some true
 | .gr _,.val (.k v)=>bif aRr v then none else some false
 | .gr _,_=>none
def wJ:List CK→List SV→Option Bool
 | [],[]=>some true
 | k::ks,s::ss =>
  match wJ ks ss with
  | some true=>a1u k s
  | some false=>some false
  | none=>none
 | _,_=>some false
def a4m (S:SS):List AK→List Ob→Option Bool
 | [],[]=>some true
 | .v::ks,_::xs=>a4m S ks xs
 | .b off cks::ks,x::xs =>
  match b4w S x,a4m S ks xs with
  | some q,some r=>bif Nat.beq q.1 off && r then wJ cks q.2 else some false
  | _,_=>none
 | _,_=>some false
def aKm:V→Bool
 | .func _ []=>true
 | _=>false
def flS (S:SS):List GK→List Ob→Option (Option (List Ob))
 | [],xs=>some (some xs)
 | .one::gs,x::xs=>(flS S gs xs).map fun o=>o.map (x :: ·)
 | .mR f n::gs,.op x::xs =>
  match S.gG x with
  | some (.mR f' caps)=>bif Nat.beq f' f && Nat.beq caps.length n then (flS S gs xs).map fun o=>o.map ((caps.map fun q=>Ob.bx q.2) ++ ·) else some none
  | some (.val (.k v))=>bif aKm v && Nat.blt 0 n then some none else none
  | _=>none
 | .mR _ _::_,.bx _::_=>some none
 | .one::_,[]=>some none
 | .mR _ _::_,[]=>some none
def b4x (S:SS) (sg:hY) (xs:List Ob):Option Bool :=
 match flS S sg.gr xs with
 | some (some ys)=>a4m S sg.as ys
 | some none=>some false
 | none=>none
def a2k (tt:TT) (S:SS) (f:FuncId) (xs:List Ob):List FuncId→Option (FuncId×hY)
 | []=>none
 | e::r =>
  match a2j tt e with
  | some q=>bif Nat.beq q.1 f then (match b4x S q.2 xs with | some true=>some (e,q.2) | some false=>a2k tt S f xs r | none=>none) else a2k tt S f xs r
  | none=>a2k tt S f xs r
def aO4 (tt:TT) (f:FuncId) (xs:List Ob) (S:SS) (k:SV→SS→OL):OL :=
 match a2k tt S f xs (tt.sg.map (·.1)) with
 | some (e,sg) =>
  match (match flS S sg.gr xs with | some (some ys)=>wI S sg.as ys | _=>none) with
  | some (ais,ids) =>
   bif yS ids && yS (lC ais) then
    aKk ais S fun ws S=>emit none (.call e ws) S fun y S =>
     emit none (bif Nat.beq sg.cP 1 then .ext y 0 else .pre sg.cP y) ((S.qS ids).forget (lC ais)) fun r S =>
      aKl y sg.cP ais S fun S=>k (.val r) S
   else none
  | none=>none
 | none=>none
def aYh (tt:TT) (fs:List (Nat×TypeId)) (parts:List (Nat×Operand)) (z:List V):List Nat :=
 (List.range z.length).filter fun j=>(match z[j]? with | some (.sl .full [])=>true | _=>false) &&
  parts.all fun q=>match fs[q.1]? with
   | some (off,t)=>(match dS tt t with | some ti=>Nat.blt j off || Nat.ble (off+ti.sz) j | none=>false)
   | none=>false
def aKn (y:A):List Nat→SV
 | []=>.val y
 | nl=>.stv y nl
def a63 (S:SS):List Operand→Option (List (Nat×Nat))
 | []=>some []
 | .tmp t::r =>
  match S.look t,a63 S r with
  | some (.ptr b 0 none),some l=>some ((t,b)::l)
  | _,_=>none
 | _=>none
def gL (tt:TT) (g:Gd) (op:Op) (S:SS) (k:SV→SS→OL):OL :=
 match op with
 | .move x | .assign x =>
  match S.gG x with
  | some s =>
   match g with
   | none=>k s S
   | some _=>(match s.ag g with | some a=>k (.lL a g) S | none=>(match s with | .ptr b off none=>k (.ptr b off g) S | _=>none))
  | none=>none
 | .pick c a b =>
  match S.iN g c with
  | some c' =>
   match S.aAm g (some (c',true)) a,S.aAm g (some (c',false)) b with
   | some a',some b'=>j3 g [c',a',b'] (.pick c' a' b') S k
   | _,_=>none
  | none=>none
 | .load t x =>
  match S.gG x,dS tt t with
  | some (.ptr b off h),some ti =>
   bif kP h g then
    match S.boxes[b]? with
    | some (some cells)=>aKj ti g cells off S k
    | _=>none
   else none
  | some (.elem a n off h),some ti =>
   bif kP h g then
    bif Nat.beq n 0 then
     bif Nat.beq off 0 && !ti.agg then
      match g with
      | none=>k (.val a) S
      | some _=>k (.lL a g) S
     else none
    else bif ti.agg then
     bif Nat.beq off 0 && Nat.beq ti.sz n then
      match g with
      | none=>k (.val a) S
      | some _=>k (.lL a g) S
     else j3 g [a] (.part true ti.sz off a) S k
    else
     match g,a with
     | none,.v i=>bif S.l4 (.v i) n && Nat.blt off n then k (.val (.c i off)) S else j3 g [a] (.part false 1 off a) S k
     | _,_=>j3 g [a] (.part false 1 off a) S k
   else none
  | some (.pix b off n i h),some ti =>
   bif kP h g && !ti.agg then
    match S.boxes[b]? with
    | some (some cells) =>
     match aF2 ((cells.drop off).take n) with
     | some as=>rY g (.nth as i) S k
     | none=>none
    | _=>none
   else none
  | _,_=>none
 | .nilCheck x =>
  match S.gG x with
  | some (.ptr b off h)=>bif g.same h || h.same none && g.same none then k (.ptr b off h) S else none
  | some (.elem a n off h)=>bif g.same h || h.same none && g.same none then k (.elem a n off h) S else none
  | some s=>(match s.ag g with | some a=>rY g (.aYc a) S k | none=>none)
  | none=>none
 | .binOp op t x y _ =>
  match dS tt t,S.iN g x,S.iN g y with
  | some ti,some a,some b =>
   match ti.d with
   | .int _ | .str=>aYg g op a b S k
   | .bool=>bif ti.eq then (match op with | .eql=>j3 g [a,b] (.eqB false a b) S k | .neq=>j3 g [a,b] (.eqB true a b) S k | _=>none) else none
   | .st _=>bif ti.eq && ti.agg then (match leaves tt 20 t with | some qs=>(match op with | .eql=>j3 g [a,b] (.eqA qs false a b) S k | .neq=>j3 g [a,b] (.eqA qs true a b) S k | _=>none) | none=>none) else none
   | _=>none
  | _,_,_=>none
 | .unOp op _ x =>
  match S.iN g x with
  | some a=>j3 g [a] (.un op a) S k
  | none=>none
 | .convert s d x =>
  match dS tt s,dS tt d,S.iN g x with
  | some si,some di,some a =>
   match si.d,di.d with
   | .int _,.int q=>j3 g [a] (.vK q a) S k
   | .str,.str=>j3 g [a] (.uC a) S k
   | .sl e,.str=>(match dS tt e with | some ei=>(match ei.d with | .int .u8=>rY g (.uD a) S k | _=>none) | none=>none)
   | _,_=>none
  | _,_,_=>none
 | .slice t x lo hi none =>
  match dS tt t,S.iN g x,S.a62 g lo,S.a62 g hi with
  | some ti,some a,some l,some h =>
   match ti.d with
   | .str=>rY g (.slS a l h) S k
   | .sl e=>(match dS tt e with | some ei=>bif Nat.blt 0 ei.sz then rY g (.slL ei.sz a l h) S k else none | none=>none)
   | _=>none
  | _,_,_,_=>none
 | .field t x f =>
  match dS tt t,S.iN g x with
  | some ti,some a =>
   match ti.d with
   | .st fs =>
    match fs[f]? with
    | some (off,ft) =>
     match dS tt ft with
     | some fi =>
      bif fi.agg then j3 g [a] (.part true fi.sz off a) S k
      else bif Nat.beq fi.sz 1 then
       match g,a with
       | none,.v i=>bif S.l4 (.v i) ti.sz && Nat.blt off ti.sz && Nat.blt 0 ti.sz then k (.val (.c i off)) S else j3 g [a] (.part false 1 off a) S k
       | _,_=>j3 g [a] (.part false 1 off a) S k
      else none
     | none=>none
    | none=>none
   | _=>none
  | _,_=>none
 | .fieldAddr t x f =>
  match dS tt t,S.gG x with
  | some ti,some s =>
   match ti.d with
   | .st fs =>
    match fs[f]? with
    | some (off,ft) =>
     match dS tt ft with
     | some fi =>
      bif Nat.blt 0 fi.sz then
       match s with
       | .ptr b o h=>bif kP h g then k (.ptr b (o+off) g) S else none
       | .elem a n o h=>bif kP h g && Nat.blt 0 n then k (.elem a n (o+off) g) S else none
       | _=>none
      else none
     | none=>none
    | none=>none
   | _=>none
  | _,_=>none
 | .indexAddr t x i =>
  match S.gG x with
  | some (.ptr b o h) =>
   match dS tt t,S.iN g i with
   | some ti,some j =>
    match ti.d with
    | .arr n e =>
     match dS tt e with
     | some ei=>bif kP h g && Nat.blt 1 n && Nat.beq ei.sz 1 then emit g (.inb n j) S fun y S'=>k (.pix b o n y g) S' else none
     | none=>none
    | _=>none
   | _,_=>none
  | _ =>
  match dS tt t,S.iN g x,S.iN g i with
  | some ti,some a,some j =>
   match ti.d with
   | .sl e =>
    match dS tt e with
    | some ei=>bif Nat.blt 0 ei.sz && (ei.agg || Nat.beq ei.sz 1) then emit g (.aYb ei.agg ei.sz a j) S fun y S'=>k (.elem y (bif ei.agg then ei.sz else 0) 0 g) S' else none
    | none=>none
   | _=>none
  | _,_,_=>none
 | .index t x i =>
  match dS tt t,S.iN g x,S.iN g i with
  | some ti,some a,some j =>
   match ti.d with
   | .str=>rY g (.aYa a j) S k
   | .arr n e=>(match dS tt e with | some ei=>rY g (.b4p n ei.agg ei.sz a j) S k | none=>none)
   | _=>none
  | _,_,_=>none
 | .extract x i =>
  match S.iN g x with
  | some a=>j3 g [a] (.ext a i) S k
  | none=>none
 | .build t parts =>
  match dS tt t with
  | some ti =>
   match ti.d,ti.z with
   | .st fs,some z=>bif fs.all (fun q=>(dS tt q.2).isSome) then a3d tt g (fun i=>fs[i]?) parts.toList (z.map fun v=>.k v.aJ) S (fun cs S'=>match g with | none=>emit none (.agg cs) S' fun y S''=>k (aKn y (aYh tt fs parts.toList z)) S'' | some _=>j3 g cs (.agg cs) S' k) else none
   | .arr _ e,some z =>
    match dS tt e with
    | some ei=>a3d tt g (fun i=>some (i*ei.sz,e)) parts.toList (z.map fun v=>.k v.aJ) S (fun cs S'=>j3 g cs (.agg cs) S' k)
    | none=>none
   | _,_=>none
  | none=>none
 | .buildSlice t len parts =>
  match dS tt t,S.mL g (parts.toList.map (·.2)) with
  | some ti,some as =>
   match ti.d with
   | .sl e =>
    match dS tt e with
    | some ei =>
     match ei.z with
     | some z =>
      bif a8v 0 parts.toList && Nat.beq as.length len && Nat.blt 0 ei.sz && Nat.beq z.length ei.sz then
       emit g (.lit ei.sz as) S fun y S' =>
        match g with
        | none=>k (.grow S'.nk ei.sz y) { S' with nk:=S'.nk+1 }
        | some _=>k (.val y) S'
      else none
     | none=>none
    | none=>none
   | _=>none
  | _,_=>none
 | .makeFunc (.func f) first caps =>
  match g,a63 S caps.toList with
  | none,some ((t,b)::l)=>bif first.isEmpty && isE tt f then k (.mR f ((t,b)::l)) S else none
  | _,_ =>
  match S.mL g caps.toList with
  | some as=>bif first.isEmpty then rY g (.fn f as) S k else none
  | none=>none
 | .alloc t =>
  match g,dS tt t with
  | none,some ti =>
   match ti.z with
   | some z=>k (.ptr S.boxes.length 0 none) { S with boxes:=S.boxes++[some (z.map a5a)] }
   | none=>none
  | _,_=>none
 | .box t x =>
  match g,dS tt t,S.gG x with
  | none,some ti,some s =>
   bif ti.agg then
    match s with
    | .val a=>a0t none ti.sz a S fun l S'=>k (.ptr S'.boxes.length 0 none) { S' with boxes:=S'.boxes++[some (l.map .val)] }
    | .stv a nl=>a0t none ti.sz a S fun l S'=>k (.ptr S'.boxes.length 0 none) { S' with boxes:=S'.boxes++[some (l.zipIdx.map fun p=>bif jH nl p.2 then .lT else .val p.1)] }
    | _=>none
   else
    match s with
    | .val a=>aDu none a S fun a' S'=>k (.ptr S'.boxes.length 0 none) { S' with boxes:=S'.boxes++[some [.val a']] }
    | .grow q sz a=>k (.ptr S.boxes.length 0 none) { S with boxes:=S.boxes++[some [.grow q sz a]] }
    | .lT=>k (.ptr S.boxes.length 0 none) { S with boxes:=S.boxes++[some [.lT]] }
    | _=>none
  | _,_,_=>none
 | .store t x y =>
  match g,dS tt t,S.gG x,S.gG y with
  | none,some ti,some (.ptr b off none),some s =>
   match S.boxes[b]? with
   | some (some cells) =>
    bif Nat.ble (off+ti.sz) cells.length then
     bif ti.agg then
      match s with
      | .val a=>a0t none ti.sz a S fun l S'=>k uF { S' with boxes:=S'.boxes.set b (some (gO cells off (l.map .val))) }
      | .stv a nl=>a0t none ti.sz a S fun l S'=>k uF { S' with boxes:=S'.boxes.set b (some (gO cells off (l.zipIdx.map fun p=>bif jH nl p.2 then .lT else .val p.1))) }
      | _=>none
     else bif Nat.beq ti.sz 1 then
      match s with
      | .val a=>aDu none a S fun a' S'=>k uF { S' with boxes:=S'.boxes.set b (some (gO cells off [.val a'])) }
      | .grow q sz a=>k uF { S with boxes:=S.boxes.set b (some (gO cells off [.grow q sz a])) }
      | .lT=>k uF { S with boxes:=S.boxes.set b (some (gO cells off [.lT])) }
      | _=>none
     else none
    else none
   | _=>none
  | _,_,_,_=>none
 | .makeSlice t l c =>
  match g,dS tt t,S.opA l,S.opA c with
  | none,some ti,some a,some b =>
   match ti.d with
   | .sl e =>
    match dS tt e with
    | some ei =>
     match ei.z with
     | some z=>bif Nat.blt 0 ei.sz && Nat.beq z.length ei.sz && (ei.agg || Nat.beq ei.sz 1) then
       emit none (.make ei.sz (bif ei.agg then .agg (z.map V.aJ) else (z.map V.aJ).headD .undef) ei.cS a b) S fun y S'=>k (.grow S'.nk ei.sz y) { S' with nk:=S'.nk+1 } else none
     | none=>none
    | none=>none
   | _=>none
  | _,_,_,_=>none
 | .call c =>
  match c.callee,c.argTypes.toList with
  | .builtin .len,[t] =>
   match dS tt t,S.mL g c.args.toList with
   | some ti,some [a]=>(match ti.d with | .str=>j3 g [a] (.jP a) S k | .sl _=>j3 g [a] (.dU a) S k | _=>none)
   | _,_=>none
  | .builtin .min,_=>(match S.mL g c.args.toList with | some [a,b]=>j3 g [a,b] (.mm false a b) S k | _=>none)
  | .builtin .max,_=>(match S.mL g c.args.toList with | some [a,b]=>j3 g [a,b] (.mm true a b) S k | _=>none)
  | .builtin .append,[t,u] =>
   match g,dS tt t,dS tt u,c.args.toList with
   | none,some ti,some ui,[x,y] =>
    match ti.d,S.gG x,S.opA y with
    | .sl e,some sx,some b =>
     match dS tt e with
     | some ei =>
      match ei.z with
      | some z =>
      bif Nat.blt 0 ei.sz && Nat.beq z.length ei.sz then
       let go:=fun (e:E) (S:SS)=>emit none e S fun y S'=>k (.grow S'.nk ei.sz y) { S' with nk:=S'.nk+1 }
       let with_:=fun (a:A) (S:SS) =>
        match ui.d with
        | .sl _=>go (.app ei.sz ei.cS a b) S
        | .str=>bif Nat.beq ei.sz 1 then go (.aRn ei.cS a b) S else none
        | _=>none
       match sx with
       | .grow q sz a=>bif Nat.beq sz ei.sz then with_ a (S.jQ q) else none
       | .lT=>with_ aDt S
       | _=>none
      else none
      | none=>none
     | none=>none
    | _,_,_=>none
   | _,_,_,_=>none
  | .value (.func f),_ =>
   bif isE tt f then (match g with | none=>aO4 tt f (c.args.toList.map .op) S k | some _=>none)
   else (match S.mL g c.args.toList with | some as=>bif Nat.blt f z8 then rY g (.call f as) S k else none | none=>none)
  | .value (.tmp t),_ =>
   bif jH tt.dyn t then
    match g,S.look t with
    | none,some (.mR f caps)=>bif isE tt f then aO4 tt f (c.args.toList.map .op++caps.map fun q=>.bx q.2) S k else none
    | _,_=>none
   else (match S.iN g (.tmp t),S.mL g c.args.toList with | some a,some as=>rY g (.aKg a as) S k | _,_=>none)
  | .value x,_=>(match S.iN g x,S.mL g c.args.toList with | some a,some as=>rY g (.aKg a as) S k | _,_=>none)
  | _,_=>none
 | _=>none
def SS.put (N:Nat) (S:SS) (d:Option Tmp) (s:SV):Option SS :=
 match d with
 | none=>some S
 | some d=>bif Nat.blt d N then some { S with cH:=(d,s)::S.cH.filter (fun p=>!Nat.beq p.1 d) } else none
def a8w (S:SS) (g:Gd):Op→List Operand
 | .pick c a b =>
  match S.iN g c with
  | some c'=>c::((bif (S.aAm g (some (c',true)) a).isSome then [] else [a])++(bif (S.aAm g (some (c',false)) b).isSome then [] else [b]))
  | none=>[c,a,b]
 | o=>o.operands.toList
def xR (g:Gd):List Operand→SS→(SS→OL)→OL
 | [],S,k=>k S
 | .tmp t::r,S,k =>
  match S.look t with
  | some (.lL a g')=>bif g'.same g then xR g r S k else emit g' (.id a) S fun y S'=>xR g r { S' with cH:=(t,.val y)::S'.cH.filter (fun p=>!Nat.beq p.1 t) } k
  | _=>xR g r S k
 | _::r,S,k=>xR g r S k
def b1g (ops:List Oper) (S:SS) (o:Oper) (k:Gd→SS→OL):OL :=
 match o.guard with
 | none=>k none S
 | some (j,want) =>
  match (ops[j]?).bind (·.dst) with
  | some d=>xR none [.tmp d] S fun S =>
   match S.look d with
   | some s =>
    match s.a? with
    | some a=>bif S.isB a then k (some (a,want)) S else emit none (.b4q a) S fun _ S'=>k (some (a,want)) { S' with cW:=S'.zB a }
    | none=>none
   | none=>none
  | none=>none
def SV.unG (g:Gd):SV→SV
 | .lL a g'=>bif g'.same g then .val a else .lL a g'
 | .ptr b off g'=>bif g'.same g then .ptr b off none else .ptr b off g'
 | s=>s
def SS.unG (S:SS) (g:Gd):SS:={ S with cH:=S.cH.map fun p=>(p.1,p.2.unG g) }
def isSplit (tt:TT):Op→Bool
 | .call c=>(match c.callee with | .value (.func f)=>isE tt f | .value (.tmp t)=>jH tt.dyn t | _=>false)
 | .store ..=>true
 | _=>false
def aRs:List (A×Bool)→A→Option Bool
 | [],_=>none
 | (x,b)::r,a=>bif x.same a then some b else aRs r a
def aYi:A→Option Bool
 | .k (.bool b)=>some b
 | _=>none
def knB (kn:List (A×Bool)) (a:A):Option Bool :=
 match aYi a with
 | some b=>some b
 | none=>aRs kn a
def knU (kn:List (A×Bool)) (a:A) (want:Bool):Option Bool :=
 match a with
 | .k .undef=>some (!want)
 | a=>knB kn a
def a0u (kn:List (A×Bool)) (S:SS) (op:Op):Op :=
 match op with
 | .pick c a b =>
  match S.opA c with
  | some c' =>
   match knB kn c' with
   | some true=>bif (S.gG b).isSome then .move a else .pick c a b
   | some false=>bif (S.gG a).isSome then .move b else .pick c a b
   | none=>.pick c a b
  | none=>.pick c a b
 | op=>op
def xS (tt:TT) (N:Nat) (ops:List Oper):List (A×Bool)→List Oper→SS→(SS→OL)→OL
 | _,[],S,k=>k S
 | kn,o::rest,S,k =>
  b1g ops S o fun g S =>
   match g with
   | some (a,want) =>
    match knU kn a want with
    | some b =>
     bif b == want then xR none (a8w S none (a0u kn S o.op)) S fun S1=>gL tt none (a0u kn S o.op) S1 fun s S'=>match S'.put N o.dst s with | some S''=>xS tt N ops kn rest S'' k | none=>none
     else match S.put N o.dst uF with | some S'=>xS tt N ops kn rest S' k | none=>none
    | none =>
     bif isSplit tt o.op then
      match gL tt none o.op (S.unG (some (a,want))) (fun s S'=>match S'.put N o.dst s with | some S''=>xS tt N ops ((a,want)::kn) rest S'' k | none=>none),(match S.put N o.dst uF with | some S'=>xS tt N ops ((a,!want)::kn) rest S' k | none=>none) with
      | some x,some y=>some (.ite a (bif want then x else y) (bif want then y else x))
      | _,_=>none
     else xR (some (a,want)) (a8w S (some (a,want)) o.op) S fun S=>gL tt (some (a,want)) o.op S fun s S'=>match S'.put N o.dst s with | some S''=>xS tt N ops kn rest S'' k | none=>none
   | none=>xR none (a8w S none (a0u kn S o.op)) S fun S1=>gL tt none (a0u kn S o.op) S1 fun s S'=>match S'.put N o.dst s with | some S''=>xS tt N ops kn rest S'' k | none=>none
def aRt (tt:TT) (N:Nat) (ops rest:List Oper) (S:SS) (k:SS→OL):OL:=xS tt N ops [] rest S k
inductive Loc where
 | s (t:Nat)
 | c (b j:Nat)
 deriving Inhabited
inductive LK where
 | val (n:Option Nat)
 | grow (sz:Nat)
 deriving Inhabited
inductive OK where
 | loop (r:Nat) | block (id:Nat) | cond (t r:Nat)
 deriving Inhabited
abbrev Vars:=List (Loc×LK)
def OK.same:OK→OK→Bool
 | .loop a,.loop b=>Nat.beq a b
 | .block a,.block b=>Nat.beq a b
 | .cond a q,.cond b r=>Nat.beq a b && Nat.beq q r
 | _,_=>false
def aO5:List (OK×Vars)→OK→Option Vars
 | [],_=>none
 | (j,v)::r,i=>bif j.same i then some v else aO5 r i
def yG:Code→Option Nat
 | .region id _ _=>some id
 | .seq a b=>(match yG a with | some r=>some r | none=>yG b)
 | .cond _ a b=>(match yG a with | some r=>some r | none=>yG b)
 | .block _ b=>yG b
 | .loop b=>yG b
 | .scope b=>yG b
 | _=>none
def bD3 (a b:Code):Nat:=match yG a with | some r=>r | none=>(match yG b with | some r=>r | none=>0)
def zC:Code→List Nat
 | .region _ ops _=>ops.toList.filterMap (·.dst)
 | .seq a b=>zC a++zC b
 | .cond _ a b=>zC a++zC b
 | .block _ b=>zC b
 | .loop b=>zC b
 | .scope b=>zC b
 | _=>[]
def zO (S:SS) (i:Nat):LK→SV
 | .val _=>.val (.v (S.nv+i))
 | .grow sz=>.grow (S.nk+i) sz (.v (S.nv+i))
def tP (S:SS):Nat→Vars→List (Nat×SV)
 | _,[]=>[]
 | i,(.s t,q)::r=>(t,zO S i q)::tP S (i+1) r
 | i,(.c _ _,_)::r=>tP S (i+1) r
def lU (S:SS):Nat→Vars→List (Option (List SV))→List (Option (List SV))
 | _,[],bs=>bs
 | i,(.s _,_)::r,bs=>lU S (i+1) r bs
 | i,(.c b j,q)::r,bs =>
  lU S (i + 1) r (match bs[b]? with
   | some (some cells)=>bs.set b (some (cells.set j (zO S i q)))
   | _=>bs)
def pE (S:SS):Nat→Vars→List (Nat×Nat)
 | _,[]=>[]
 | i,(_,.val (some n))::r=>(S.nv+i,n)::pE S (i+1) r
 | i,_::r=>pE S (i+1) r
def a5u:Vars→List Nat
 | []=>[]
 | (.s t,_)::r=>t::a5u r
 | _::r=>a5u r
def tQ:Vars→List (Nat×Nat)
 | []=>[]
 | (.c b j,_)::r=>(b,j)::tQ r
 | _::r=>tQ r
def aF3:SV→SV
 | .grow _ _ a=>.val a
 | .stv a _=>.val a
 | s=>s
def SV.inb (n:Nat):SV→Bool
 | .ptr b _ _=>Nat.blt b n
 | .pix b _ _ _ _=>Nat.blt b n
 | .lL _ _=>false
 | .mR _ caps=>caps.all fun q=>Nat.blt q.2 n
 | _=>true
def SS.keeps (S:SS) (s:SV):Bool:=s.below S.nv && s.inb S.boxes.length
def lV (S:SS) (ds:List Nat) (vars:Vars):SS :=
 let vs:=a5u vars
 {cH:=tP S 0 vars++((S.cH.filter fun p=>!jH ds p.1 && !jH vs p.1 && S.keeps p.2).map fun p=>(p.1,aF3 p.2))
  boxes:=lU S 0 vars (S.boxes.map fun b=>match b with
   | some cells=>if cells.all S.keeps then some (cells.map aF3) else none
   | none=>none)
  known:=pE S 0 vars++(S.known.filter fun p=>Nat.blt p.1 S.nv)
  cW:=S.cW.filter fun i=>Nat.blt i S.nv
  a0r:=S.a0r
  nv:=S.nv+vars.length
  nk:=S.nk+vars.length
  dep:=S.dep
  own:=S.own }
def SS.at_ (S:SS):Loc→Option SV
 | .s t=>S.look t
 | .c b j =>
  match S.boxes[b]? with
  | some (some cells)=>cells[j]?
  | _=>none
def SS.b1h (S:SS):Option Nat→A→Bool
 | none,_=>true
 | some n,a=>S.l4 a n
def aKo (S:SS):Vars→Option (List A×List Nat)
 | []=>some ([],[])
 | (l,q)::r =>
  match S.at_ l,aKo S r with
  | some s,some (as,ids) =>
   match q,s with
   | .val n,s =>
    match s.a? with
    | some a=>bif S.b1h n a then some (a::as,ids) else none
    | none=>none
   | .grow sz,.grow k sz' a=>bif Nat.beq sz sz' && !jH ids k then some (a::as,k::ids) else none
   | .grow _,.lT=>some (aDt::as,ids)
   | _,_=>none
  | _,_=>none
def zD (vc:List (Nat×Nat)) (b:Nat):Nat→List SV→List SV→Bool
 | _,[],[]=>true
 | j,s::r,t::q=>(vc.any (fun p=>Nat.beq p.1 b && Nat.beq p.2 j) || SV.fits (some s) t) && zD vc b (j+1) r q
 | _,_,_=>false
def rP (vc:List (Nat×Nat)):Nat→List (Option (List SV))→List (Option (List SV))→Bool
 | _,_,[]=>true
 | b,_::r,none::q=>rP vc (b+1) r q
 | b,some c::r,some d::q=>zD vc b 0 c d && rP vc (b+1) r q
 | _,_,_=>false
def aKp (S H:SS) (vars:Vars):Option (List A) :=
 match aKo S vars with
 | some (as,_) =>
  bif H.cH.all (fun p=>jH (a5u vars) p.1 || SV.fits (S.look p.1) p.2) && rP (tQ vars) 0 S.boxes H.boxes && (Nat.beq S.own H.own && Nat.ble H.own H.boxes.length) then some as else none
 | none=>none
def b4y:List GK→Bool
 | []=>true
 | _=>false
def aYj (tt:TT) (f:FuncId):Bool:=tt.sg.all fun q=>!(Nat.beq q.2.1 f) || b4y q.2.2.gr
def CK0 (tt:TT):cG:=⟨isE tt,fun _ _=>none,noE,jH tt.dyn,aYj tt⟩
def aYk (tt:TT) (ops:List Oper):Nat→Nat
 | 0=>0
 | n+1=>bif mQ ops (n+1) && (ops.take (n+1)).all (fun o=>nC (CK0 tt) o.op || (oW o.op && o.guard.isNone)) then n+1 else aYk tt ops n
def slX (tt:TT) (t:TypeId):Bool:=match dS tt t with | some ti=>(match ti.d with | .sl _=>true | _=>false) | none=>false
def SV.a64:SV→Option (Option Nat)
 | .ptr b _ _=>some (some b)
 | .pix b _ _ _ _=>some (some b)
 | .elem ..=>some none
 | _=>none
def SS.apart (S:SS):Rt→Rt→Bool
 | .tm t,.tm t' =>
  match (S.look t).bind SV.a64,(S.look t').bind SV.a64 with
  | some (some b),some (some b')=>!Nat.beq b b'
  | some none,some _=>true
  | _,_=>false
 | .tm t,.nw _=>((S.look t).bind SV.a64).isSome
 | .nw _,.tm t=>((S.look t).bind SV.a64).isSome
 | .nw i,.nw j=>!Nat.beq i j
 | _,_=>true
abbrev KX:=SS→OL
def aAo (H:SS) (dep:Nat) (vars:Vars):KX:=fun S=>(aKp S H vars).map (L.jmp (S.dep - 1 - dep))
def aIb:List (Nat×KX)→Nat→Option KX
 | [],_=>none
 | (j,k)::r,i=>bif Nat.beq j i then some k else aIb r i
def lH (tt:TT) (N:Nat) (orc:List (OK×Vars)):Code→SS→List (Nat×KX)→KX→KX→OL
 | .skip,S,_,k,_=>k S
 | .label _,S,_,k,_=>k S
 | .region _ ops d,S,_,k,_ =>
  bif d then (bif (let n:=aYk tt ops.toList ops.toList.length; mQ ops.toList n && (ops.toList.take n).all (fun o=>nC (CK0 tt) o.op || (oW o.op && o.guard.isNone))) then aRt tt N ops.toList ops.toList S k else bif a1s (CK0 tt) (slX tt) S.apart ops.toList then aRt tt N ops.toList ops.toList S k else none)
  else aRt tt N ops.toList ops.toList S k
 | .seq a b,S,xs,k,r=>lH tt N orc a S xs (fun S'=>lH tt N orc b S' xs k r) r
 | .cond c a b,S,xs,k,r =>
  match S.opA c with
  | some q =>
   match aYi q with
   | some true=>lH tt N orc a S xs k r
   | some false=>lH tt N orc b S xs k r
   | none =>
   match (match c with | .tmp t=>aO5 orc (.cond t (bD3 a b)) | _=>none) with
   | none =>
    let S1:={ S with cW:=S.zB q }
    match lH tt N orc a S1 xs k r,lH tt N orc b S1 xs k r with
    | some x,some y=>some (.ite q x y)
    | _,_=>none
   | some vars =>
    let H:=lV S (zC a++zC b) vars
    let S1:={ S with dep:=S.dep+1,cW:=S.zB q }
    match k H,lH tt N orc a S1 xs (aAo H S.dep vars) r,lH tt N orc b S1 xs (aAo H S.dep vars) r with
    | some z,some x,some y=>some (.join vars.length (.ite q x y) z)
    | _,_,_=>none
  | none=>none
 | .block id c,S,xs,k,r =>
  match aO5 orc (.block id) with
  | none=>lH tt N orc c S ((id,k)::xs) k r
  | some vars =>
   let H:=lV S (zC c) vars
   match k H,lH tt N orc c { S with dep:=S.dep+1 } ((id,aAo H S.dep vars)::xs) (aAo H S.dep vars) r with
   | some z,some x=>some (.join vars.length x z)
   | _,_=>none
 | .loop c,S,xs,_,r =>
  match (yG c).bind (fun q=>aO5 orc (.loop q)) with
  | some vars =>
   let H:=lV S (zC c) vars
   match aKp S H vars,lH tt N orc c { H with dep:=S.dep+1 } xs (aAo H S.dep vars) r with
   | some init,some x=>some (.loop init x)
   | _,_=>none
  | none=>none
 | .exit id,S,xs,_,_ =>
  match aIb xs id with
  | some k=>k S
  | none=>none
 | .ret,S,_,_,r=>r S
 | _,_,_,_,_=>none
def a3u (tt:TT):List ResultVar→List A→SS→OL
 | [],[a],_=>some (.ret a)
 | [],as,_=>some (.b4r as)
 | .tmp t::r,as,S =>
  match (S.look t).bind SV.a? with
  | some a=>a3u tt r (as++[a]) S
  | none=>none
 | .cell t ty::r,as,S =>
  match S.look t,dS tt ty with
  | some (.ptr b off none),some ti =>
   match S.boxes[b]? with
   | some (some cells)=>aKj ti none cells off S fun s S'=>match s.a? with | some a=>a3u tt r (as ++ [a]) S' | none=>none
   | _=>none
  | _,_=>none
def a1v:Nat→Nat→List (Nat×SV)
 | _,0=>[]
 | i,n+1=>(i,.val (.v i))::a1v (i+1) n
def a5v (o:Oper):Option (Nat×Operand) :=
 match o.guard,o.dst,o.op with
 | none,some d,.move x=>some (d,x)
 | none,some d,.assign x=>some (d,x)
 | _,_,_=>none
def b4z (o:Oper):Option (Nat×TypeId×Operand×Operand) :=
 match o.guard,o.dst,o.op with
 | none,some d,.makeSlice t l c=>some (d,t,l,c)
 | _,_,_=>none
def b40 (o:Oper):Option (Nat×Operand×TypeId) :=
 match o.guard,o.dst,o.op with
 | none,some d,.call ⟨.builtin .len,args,ts⟩ =>
  (match args.toList,ts.toList with
  | [x],[t]=>some (d,x,t)
  | _,_=>none)
 | _,_,_=>none
def aYl (o:Oper):Option (Nat×BinOp×Operand×Operand) :=
 match o.guard,o.dst,o.op with
 | none,some d,.binOp op _ x y _=>some (d,op,x,y)
 | _,_,_=>none
def b41 (o:Oper):Option (Nat×TypeId×Operand×Operand) :=
 match o.guard,o.dst,o.op with
 | none,some d,.indexAddr t x i=>some (d,t,x,i)
 | _,_,_=>none
def b42 (o:Oper):Option (TypeId×Operand×Operand) :=
 match o.guard,o.dst,o.op with
 | none,none,.store t x v=>some (t,x,v)
 | _,_,_=>none
def isT (x:Operand) (t:Nat):Bool :=
 match x with
 | .tmp s=>Nat.beq s t
 | _=>false
def isZ (x:Operand) (n:Nat):Bool :=
 match x with
 | .const (.int .i64 (.ofNat m))=>Nat.beq m n
 | _=>false
def aYm:BinOp→Bool
 | .lss=>true
 | _=>false
def isAdd:BinOp→Bool
 | .add=>true
 | _=>false
def aYn (x:Operand):Option Nat :=
 match x with
 | .const (.int .u8 (.ofNat c))=>some c
 | _=>none
structure FI where
 ks:Operand
 ty:TypeId
 ety:TypeId
 c:Nat
 b:Nat
 D:List Nat
def aYo (N out out' m:Nat) (o1 o2 o3 o4 o5 o6 o7 o8 o9 oA oB oC oD oE oF:Oper):Option FI:=do
 let v1 ← a5v o1
 let v2 ← b4z o2
 let v3 ← a5v o3
 let v4 ← a5v o4
 let v5 ← b40 o5
 let v6 ← a5v o6
 let v7 ← aYl o7
 let v8 ← a5v o8
 let v9 ← a5v o9
 let vA ← a5v oA
 let vB ← a5v oB
 let vC ← b41 oC
 let vD ← b42 oD
 let vE ← aYl oE
 let vF ← a5v oF
 let c ← aYn vD.2.2
 let D:=[v1.1,v2.1,v3.1,v4.1,v5.1,v6.1,v7.1,v8.1,v9.1,vA.1,vB.1,vC.1,vE.1]
 bif isT v2.2.2.1 v1.1 && isT v2.2.2.2 v1.1 && isT v3.2 v2.1 && isT v4.2 v3.1 && isT v5.2.1 v4.1 && Nat.beq v5.2.2 v2.2.1 && isZ v6.2 0 &&
  Nat.beq v7.1 m && aYm v7.2.1 && isT v7.2.2.1 v6.1 && isT v7.2.2.2 v5.1 && isT v8.2 v6.1 && isT v9.2 v8.1 && isT vA.2 v3.1 && isT vB.2 v9.1 &&
  isT vC.2.2.1 vA.1 && isT vC.2.2.2 vB.1 && Nat.beq vC.2.1 v2.2.1 && isT vD.2.1 vC.1 && isAdd vE.2.1 && isT vE.2.2.1 v6.1 && isZ vE.2.2.2 1 && isT vF.2 vE.1 && Nat.beq vF.1 v6.1 &&
  Nat.beq out out' && D.all (fun d=>Nat.blt d N) && yS D then some ⟨v1.2,v2.2.1,vD.1,c,v3.1,D⟩ else none
def a65 (N:Nat):Code→Code→Option (FI×Code)
 | .region _ mk false,.seq (.seq (.region _ pre false) (.block out (.loop (.seq (.region _ tst false) (.seq (.cond (.tmp m) .skip (.exit out')) (.seq (.block _ (.seq (.region _ asg false) (.region _ st false))) (.region _ stp false))))))) rest =>
  match mk.toList,pre.toList,tst.toList,asg.toList,st.toList,stp.toList with
  | [o1,o2,o3],[o4,o5,o6],[o7],[o8,o9],[oA,oB,oC,oD],[oE,oF]=>(aYo N out out' m o1 o2 o3 o4 o5 o6 o7 o8 o9 oA oB oC oD oE oF).map fun f=>(f,rest)
  | _,_,_,_,_,_=>none
 | _,_=>none
def b62 (tt:TT) (N:Nat) (S:SS) (a b:Code):Option (FI×A×Nat) :=
 match a65 N a b with
 | some (f,_) =>
  match S.opA f.ks,dS tt f.ty,dS tt f.ety with
  | some x,some ti,some si =>
   match ti.d with
   | .sl e =>
    match dS tt e with
    | some ei =>
     match ei.z with
     | some [_]=>bif Nat.beq ei.sz 1 && !ei.agg && Nat.beq si.sz 1 then some (f,x,ei.cS) else none
     | _=>none
    | none=>none
   | _=>none
  | _,_,_=>none
 | none=>none
def a4n (tt:TT) (N:Nat) (orc:List (OK×Vars)):Bool→Code→SS→KX→KX→OL
 | sk,.seq a b,S,k,r =>
  bif sk then a4n tt N orc false b S k r else
  match b62 tt N S a b with
  | some (f,x,q)=>emit none (.make 1 (.int .u8 f.c) q x x) S fun y S'=>a4n tt N orc true b { S' with cH:=(f.b,.val y)::S'.cH.filter (fun p=>!jH f.D p.1) } k r
  | none=>lH tt N orc a S [] (fun S'=>a4n tt N orc false b S' k r) r
 | sk,c,S,k,r=>bif sk then none else lH tt N orc c S [] k r
def aL9 (tt:TT) (N:Nat) (orc:List (OK×Vars)) (rs:List ResultVar) (nargs:Nat) (c:Code):OL :=
 let S:SS:=⟨a1v 0 nargs,[],[],[],[],nargs,0,0,0⟩
 a4n tt N orc false c S (a3u tt rs []) (a3u tt rs [])
def fR:Nat→Nat→List AK→List (Nat×SV)
 | _,_,[]=>[]
 | i,b,.v::r=>(i,.val (.v i))::fR (i+1) b r
 | i,b,.b off _::r=>(i,.ptr b off none)::fR (i+1) (b+1) r
def nJ:Nat→Nat→List AK→List (Option (List SV))
 | _,_,[]=>[]
 | i,q,.v::r=>nJ (i+1) q r
 | i,q,.b _ ks::r=>some (jD i 0 q ks)::nJ (i+1) (q+tD ks) r
def tR:Nat→List AK→List (Nat×Nat)
 | _,[]=>[]
 | i,.v::r=>tR (i+1) r
 | i,.b _ ks::r=>(i,ks.length)::tR (i+1) r
def a5w:List (List CK)→Nat
 | []=>0
 | ks::r=>tD ks+a5w r
def a5b:List AK→Bool
 | []=>true
 | .v::r=>a5b r
 | .b _ ks::r=>Nat.blt 0 ks.length && a5b r
def aRu:Nat→List (List CK)→List Nat→List A→SS→OL
 | _,[],_,as,_=>some (.b4r as)
 | b,ks::r,ids,as,S =>
  match S.boxes[b]? with
  | some (some cells) =>
   match cellsIn ks cells with
   | some (ws,is)=>bif yS is && is.all (fun i=>!uG ids i) then emit none (.agg ws) S fun y S'=>aRu (b+1) r (is++ids) (as++[y]) S' else none
   | none=>none
  | _=>none
def a4o (tt:TT) (kss:List (List CK)):List ResultVar→List A→SS→OL
 | [],as,S=>bif Nat.beq S.own kss.length then aRu 0 kss [] as S else none
 | .tmp t::r,as,S =>
  match (S.look t).bind SV.a? with
  | some a=>a4o tt kss r (as++[a]) S
  | none=>none
 | .cell t ty::r,as,S =>
  match S.look t,dS tt ty with
  | some (.ptr b off none),some ti =>
   match S.boxes[b]? with
   | some (some cells)=>aKj ti none cells off S fun s S'=>match s.a? with | some a=>a4o tt kss r (as ++ [a]) S' | none=>none
   | _=>none
  | _,_=>none
def aDv:List SV→Option (List (Nat×Nat))
 | []=>some []
 | .ptr b 0 none::r=>(aDv r).map ((0,b) :: ·)
 | _::_=>none
def a66:List GK→List SV→Option (List SV)
 | [],l=>some l
 | .one::gs,s::l=>(a66 gs l).map (s :: ·)
 | .one::_,[]=>none
 | .mR f n::gs,l =>
  match aDv (l.take n),a66 gs (l.drop n) with
  | some bs,some r=>bif Nat.ble n l.length then some (.mR f bs::r) else none
  | _,_=>none
def aKq:Nat→List SV→List (Nat×SV)
 | _,[]=>[]
 | i,s::l=>(i,s)::aKq (i+1) l
def aKr (sg:hY):List (Nat×SV) :=
 match sg.gr with
 | []=>fR 0 0 sg.as
 | _::_=>(match a66 sg.gr ((fR 0 0 sg.as).map (·.2)) with | some l=>aKq 0 l | none=>[])
def aIc:List GK→Nat→Bool
 | [],_=>true
 | .one::r,k=>Nat.blt 0 k && aIc r (k - 1)
 | .mR _ n::r,k=>Nat.blt 0 n && Nat.ble n k && aIc r (k - n)
def b63 (tt:TT) (N:Nat) (orc:List (OK×Vars)) (rs:List ResultVar) (sg:hY) (c:Code):OL :=
 bif a5b sg.as then
  let S:SS:=⟨aKr sg,nJ 0 0 sg.as,tR 0 sg.as,[],[],sg.as.length,a5w (cO sg.as),0,(cO sg.as).length⟩
  lH tt N orc c S [] (a4o tt (cO sg.as) rs []) (a4o tt (cO sg.as) rs [])
 else none
end Go.Fbs

/- The words answer what the operations do. -/
namespace Go.Fbs
def lW:Nat→V→Prop
 | 0,v=>sc v=true
 | n+1,v=>∃ cs,v = .agg cs∧cs.length=n+1∧cs.all sc=true
section
variable {x y i w:V}
theorem bBd (h:jP x.aJ=some w):∃ v,jP x=some v∧v.aJ=w:=by
 cases x <;> simp [V.aJ,jP] at h ⊢; subst h; rfl
theorem bBe (h:dU x.aJ=some w):∃ v,dU x=some v∧v.aJ=w:=by
 cases x <;> simp [V.aJ,dU,cF] at h ⊢; subst h; rfl
theorem lD {k:IntKind} {n:Int} (h:x.aJ = .int k n):x = .int k n:=by cases x <;> simp_all [V.aJ]
theorem n6 {b:Bool} (h:x.aJ = .bool b):x = .bool b:=by cases x <;> simp_all [V.aJ]
theorem zP {s:List UInt8} (h:x.aJ = .str s):x = .str s:=by cases x <;> simp_all [V.aJ]
theorem b1k (h:x.aJ = .undef):x = .undef:=by cases x <;> simp_all [V.aJ]
theorem aDw {g:Tag} {es:List V} (h:x.aJ = .sl g es):∃ g' es',x = .sl g' es'∧es=es'.map V.aJ:=by
 cases x <;> simp [V.aJ,cF] at h; exact ⟨_,_,rfl,h.2.symm⟩
theorem a8y {cs:List V} (h:x.aJ = .agg cs):∃ cs',x = .agg cs'∧cs=cs'.map V.aJ:=by
 cases x <;> simp [V.aJ,cF] at h; exact ⟨_,rfl,h.symm⟩
theorem b85 {cs:List V} (h:x.aJ = .aM cs):∃ cs',x = .aM cs'∧cs=cs'.map V.aJ:=by
 cases x <;> simp [V.aJ,cF] at h; exact ⟨_,rfl,h.symm⟩
theorem aRv {f:Nat} {cs:List V} (h:x.aJ = .func f cs):∃ cs',x = .func f cs'∧cs=cs'.map V.aJ:=by
 cases x <;> simp [V.aJ,cF] at h; exact ⟨_,by rw [h.1],h.2.symm⟩
theorem b1l {op:BinOp} {k:IntKind} {a b:Int} {v:V} (h:hX op k a b=some v):v.aJ=v∧sc v=true:=by
 cases op <;> simp only [hX] at h <;> (try split at h) <;> simp at h <;> subst h <;> exact ⟨rfl,rfl⟩
theorem b1m {op:BinOp} {a b:List UInt8} {v:V} (h:sI op a b=some v):v.aJ=v∧sc v=true:=by
 cases op <;> simp only [sI] at h <;> (try split at h) <;> simp at h <;> subst h <;> exact ⟨rfl,rfl⟩
theorem aG9 {op:BinOp} {k:IntKind} {a b:Int} {v:V} (h:vV op k a b=some v):v.aJ=v∧sc v=true:=by
 unfold vV at h
 split at h
 ·simp at h
 ·cases op <;> simp at h <;> subst h <;> exact ⟨rfl,rfl⟩
theorem aVu {op:BinOp} {v:V} (h:aB op x y=some v):v.aJ=v∧sc v=true:=by
 unfold aB at h
 split at h
 ·split at h
  ·exact aG9 h
  ·exact aG9 h
  ·split at h
   ·exact b1l h
   ·simp at h
 ·exact b1m h
 ·simp at h
theorem bD4 {P:Program} {op:BinOp} {t:TypeId} (h:aB op x.aJ y.aJ=some w):∃ v,a1f P op t x y=some v∧v.aJ=w:=by
 have hw:=(aVu h).1
 refine ⟨w,?_,hw⟩
 unfold aB at h
 split at h
 ·rename_i k a k' b h1 h2
  rw [lD h1,lD h2]
  cases op <;> exact h
 ·rename_i a b h1 h2
  rw [zP h1,zP h2]
  exact h
 ·simp at h
theorem b64 {P:Program} {t:TypeId} {neg:Bool} (hu:P.underlying t=some .bool) (he:P.eqGuardType P.depth t=false) (h:aAj neg x.aJ y.aJ=some w):∃ v,a1f P (if neg then .neq else .eql) t x y=some v∧v.aJ=w:=by
 unfold aAj at h
 split at h
 ·rename_i a b h1 h2
  simp only [zzz] at h
  subst h
  rw [n6 h1,n6 h2]
  cases neg <;> simp [a1f,he,vU,hu,V.aJ]
 ·simp at h
theorem b86 {q:Nat} {r:Bool} (h:eqS q x.aJ y.aJ=some r):eqS q x y=some r:=by
 unfold eqS at h
 split at h
 ·rename_i h1 h2; rw [n6 h1,n6 h2]; exact h
 ·rename_i h1 h2; rw [lD h1,lD h2]; exact h
 ·rename_i h1 h2; rw [zP h1,zP h2]; exact h
 ·simp at h
theorem aHa:∀ {qs:List Nat} {xs ys:List V} {r:Bool},eY qs (xs.map V.aJ) (ys.map V.aJ)=some r→eY qs xs ys=some r
 | [],[],[],r,h=>h
 | q::qs,x::xs,y::ys,r,h=>by
  simp only [List.map_cons,eY] at h ⊢
  split at h
  ·rename_i a b h1 h2
   rw [b86 h1,aHa h2]; exact h
  ·simp at h
 | [],_::_,_,_,h=>by simp [eY] at h
 | [],[],_::_,_,h=>by simp [eY] at h
 | _::_,[],_,_,h=>by simp [eY] at h
 | _::_,_::_,[],_,h=>by simp [eY] at h
theorem a2l:∀ {qs:List Nat} {xs ys:List V} {r:Bool},eY qs xs ys=some r→xs.length=qs.length∧ys.length=qs.length
 | [],[],[],r,h=>⟨rfl,rfl⟩
 | q::qs,x::xs,y::ys,r,h=>by
  simp only [eY] at h
  split at h
  ·rename_i a b h1 h2
   have:=a2l h2
   simp [this]
  ·simp at h
 | [],_::_,_,_,h=>by simp [eY] at h
 | [],[],_::_,_,h=>by simp [eY] at h
 | _::_,[],_,_,h=>by simp [eY] at h
 | _::_,_::_,[],_,h=>by simp [eY] at h
theorem a8z:∀ {qs qs':List Nat} {xs ys:List V} {r:Bool},eY (qs++qs') xs ys=some r →
  ∃ a b,eY qs (xs.take qs.length) (ys.take qs.length)=some a∧eY qs' (xs.drop qs.length) (ys.drop qs.length)=some b∧r=(a && b)
 | [],qs',xs,ys,r,h=>⟨true,r,by simp [eY],h,by simp⟩
 | q::qs,qs',x::xs,y::ys,r,h=>by
  simp only [List.cons_append,eY] at h
  split at h
  ·rename_i a b h1 h2
   simp only [zzz] at h
   obtain ⟨a',b',h3,h4,rfl⟩:=a8z h2
   refine ⟨a && a',b',by simp [eY,h1,h3],by simpa using h4,by rw [← h,Bool.and_assoc]⟩
  ·simp at h
 | _::_,_,[],_,_,h=>by simp [eY] at h
 | _::_,_,_::_,[],_,h=>by simp [eY] at h
end
section
variable {P:Program} {tt:TT} (hT:∀ t ti,dS tt t=some ti→aU P ti∧ti.t=t)
include hT
omit hT in
theorem aYp {d:Nat} {t:TypeId} {ti:TI} {qs:List Nat} (h1:dS tt t=some ti) (h2:leaves tt d t=some qs) (h3:ti.agg=false):qs.length=1:=by
 cases d with
 | zero=>simp [leaves] at h2
 | succ d =>
  unfold leaves at h2
  rw [h1] at h2
  simp only [h3,Bool.and_false,Bool.not_false,Bool.and_true,cond_false] at h2
  split at h2 <;> (try (simp at h2; done))
  all_goals (cases hb:Nat.beq ti.sz 1 <;> rw [hb] at h2 <;> simp at h2; subst h2; rfl)
theorem aKs {d:Nat} (ih:∀ t ti qs,dS tt t=some ti→leaves tt d t=some qs→qs.length=ti.sz∧∀ (X Y:List V) (r:Bool),eY qs X Y=some r→vU P d t (if ti.agg then .agg X else X.headD .undef) (if ti.agg then .agg Y else Y.headD .undef)=some r)
  (i1:∀ t ti qs,dS tt t=some ti→leaves tt d t=some qs→ti.agg=false→qs.length=1) :
  ∀ (fs : List Field) (n : Nat) (qs : List Nat), a8u tt (leaves tt d) n (fs.map fun f => (f.offset, f.type)) = some qs → fs.all (fun f => f.name != "_") = true → ∀ (xs ys : List V) (r : Bool),
   eY qs (xs.drop n) (ys.drop n)=some r→aHn P (vU P d) xs ys fs=some r
 | [],n,qs,h,_,xs,ys,r,he=>by
  simp only [List.map_nil,a8u,zzz] at h
  subst h
  have:=a2l he
  rw [List.eq_nil_of_length_eq_zero this.1,List.eq_nil_of_length_eq_zero this.2] at he
  simp only [eY,zzz] at he
  subst he
  rfl
 | f::fs,n,qs,h,hn,xs,ys,r,he=>by
  simp only [List.map_cons,a8u] at h
  split at h
  ·rename_i ti q1 hti hq1
   cases hc:(Nat.beq f.offset n && Nat.blt 0 ti.sz) with
   | false=>simp [hc] at h
   | true =>
    rw [hc] at h
    simp only [cond_true,zyy] at h
    obtain ⟨q2,h,rfl⟩:=h
    simp only [zxz] at hc
    have ho:=zzx hc.1
    have hpos:0 < ti.sz:=zxx hc.2
    simp only [List.all_cons,zxz] at hn
    obtain ⟨hl,h0⟩:=ih f.type ti q1 hti hq1
    have hlen:=a2l he
    obtain ⟨a,b,h1,h2,rfl⟩:=a8z he
    rw [hl,List.drop_drop,List.drop_drop] at h2
    have h3:=aKs ih i1 fs (n+ti.sz) q2 h hn.2 xs ys b h2
    rw [hl] at h1
    have h4:=h0 _ _ a h1
    obtain ⟨tok,htt⟩:=hT f.type ti hti
    have hp:∀ zs:List V,(zs.drop n).length=(q1++q2).length→a2a P f.type zs f.offset=some (if ti.agg then .agg ((zs.drop n).take ti.sz) else ((zs.drop n).take ti.sz).headD .undef):=by
     intro zs hz
     simp only [List.length_drop,zwy,hl] at hz
     unfold a2a
     have hag:=tok.agg; have hsz:=tok.sz
     rw [htt] at hag hsz
     rw [hag,hsz,ho]
     cases hg:ti.agg with
     | true =>
      simp only [if_true]
      rw [if_pos (by omega)]
     | false =>
      have h1:ti.sz=1:=by rw [← hl]; exact i1 f.type ti q1 hti hq1 hg
      simp only [h1]
      have:n < zs.length:=by omega
      rw [zyz this,List.drop_eq_getElem_cons this]
      rfl
    simp only [aHn]
    have hne : (f.name = "_") = False := by
     have:=hn.1
     simp only [bne_iff_ne,ne_eq] at this
     exact eq_false this
    simp only [hne,if_false,hp xs hlen.1,hp ys hlen.2,h4]
    cases a <;> simp [h3]
  ·simp at h
theorem aVv:∀ (d:Nat) (t:TypeId) (ti:TI) (qs:List Nat),dS tt t=some ti→leaves tt d t=some qs→qs.length=ti.sz∧∀ (X Y:List V) (r:Bool),eY qs X Y=some r →
  vU P d t (if ti.agg then .agg X else X.headD .undef) (if ti.agg then .agg Y else Y.headD .undef)=some r
 | 0,t,ti,qs,hti,hf=>by simp [leaves] at hf
 | d+1,t,ti,qs,hti,hf=>by
  obtain ⟨tok,htt⟩:=hT t ti hti
  have hdd:=tok.d
  rw [htt] at hdd
  simp only [leaves,hti] at hf
  have key:∀ q:Nat,(bif Nat.beq ti.sz 1 && !ti.agg then some [q] else none)=some qs→ti.sz=1∧ti.agg=false∧qs=[q]:=by
   intro q h
   cases hc:(Nat.beq ti.sz 1 && !ti.agg) with
   | false=>simp [hc] at h
   | true =>
    rw [hc] at h
    simp only [cond_true,zzz] at h
    simp only [zxz,Bool.not_eq_true'] at hc
    exact ⟨zzx hc.1,hc.2,h.symm⟩
  have one:∀ {q:Nat} {X Y:List V} {r:Bool},eY [q] X Y=some r→∃ x y,X=[x]∧Y=[y]∧eqS q x y=some r:=by
   intro q X Y r h
   have:=a2l h
   obtain ⟨x,rfl⟩:=List.length_eq_one_iff.1 this.1
   obtain ⟨y,rfl⟩:=List.length_eq_one_iff.1 this.2
   refine ⟨x,y,rfl,rfl,?_⟩
   simp only [eY] at h
   cases hq:eqS q x y <;> simp [hq] at h
   rw [h]
  cases hd:ti.d with
  | bool =>
   rw [hd] at hf hdd
   simp only [aIa] at hdd
   obtain ⟨h1,h2,rfl⟩:=key 0 hf
   refine ⟨h1.symm,fun X Y r he=>?_⟩
   obtain ⟨x,y,rfl,rfl,hs⟩:=one he
   simp only [h2,vU,hdd]
   clear one key tok hf hdd hd he
   cases x <;> cases y <;> simp [eqS] at hs ⊢ <;> exact hs
  | int k =>
   rw [hd] at hf hdd
   simp only [aIa] at hdd
   obtain ⟨h1,h2,rfl⟩:=key 1 hf
   refine ⟨h1.symm,fun X Y r he=>?_⟩
   obtain ⟨x,y,rfl,rfl,hs⟩:=one he
   simp only [h2,vU,hdd]
   clear one key tok hf hdd hd he
   cases x <;> cases y <;> simp [eqS] at hs ⊢ <;> exact hs
  | str =>
   rw [hd] at hf hdd
   simp only [aIa] at hdd
   obtain ⟨h1,h2,rfl⟩:=key 2 hf
   refine ⟨h1.symm,fun X Y r he=>?_⟩
   obtain ⟨x,y,rfl,rfl,hs⟩:=one he
   simp only [h2,vU,hdd]
   clear one key tok hf hdd hd he
   cases x <;> cases y <;> simp [eqS] at hs ⊢ <;> exact hs
  | st fs =>
   rw [hd] at hf hdd
   obtain ⟨a,hu,hfs,hbl⟩:=hdd
   cases hc:(ti.eq && ti.agg) with
   | false=>simp [hc] at hf
   | true =>
    simp only [hc,cond_true] at hf
    simp only [zxz] at hc
    split at hf
    ·rename_i q hq
     cases hl:Nat.beq q.length ti.sz with
     | false=>simp [hl] at hf
     | true =>
      simp only [hl,cond_true,zzz] at hf
      subst hf
      refine ⟨zzx hl,fun X Y r he=>?_⟩
      have hst:=(tok.eq hc.1).1
      rw [htt] at hst
      simp only [hc.2,if_true,vU,hu,hst,Bool.false_eq_true,if_false]
      rw [← hfs] at hq
      refine aKs hT (fun t ti qs h1 h2=>aVv d t ti qs h1 h2) (fun t ti qs h1 h2 h3=>?_) a.toList 0 q hq hbl X Y r (by simpa using he)
      exact aYp h1 h2 h3
    ·simp at hf
  | _=>rw [hd] at hf; simp at hf
end
end Go.Fbs

/- The words answer what the operations do: one by one. -/
namespace Go.Fbs
section
variable {x y i w:V}
theorem bHh {op:UnOp} (h:rU op x.aJ=some w):∃ v,rU op x=some v∧v.aJ=w:=by
 unfold rU at h
 split at h
 ·rename_i h1
  rw [lD h1]
  simp only [zzz] at h
  subst h
  exact ⟨_,rfl,rfl⟩
 ·rename_i h1
  rw [n6 h1]
  simp only [zzz] at h
  subst h
  exact ⟨_,rfl,rfl⟩
 ·simp at h
theorem b87 {k:IntKind} (h:vK k x.aJ=some w):∃ v,vK k x=some v∧v.aJ=w:=by
 unfold vK at h
 split at h
 ·rename_i h1
  rw [lD h1]
  simp only [zzz] at h
  subst h
  exact ⟨_,rfl,rfl⟩
 ·simp at h
theorem b43 (h:uC x.aJ=some w):∃ v,uC x=some v∧v.aJ=w:=by
 unfold uC at h
 split at h
 ·rename_i h1
  rw [zP h1]
  simp only [zzz] at h
  subst h
  exact ⟨_,rfl,rfl⟩
 ·simp at h
theorem aHb:∀ {es:List V} {bs:List UInt8},(es.map V.aJ).mapM (fun (v:V)=>match v with | .int .u8 n=>some (UInt8.ofNat n.toNat) | _=>none)=some bs →
  es.mapM (fun (v:V)=>match v with | .int .u8 n=>some (UInt8.ofNat n.toNat) | _=>none)=some bs
 | [],bs,h=>h
 | e::es,bs,h=>by
  simp only [List.map_cons,List.mapM_cons,Option.bind_eq_bind,zwz] at h ⊢
  obtain ⟨b,h1,bs',h2,h3⟩:=h
  refine ⟨b,?_,bs',aHb h2,h3⟩
  split at h1
  ·rename_i h4; rw [lD h4]; exact h1
  ·simp at h1
theorem b44 (h:uD x.aJ=some w):∃ v,uD x=some v∧v.aJ=w:=by
 unfold uD at h
 split at h
 ·rename_i g es h1
  obtain ⟨g',es',rfl,rfl⟩:=aDw h1
  simp only [zyy] at h
  obtain ⟨bs,h2,rfl⟩:=h
  exact ⟨.str bs,congrArg (Option.map V.str) (aHb h2),rfl⟩
 ·simp at h
theorem a67 {x:Option V} {d t n:Nat} (h:lN (x.map V.aJ) d t=some n):lN x d t=some n:=by
 cases x with
 | none=>exact h
 | some v =>
  simp only [Option.map_some,lN] at h
  split at h
  ·rename_i h1; simp at h1
  ·rename_i h1
   simp only [zzz] at h1
   rw [lD h1]; exact h
  ·simp at h
theorem bD5 {lo hi:Option V} (h:wG x.aJ (lo.map V.aJ) (hi.map V.aJ)=some w):∃ v,wG x lo hi=some v∧v.aJ=w:=by
 unfold wG at h
 split at h
 ·rename_i s h1
  rw [zP h1]
  split at h
  ·rename_i hh h2
   split at h
   ·rename_i l h3
    simp only [zzz] at h
    subst h
    exact ⟨_,by simp only [wG,a67 h2,a67 h3]; rfl,rfl⟩
   ·simp at h
  ·simp at h
 ·simp at h
theorem a7t (es:List V) (n:Nat):(es.map V.aJ).all (fun e=>e.cells.length == n)=es.all (fun e=>e.cells.length == n):=by
 rw [List.all_map]; congr 1; funext v; simp only [Function.comp_def,qR]
theorem bD6 {n:Nat} {lo hi:Option V} (h:aYe n x.aJ (lo.map V.aJ) (hi.map V.aJ)=some w):∃ v,aKe n x lo hi=some v∧v.aJ=w:=by
 unfold aYe at h
 split at h
 ·rename_i g es h1
  obtain ⟨g',es,rfl,rfl⟩:=aDw h1
  rw [List.length_map] at h
  split at h
  ·rename_i hh h2
   split at h
   ·rename_i l h3
    rw [a7t] at h
    split at h
    ·rename_i h4
     simp only [zzz] at h
     subst h
     refine ⟨_,by simp only [aKe,a67 h2,a67 h3]; exact if_pos h4,?_⟩
     simp [V.aJ,cF,List.map_take,List.map_drop]
    ·simp at h
   ·simp at h
  ·simp at h
 ·simp at h
theorem bBf (h:gD x.aJ i.aJ=some w):∃ v,gD x i=some v∧v.aJ=w:=by
 unfold gD at h
 split at h
 ·rename_i s k n h1 h2
  rw [zP h1,lD h2]
  split at h
  ·rename_i hn
   simp only [zyy] at h
   obtain ⟨b,h3,rfl⟩:=h
   exact ⟨_,by simp only [gD]; rw [if_pos hn,h3]; rfl,rfl⟩
  ·simp at h
 ·simp at h
theorem aMh {g:Bool} {n off:Nat} {cs:List V} (h:qD g n (cs.map V.aJ) off=some w):∃ v,qD g n cs off=some v∧v.aJ=w:=by
 unfold qD at h ⊢
 cases g with
 | true =>
  simp only [if_true,List.length_map] at h ⊢
  split at h
  ·rename_i hl
   simp only [zzz] at h
   subst h
   refine ⟨_,if_pos hl,?_⟩
   simp [V.aJ,cF,List.map_take,List.map_drop]
  ·simp at h
 | false =>
  simp only [Bool.false_eq_true,if_false,zvz,zyy] at h ⊢
  exact h
theorem bBg {len n:Nat} {g:Bool} (h:a5p len g n x.aJ i.aJ=some w):∃ v,a5p len g n x i=some v∧v.aJ=w:=by
 unfold a5p at h
 split at h
 ·rename_i cs k m h1 h2
  obtain ⟨cs,rfl,rfl⟩:=a8y h1
  rw [lD h2]
  split at h
  ·rename_i hn
   obtain ⟨v,h3,h4⟩:=aMh h
   exact ⟨v,by simp only [a5p]; rw [if_pos hn,h3],h4⟩
  ·simp at h
 ·simp at h
theorem wK {n:Nat} {v u:V} (h:bD n v=some u):u=v∧∃ cs,v = .agg cs∧cs.length=n∧cs.all sc=true:=by
 unfold bD at h
 split at h
 ·split at h
  ·rename_i hc
   simp only [zzz] at h
   exact ⟨h.symm,_,rfl,hc.1,hc.2⟩
  ·simp at h
 ·simp at h
theorem rD {v u:V} (h:iJ v=some u):u=v∧sc v=true:=by
 unfold iJ at h
 split at h
 ·rename_i hs
  simp only [zzz] at h
  exact ⟨h.symm,hs⟩
 ·simp at h
theorem b1n {g:Bool} {n off:Nat} (h:qL g n off x.aJ=some w):∃ cs v,x = .agg cs∧qD g n cs off=some v∧v.aJ=w∧(if g then bD n w=some w else sc w=true):=by
 unfold qL at h
 split at h
 ·rename_i cs h1
  obtain ⟨cs,rfl,rfl⟩:=a8y h1
  cases g with
  | true =>
   simp only [if_true] at h ⊢
   split at h
   ·rename_i hl
    obtain ⟨rfl,cs',h2,h3⟩:=wK h
    obtain ⟨v,h4,h5⟩:=aMh (g:=true) (n:=n) (off:=off) (cs:=cs) (w:=.agg ((cs.map V.aJ).drop off |>.take n)) (by unfold qD; simp only [if_true]; rw [if_pos hl])
    exact ⟨cs,v,rfl,h4,h5,h⟩
   ·simp at h
  | false =>
   simp only [Bool.false_eq_true,if_false] at h ⊢
   split at h
   ·rename_i c hc
    obtain ⟨rfl,h2⟩:=rD h
    obtain ⟨v,h4,h5⟩:=aMh (g:=false) (n:=n) (off:=off) (cs:=cs) (w:=w) (by unfold qD; simp only [Bool.false_eq_true,if_false]; exact hc)
    exact ⟨cs,v,rfl,h4,h5,h2⟩
   ·simp at h
 ·simp at h
theorem xH {n:Nat} (hn:0 < n) {v:V} (h:bD n v=some v):lW n v:=by
 obtain ⟨_,cs,h1,h2,h3⟩:=wK h
 cases n with
 | zero=>omega
 | succ n=>exact ⟨cs,h1,h2,h3⟩
theorem bBh {g:Bool} {n:Nat} (h:eJ g n x.aJ i.aJ=some w) (hn:0 < n) (h1:g=false→n=1):∃ cs,a0l n x i=some (.ro cs)∧cs.map V.aJ=w.cells∧lW (if g then n else 0) w:=by
 unfold eJ at h
 split at h
 ·rename_i t es k m h2 h3
  obtain ⟨t,es,rfl,rfl⟩:=aDw h2
  rw [lD h3]
  split at h
  ·rename_i hm
   rw [zvz] at h
   cases he : es[m.toNat]? with
   | none=>simp [he] at h
   | some e =>
    simp only [he,Option.map_some] at h
    have hlen:e.cells.length=n∧w=e.aJ∧lW (if g then n else 0) w:=by
     cases g with
     | true =>
      simp only [if_true] at h ⊢
      obtain ⟨rfl,cs,h4,h5,h6⟩:=wK h
      refine ⟨?_,rfl,xH hn h⟩
      rw [← qR,h4]; exact h5
     | false =>
      simp only [Bool.false_eq_true,if_false] at h ⊢
      obtain ⟨rfl,h4⟩:=rD h
      refine ⟨?_,rfl,h4⟩
      rw [← qR,a5r h4,h1 rfl]; rfl
    obtain ⟨h4,rfl,h5⟩:=hlen
    refine ⟨e.cells,?_,(a3c e).symm,h5⟩
    simp only [a0l]
    rw [if_pos hm,he]
    simp [h4]
  ·simp at h
 ·simp at h
theorem bD7 {j:Nat} (h:aD x.aJ j=some w):∃ v,aD x j=some v∧v.aJ=w:=by
 unfold aD at h
 split at h
 ·rename_i vs h1
  obtain ⟨vs,rfl,rfl⟩:=b85 h1
  simp only [zvz,zyy] at h
  exact h
 ·simp at h
theorem bBi {P:Program} {g:Bool} {ts:List TypeId} (h:mmK g x.aJ y.aJ=some w):∃ v,tH P (if g then .max else .min) ts [x,y]=some v∧v.aJ=w:=by
 unfold mmK at h
 split at h
 ·rename_i k a k' b h1 h2
  rw [lD h1,lD h2]
  simp only [zzz] at h
  subst h
  cases g <;> exact ⟨_,rfl,rfl⟩
 ·simp at h
theorem bBj (h:aO2 x.aJ=some w):∃ v,a7k x=some v∧v.aJ=w:=by
 unfold aO2 at h
 split at h
 ·rename_i f cs h1
  obtain ⟨cs,rfl,rfl⟩:=aRv h1
  simp only [zzz] at h
  exact ⟨_,rfl,by rw [← h]; simp [V.aJ,cF]⟩
 ·simp at h
def b45 (m:Hp) (v:V):Option (Nat×List V) :=
 match v with
 | .ptr l o =>
  match m.H[l]? with
  | some (.cells cs)=>some (o,cs)
  | _=>none
 | _=>none
def pO:List CK→List V→Bool
 | [],[]=>true
 | .pl::ks,_::ss=>pO ks ss
 | .gr _::ks,s::ss=>pO ks ss && aRr s
 | _,_=>false
def a4p (m:Hp):List AK→List V→Bool
 | [],[]=>true
 | .v::ks,_::xs=>a4p m ks xs
 | .b off cks::ks,x::xs=>(match b45 m x with | some q=>(Nat.beq q.1 off && a4p m ks xs) && pO cks q.2 | none=>false)
 | _,_=>false
def aKt (m:Hp) (sg:hY) (xs:List V):Bool :=
 match qN sg.gr xs with
 | some ys=>a4p m sg.as ys
 | none=>false
def findD (tt:TT) (m:Hp) (f:FuncId) (xs:List V):List FuncId→Option (FuncId×hY)
 | []=>none
 | e::r =>
  match a2j tt e with
  | some q=>bif Nat.beq q.1 f && aKt m q.2 xs then some (e,q.2) else findD tt m f xs r
  | none=>findD tt m f xs r
noncomputable def aAp (tt:TT) (p:PT):ET:=fun f args m =>
 match findD tt m f args (tt.sg.map (·.1)) with
 | some (e,sg)=>aMd sg (p e) args m
 | none=>none
theorem a0v {tt:TT} {m:Hp} {f:FuncId} {xs:List V} {e:FuncId} {sg:hY} : ∀ {l:List FuncId},findD tt m f xs l=some (e,sg)→a2j tt e=some (f,sg)
 | [],h=>by simp [findD] at h
 | e'::r,h=>by
  simp only [findD] at h
  split at h
  ·rename_i q hq
   cases hc:(Nat.beq q.1 f && aKt m q.2 xs) with
   | true =>
    rw [hc] at h
    simp only [cond_true,zzz,zvy] at h
    obtain ⟨rfl,rfl⟩:=h
    simp only [zxz] at hc
    rw [hq,← zzx hc.1]
   | false=>rw [hc] at h; exact a0v h
  ·exact a0v h
noncomputable abbrev CE (tt:TT) (p:PT):cG:=⟨isE tt,fun f a=>bif Nat.blt f z8 then p f (a.map V.aJ) else none,aAp tt p,jH tt.dyn,aYj tt⟩
theorem b88 {tt:TT} {p:PT} {l:List V} (h:uE p x.aJ (l.map V.aJ)=some w):∃ v,aI9 (CE tt p) x l=some v∧v=w:=by
 unfold uE at h
 split at h
 ·rename_i f cs h1
  obtain ⟨cs,rfl,rfl⟩:=aRv h1
  refine ⟨w,?_,rfl⟩
  simp only [aI9]
  rw [List.map_append]; exact h
 ·simp at h
end
def gM (ρ:Nat→V):Gd→Prop
 | none=>True
 | some (a,b)=>a.den ρ = .bool b
def dV (ρ:Nat→V) (gk:Nat→Option Nat) (gb:List Nat) (T:List (Nat×Nat)):SV→V→Prop
 | .val a,v=>v.aJ=a.den ρ
 | .lL a g,v=>(gM ρ g→v.aJ=a.den ρ)∧(¬ gM ρ g→v = .undef)
 | .grow k sz a,v=>∃ es,a.den ρ = .sl .ro (es.map V.aJ) ∧ (v = .sl .full es ∨ ∃ i,gk k = some i ∧ v = .sl (.own i) es ∧ T[i]? = some (es.length,sz))
 | .lT,v=>v = .sl .full []
 | .elem a n off g,v=>(gM ρ g→∃ cs:List V,v = .ro (cs.drop off)∧cs.map V.aJ=(a.den ρ).cells∧lW n (a.den ρ))∧(¬ gM ρ g→v = .undef)
 | .ptr b off g,v=>(gM ρ g → ∃ l : Nat,gb[b]? = some l ∧ v = .ptr l off) ∧ (¬ gM ρ g → v = .undef)
 | .pix b off n i g,v=>(gM ρ g → ∃ (l : Nat) (q : IntKind) (z : Nat),gb[b]? = some l ∧ i.den ρ = .int q z ∧ z < n ∧ v = .ptr l (off + z)) ∧ (¬ gM ρ g → v = .undef)
 | .stv a nl,v=>v.aJ = a.den ρ ∧ ∃ cs,v = .agg cs ∧ ∀ j ∈ nl,cs[j]? = some (.sl .full [])
 | .mR f caps,v=>∃ cs,v = .func f cs ∧ cs.length = caps.length ∧ ∀ (i : Nat) q c,caps[i]? = some q → cs[i]? = some c → ∃ l,gb[q.2]? = some l ∧ c = .ptr l 0
def Cells (ρ:Nat→V) (gk:Nat→Option Nat) (gb:List Nat) (T:List (Nat×Nat)) (nv:Nat) (cells:List SV) (cs:List V):Prop :=
 cells.length = cs.length ∧ ∀ (j : Nat) s c,cells[j]? = some s → cs[j]? = some c → dV ρ gk gb T s c ∧ s.below nv = true
structure aQ (N:Nat) (gk:Nat→Option Nat) (gb:List Nat) (S:SS) (ρ:Nat→V) (env:Env) (m:Hp):Prop where
 n:env.n=N
 cH:∀ t s,S.look t=some s→t < N∧dV ρ gk gb m.T s (env.f t)∧s.below S.nv=true
 boxes : ∀ (b : Nat) cells,S.boxes[b]? = some (some cells) → ∃ (l : Nat) (cs : List V),gb[b]? = some l ∧ m.H[l]? = some (.cells cs) ∧ Cells ρ gk gb m.T S.nv cells cs
 lA:gb.length=S.boxes.length
 nM : ∀ (b b' l : Nat),gb[b]? = some l → gb[b']? = some l → b = b'
 blt:∀ l ∈ gb,l < m.H.length
 kI:∀ k k' i,gk k=some i→gk k'=some i→k=k'
 sP:∀ k i,gk k=some i→k < S.nk∧i < m.T.length
 known:∀ i n,assoc S.known i=some n→i < S.nv∧lW n (ρ i)
 cW:∀ i ∈ S.cW,i < S.nv∧tO (ρ i)=true
 own : ∀ b,b < S.own → gb[b]? = some b
def b7 (ρ ρ':Nat→V) (n:Nat):Prop:=∀ i,i < n→ρ' i=ρ i
theorem b7.refl (ρ:Nat→V) (n:Nat):b7 ρ ρ n:=fun _ _=>rfl
theorem b7.trans {ρ ρ' ρ'':Nat→V} {n n':Nat} (h:b7 ρ ρ' n) (h':b7 ρ' ρ'' n') (hn:n≤n'):b7 ρ ρ'' n:=fun i hi=>(h' i (by omega)).trans (h i hi)
theorem cI (ρ:Nat→V) (n:Nat) (y:V):b7 ρ (ext ρ n y) n:=by
 intro i hi
 unfold ext
 have:Nat.beq i n=false:=by
  cases h:Nat.beq i n with
  | false=>rfl
  | true=>have:=zzx h; omega
 rw [this]; rfl
theorem jR (ρ:Nat→V) (n:Nat) (y:V):ext ρ n y n=y:=by simp [ext]
theorem iP {i n:Nat} (h:Nat.blt i n=true):i < n:=zxx h
theorem gS {ρ ρ':Nat→V} {n:Nat} (h:b7 ρ ρ' n) {a:A} (ha:a.below n=true):a.den ρ'=a.den ρ:=by
 cases a with
 | v i=>exact h i (iP ha)
 | k x=>rfl
 | c i j=>show a7 (ρ' i) j=a7 (ρ i) j; rw [h i (iP ha)]
theorem rE {ρ ρ':Nat→V} {n:Nat} (h:b7 ρ ρ' n) {g:Gd} (hg:g.below n=true):gM ρ' g↔gM ρ g:=by
 cases g with
 | none=>exact Iff.rfl
 | some q=>obtain ⟨a,b⟩:=q; simp only [gM]; rw [gS h hg]
theorem dV.agree {ρ ρ':Nat→V} {n:Nat} (h:b7 ρ ρ' n) {gk:Nat→Option Nat} {gb:List Nat} {T:List (Nat×Nat)} {s:SV} {v:V} (hs:s.below n=true) (r:dV ρ gk gb T s v):dV ρ' gk gb T s v:=by
 cases s with
 | val a=>simp only [dV]; rw [gS h hs]; exact r
 | lL a g =>
  simp only [SV.below,zxz] at hs
  simp only [dV]; rw [gS h hs.1,rE h hs.2]; exact r
 | grow k sz a=>simp only [dV]; rw [gS h hs]; exact r
 | lT=>exact r
 | elem a m off g =>
  simp only [SV.below,zxz] at hs
  simp only [dV]; rw [gS h hs.1,rE h hs.2]; exact r
 | ptr b off g=>simp only [dV]; rw [rE h hs]; exact r
 | pix b off n i g =>
  simp only [SV.below,zxz] at hs
  simp only [dV]; rw [gS h hs.1,rE h hs.2]; exact r
 | stv a nl=>exact ⟨by rw [gS h hs]; exact r.1,r.2⟩
 | mR f caps=>exact r
theorem A.cD {a:A} {n n':Nat} (h:a.below n=true) (hn:n≤n'):a.below n'=true:=by
 cases a with
 | v i=>exact Nat.ble_eq_true_of_le (Nat.le_trans (iP h) hn)
 | k x=>rfl
 | c i j=>exact Nat.ble_eq_true_of_le (Nat.le_trans (iP h) hn)
theorem Gd.cD {g:Gd} {n n':Nat} (h:Gd.below n g=true) (hn:n≤n'):Gd.below n' g=true:=by
 cases g with
 | none=>rfl
 | some q=>exact A.cD (a:=q.1) h hn
theorem SV.cD {s:SV} {n n':Nat} (h:s.below n=true) (hn:n≤n'):s.below n'=true:=by
 cases s with
 | val a=>exact A.cD (a:=a) h hn
 | lL a g =>
  simp only [SV.below,zxz] at h ⊢
  exact ⟨A.cD h.1 hn,Gd.cD h.2 hn⟩
 | grow k sz a=>exact A.cD (a:=a) h hn
 | lT=>rfl
 | elem a m off g =>
  simp only [SV.below,zxz] at h ⊢
  exact ⟨A.cD h.1 hn,Gd.cD h.2 hn⟩
 | ptr b off g=>exact Gd.cD (g:=g) h hn
 | pix b off m i g =>
  simp only [SV.below,zxz] at h ⊢
  exact ⟨A.cD h.1 hn,Gd.cD h.2 hn⟩
 | stv a nl=>exact A.cD (a:=a) h hn
 | mR f caps=>rfl
theorem Cells.agree {ρ ρ':Nat→V} {n n':Nat} (h:b7 ρ ρ' n) (hn:n≤n') {gk:Nat→Option Nat} {gb:List Nat} {T:List (Nat×Nat)} {cells:List SV} {cs:List V} (r:Cells ρ gk gb T n cells cs):Cells ρ' gk gb T n' cells cs :=
 ⟨r.1,fun j s c h1 h2=>let ⟨h3,h4⟩:=r.2 j s c h1 h2; ⟨h3.agree h h4,SV.cD h4 hn⟩⟩
theorem aQ.more {N:Nat} {gk:Nat→Option Nat} {gb:List Nat} {S:SS} {ρ ρ':Nat→V} {env:Env} {m:Hp} (c:aQ N gk gb S ρ env m) (h:b7 ρ ρ' S.nv) {nv:Nat} (hn:S.nv≤nv) {kn:List (Nat×Nat)}
  (hk:∀ i n,assoc kn i=some n→i < nv∧lW n (ρ' i)) {bl:List Nat×List Nat} (hl:∀ i ∈ bl.1,i < nv∧tO (ρ' i)=true):aQ N gk gb (S.k9 nv kn bl) ρ' env m where
 n:=c.n
 cH t s hs:=let ⟨h1,h2,h3⟩:=c.cH t s hs; ⟨h1,h2.agree h h3,SV.cD h3 hn⟩
 boxes b cells hb:=let ⟨l,cs,h0,h1,h2⟩:=c.boxes b cells hb; ⟨l,cs,h0,h1,h2.agree h hn⟩
 lA:=c.lA
 nM:=c.nM
 blt:=c.blt
 kI:=c.kI
 sP:=c.sP
 known:=hk
 cW:=hl
 own:=c.own
section
variable {N:Nat} {gk:Nat→Option Nat} {gb:List Nat} {S:SS} {ρ:Nat→V} {env:Env} {m:Hp}
theorem tS {T : List (Nat × Nat)} {s : SV} {v : V} {a : A} (r : dV ρ gk gb T s v) (h : s.a? = some a) : v.aJ = a.den ρ:=by
 cases s <;> simp [SV.a?] at h
 ·subst h; exact r
 ·subst h
  obtain ⟨es,h1,h2⟩:=r
  rw [h1]
  rcases h2 with rfl | ⟨i,_,rfl,_⟩ <;> simp [V.aJ,cF]
 ·subst h
  have:v = .sl .full []:=r
  rw [this]; rfl
 ·subst h; exact r.1
theorem xI {s : SV} {a : A} {n : Nat} (hb : s.below n = true) (h : s.a? = some a) : a.below n = true:=by
 cases s <;> simp [SV.a?] at h <;> subst h <;> first | exact hb | rfl
theorem a4q (v:V):(∀ T,dV ρ gk gb T (a5a v) v)∧∀ n,(a5a v).below n=true:=by
 unfold a5a
 split
 ·exact ⟨fun _=>rfl,fun _=>rfl⟩
 ·exact ⟨fun _=>rfl,fun _=>rfl⟩
theorem aQ.gG (c:aQ N gk gb S ρ env m) {x:Operand} {s:SV} (h:S.gG x=some s):∃ v,Fbs.ev env x=some v∧dV ρ gk gb m.T s v∧s.below S.nv=true:=by
 cases x with
 | tmp t =>
  obtain ⟨h1,h2,h3⟩:=c.cH t s h
  refine ⟨env.f t,?_,h2,h3⟩
  simp only [Fbs.ev,Env.get]
  rw [if_pos (by rw [c.n]; exact h1)]
 | const v =>
  simp only [SS.gG,zyy] at h
  obtain ⟨u,h1,rfl⟩:=h
  exact ⟨u,h1,(a4q (ρ:=ρ) (gk:=gk) (gb:=gb) u).1 _,(a4q (ρ:=ρ) (gk:=gk) (gb:=gb) u).2 _⟩
 | func f =>
  simp only [SS.gG,zzz] at h
  subst h
  exact ⟨_,rfl,rfl,rfl⟩
 | global g=>simp [SS.gG] at h
theorem aQ.opA (c:aQ N gk gb S ρ env m) {x:Operand} {a:A} (h:S.opA x=some a):∃ v,Fbs.ev env x=some v∧v.aJ=a.den ρ∧a.below S.nv=true:=by
 simp only [SS.opA,zwz] at h
 obtain ⟨s,h1,h2⟩:=h
 obtain ⟨v,h3,h4,h5⟩:=c.gG h1
 exact ⟨v,h3,tS h4 h2,xI h5 h2⟩
theorem aDx {T:List (Nat×Nat)} {s:SV} {v:V} {a:A} {g:Gd} (hsame:∀ a b:Gd,Gd.same a b=true→a=b) (r:dV ρ gk gb T s v) (h:s.ag g=some a):gM ρ g→v.aJ=a.den ρ:=by
 cases s with
 | lL a' g' =>
  simp only [SV.ag] at h
  cases hg:Gd.same g' g with
  | false=>rw [hg] at h; simp at h
  | true =>
   rw [hg] at h
   simp only [cond_true,zzz] at h
   subst h
   rw [← hsame g' g hg]; exact r.1
 | _=>exact fun _=>tS r h
theorem aAq {s:SV} {a:A} {g:Gd} {n:Nat} (hb:s.below n=true) (h:s.ag g=some a):a.below n=true:=by
 cases s with
 | lL a' g' =>
  simp only [SV.ag] at h
  simp only [SV.below,zxz] at hb
  cases hg:Gd.same g' g with
  | false=>rw [hg] at h; simp at h
  | true=>rw [hg] at h; simp only [cond_true,zzz] at h; subst h; exact hb.1
 | _=>exact xI hb h
theorem aYq {x y:V} (h:a6v x y=true):x=y:=by
 unfold a6v at h
 split at h <;> simp_all
theorem A.fL {a b:A} (h:a.same b=true):a=b:=by
 unfold A.same at h
 split at h
 ·rw [zzx h]
 ·simp only [zxz] at h
  rw [zzx h.1,zzx h.2]
 ·rw [aYq h]
 ·simp at h
theorem Gd.fL {a b:Gd} (h:Gd.same a b=true):a=b:=by
 unfold Gd.same at h
 split at h
 ·rfl
 ·simp only [zxz,beq_iff_eq] at h
  rw [A.fL h.1,h.2]
 ·simp at h
theorem aQ.iN (c:aQ N gk gb S ρ env m) {g:Gd} {x:Operand} {a:A} (h:S.iN g x=some a):∃ v,Fbs.ev env x=some v∧(gM ρ g→v.aJ=a.den ρ)∧a.below S.nv=true:=by
 simp only [SS.iN,zwz] at h
 obtain ⟨s,h1,h2⟩:=h
 obtain ⟨v,h3,h4,h5⟩:=c.gG h1
 exact ⟨v,h3,aDx (fun _ _=>Gd.fL) h4 h2,aAq h5 h2⟩
theorem aQ.mL (c:aQ N gk gb S ρ env m) {g:Gd} : ∀ {xs:List Operand} {as:List A},S.mL g xs=some as→∃ vs,Fbs.gJ env xs=some vs∧(gM ρ g→vs.map V.aJ=as.map (A.den ρ))∧as.all (A.below S.nv)=true∧vs.length=as.length
 | [],as,h=>by simp [SS.mL] at h; subst h; exact ⟨[],rfl,fun _=>rfl,rfl,rfl⟩
 | x::xs,as,h=>by
  simp only [SS.mL] at h
  split at h
  ·rename_i a as' h1 h2
   simp only [zzz] at h
   subst h
   obtain ⟨v,h3,h4,h5⟩:=c.iN h1
   obtain ⟨vs,h6,h7,h8,h9⟩:=c.mL h2
   exact ⟨v::vs,by simp only [Fbs.gJ,h3,h6],fun hon=>by simp [h4 hon,h7 hon],by simp only [List.all_cons,h5,h8]; rfl,by simp [h9]⟩
  ·simp at h
theorem aQ.a62 (c:aQ N gk gb S ρ env m) {g:Gd} {x:Option Operand} {a:Option A} (h:S.a62 g x=some a):∃ v,qK env x=some v∧(gM ρ g→v.map V.aJ=a.map (A.den ρ))∧(∀ b,a=some b→b.below S.nv=true):=by
 cases x with
 | none=>simp [SS.a62] at h; subst h; exact ⟨none,rfl,fun _=>rfl,fun _ h=>by simp at h⟩
 | some x =>
  simp only [SS.a62,zyy] at h
  obtain ⟨a,h1,rfl⟩:=h
  obtain ⟨v,h3,h4,h5⟩:=c.iN h1
  exact ⟨some v,by simp [qK,h3],fun hon=>by simp [h4 hon],fun b hb=>by simp at hb; subst hb; exact h5⟩
theorem aQ.aAm (c:aQ N gk gb S ρ env m) {g side:Gd} {x:Operand} {a:A} (h:S.aAm g side x=some a):∃ v,Fbs.ev env x=some v∧(gM ρ g→gM ρ side→v.aJ=a.den ρ)∧a.below S.nv=true:=by
 simp only [SS.aAm,zwz] at h
 obtain ⟨s,h1,h2⟩:=h
 obtain ⟨v,h3,h4,h5⟩:=c.gG h1
 unfold SV.pk at h2
 split at h2
 ·rename_i a' ha
  simp only [zzz] at h2
  subst h2
  exact ⟨v,h3,fun hg _=>aDx (fun _ _=>Gd.fL) h4 ha hg,aAq h5 ha⟩
 ·exact ⟨v,h3,fun _ hs=>aDx (fun _ _=>Gd.fL) h4 h2 hs,aAq h5 h2⟩
theorem aQ.l4 (c:aQ N gk gb S ρ env m) {a:A} {n:Nat} (h:S.l4 a n=true):lW n (a.den ρ):=by
 cases a with
 | v i =>
  simp only [SS.l4] at h
  split at h
  ·rename_i q hq
   have:=zzx h
   subst this
   exact (c.known i q hq).2
  ·simp at h
 | c i j =>
  simp only [SS.l4,zxz] at h
  obtain ⟨h0,h⟩:=h
  have:=zzx h0
  subst this
  split at h
  ·rename_i q hq
   have hj:=iP h
   have:=(c.known i q hq).2
   cases q with
   | zero=>omega
   | succ q =>
    obtain ⟨cs,h1,h2,h3⟩:=this
    show sc (a7 (ρ i) j)=true
    rw [h1]
    simp only [a7,V.cells]
    rw [List.getD_eq_getElem?_getD,zyz (by omega)]
    exact List.all_eq_true.1 h3 _ (List.getElem_mem _)
  ·simp at h
 | k x =>
  simp only [SS.l4,zxz] at h
  have:=zzx h.1
  subst this
  exact h.2
theorem aRw {l:List Nat} {i:Nat} (h:jH l i=true):i ∈ l:=by
 unfold jH at h
 rw [List.any_eq_true] at h
 obtain ⟨j,h1,h2⟩:=h
 rw [zzx h2]; exact h1
theorem aQ.isB (c:aQ N gk gb S ρ env m) {a:A} (h:S.isB a=true):tO (a.den ρ)=true:=by
 cases a with
 | v i=>exact (c.cW i (aRw h)).2
 | k x=>exact h
 | c i j=>simp [SS.isB] at h
theorem aQ.zB (c:aQ N gk gb S ρ env m) {a:A} (ha:a.below S.nv=true) (h:tO (a.den ρ)=true):∀ i ∈ S.zB a,i < S.nv∧tO (ρ i)=true:=by
 cases a with
 | v i =>
  intro j hj
  simp only [SS.zB] at hj
  cases hb:jH S.cW i with
  | true=>rw [hb] at hj; exact c.cW j hj
  | false =>
   rw [hb] at hj
   simp only [cond_false,List.mem_cons] at hj
   rcases hj with rfl | hj
   ·exact ⟨iP ha,h⟩
   ·exact c.cW j hj
 | k x=>exact c.cW
 | c i j=>exact c.cW
theorem aQ.aAr (c:aQ N gk gb S ρ env m) {i n:Nat} (h:S.l4 (.v i) n=true):i < S.nv:=by
 simp only [SS.l4] at h
 split at h
 ·rename_i q hq; exact (c.known i q hq).1
 ·simp at h
end
end Go.Fbs

/- A word is spoken: what is known behind it. -/
namespace Go.Fbs
def iZ (ρ:Nat→V) (g:Gd) (o:Option V):Option V :=
 match g with
 | none=>o
 | some (a,b)=>aK (a.den ρ) b o
theorem b46 (p:PT) (ρ:Nat→V) (e:E) (g:Gd):b6y p ρ e g=iZ ρ g (e.ev p ρ):=by
 cases g <;> rfl
theorem aUj {x:V} {b:Bool} {o:Option V} {y:V} (h:aK x b o=some y):(x = .bool b∧o=some y)∨(x ≠ .bool b∧y = .undef∧∀ o':Option V,aK x b o'=some .undef):=by
 unfold aK at h
 cases x with
 | bool t =>
  simp only at h
  by_cases ht:t=b
  ·subst ht; simp at h; exact .inl ⟨rfl,h⟩
  ·have:(t == b)=false:=by simpa using ht
   rw [this] at h
   simp at h
   exact .inr ⟨by simp [ht],h.symm,fun o'=>by simp [aK,ht]⟩
 | undef=>simp at h; exact .inr ⟨by simp,h.symm,fun _=>rfl⟩
 | _=>simp at h
theorem uL {ρ:Nat→V} {g:Gd} {o:Option V} {y:V} (h:iZ ρ g o=some y):(gM ρ g∧o=some y)∨(¬ gM ρ g∧y = .undef∧∀ o',iZ ρ g o'=some .undef):=by
 cases g with
 | none=>exact .inl ⟨trivial,h⟩
 | some q =>
  obtain ⟨a,b⟩:=q
  rcases aUj h with ⟨h1,h2⟩ | ⟨h1,h2,h3⟩
  ·exact .inl ⟨h1,h2⟩
  ·exact .inr ⟨h1,h2,h3⟩
theorem pP {ρ:Nat→V} {g:Gd} (h:gM ρ g) (o:Option V):iZ ρ g o=o:=by
 cases g with
 | none=>rfl
 | some q =>
  obtain ⟨a,b⟩:=q
  simp only [gM] at h
  simp [iZ,h,aK]
theorem a68 {n k:Nat} (h:aMg n=some k):k=n∧0 < n:=by
 unfold aMg at h
 cases hb:Nat.beq n 0 with
 | true=>rw [hb] at h; simp at h
 | false =>
  rw [hb] at h
  simp at h
  refine ⟨h.symm,Nat.pos_of_ne_zero fun e=>?_⟩
  subst e; simp at hb
theorem b89 {p:PT} {ρ:Nat→V} {e:E} {y:V} {n:Nat} (h:e.ev p ρ=some y) (hk:rX e=some n):lW n y:=by
 have s0:∀ {o:Option V},o=some y→some 0=some n→(∀ z,o=some z→sc z=true)→lW n y:=fun ho h0 hs=>by
  simp only [zzz] at h0; subst h0; exact hs _ ho
 cases e with
 | id a=>simp [rX] at hk
 | pre n a=>simp [rX] at hk
 | jP a=>simp only [E.ev] at h; exact s0 h hk fun z hz=>by unfold jP at hz; split at hz <;> simp at hz; subst hz; rfl
 | dU a=>simp only [E.ev] at h; exact s0 h hk fun z hz=>by unfold dU at hz; split at hz <;> simp at hz; subst hz; rfl
 | bin op a b=>simp only [E.ev] at h; exact s0 h hk fun z hz=>(aVu hz).2
 | eqB q a b=>simp only [E.ev] at h; exact s0 h hk fun z hz=>by unfold aAj at hz; split at hz <;> simp at hz; subst hz; rfl
 | eqA q g a b =>
  simp only [E.ev] at h
  refine s0 h hk fun z hz=>?_
  unfold aAk at hz
  split at hz
  ·simp only [zyy] at hz; obtain ⟨_,_,rfl⟩:=hz; rfl
  ·simp at hz
 | un op a =>
  simp only [E.ev] at h
  refine s0 h hk fun z hz=>?_
  unfold rU at hz
  split at hz <;> simp at hz <;> subst hz <;> rfl
 | mm g a b=>simp only [E.ev] at h; exact s0 h hk fun z hz=>by unfold mmK at hz; split at hz <;> simp at hz; subst hz; rfl
 | vK q a=>simp only [E.ev] at h; exact s0 h hk fun z hz=>by unfold vK at hz; split at hz <;> simp at hz; subst hz; rfl
 | uC a=>simp only [E.ev] at h; exact s0 h hk fun z hz=>by unfold uC at hz; split at hz <;> simp at hz; subst hz; rfl
 | uD a =>
  simp only [E.ev] at h
  refine s0 h hk fun z hz=>?_
  unfold uD at hz
  split at hz
  ·simp only [zyy] at hz; obtain ⟨_,_,rfl⟩:=hz; rfl
  ·simp at hz
 | slS a lo hi =>
  simp only [E.ev] at h
  refine s0 h hk fun z hz=>?_
  unfold wG at hz
  split at hz <;> (try (simp at hz; done))
  split at hz <;> (try (simp at hz; done))
  split at hz <;> simp at hz; subst hz; rfl
 | slL q a lo hi =>
  simp only [E.ev] at h
  refine s0 h hk fun z hz=>?_
  unfold aYe at hz
  split at hz <;> (try (simp at hz; done))
  split at hz <;> (try (simp at hz; done))
  split at hz <;> (try (simp at hz; done))
  split at hz <;> simp at hz; subst hz; rfl
 | aYa a i =>
  simp only [E.ev] at h
  refine s0 h hk fun z hz=>?_
  unfold gD at hz
  split at hz <;> (try (simp at hz; done))
  split at hz <;> (try (simp at hz; done))
  simp only [zyy] at hz; obtain ⟨_,_,rfl⟩:=hz; rfl
 | aYb g q a i =>
  simp only [E.ev] at h
  unfold eJ at h
  split at h <;> (try (simp at h; done))
  split at h <;> (try (simp at h; done))
  split at h <;> (try (simp at h; done))
  cases g with
  | true =>
   simp only [rX,cond_true] at hk
   obtain ⟨rfl,hp⟩:=a68 hk
   simp only [if_true] at h
   have:=(wK h).1
   subst this
   exact xH hp h
  | false =>
   simp only [rX,cond_false,zzz] at hk
   subst hk
   simp only [Bool.false_eq_true,if_false] at h
   obtain ⟨rfl,h2⟩:=rD h
   exact h2
 | b4p len g q a i=>simp [rX] at hk
 | inb q i =>
  simp only [E.ev] at h
  refine s0 h hk fun z hz=>?_
  unfold b4s at hz
  split at hz <;> (try (simp at hz; done))
  split at hz <;> simp at hz; subst hz; rfl
 | nth l i =>
  simp only [E.ev] at h
  refine s0 h hk fun z hz=>?_
  unfold b4t at hz
  split at hz <;> (try (simp at hz; done))
  split at hz <;> (try (simp at hz; done))
  split at hz <;> (try (simp at hz; done))
  exact (rD hz).1 ▸ (rD hz).2
 | part g q off a =>
  simp only [E.ev] at h
  unfold qL at h
  split at h <;> (try (simp at h; done))
  cases g with
  | true =>
   simp only [rX,cond_true] at hk
   obtain ⟨rfl,hp⟩:=a68 hk
   simp only [if_true] at h
   split at h <;> (try (simp at h; done))
   have:=(wK h).1
   subst this
   exact xH hp h
  | false =>
   simp only [rX,cond_false,zzz] at hk
   subst hk
   simp only [Bool.false_eq_true,if_false] at h
   split at h <;> (try (simp at h; done))
   obtain ⟨rfl,h2⟩:=rD h
   exact h2
 | agg l =>
  simp only [rX] at hk
  obtain ⟨rfl,hp⟩:=a68 hk
  simp only [E.ev,aI] at h
  split at h
  ·rename_i hs
   simp only [zzz] at h
   subst h
   cases hl:l.length with
   | zero=>omega
   | succ q=>exact ⟨_,rfl,by rw [List.length_map,hl],hs⟩
  ·simp at h
 | lit q l=>simp only [E.ev] at h; exact s0 h hk fun z hz=>by unfold hG at hz; split at hz <;> simp at hz; subst hz; rfl
 | make q z b l c =>
  simp only [E.ev] at h
  refine s0 h hk fun z hz=>?_
  unfold aO1 at hz
  split at hz <;> (try (simp at hz; done))
  split at hz <;> simp at hz; subst hz; rfl
 | app q b x y =>
  simp only [E.ev] at h
  refine s0 h hk fun z hz=>?_
  unfold iB at hz
  split at hz <;> (try (simp at hz; done))
  split at hz <;> simp at hz; subst hz; rfl
 | aRn b x y =>
  simp only [E.ev] at h
  refine s0 h hk fun z hz=>?_
  unfold aYf at hz
  split at hz <;> (try (simp at hz; done))
  unfold iB at hz
  split at hz <;> (try (simp at hz; done))
  split at hz <;> simp at hz; subst hz; rfl
 | call f l=>simp [rX] at hk
 | aKg f l=>simp [rX] at hk
 | fn f l=>simp only [E.ev] at h; exact s0 h hk fun z hz=>by simp at hz; subst hz; rfl
 | aYc a=>simp only [E.ev] at h; exact s0 h hk fun z hz=>by unfold aO2 at hz; split at hz <;> simp at hz; subst hz; rfl
 | ext a i=>simp [rX] at hk
 | pick c a b=>simp [rX] at hk
 | chk q a =>
  simp only [rX] at hk
  obtain ⟨rfl,hp⟩:=a68 hk
  have:=(wK h).1
  subst this
  exact xH hp h
 | aYd a=>simp only [E.ev] at h; exact s0 h hk fun z hz=>by obtain ⟨rfl,h2⟩:=rD hz; exact h2
 | b4q a=>simp [rX] at hk
section
variable {p:PT} {Q:V→Prop} {ks:List (List V→Prop)} {N:Nat} {gk:Nat→Option Nat} {gb:List Nat} {S:SS} {ρ:Nat→V} {env:Env} {m:Hp}
theorem aYr {op:BinOp} {k:IntKind} {a b:Int} {v:V} (h:hX op k a b=some v) (hc:aF1 op=true):tO v=true:=by
 cases op <;> simp [aF1] at hc <;> simp [hX] at h <;> subst h <;> rfl
theorem aYs {op:BinOp} {a b:List UInt8} {v:V} (h:sI op a b=some v) (hc:aF1 op=true):tO v=true:=by
 cases op <;> simp [aF1] at hc <;> simp [sI] at h <;> subst h <;> rfl
theorem b9a (c:aQ N gk gb S ρ env m) {e:E} {y:V} (h:e.ev p ρ=some y) (hb:aAn S e=true):tO y=true:=by
 cases e with
 | bin op a b =>
  simp only [aAn] at hb
  simp only [E.ev] at h
  unfold aB at h
  split at h
  ·cases op <;> simp only [aF1,Bool.false_eq_true] at hb <;> (simp only at h; split at h) <;> first | exact aYr h rfl | (simp at h)
  ·exact aYs h hb
  ·simp at h
 | eqB q a b=>simp only [E.ev] at h; unfold aAj at h; split at h <;> simp at h; subst h; rfl
 | eqA q g a b =>
  simp only [E.ev] at h; unfold aAk at h
  split at h
  ·simp only [zyy] at h; obtain ⟨_,_,rfl⟩:=h; rfl
  ·simp at h
 | un op a =>
  cases op <;> simp [aAn] at hb
  simp only [E.ev] at h; unfold rU at h
  split at h <;> simp_all <;> subst h <;> rfl
 | pick q a b =>
  simp only [aAn,zxz] at hb
  simp only [E.ev] at h; unfold aZ at h
  split at h
  ·rename_i t _
   simp only [zzz] at h
   subst h
   cases t
   ·exact c.isB hb.2
   ·exact c.isB hb.1
  ·simp at h
 | _=>simp [aAn] at hb
theorem kE (c:aQ N gk gb S ρ env m) {g:Gd} {e:E} {k:A→SS→OL} {L:L} (h:emit g e S k=some L) (hw:L.wp p Q S.nv ρ ks) :
  ∃ y L' kn bl,iZ ρ g (e.ev p ρ)=some y∧k (.v S.nv) (S.k9 (S.nv+1) kn bl)=some L'∧L'.wp p Q (S.nv+1) (ext ρ S.nv y) ks∧aQ N gk gb (S.k9 (S.nv+1) kn bl) (ext ρ S.nv y) env m:=by
 simp only [emit,zyy] at h
 obtain ⟨L',h1,rfl⟩:=h
 simp only [L.wp,b46] at hw
 cases hy:iZ ρ g (e.ev p ρ) with
 | none=>rw [hy] at hw; exact hw.elim
 | some y =>
  rw [hy] at hw
  refine ⟨y,L',_,_,rfl,h1,hw,?_⟩
  refine c.more (cI ρ S.nv y) (Nat.le_succ _) ?_ ?_
  rotate_left
  ·have old:∀ i ∈ S.cW,i < S.nv+1∧tO (ext ρ S.nv y i)=true:=fun i hi=>by
    obtain ⟨h2,h3⟩:=c.cW i hi
    exact ⟨by omega,by rw [cI ρ S.nv y i h2]; exact h3⟩
   intro i hi
   cases hbe:aAn S e with
   | false=>rw [hbe] at hi; exact old i hi
   | true =>
    rw [hbe] at hi
    simp only [cond_true,List.mem_cons] at hi
    rcases hi with rfl | hi
    ·refine ⟨by omega,?_⟩
     rw [jR]
     rcases uL hy with ⟨_,h5⟩ | ⟨_,rfl,_⟩
     ·exact b9a c h5 hbe
     ·rfl
    ·exact old i hi
  have old:∀ i n,assoc S.known i=some n→i < S.nv+1∧lW n (ext ρ S.nv y i):=fun i n hi=>by
   obtain ⟨h2,h3⟩:=c.known i n hi
   exact ⟨by omega,by rw [cI ρ S.nv y i h2]; exact h3⟩
  intro i n hi
  split at hi
  ·rename_i q hk
   simp only [assoc] at hi
   by_cases hb:Nat.beq S.nv i=true
   ·rw [hb] at hi
    simp only [cond_true,zzz] at hi
    subst hi
    have:=zzx hb
    subst this
    exact ⟨by omega,by rw [jR]; exact b89 hy hk⟩
   ·have hb':Nat.beq S.nv i=false:=by
     cases hc:Nat.beq S.nv i with
     | false=>rfl
     | true=>exact absurd hc hb
    rw [hb'] at hi
    exact old i n hi
  ·exact old i n hi
def Fin (p:PT) (Q:V→Prop) (ks:List (List V→Prop)) (N:Nat) (ρ:Nat→V) (S:SS) (env:Env) (k:SV→SS→OL) (o:V→Hp→Prop):Prop :=
 ∃ v m' s S' ρ' L' gk' gb',o v m'∧k s S'=some L'∧L'.wp p Q S'.nv ρ' ks∧aQ N gk' gb' S' ρ' env m'∧dV ρ' gk' gb' m'.T s v∧s.below S'.nv=true∧b7 ρ ρ' S.nv∧S.nv≤S'.nv∧S'.dep=S.dep
theorem Fin.step {S1:SS} {ρ1:Nat→V} {k:SV→SS→OL} {o:V→Hp→Prop} (h:Fin p Q ks N ρ1 S1 env k o) (ha:b7 ρ ρ1 S.nv) (hn:S.nv≤S1.nv) (hd:S1.dep=S.dep):Fin p Q ks N ρ S env k o:=by
 obtain ⟨v,m',s,S',ρ',L',gk',gb',h1,h2,h3,h4,h5,h6,h7,h8,h9⟩:=h
 exact ⟨v,m',s,S',ρ',L',gk',gb',h1,h2,h3,h4,h5,h6,ha.trans h7 hn,Nat.le_trans hn h8,h9.trans hd⟩
theorem Fin.mono {k:SV→SS→OL} {o o':V→Hp→Prop} (h:Fin p Q ks N ρ S env k o) (ho:∀ v m,o v m→o' v m):Fin p Q ks N ρ S env k o':=by
 obtain ⟨v,m',s,S',ρ',L',gk',gb',h1,h2⟩:=h
 exact ⟨v,m',s,S',ρ',L',gk',gb',ho _ _ h1,h2⟩
theorem nN (c:aQ N gk gb S ρ env m) {k:SV→SS→OL} {L:L} {s:SV} {v:V} {o:V→Hp→Prop} (h:k s S=some L) (hw:L.wp p Q S.nv ρ ks) (ho:o v m) (hr:dV ρ gk gb m.T s v) (hb:s.below S.nv=true):Fin p Q ks N ρ S env k o :=
 ⟨v,m,s,S,ρ,L,gk,gb,ho,h,hw,c,hr,hb,b7.refl _ _,zxy _,rfl⟩
theorem nY (n:Nat):A.below (n+1) (.v n)=true:=Nat.ble_eq_true_of_le (zxy _)
theorem n7 (c:aQ N gk gb S ρ env m) {g:Gd} {e:E} {k:SV→SS→OL} {L:L} {o:Option V} (h:rY g e S k=some L) (hw:L.wp p Q S.nv ρ ks)
  (hq:gM ρ g→∀ w,e.ev p ρ=some w→∃ v,o=some v∧v.aJ=w):Fin p Q ks N ρ S env k (fun v m'=>m'=m∧iZ ρ g o=some v):=by
 obtain ⟨y,L',kn,bl,h1,h2,h3,h4⟩:=kE c h hw
 have:∃ v,iZ ρ g o=some v∧v.aJ=y:=by
  rcases uL h1 with ⟨hon,h5⟩ | ⟨hoff,rfl,h6⟩
  ·obtain ⟨v,h7,h8⟩:=hq hon y h5
   exact ⟨v,by rw [pP hon]; exact h7,h8⟩
  ·exact ⟨.undef,h6 o,rfl⟩
 obtain ⟨v,h5,h6⟩:=this
 refine ⟨v,m,_,_,_,L',gk,gb,⟨rfl,h5⟩,h2,h3,h4,?_,nY _,cI _ _ _,Nat.le_succ _,rfl⟩
 show v.aJ=ext ρ S.nv y S.nv
 rw [jR]; exact h6
theorem aUk (i n : Nat) : ∀ (j q : Nat),q < n → (cellsOf i n j)[q]? = some (.c i (j + q)):=by
 induction n with
 | zero=>intro j q h; omega
 | succ n ih =>
  intro j q h
  cases q with
  | zero=>rfl
  | succ q=>simp only [cellsOf,zvx]; rw [ih (j+1) q (by omega)]; congr 2; omega
theorem a7u (i n:Nat):∀ j,(cellsOf i n j).length=n:=by
 induction n with
 | zero=>intro j; rfl
 | succ n ih=>intro j; simp [cellsOf,ih]
theorem a7v (ρ:Nat→V) {i n:Nat} {cs:List V} (h:(ρ i).cells=cs) (hl:cs.length=n):(cellsOf i n 0).map (A.den ρ)=cs:=by
 apply List.ext_getElem?
 intro q
 by_cases hq:q < n
 ·rw [zvz,aUk i n 0 q hq,zyz (by omega)]
  simp only [Option.map_some,A.den,a7,Nat.zero_add,h]
  rw [List.getD_eq_getElem?_getD,zyz (by omega)]; rfl
 ·rw [List.getElem?_eq_none (by simp [a7u]; omega),List.getElem?_eq_none (by omega)]
theorem aB5 {i n nv:Nat} (h:i < nv):∀ j,(cellsOf i n j).all (A.below nv)=true:=by
 induction n with
 | zero=>intro j; rfl
 | succ n ih=>intro j; simp only [cellsOf,List.all_cons,ih,Bool.and_true]; exact Nat.ble_eq_true_of_le h
theorem tT {n:Nat} {v:V} (hn:0 < n) (h:lW n v):∃ cs,v = .agg cs∧cs.length=n∧cs.all sc=true:=by
 cases n with
 | zero=>omega
 | succ n=>exact h
theorem aNo (c:aQ N gk gb S ρ env m) {g:Gd} {n:Nat} {a:A} {k:List A→SS→OL} {L:L} (h:a0t g n a S k=some L) (hw:L.wp p Q S.nv ρ ks) :
  ∃ i nv kn bl ρ' L',k (cellsOf i n 0) (S.k9 nv kn bl)=some L'∧L'.wp p Q nv ρ' ks∧aQ N gk gb (S.k9 nv kn bl) ρ' env m∧0 < n∧i < nv∧S.nv≤nv∧b7 ρ ρ' S.nv∧(gM ρ g→ρ' i=a.den ρ∧lW n (ρ' i)):=by
 unfold a0t at h
 cases hn0:Nat.beq n 0 with
 | true=>rw [hn0] at h; simp at h
 | false =>
  rw [hn0] at h
  simp only [cond_false] at h
  have hn:0 < n:=Nat.pos_of_ne_zero fun e=>by subst e; simp at hn0
  have viaChk:∀ {L:Go.Fbs.L} (_:L.wp p Q S.nv ρ ks),emit g (.chk n a) S (fun _ S'=>k (cellsOf S.nv n 0) S')=some L→∃ i nv kn bl ρ' L',k (cellsOf i n 0) (S.k9 nv kn bl)=some L'∧L'.wp p Q nv ρ' ks∧aQ N gk gb (S.k9 nv kn bl) ρ' env m∧0 < n∧i < nv∧S.nv≤nv∧b7 ρ ρ' S.nv∧(gM ρ g→ρ' i=a.den ρ∧lW n (ρ' i)):=by
   intro L hw he
   obtain ⟨y,L',kn,bl,h1,h2,h3,h4⟩:=kE c he hw
   refine ⟨S.nv,S.nv+1,kn,bl,_,L',h2,h3,h4,hn,Nat.lt_succ_self _,Nat.le_succ _,cI _ _ _,fun hon=>?_⟩
   rw [pP hon] at h1
   rw [jR]
   simp only [E.ev] at h1
   have:=(wK h1).1
   subst this
   exact ⟨rfl,xH hn h1⟩
  split at h
  ·rename_i i
   cases hk:S.l4 (.v i) n with
   | true =>
    rw [hk] at h
    simp only [cond_true] at h
    exact ⟨i,S.nv,S.known,(S.cW,S.a0r),ρ,L,h,hw,c,hn,c.aAr hk,zxy _,b7.refl _ _,fun _=>⟨rfl,c.l4 hk⟩⟩
   | false =>
    rw [hk] at h
    exact viaChk hw h
  ·exact viaChk hw h
theorem aDy (c:aQ N gk gb S ρ env m) {g:Gd} {a:A} (hab:a.below S.nv=true) {k:A→SS→OL} {L:L} (h:aDu g a S k=some L) (hw:L.wp p Q S.nv ρ ks) :
  ∃ a' nv kn bl ρ' L',k a' (S.k9 nv kn bl)=some L'∧L'.wp p Q nv ρ' ks∧aQ N gk gb (S.k9 nv kn bl) ρ' env m∧a'.below nv=true∧S.nv≤nv∧b7 ρ ρ' S.nv∧(gM ρ g→a'.den ρ'=a.den ρ∧sc (a.den ρ)=true):=by
 unfold aDu at h
 cases hk:S.l4 a 0 with
 | true =>
  rw [hk] at h
  simp only [cond_true] at h
  exact ⟨a,S.nv,S.known,(S.cW,S.a0r),ρ,L,h,hw,c,hab,zxy _,b7.refl _ _,fun _=>⟨rfl,c.l4 hk⟩⟩
 | false =>
  rw [hk] at h
  simp only [cond_false] at h
  obtain ⟨y,L',kn,bl,h1,h2,h3,h4⟩:=kE c h hw
  refine ⟨.v S.nv,S.nv+1,kn,bl,_,L',h2,h3,h4,nY _,Nat.le_succ _,cI _ _ _,fun hon=>?_⟩
  rw [pP hon] at h1
  simp only [E.ev] at h1
  obtain ⟨rfl,h5⟩:=rD h1
  exact ⟨jR _ _ _,h5⟩
end
end Go.Fbs

/- Operations that leave the memory as it is. -/
namespace Go.Fbs
def rF (S:SS) (ρ:Nat→V) (g:Gd):Prop:=Gd.below S.nv g=true∧∀ a b,g=some (a,b)→tO (a.den ρ)=true
theorem a4r {S:SS} {ρ:Nat→V} {g:Gd} (hg:rF S ρ g) (h:¬ gM ρ g) (o:Option V):iZ ρ g o=some .undef:=by
 cases g with
 | none=>exact absurd trivial h
 | some q =>
  obtain ⟨a,b⟩:=q
  have:=hg.2 a b rfl
  simp only [gM] at h
  simp only [iZ]
  cases hd:a.den ρ with
  | bool t =>
   rw [hd] at h
   simp only [aK]
   have:(t == b)=false:=by
    cases t <;> cases b <;> simp_all
   rw [this]; rfl
  | undef=>rfl
  | _=>rw [hd] at this; simp [tO] at this
theorem rF.more {S:SS} {ρ ρ':Nat→V} {g:Gd} (hg:rF S ρ g) {nv:Nat} (hn:S.nv≤nv) (ha:b7 ρ ρ' S.nv) {kn:List (Nat×Nat)} {bl:List Nat×List Nat} : rF (S.k9 nv kn bl) ρ' g :=
 ⟨Gd.cD hg.1 hn,fun a b h=>by
  have hb:a.below S.nv=true:=by have:=hg.1; rw [h] at this; exact this
  rw [gS ha hb]; exact hg.2 a b h⟩
section
variable {P:Program} {tt:TT} (hT:∀ t ti,dS tt t=some ti→aU P ti∧ti.t=t)
variable {p:PT} {Q:V→Prop} {ks:List (List V→Prop)} {N:Nat} {gk:Nat→Option Nat} {gb:List Nat} {S:SS} {ρ:Nat→V} {env:Env} {m:Hp}
abbrev QO (P:Program) (tt:TT) (p:PT) (ρ:Nat→V) (g:Gd) (env:Env) (m:Hp) (op:Op):V→Hp→Prop:=fun v m'=>m'=m∧iZ ρ g (bK P (CE tt p) env m.H op)=some v
theorem a81 (c:aQ N gk gb S ρ env m) {g:Gd} {k:SV→SS→OL} {L:L} {o:Option V} {s:SV} {v:V} {a:A}
  (h:(match g with | none=>k s S | some _=>k (.lL a g) S)=some L) (hg:rF S ρ g) (hw:L.wp p Q S.nv ρ ks) (ho:gM ρ g→o=some v) (hr:g=none→dV ρ gk gb m.T s v) (hb:s.below S.nv=true) (hab:a.below S.nv=true) (ha:gM ρ g→v.aJ=a.den ρ) :
  Fin p Q ks N ρ S env k (fun v m'=>m'=m∧iZ ρ g o=some v):=by
 cases g with
 | none=>exact nN c h hw ⟨rfl,ho trivial⟩ (hr rfl) hb
 | some q =>
  have hbel:SV.below S.nv (.lL a (some q))=true:=by simp only [SV.below,hab,Bool.true_and]; exact hg.1
  by_cases hon:gM ρ (some q)
  ·exact nN c h hw ⟨rfl,by rw [pP hon]; exact ho hon⟩ ⟨fun _=>ha hon,fun h=>absurd hon h⟩ hbel
  ·exact nN c h hw ⟨rfl,a4r hg hon o⟩ ⟨fun h=>absurd h hon,fun _=>rfl⟩ hbel
theorem iD (c:aQ N gk gb S ρ env m) {g:Gd} {as:List A} {e:E} {k:SV→SS→OL} {L:L} {o:Option V} (h:j3 g as e S k=some L) (hg:rF S ρ g) (hw:L.wp p Q S.nv ρ ks)
  (hq:gM ρ g→∀ w,e.ev p ρ=some w→∃ v,o=some v∧v.aJ=w):Fin p Q ks N ρ S env k (fun v m'=>m'=m∧iZ ρ g o=some v):=by
 cases g with
 | none=>exact n7 c h hw hq
 | some q =>
  simp only [j3] at h
  cases hs:as.all S.sure with
  | false=>rw [hs] at h; exact n7 c h hw hq
  | true =>
   rw [hs] at h
   simp only [cond_true] at h
   obtain ⟨y,L',kn,bl,h1,h2,h3,h4⟩:=kE c h hw
   have hgi:gM (ext ρ S.nv y) (some q)↔gM ρ (some q):=rE (cI _ _ _) hg.1
   have hbel:SV.below (S.nv+1) (.lL (.v S.nv) (some q))=true:=by
    simp only [SV.below,zxz]
    exact ⟨nY _,Gd.cD hg.1 (Nat.le_succ _)⟩
   by_cases hon:gM ρ (some q)
   ·obtain ⟨v,h5,h6⟩:=hq hon y h1
    exact ⟨v,m,_,_,_,L',gk,gb,⟨rfl,by rw [pP hon]; exact h5⟩,h2,h3,h4,⟨fun _=>by show v.aJ=ext ρ S.nv y S.nv; rw [jR]; exact h6,fun h=>absurd (hgi.2 hon) h⟩,hbel,cI _ _ _,Nat.le_succ _,rfl⟩
   ·exact ⟨.undef,m,_,_,_,L',gk,gb,⟨rfl,a4r hg hon o⟩,h2,h3,h4,⟨fun h=>absurd (hgi.1 h) hon,fun _=>rfl⟩,hbel,cI _ _ _,Nat.le_succ _,rfl⟩
theorem b1o (c:aQ N gk gb S ρ env m) {g:Gd} {x:Operand} {k:SV→SS→OL} {L:L}
  (h:(match S.gG x with | some s=>(match g with | none=>k s S | some _=>(match s.ag g with | some a=>k (.lL a g) S | none=>(match s with | .ptr b off none=>k (.ptr b off g) S | _=>none))) | none=>none)=some L) (hg:rF S ρ g) (hw:L.wp p Q S.nv ρ ks) :
  Fin p Q ks N ρ S env k (fun v m'=>m'=m∧iZ ρ g (Fbs.ev env x)=some v):=by
 split at h
 ·rename_i s hs
  obtain ⟨v,h1,h2,h3⟩:=c.gG hs
  cases g with
  | none=>exact nN c h hw ⟨rfl,h1⟩ h2 h3
  | some q =>
   simp only at h
   split at h
   ·rename_i a ha
    exact a81 c (s:=s) h hg hw (fun _=>h1) (fun h=>by simp at h) h3 (aAq h3 ha) (aDx (fun _ _=>Gd.fL) h2 ha)
   ·split at h
    ·rename_i b off hno
     obtain ⟨l,h4,rfl⟩:=h2.1 trivial
     by_cases hon:gM ρ (some q)
     ·exact ⟨.ptr l off,m,_,S,ρ,L,gk,gb,⟨rfl,by rw [pP hon]; exact h1⟩,h,hw,c,⟨fun _=>⟨l,h4,rfl⟩,fun hn=>absurd hon hn⟩,hg.1,b7.refl _ _,zxy _,rfl⟩
     ·exact ⟨.undef,m,_,S,ρ,L,gk,gb,⟨rfl,a4r hg hon _⟩,h,hw,c,⟨fun h=>absurd h hon,fun _=>rfl⟩,hg.1,b7.refl _ _,zxy _,rfl⟩
    ·simp at h
 ·simp at h
theorem bBk (c:aQ N gk gb S ρ env m) {g:Gd} (hg:rF S ρ g) {x y z:Operand} {k:SV→SS→OL} {L:L}
  (h:gL tt g (.pick x y z) S k=some L) (hw:L.wp p Q S.nv ρ ks) :
  Fin p Q ks N ρ S env k (QO P tt p ρ g env m (.pick x y z)):=by
 simp only [gL] at h
 split at h
 ·rename_i a1 e1
  split at h
  ·rename_i a2 a3 e2 e3
   obtain ⟨v1,h1,h1',_⟩:=c.iN e1
   obtain ⟨v2,h2,h2',_⟩:=c.aAm e2
   obtain ⟨v3,h3,h3',_⟩:=c.aAm e3
   refine iD c h hg hw fun hon w hw'=>?_
   simp only [E.ev] at hw'
   simp only [bK,h1,h2,h3]
   unfold aZ at hw'
   split at hw'
   ·rename_i t ht
    simp only [zzz] at hw'
    have hv1:v1 = .bool t:=n6 (by rw [h1' hon]; exact ht)
    subst hv1
    refine ⟨_,rfl,?_⟩
    cases t with
    | true=>simp only [if_true] at hw' ⊢; rw [← hw']; exact h2' hon ht
    | false=>simp only [Bool.false_eq_true,if_false] at hw' ⊢; rw [← hw']; exact h3' hon ht
   ·simp at hw'
  ·simp at h
 ·simp at h
theorem aRx {T : List (Nat × Nat)} : ∀ {l : List SV} {as : List A} {cs : List V},aF2 l = some as → l.length = cs.length → (∀ (j : Nat) s v,l[j]? = some s → cs[j]? = some v → dV ρ gk gb T s v) → cs.map V.aJ = as.map (A.den ρ)
 | [],as,cs,h,hl,_=>by
  simp [aF2] at h; subst h
  cases cs with
  | nil=>rfl
  | cons=>simp at hl
 | s::l,as,cs,h,hl,hr=>by
  simp only [aF2] at h
  split at h
  ·rename_i a as' h1 h2
   simp only [zzz] at h
   subst h
   cases cs with
   | nil=>simp at hl
   | cons v cs =>
    simp only [List.map_cons]
    rw [tS (hr 0 s v rfl rfl) h1,aRx h2 (by simpa using hl) (fun j s v h3 h4=>hr (j+1) s v (by simpa using h3) (by simpa using h4))]
  ·simp at h
theorem aDz {i:Nat} : ∀ (as:List A) (j:Nat),a1t i j as=true→as=cellsOf i as.length j
 | [],j,_=>rfl
 | .c i' j'::r,j,h=>by
  simp only [a1t,zxz] at h
  have h1:=zzx h.1.1
  have h2:=zzx h.1.2
  subst h1; subst h2
  simp only [zwx,cellsOf]
  rw [← aDz r (j+1) h.2]
 | .v _::r,j,h=>by simp [a1t] at h
 | .k _::r,j,h=>by simp [a1t] at h
theorem aId (c:aQ N gk gb S ρ env m) {t:TypeId} {ti:TI} (tok:aU P ti) (htt:ti.t=t) {g:Gd} (hgk:rF S ρ g) {cells:List SV} {cs:List V} (hc:Cells ρ gk gb m.T S.nv cells cs) {off:Nat} {k:SV→SS→OL} {L:L} {o:Option V}
  (h:aKj ti g cells off S k=some L) (hw:L.wp p Q S.nv ρ ks) (ho:gM ρ g→o=loadT P t (cs.drop off)):Fin p Q ks N ρ S env k (fun v m'=>m'=m∧iZ ρ g o=some v):=by
 have hag:=tok.agg; have hsz:=tok.sz
 rw [htt] at hag hsz
 have hload:loadT P t (cs.drop off)=qC ti.agg ti.sz (cs.drop off):=aMb hag hsz _
 rw [hload] at ho
 unfold aKj at h
 cases hg:ti.agg with
 | true =>
  rw [hg] at h ho
  simp only [cond_true] at h
  cases hle:Nat.ble (off+ti.sz) cells.length with
  | false=>rw [hle] at h; simp at h
  | true =>
   rw [hle] at h
   simp only [cond_true] at h
   have hle':=zxx hle
   split at h
   ·rename_i as has
    have hlen:((cells.drop off).take ti.sz).length=((cs.drop off).take ti.sz).length:=by simp [hc.1]
    have hden:=aRx (ρ:=ρ) (gk:=gk) (gb:=gb) (T:=m.T) has hlen (fun j s v h1 h2=>by
     rw [List.getElem?_take] at h1 h2
     split at h1
     ·rename_i hj
      rw [if_pos hj] at h2
      rw [List.getElem?_drop] at h1 h2
      exact (hc.2 _ s v h1 h2).1
     ·simp at h1)
    have hval:qC true ti.sz (cs.drop off)=some (.agg ((cs.drop off).take ti.sz)):=by
     unfold qC
     rw [if_pos rfl,if_pos (by rw [List.length_drop,← hc.1]; omega)]
    have viaAgg:∀ {L:Go.Fbs.L},L.wp p Q S.nv ρ ks→j3 g as (.agg as) S k=some L→Fin p Q ks N ρ S env k (fun v m'=>m'=m∧iZ ρ g o=some v):=fun hw he=>by
     refine iD c he hgk hw fun hon w hw'=>⟨_,(ho hon).trans hval,?_⟩
     simp only [E.ev,aI] at hw'
     split at hw'
     ·simp only [zzz] at hw'
      rw [← hw']
      simp only [V.aJ,cF]
      rw [hden]
     ·simp at hw'
    split at h
    ·rename_i i hi
     cases hwh:(a1t i 0 as && S.l4 (.v i) ti.sz && Nat.beq as.length ti.sz) with
     | false=>rw [hwh] at h; exact viaAgg hw h
     | true =>
      rw [hwh] at h
      simp only [cond_true] at h
      simp only [zxz] at hwh
      have hl:=zzx hwh.2
      have hk:=c.l4 hwh.1.2
      have hpos:0 < ti.sz:=by
       rw [← hl]
       cases as with
       | nil=>simp [aVt] at hi
       | cons=>simp
      obtain ⟨ds,hd1,hd2,hd3⟩:=tT hpos hk
      have has2:=aDz as 0 hwh.1.1
      refine nN c h hw ⟨rfl,(ho trivial).trans hval⟩ ?_ ?_
      ·show V.aJ _=A.den ρ (.v i)
       rw [hd1]
       simp only [V.aJ,cF]
       rw [hden,has2,hl,a7v ρ (cs:=ds) (by show (A.den ρ (.v i)).cells=ds; rw [hd1]; rfl) hd2]
      ·exact Nat.ble_eq_true_of_le (c.aAr hwh.1.2)
    ·exact viaAgg hw h
   ·simp at h
 | false =>
  rw [hg] at h ho
  simp only [cond_false] at h
  split at h
  ·rename_i s hs
   have hlt:off < cells.length:=(zzy.1 hs).1
   obtain ⟨v,hv⟩ : ∃ v,cs[off]? = some v:=⟨cs[off]'(by rw [← hc.1]; exact hlt),zyz _⟩
   obtain ⟨h1,h2⟩:=hc.2 off s v hs hv
   have hval:qC false ti.sz (cs.drop off)=some v:=by
    unfold qC
    rw [if_neg (by simp),List.getElem?_drop]; exact hv
   cases g with
   | none=>exact nN c h hw ⟨rfl,(ho trivial).trans hval⟩ h1 h2
   | some q =>
    simp only at h
    split at h
    ·rename_i a ha
     exact a81 c (s:=s) h hgk hw (fun hon=>(ho hon).trans hval) (fun h=>by simp at h) h2 (xI h2 ha) (fun _=>tS h1 ha)
    ·simp at h
  ·simp at h
theorem sQ {hv g:Gd} (h:kP hv g=true) (hon:gM ρ g):gM ρ hv:=by
 unfold kP at h
 cases hv with
 | none=>trivial
 | some q=>rw [Gd.fL h]; exact hon
theorem aUl {v:V} (h:lW 0 v):sc v=true:=h
include hT in
theorem bBl (c:aQ N gk gb S ρ env m) {g:Gd} (hgk:rF S ρ g) {t:TypeId} {x:Operand} {k:SV→SS→OL} {L:L} (h:gL tt g (.load t x) S k=some L) (hw:L.wp p Q S.nv ρ ks) :
  Fin p Q ks N ρ S env k (QO P tt p ρ g env m (.load t x)):=by
 simp only [gL] at h
 split at h
 ·rename_i b off hv ti hx hti
  obtain ⟨tok,htt⟩:=hT t ti hti
  obtain ⟨v,h1,h2,h3⟩:=c.gG hx
  cases hf:kP hv g with
  | false=>rw [hf] at h; simp at h
  | true =>
   rw [hf] at h
   simp only [cond_true] at h
   split at h
   ·rename_i cells hb
    obtain ⟨l,cs,h0,h4,h5⟩:=c.boxes b cells hb
    refine aId c tok htt hgk h5 h hw fun hon=>?_
    obtain ⟨l',hl,hv'⟩:=h2.1 (sQ hf hon)
    rw [h0] at hl
    simp only [zzz] at hl
    subst hl
    simp only [bK,fA,h1,hv',nF,h4]
   ·simp at h
 ·rename_i a n off hv ti hx hti
  obtain ⟨tok,htt⟩:=hT t ti hti
  have hag:=tok.agg; have hsz:=tok.sz
  rw [htt] at hag hsz
  obtain ⟨v,h1,h2,h3⟩:=c.gG hx
  have hbel:a.below S.nv=true:=by simp only [SV.below,zxz] at h3; exact h3.1
  cases hf:kP hv g with
  | false=>rw [hf] at h; simp at h
  | true =>
   rw [hf] at h
   simp only [cond_true] at h
   have hev:gM ρ g→∃ cs:List V,cs.map V.aJ=(a.den ρ).cells∧lW n (a.den ρ)∧bK P (CE tt p) env m.H (.load t x)=qC ti.agg ti.sz (cs.drop off):=fun hon=>by
    obtain ⟨cs,h4,h5,h6⟩:=h2.1 (sQ hf hon)
    refine ⟨cs,h5,h6,?_⟩
    simp only [bK,fA,h1,h4,nF]
    exact aMb hag hsz _
   have part:∀ {pg:Bool} {pn:Nat} {L:Go.Fbs.L},L.wp p Q S.nv ρ ks→0 < n→ti.agg=pg→(pg=true→pn=ti.sz)→j3 g [a] (.part pg pn off a) S k=some L→Fin p Q ks N ρ S env k (QO P tt p ρ g env m (.load t x)):=by
    intro pg pn L hw hn hpg hpn he
    refine iD c he hgk hw fun hon w hw'=>?_
    obtain ⟨cs,h5,h6,h7⟩:=hev hon
    rw [h7,hpg]
    obtain ⟨ds,hd1,hd2,hd3⟩:=tT hn h6
    simp only [E.ev] at hw'
    have:a.den ρ=(V.agg cs).aJ:=by rw [hd1]; simp only [V.aJ,cF,h5,hd1]; rfl
    rw [this] at hw'
    obtain ⟨cs',v',e1,e2,e3,_⟩:=b1n hw'
    simp only [V.agg.injEq] at e1
    subst e1
    refine ⟨v',?_,e3⟩
    rw [← e2]
    cases pg with
    | true=>simp only [qC,qD,if_true,hpn rfl,List.length_drop]; split <;> split <;> first | rfl | (exfalso; rename_i q1 q2; simp [qD,hpn rfl] at e2; omega)
    | false=>simp only [qC,qD,Bool.false_eq_true,if_false,List.getElem?_drop]; rfl
   cases hn0:Nat.beq n 0 with
   | true =>
    have hn:n=0:=zzx hn0
    subst hn
    rw [hn0] at h
    simp only [cond_true] at h
    cases hcond:(Nat.beq off 0 && !ti.agg) with
    | false=>rw [hcond] at h; simp at h
    | true =>
     rw [hcond] at h
     simp only [cond_true] at h
     simp only [zxz,Bool.not_eq_true'] at hcond
     have ho:=zzx hcond.1
     subst ho
     by_cases hon:gM ρ g
     ·obtain ⟨cs,h5,h6,h7⟩:=hev hon
      have hs:=aUl h6
      rw [a5r hs] at h5
      obtain ⟨u,rfl⟩:∃ u,cs=[u]:=by
       have:=congrArg List.length h5
       simp only [List.length_map,List.length_singleton] at this
       exact List.length_eq_one_iff.1 this
      simp only [List.map_cons,List.map_nil,List.cons.injEq,and_true] at h5
      have h8:bK P (CE tt p) env m.H (.load t x)=some u:=by rw [h7,hcond.2]; rfl
      exact a81 c (s:=.val a) (v:=u) h hgk hw (fun _=>h8) (fun _=>h5) hbel hbel (fun _=>h5)
     ·cases g with
      | none=>exact absurd trivial hon
      | some q=>exact a81 c (v:=.undef) (s:=.val a) h hgk hw (fun hon'=>absurd hon' hon) (fun h=>by simp at h) hbel hbel (fun hon'=>absurd hon' hon)
   | false =>
    have hn:0 < n:=Nat.pos_of_ne_zero fun e=>by subst e; simp at hn0
    rw [hn0] at h
    simp only [cond_false] at h
    cases hg:ti.agg with
    | true =>
     rw [hg] at h
     simp only [cond_true] at h
     cases hcond:(Nat.beq off 0 && Nat.beq ti.sz n) with
     | false =>
      rw [hcond] at h
      exact part hw hn hg (fun _=>rfl) h
     | true =>
      rw [hcond] at h
      simp only [cond_true] at h
      simp only [zxz] at hcond
      have ho:=zzx hcond.1
      have hz:=zzx hcond.2
      subst ho
      by_cases hon:gM ρ g
      ·obtain ⟨cs,h5,h6,h7⟩:=hev hon
       obtain ⟨ds,hd1,hd2,hd3⟩:=tT hn h6
       have hl:cs.length=n:=by rw [← hd2]; have:=congrArg List.length h5; rw [hd1] at this; simpa [V.cells] using this
       have h8:bK P (CE tt p) env m.H (.load t x)=some (.agg cs):=by
        rw [h7,hg]
        simp only [List.drop_zero,qC,if_true]
        rw [if_pos (by omega),List.take_of_length_le (by omega)]
       have h9:(V.agg cs).aJ=a.den ρ:=by simp only [V.aJ,cF,h5]; rw [hd1]; rfl
       exact a81 c (s:=.val a) (v:=.agg cs) h hgk hw (fun _=>h8) (fun _=>h9) hbel hbel (fun _=>h9)
      ·cases g with
       | none=>exact absurd trivial hon
       | some q=>exact a81 c (v:=.undef) (s:=.val a) h hgk hw (fun hon'=>absurd hon' hon) (fun h=>by simp at h) hbel hbel (fun hon'=>absurd hon' hon)
    | false =>
     rw [hg] at h
     simp only [cond_false] at h
     split at h
     ·rename_i i
      cases hcond:(S.l4 (.v i) n && Nat.blt off n) with
      | false=>rw [hcond] at h; exact part hw hn hg (by simp) h
      | true =>
       rw [hcond] at h
       simp only [cond_true] at h
       simp only [zxz] at hcond
       obtain ⟨cs,h5,h6,h7⟩:=hev trivial
       obtain ⟨ds,hd1,hd2,hd3⟩:=tT hn h6
       have hl:cs.length=n:=by rw [← hd2]; have:=congrArg List.length h5; rw [hd1] at this; simpa [V.cells] using this
       have hlt:=iP hcond.2
       refine nN c h hw ⟨rfl,show bK P (CE tt p) env m.H (.load t x)=some (cs[off]'(by omega)) from ?_⟩ ?_ ?_
       ·rw [h7,hg]
        simp only [qC,Bool.false_eq_true,if_false,List.getElem?_drop]
        exact zyz _
       ·show V.aJ _=a7 (A.den ρ (.v i)) off
        unfold a7
        rw [← h5,List.getD_eq_getElem?_getD,zvz,zyz (by omega)]
        rfl
       ·exact Nat.ble_eq_true_of_le (c.aAr hcond.1)
     ·exact part hw hn hg (by simp) h
 ·rename_i b off n i hv ti hx hti
  obtain ⟨tok,htt⟩:=hT t ti hti
  have hag:=tok.agg; have hsz:=tok.sz
  rw [htt] at hag hsz
  obtain ⟨v,h1,h2,h3⟩:=c.gG hx
  cases hf:(kP hv g && !ti.agg) with
  | false=>rw [hf] at h; simp at h
  | true =>
   rw [hf] at h
   simp only [cond_true] at h
   simp only [zxz,Bool.not_eq_true'] at hf
   split at h
   ·rename_i cells hb
    split at h
    ·rename_i as has
     obtain ⟨l,cs,h0,h4,h5⟩:=c.boxes b cells hb
     refine n7 c h hw fun hon w hw'=>?_
     obtain ⟨l',q,z,e1,e2,e3,e4⟩:=h2.1 (sQ hf.1 hon)
     rw [h0] at e1
     simp only [zzz] at e1
     subst e1
     have hev:bK P (CE tt p) env m.H (.load t x)=cs[off+z]?:=by
      simp only [bK,fA,h1,e4,nF,h4]
      rw [aMb hag hsz,hf.2]
      simp only [qC,Bool.false_eq_true,if_false,List.getElem?_drop,Nat.add_zero]
     have hcs:((cs.drop off).take n).map V.aJ=as.map (A.den ρ):=aRx has (by simp [h5.1]) fun j s u g1 g2=>by
      rw [List.getElem?_take] at g1 g2
      split at g1
      ·rw [if_pos (by assumption)] at g2
       rw [List.getElem?_drop] at g1 g2
       exact (h5.2 _ s u g1 g2).1
      ·simp at g1
     simp only [E.ev,e2,← hcs] at hw'
     unfold b4t at hw'
     simp only at hw'
     rw [if_pos (by omega)] at hw'
     split at hw'
     ·rename_i u hu
      obtain ⟨rfl,_⟩:=rD hw'
      simp only [Int.toNat_natCast,zvz,zyy] at hu
      obtain ⟨u0,g1,g2⟩:=hu
      rw [List.getElem?_take,if_pos e3,List.getElem?_drop] at g1
      exact ⟨u0,by rw [hev]; exact g1,g2⟩
     ·simp at hw'
    ·simp at h
   ·simp at h
 ·simp at h
end
end Go.Fbs

/- The other operations that leave the memory as it is. -/
namespace Go.Fbs
section
variable {P:Program} {tt:TT} (hT:∀ t ti,dS tt t=some ti→aU P ti∧ti.t=t)
variable {p:PT} {Q:V→Prop} {ks:List (List V→Prop)} {N:Nat} {gk:Nat→Option Nat} {gb:List Nat} {S:SS} {ρ:Nat→V} {env:Env} {m:Hp}
theorem aAs (c:aQ N gk gb S ρ env m) {g:Gd} (hg:rF S ρ g) {k:SV→SS→OL} {L:L} {o:Option V} {s:SV} (h:k s S=some L) (hw:L.wp p Q S.nv ρ ks) (hb:s.below S.nv=true)
  (hon:gM ρ g→∃ v,o=some v∧dV ρ gk gb m.T s v) (hoff:¬ gM ρ g→dV ρ gk gb m.T s .undef):Fin p Q ks N ρ S env k (fun v m'=>m'=m∧iZ ρ g o=some v):=by
 by_cases ho:gM ρ g
 ·obtain ⟨v,h1,h2⟩:=hon ho
  exact nN c h hw ⟨rfl,by rw [pP ho]; exact h1⟩ h2 hb
 ·exact nN c h hw ⟨rfl,a4r hg ho o⟩ (hoff ho) hb
theorem aYt (c:aQ N gk gb S ρ env m) {g:Gd} (hg:rF S ρ g) {x:Operand} {k:SV→SS→OL} {L:L} (h:gL tt g (.nilCheck x) S k=some L) (hw:L.wp p Q S.nv ρ ks) :
  Fin p Q ks N ρ S env k (QO P tt p ρ g env m (.nilCheck x)):=by
 simp only [gL] at h
 have cnd:∀ {hv:Gd},(g.same hv || hv.same none && g.same none)=true→g=hv:=fun {hv} e=>by
  simp only [Bool.or_eq_true,zxz] at e
  rcases e with e | ⟨e1,e2⟩
  ·exact Gd.fL e
  ·rw [Gd.fL e1,Gd.fL e2]
 split at h
 ·rename_i b off hv hx
  obtain ⟨v,h1,h2,h3⟩:=c.gG hx
  cases hc:(g.same hv || hv.same none && g.same none) with
  | false=>rw [hc] at h; simp at h
  | true =>
   rw [hc] at h
   have:=cnd hc
   subst this
   refine aAs c hg h hw h3 (fun ho=>⟨v,?_,h2⟩) (fun ho=>?_)
   ·obtain ⟨l,_,h4⟩:=h2.1 ho
    simp only [bK,fA,h1,h4,a7k]
   ·rw [h2.2 ho] at h2; exact h2
 ·rename_i a n off hv hx
  obtain ⟨v,h1,h2,h3⟩:=c.gG hx
  cases hc:(g.same hv || hv.same none && g.same none) with
  | false=>rw [hc] at h; simp at h
  | true =>
   rw [hc] at h
   have:=cnd hc
   subst this
   refine aAs c hg h hw h3 (fun ho=>⟨v,?_,h2⟩) (fun ho=>?_)
   ·obtain ⟨cs,h4,_⟩:=h2.1 ho
    simp only [bK,fA,h1,h4,a7k]
   ·rw [h2.2 ho] at h2; exact h2
 ·rename_i s hx
  split at h
  ·rename_i a ha
   obtain ⟨v,h1,h2,h3⟩:=c.gG hx
   refine n7 c h hw fun hon w hw'=>?_
   simp only [E.ev,← aDx (fun _ _=>Gd.fL) h2 ha hon] at hw'
   simp only [bK,fA,h1]
   exact bBj hw'
  ·simp at h
 ·simp at h
include hT in
theorem b9b (c:aQ N gk gb S ρ env m) {g:Gd} (hgk:rF S ρ g) {op:BinOp} {t u:TypeId} {x y:Operand} {k:SV→SS→OL} {L:L} (h:gL tt g (.binOp op t x y u) S k=some L) (hw:L.wp p Q S.nv ρ ks) :
  Fin p Q ks N ρ S env k (QO P tt p ρ g env m (.binOp op t x y u)):=by
 simp only [gL] at h
 split at h
 ·rename_i ti a b hti ha hb
  obtain ⟨tok,htt⟩:=hT t ti hti
  obtain ⟨v1,h1,h1',_⟩:=c.iN ha
  obtain ⟨v2,h2,h2',_⟩:=c.iN hb
  have hdd:=tok.d
  have hee:=tok.eq
  rw [htt] at hdd hee
  have hev:bK P (CE tt p) env m.H (.binOp op t x y u)=a1f P op t v1 v2:=by simp only [bK,lO,h1,h2]
  have cor:gM ρ g→∀ w,(E.bin op a b).ev p ρ=some w→∃ v,bK P (CE tt p) env m.H (.binOp op t x y u)=some v∧v.aJ=w:=fun hon w hw'=>by
   simp only [E.ev,← h1' hon,← h2' hon] at hw'
   rw [hev]; exact bD4 hw'
  have int:∀ {L:Go.Fbs.L},L.wp p Q S.nv ρ ks→aYg g op a b S k=some L→Fin p Q ks N ρ S env k (QO P tt p ρ g env m (.binOp op t x y u)):=fun hw he=>by
   unfold aYg at he
   cases op <;> first | exact n7 c he hw cor | exact iD c he hgk hw cor
  split at h
  ·exact int hw h
  ·exact int hw h
  ·rename_i hd
   rw [hd] at hdd
   cases he:ti.eq with
   | false=>rw [he] at h; simp at h
   | true =>
    rw [he] at h
    simp only [cond_true] at h
    have hgd:=(hee he).2
    split at h
    ·refine iD c h hgk hw fun hon w hw'=>?_
     simp only [E.ev,← h1' hon,← h2' hon] at hw'
     rw [hev]; exact b64 (neg:=false) hdd hgd hw'
    ·refine iD c h hgk hw fun hon w hw'=>?_
     simp only [E.ev,← h1' hon,← h2' hon] at hw'
     rw [hev]; exact b64 (neg:=true) hdd hgd hw'
    ·simp at h
  ·rename_i fs hd
   cases he:(ti.eq && ti.agg) with
   | false=>rw [he] at h; simp at h
   | true =>
    rw [he] at h
    simp only [cond_true] at h
    simp only [zxz] at he
    have hgd:=(hee he.1).2
    split at h
    ·rename_i qs hqs
     have key:∀ (neg:Bool) (w:V),aAk qs neg v1.aJ v2.aJ=some w→∃ v,a1f P (if neg then .neq else .eql) t v1 v2=some v∧v.aJ=w:=by
      intro neg w hw'
      unfold aAk at hw'
      split at hw'
      ·rename_i xs ys e1 e2
       obtain ⟨xs,rfl,rfl⟩:=a8y e1
       obtain ⟨ys,rfl,rfl⟩:=a8y e2
       simp only [zyy] at hw'
       obtain ⟨r,e3,rfl⟩:=hw'
       have e4:=(aVv hT 20 t ti qs hti hqs).2 xs ys r (aHa e3)
       simp only [he.2,if_true] at e4
       cases neg <;> simp [a1f,hgd,e4,V.aJ]
      ·simp at hw'
     split at h
     ·refine iD c h hgk hw fun hon w hw'=>?_
      simp only [E.ev,← h1' hon,← h2' hon] at hw'
      rw [hev]; exact key false w hw'
     ·refine iD c h hgk hw fun hon w hw'=>?_
      simp only [E.ev,← h1' hon,← h2' hon] at hw'
      rw [hev]; exact key true w hw'
     ·simp at h
    ·simp at h
  ·simp at h
 ·simp at h
theorem bBm (c:aQ N gk gb S ρ env m) {g:Gd} (hgk:rF S ρ g) {op:UnOp} {t:TypeId} {x:Operand} {k:SV→SS→OL} {L:L} (h:gL tt g (.unOp op t x) S k=some L) (hw:L.wp p Q S.nv ρ ks) :
  Fin p Q ks N ρ S env k (QO P tt p ρ g env m (.unOp op t x)):=by
 simp only [gL] at h
 split at h
 ·rename_i a ha
  obtain ⟨v1,h1,h1',_⟩:=c.iN ha
  refine iD c h hgk hw fun hon w hw'=>?_
  simp only [E.ev,← h1' hon] at hw'
  simp only [bK,fA,h1]
  exact bHh hw'
 ·simp at h
include hT in
theorem b1p (c:aQ N gk gb S ρ env m) {g:Gd} (hgk:rF S ρ g) {s d:TypeId} {x:Operand} {k:SV→SS→OL} {L:L} (h:gL tt g (.convert s d x) S k=some L) (hw:L.wp p Q S.nv ρ ks) :
  Fin p Q ks N ρ S env k (QO P tt p ρ g env m (.convert s d x)):=by
 simp only [gL] at h
 split at h
 ·rename_i si di a hsi hdi ha
  obtain ⟨stok,hst⟩:=hT s si hsi
  obtain ⟨dtok,hdt⟩:=hT d di hdi
  obtain ⟨v1,h1,h1',_⟩:=c.iN ha
  have hs:=stok.d
  have hd:=dtok.d
  rw [hst] at hs
  rw [hdt] at hd
  have hev:bK P (CE tt p) env m.H (.convert s d x)=a4c P s d v1:=by simp only [bK,fA,h1]
  split at h
  ·rename_i q1 q2 e1 e2
   rw [e1] at hs; rw [e2] at hd
   refine iD c h hgk hw fun hon w hw'=>?_
   simp only [E.ev,← h1' hon] at hw'
   rw [hev,b81 hs hd]; exact b87 hw'
  ·rename_i e1 e2
   rw [e1] at hs; rw [e2] at hd
   refine iD c h hgk hw fun hon w hw'=>?_
   simp only [E.ev,← h1' hon] at hw'
   rw [hev,b4i hs hd]; exact b43 hw'
  ·rename_i e e1 e2
   rw [e1] at hs; rw [e2] at hd
   split at h
   ·rename_i ei hei
    split at h
    ·rename_i e3
     obtain ⟨etok,het⟩:=hT e ei hei
     have he:=etok.d
     rw [het,e3] at he
     refine n7 c h hw fun hon w hw'=>?_
     simp only [E.ev,← h1' hon] at hw'
     rw [hev,b4j hs he hd]; exact b44 hw'
    ·simp at h
   ·simp at h
  ·simp at h
 ·simp at h
include hT in
theorem b9c (c:aQ N gk gb S ρ env m) {g:Gd} {t:TypeId} {x:Operand} {lo hi:Option Operand} {k:SV→SS→OL} {L:L} (h:gL tt g (.slice t x lo hi none) S k=some L) (hw:L.wp p Q S.nv ρ ks) :
  Fin p Q ks N ρ S env k (QO P tt p ρ g env m (.slice t x lo hi none)):=by
 simp only [gL] at h
 split at h
 ·rename_i ti a l hh hti ha hl hhi
  obtain ⟨tok,htt⟩:=hT t ti hti
  obtain ⟨v1,h1,h1',_⟩:=c.iN ha
  obtain ⟨v2,h2,h2',_⟩:=c.a62 hl
  obtain ⟨v3,h3,h3',_⟩:=c.a62 hhi
  have hd:=tok.d
  rw [htt] at hd
  have hev:bK P (CE tt p) env m.H (.slice t x lo hi none)=qV P t v1 v2 v3:=by simp only [bK,h1,h2,h3]
  split at h
  ·rename_i e1
   rw [e1] at hd
   refine n7 c h hw fun hon w hw'=>?_
   simp only [E.ev,← h1' hon,← h2' hon,← h3' hon] at hw'
   rw [hev,b4e hd]; exact bD5 hw'
  ·rename_i e e1
   rw [e1] at hd
   split at h
   ·rename_i ei hei
    obtain ⟨etok,het⟩:=hT e ei hei
    have hz:=etok.sz
    rw [het] at hz
    cases hp:Nat.blt 0 ei.sz with
    | false=>rw [hp] at h; simp at h
    | true =>
     rw [hp] at h
     refine n7 c h hw fun hon w hw'=>?_
     simp only [E.ev,← h1' hon,← h2' hon,← h3' hon] at hw'
     rw [hev,b4f hd hz (iP hp)]; exact bD6 hw'
   ·simp at h
  ·simp at h
 ·simp at h
include hT in
theorem aVw {t : TypeId} {ti : TI} (hti : dS tt t = some ti) {fs : List (Nat × TypeId)} (hd : ti.d = .st fs) {f off : Nat} {ft : TypeId} (hf : fs[f]? = some (off,ft)) :
  ∃ (a : Array Field) (fd : Field),P.underlying t = some (.struct a) ∧ a[f]? = some fd ∧ fd.offset = off ∧ fd.type = ft:=by
 obtain ⟨tok,htt⟩:=hT t ti hti
 have hdd:=tok.d
 rw [htt,hd] at hdd
 obtain ⟨a,h1,h2,_⟩:=hdd
 rw [← h2,zvz,zyy] at hf
 obtain ⟨fd,h3,h4⟩:=hf
 simp only [zvy] at h4
 exact ⟨a,fd,h1,by rw [← Array.getElem?_toList]; exact h3,h4.1,h4.2⟩
include hT in
theorem b9d (c:aQ N gk gb S ρ env m) {g:Gd} (hgk:rF S ρ g) {t:TypeId} {x:Operand} {f:Nat} {k:SV→SS→OL} {L:L} (h:gL tt g (.field t x f) S k=some L) (hw:L.wp p Q S.nv ρ ks) :
  Fin p Q ks N ρ S env k (QO P tt p ρ g env m (.field t x f)):=by
 simp only [gL] at h
 split at h
 ·rename_i ti a hti ha
  obtain ⟨v1,h1,h1',hbel⟩:=c.iN ha
  split at h
  ·rename_i fs hd
   split at h
   ·rename_i off ft hf
    split at h
    ·rename_i fi hfi
     obtain ⟨A',fd,hu,hfd,ho,hft⟩:=aVw hT hti hd hf
     obtain ⟨ftok,hftt⟩:=hT ft fi hfi
     have hag:=ftok.agg; have hsz:=ftok.sz
     rw [hftt] at hag hsz
     have hev:bK P (CE tt p) env m.H (.field t x f)=aDm fi.agg fi.sz off v1:=by
      simp only [bK,fA,h1]
      exact b80 hu hfd (by rw [hft]; exact hag) (by rw [hft]; exact hsz) ho v1
     have part:∀ {pg:Bool} {pn:Nat} {L:Go.Fbs.L},L.wp p Q S.nv ρ ks→fi.agg=pg→(pg=true→pn=fi.sz)→j3 g [a] (.part pg pn off a) S k=some L→Fin p Q ks N ρ S env k (QO P tt p ρ g env m (.field t x f)):=by
      intro pg pn L hw hpg hpn he
      refine iD c he hgk hw fun hon w hw'=>?_
      simp only [E.ev,← h1' hon] at hw'
      obtain ⟨cs,v',e1,e2,e3,_⟩:=b1n hw'
      refine ⟨v',?_,e3⟩
      rw [hev,e1,hpg]
      simp only [aDm]
      cases pg with
      | true=>rw [← hpn rfl]; exact e2
      | false=>simp only [qD,Bool.false_eq_true,if_false] at e2 ⊢; exact e2
     cases hg:fi.agg with
     | true=>rw [hg] at h; exact part hw hg (fun _=>rfl) h
     | false =>
      rw [hg] at h
      simp only [cond_false] at h
      cases hz1:Nat.beq fi.sz 1 with
      | false=>rw [hz1] at h; simp at h
      | true =>
       rw [hz1] at h
       simp only [cond_true] at h
       split at h
       ·rename_i i
        cases hc:(S.l4 (.v i) ti.sz && Nat.blt off ti.sz && Nat.blt 0 ti.sz) with
        | false=>rw [hc] at h; exact part hw hg (by simp) h
        | true =>
         rw [hc] at h
         simp only [cond_true] at h
         simp only [zxz] at hc
         obtain ⟨ds,hd1,hd2,hd3⟩:=tT (iP hc.2) (c.l4 hc.1.1)
         have hlt:=iP hc.1.2
         replace h1':=h1' trivial
         rw [hd1] at h1'
         obtain ⟨cs,rfl,rfl⟩:=a8y h1'
         rw [List.length_map] at hd2
         refine nN c h hw ⟨rfl,show bK P (CE tt p) env m.H (.field t x f)=some (cs[off]'(by omega)) from ?_⟩ ?_ ?_
         ·rw [hev,hg]
          simp only [aDm,qD,Bool.false_eq_true,if_false]
          exact zyz _
         ·show V.aJ _=a7 (A.den ρ (.v i)) off
          rw [hd1]
          simp only [a7,V.cells]
          rw [List.getD_eq_getElem?_getD,zvz,zyz (by omega)]
          rfl
         ·exact Nat.ble_eq_true_of_le (c.aAr hc.1.1)
       ·exact part hw hg (by simp) h
    ·simp at h
   ·simp at h
  ·simp at h
 ·simp at h
include hT in
theorem aUm (c:aQ N gk gb S ρ env m) {g:Gd} (hgk:rF S ρ g) {t:TypeId} {x:Operand} {f:Nat} {k:SV→SS→OL} {L:L} (h:gL tt g (.fieldAddr t x f) S k=some L) (hw:L.wp p Q S.nv ρ ks) :
  Fin p Q ks N ρ S env k (QO P tt p ρ g env m (.fieldAddr t x f)):=by
 simp only [gL] at h
 split at h
 ·rename_i ti s hti hs
  obtain ⟨v1,h1,h2,hbel⟩:=c.gG hs
  split at h
  ·rename_i fs hd
   split at h
   ·rename_i off ft hf
    split at h
    ·rename_i fi hfi
     obtain ⟨A',fd,hu,hfd,ho,hft⟩:=aVw hT hti hd hf
     obtain ⟨ftok,hftt⟩:=hT ft fi hfi
     have hsz:=ftok.sz
     rw [hftt] at hsz
     cases hp:Nat.blt 0 fi.sz with
     | false=>rw [hp] at h; simp at h
     | true =>
      rw [hp] at h
      simp only [cond_true] at h
      obtain ⟨q,hq⟩:∃ q,fi.sz=q+1:=⟨fi.sz - 1,by have:=iP hp; omega⟩
      have hev:bK P (CE tt p) env m.H (.fieldAddr t x f)=aAf off v1:=by
       simp only [bK,fA,h1]
       exact aUe hu hfd (by rw [hft,hsz,hq]) ho v1
      split at h
      ·rename_i b o hv
       cases hgf:kP hv g with
       | false=>rw [hgf] at h; simp at h
       | true =>
        rw [hgf] at h
        refine aAs c hgk h hw hgk.1 (fun hon=>?_) (fun hoff=>⟨fun h=>absurd h hoff,fun _=>rfl⟩)
        obtain ⟨l,hl,hv'⟩:=h2.1 (sQ hgf hon)
        rw [hev,hv']
        exact ⟨_,rfl,fun _=>⟨l,hl,rfl⟩,fun h=>absurd hon h⟩
      ·rename_i a n o hv
       cases hgf:(kP hv g && Nat.blt 0 n) with
       | false=>rw [hgf] at h; simp at h
       | true =>
        rw [hgf] at h
        simp only [zxz] at hgf
        refine aAs c hgk h hw ?_ (fun hon=>?_) (fun hoff=>⟨fun h=>absurd h hoff,fun _=>rfl⟩)
        ·simp only [SV.below,zxz] at hbel ⊢
         exact ⟨hbel.1,hgk.1⟩
        ·obtain ⟨cs,h3,h4,h5⟩:=h2.1 (sQ hgf.1 hon)
         rw [hev,h3]
         exact ⟨_,rfl,fun _=>⟨cs,by simp,h4,h5⟩,fun h=>absurd hon h⟩
      ·simp at h
    ·simp at h
   ·simp at h
  ·simp at h
 ·simp at h
include hT in
theorem aUn (c:aQ N gk gb S ρ env m) {g:Gd} (hgk:rF S ρ g) {t:TypeId} {x i:Operand} {k:SV→SS→OL} {L:L} (h:gL tt g (.indexAddr t x i) S k=some L) (hw:L.wp p Q S.nv ρ ks) :
  Fin p Q ks N ρ S env k (QO P tt p ρ g env m (.indexAddr t x i)):=by
 simp only [gL] at h
 split at h
 ·rename_i b o hv hx
  obtain ⟨v1,h1,h1',h1b⟩:=c.gG hx
  split at h
  ·rename_i ti j hti hj
   obtain ⟨tok,htt⟩:=hT t ti hti
   obtain ⟨v2,h2,h2',_⟩:=c.iN hj
   have hd:=tok.d
   rw [htt] at hd
   split at h
   ·rename_i n e e1
    rw [e1] at hd
    split at h
    ·rename_i ei hei
     obtain ⟨etok,het⟩:=hT e ei hei
     have hz:=etok.sz
     rw [het] at hz
     cases hp:(kP hv g && Nat.blt 1 n && Nat.beq ei.sz 1) with
     | false=>rw [hp] at h; simp at h
     | true =>
      rw [hp] at h
      simp only [cond_true] at h
      simp only [zxz] at hp
      have hn1:=iP hp.1.2
      have hs1:=zzx hp.2
      have hev:bK P (CE tt p) env m.H (.indexAddr t x i)=a4k n ei.sz v1 v2:=by
       simp only [bK,lO,h1,h2]
       exact aRc hd hz v1 v2
      obtain ⟨y,L',kn,bl,e2,e3,e4,e5⟩:=kE c h hw
      have hbel:SV.below (S.nv+1) (.pix b o n (.v S.nv) g)=true:=by
       simp only [SV.below,zxz]
       exact ⟨nY _,Gd.cD hgk.1 (Nat.le_succ _)⟩
      have hgi:gM (ext ρ S.nv y) g↔gM ρ g:=rE (cI _ _ _) hgk.1
      rcases uL e2 with ⟨hon,e6⟩ | ⟨hoff,rfl,e6⟩
      ·simp only [E.ev,← h2' hon] at e6
       obtain ⟨l,hl,hv1⟩:=h1'.1 (sQ hp.1.1 hon)
       unfold b4s at e6
       split at e6
       ·rename_i q z hq
        split at e6
        ·rename_i hzn
         simp only [zzz] at e6
         have hv2:=lD hq
         refine ⟨.ptr l (o+z.toNat),m,_,_,_,L',gk,gb,⟨rfl,?_⟩,e3,e4,e5,⟨fun _=>⟨l,q,z.toNat,hl,?_,by omega,rfl⟩,fun h=>absurd (hgi.2 hon) h⟩,hbel,cI _ _ _,Nat.le_succ _,rfl⟩
         ·rw [pP hon,hev,hv1,hv2]
          simp only [a4k,hs1,Nat.mul_one]
          rw [if_pos ⟨hzn.1,hzn.2,hn1⟩]
         ·show ext ρ S.nv y S.nv=_
          rw [jR,← e6]
          congr 1; omega
        ·simp at e6
       ·simp at e6
      ·exact ⟨.undef,m,_,_,_,L',gk,gb,⟨rfl,e6 _⟩,e3,e4,e5,⟨fun h=>absurd (hgi.1 h) hoff,fun _=>rfl⟩,hbel,cI _ _ _,Nat.le_succ _,rfl⟩
    ·simp at h
   ·simp at h
  ·simp at h
 ·split at h
  ·rename_i ti a j hti ha hj
   obtain ⟨tok,htt⟩:=hT t ti hti
   obtain ⟨v1,h1,h1',_⟩:=c.iN ha
   obtain ⟨v2,h2,h2',_⟩:=c.iN hj
   have hd:=tok.d
   rw [htt] at hd
   split at h
   ·rename_i e e1
    rw [e1] at hd
    split at h
    ·rename_i ei hei
     obtain ⟨etok,het⟩:=hT e ei hei
     have hz:=etok.sz
     rw [het] at hz
     cases hp:(Nat.blt 0 ei.sz && (ei.agg || Nat.beq ei.sz 1)) with
     | false=>rw [hp] at h; simp at h
     | true =>
      rw [hp] at h
      simp only [cond_true] at h
      simp only [zxz,Bool.or_eq_true] at hp
      have hpos:=iP hp.1
      obtain ⟨q,hq⟩:∃ q,ei.sz=q+1:=⟨ei.sz - 1,by omega⟩
      have hev:bK P (CE tt p) env m.H (.indexAddr t x i)=a0l ei.sz v1 v2:=by
       simp only [bK,lO,h1,h2,hq]
       exact aRb hd (by rw [hz,hq]) v1 v2
      obtain ⟨y,L',kn,bl,e2,e3,e4,e5⟩:=kE c h hw
      have hbel:SV.below (S.nv+1) (.elem (.v S.nv) (bif ei.agg then ei.sz else 0) 0 g)=true:=by
       simp only [SV.below,zxz]
       exact ⟨nY _,Gd.cD hgk.1 (Nat.le_succ _)⟩
      have hgi:gM (ext ρ S.nv y) g↔gM ρ g:=rE (cI _ _ _) hgk.1
      rcases uL e2 with ⟨hon,e6⟩ | ⟨hoff,rfl,e6⟩
      ·simp only [E.ev,← h1' hon,← h2' hon] at e6
       obtain ⟨cs,e7,e8,e9⟩:=bBh e6 hpos (fun hg=>by
        rcases hp.2 with h | h
        ·rw [hg] at h; simp at h
        ·exact zzx h)
       refine ⟨.ro cs,m,_,_,_,L',gk,gb,⟨rfl,?_⟩,e3,e4,e5,⟨fun _=>⟨cs,rfl,?_,?_⟩,fun h=>absurd (hgi.2 hon) h⟩,hbel,cI _ _ _,Nat.le_succ _,rfl⟩
       ·rw [pP hon,hev]; exact e7
       ·show _=(ext ρ S.nv y S.nv).cells; rw [jR]; exact e8
       ·show lW _ (ext ρ S.nv y S.nv); rw [jR]
        cases hg:ei.agg <;> rw [hg] at e9 <;> exact e9
      ·exact ⟨.undef,m,_,_,_,L',gk,gb,⟨rfl,e6 _⟩,e3,e4,e5,⟨fun h=>absurd (hgi.1 h) hoff,fun _=>rfl⟩,hbel,cI _ _ _,Nat.le_succ _,rfl⟩
    ·simp at h
   ·simp at h
  ·simp at h
include hT in
theorem b9e (c:aQ N gk gb S ρ env m) {g:Gd} {t:TypeId} {x i:Operand} {k:SV→SS→OL} {L:L} (h:gL tt g (.index t x i) S k=some L) (hw:L.wp p Q S.nv ρ ks) :
  Fin p Q ks N ρ S env k (QO P tt p ρ g env m (.index t x i)):=by
 simp only [gL] at h
 split at h
 ·rename_i ti a j hti ha hj
  obtain ⟨tok,htt⟩:=hT t ti hti
  obtain ⟨v1,h1,h1',_⟩:=c.iN ha
  obtain ⟨v2,h2,h2',_⟩:=c.iN hj
  have hd:=tok.d
  rw [htt] at hd
  have hev:bK P (CE tt p) env m.H (.index t x i)=pW P t v1 v2:=by simp only [bK,lO,h1,h2]
  split at h
  ·rename_i e1
   rw [e1] at hd
   refine n7 c h hw fun hon w hw'=>?_
   simp only [E.ev,← h1' hon,← h2' hon] at hw'
   rw [hev,b4g hd]; exact bBf hw'
  ·rename_i n e e1
   rw [e1] at hd
   split at h
   ·rename_i ei hei
    obtain ⟨etok,het⟩:=hT e ei hei
    have hz:=etok.sz; have hag:=etok.agg
    rw [het] at hz hag
    refine n7 c h hw fun hon w hw'=>?_
    simp only [E.ev,← h1' hon,← h2' hon] at hw'
    rw [hev,b4h hd hag hz]; exact bBg hw'
   ·simp at h
  ·simp at h
 ·simp at h
theorem b1q (c:aQ N gk gb S ρ env m) {g:Gd} (hgk:rF S ρ g) {x:Operand} {i:Nat} {k:SV→SS→OL} {L:L} (h:gL tt g (.extract x i) S k=some L) (hw:L.wp p Q S.nv ρ ks) :
  Fin p Q ks N ρ S env k (QO P tt p ρ g env m (.extract x i)):=by
 simp only [gL] at h
 split at h
 ·rename_i a ha
  obtain ⟨v1,h1,h1',_⟩:=c.iN ha
  refine iD c h hgk hw fun hon w hw'=>?_
  simp only [E.ev,← h1' hon] at hw'
  simp only [bK,fA,h1]
  exact bD7 hw'
 ·simp at h
theorem aRy (c : aQ N gk gb S ρ env m) : ∀ {xs : List Operand} {l : List (Nat × Nat)},a63 S xs = some l → xs = l.map (fun q=>Operand.tmp q.1) ∧ ∃ cs,Fbs.gJ env xs = some cs ∧ cs.length = l.length ∧ ∀ (i : Nat) q v,l[i]? = some q → cs[i]? = some v → ∃ l',gb[q.2]? = some l' ∧ v = .ptr l' 0
 | [],l,h=>by
  simp only [a63,zzz] at h
  subst h
  exact ⟨rfl,[],rfl,rfl,fun i q v hq _=>by simp at hq⟩
 | .tmp t::r,l,h=>by
  simp only [a63] at h
  split at h
  ·rename_i b l' h1 h2
   simp only [zzz] at h
   subst h
   obtain ⟨e0,cs,e1,e2,e3⟩:=aRy c h2
   obtain ⟨g1,g2,_⟩:=c.cH t _ h1
   obtain ⟨a,g3,g4⟩:=g2.1 trivial
   have hev:Fbs.ev env (.tmp t)=some (.ptr a 0):=by
    simp only [Fbs.ev,Env.get]
    rw [if_pos (by rw [c.n]; exact g1),g4]
   refine ⟨by simp [← e0],.ptr a 0::cs,by simp only [Fbs.gJ,hev,e1],by simp [e2],fun i q v hq hv=>?_⟩
   cases i with
   | zero =>
    simp only [List.getElem?_cons_zero,zzz] at hq hv
    subst hq hv
    exact ⟨a,g3,rfl⟩
   | succ i=>exact e3 i q v (by simpa using hq) (by simpa using hv)
  ·simp at h
 | .const _::_,_,h=>by simp [a63] at h
 | .func _::_,_,h=>by simp [a63] at h
 | .global _::_,_,h=>by simp [a63] at h
theorem aYu (c:aQ N gk gb S ρ env m) {g:Gd} {fn:Fn} {first caps:Array Operand} {k:SV→SS→OL} {L:L} (h:gL tt g (.makeFunc fn first caps) S k=some L) (hw:L.wp p Q S.nv ρ ks) :
  Fin p Q ks N ρ S env k (QO P tt p ρ g env m (.makeFunc fn first caps)):=by
 cases fn with
 | func f =>
  simp only [gL] at h
  split at h
  ·rename_i t b l hcap
   cases hf:(first.isEmpty && isE tt f) with
   | false=>rw [hf] at h; simp at h
   | true =>
    rw [hf] at h
    simp only [cond_true] at h
    simp only [zxz] at hf
    obtain ⟨_,cs,e1,e2,e3⟩:=aRy c hcap
    have hfirst:first = #[]:=by simpa using hf.1
    refine nN (v:=.func f cs) c h hw ⟨rfl,?_⟩ ⟨cs,rfl,e2,e3⟩ rfl
    show bK P (CE tt p) env m.H (.makeFunc (.func f) first caps)=_
    simp only [bK,e1,hfirst,if_true]
  split at h
  ·rename_i as has
   obtain ⟨vs,h1,h2,_⟩:=c.mL has
   cases hf:first.isEmpty with
   | false=>rw [hf] at h; simp at h
   | true =>
    rw [hf] at h
    refine n7 c h hw fun hon w hw'=>⟨.func f vs,?_,?_⟩
    ·have:first = #[]:=by simpa using hf
     simp only [bK,h1,this,if_true]
    ·simp only [E.ev,zzz] at hw'
     rw [← hw',← h2 hon]; simp [V.aJ,cF]
  ·simp at h
 | _=>simp [gL] at h
end
end Go.Fbs

/- Structs,slices written out,calls. -/
namespace Go.Fbs
section
variable {P:Program} {tt:TT} (hT:∀ t ti,dS tt t=some ti→aU P ti∧ti.t=t)
variable {p:PT} {Q:V→Prop} {ks:List (List V→Prop)} {N:Nat} {gk:Nat→Option Nat} {gb:List Nat} {S:SS} {ρ:Nat→V} {env:Env} {m:Hp}
theorem aD0 {α:Type} {cs new:List α} {off:Nat} (h:off+new.length≤cs.length):(gO cs off new).length=cs.length:=by
 simp [gO]; omega
theorem aD1 {α β:Type} (f:α→β) (cs new:List α) (off:Nat):(gO cs off new).map f=gO (cs.map f) off (new.map f):=by
 simp [gO,List.map_take,List.map_drop]
theorem aOn {cs new:List A} {off nv:Nat} (h1:cs.all (A.below nv)=true) (h2:new.all (A.below nv)=true):(gO cs off new).all (A.below nv)=true:=by
 rw [List.all_eq_true] at *
 intro a ha
 simp only [gO,List.mem_append] at ha
 rcases ha with (ha | ha) | ha
 ·exact h1 a (List.mem_of_mem_take ha)
 ·exact h2 a ha
 ·exact h1 a (List.mem_of_mem_drop ha)
theorem sR {l:List A} {n n':Nat} (h:l.all (A.below n)=true) (hn:n≤n'):l.all (A.below n')=true:=by
 rw [List.all_eq_true] at *
 exact fun a ha=>A.cD (h a ha) hn
theorem qT {ρ':Nat→V} {n:Nat} (h:b7 ρ ρ' n):∀ {l:List A},l.all (A.below n)=true→l.map (A.den ρ')=l.map (A.den ρ)
 | [],_=>rfl
 | a::l,hl=>by
  simp only [List.all_cons,zxz] at hl
  simp only [List.map_cons]
  rw [gS h hl.1,qT h hl.2]
theorem aD2 {g:Gd} {place:Nat→Option (Nat×TypeId)} {place':Nat→Option (Nat×Nat)} (hpl:∀ i off t ti,place i=some (off,t)→dS tt t=some ti→place' i=some (off,ti.sz)) :
  ∀ {parts:List (Nat×Operand)} {S:SS} {ρ:Nat→V} {cs:List A} {k:List A→SS→OL} {L:L} (c:aQ N gk gb S ρ env m) (hgk:rF S ρ g) (hcs:cs.all (A.below S.nv)=true) {zs:List V} (hz:gM ρ g→zs.map V.aJ=cs.map (A.den ρ))
   (h:a3d tt g place parts cs S k=some L) (hw:L.wp p Q S.nv ρ ks),
   ∃ cs' nv kn bl ρ' L',k cs' (S.k9 nv kn bl)=some L'∧L'.wp p Q nv ρ' ks∧aQ N gk gb (S.k9 nv kn bl) ρ' env m∧S.nv≤nv∧b7 ρ ρ' S.nv ∧
    (gM ρ g→∃ ps zs',nL env parts=some ps∧pR ps=true∧kB place' zs ps=some zs'∧zs'.map V.aJ=cs'.map (A.den ρ'))
 | [],S,ρ,cs,k,L,c,hgk,hcs,zs,hz,h,hw=>⟨cs,S.nv,S.known,(S.cW,S.a0r),ρ,L,h,hw,c,zxy _,b7.refl _ _,fun hon=>⟨[],zs,rfl,rfl,rfl,hz hon⟩⟩
 | (i,x)::r,S,ρ,cs,k,L,c,hgk,hcs,zs,hz,h,hw=>by
  simp only [a3d] at h
  split at h
  ·rename_i off t a hp ha
   split at h
   ·rename_i ti hti
    obtain ⟨v,h1,h1',hab⟩:=c.iN ha
    have hpl':=hpl i off t ti hp hti
    cases hle:Nat.ble (off+ti.sz) cs.length with
    | false=>rw [hle] at h; simp at h
    | true =>
     rw [hle] at h
     simp only [cond_true] at h
     have hle':=zxx hle
     have go:∀ {new:List A} {nv1:Nat} {kn1:List (Nat×Nat)} {bl1:List Nat×List Nat} {ρ1:Nat→V} {L1:Go.Fbs.L},a3d tt g place r (gO cs off new) (S.k9 nv1 kn1 bl1) k=some L1→L1.wp p Q nv1 ρ1 ks→aQ N gk gb (S.k9 nv1 kn1 bl1) ρ1 env m→S.nv≤nv1→b7 ρ ρ1 S.nv →
       new.all (A.below nv1)=true→(gM ρ g→v.cells.map V.aJ=new.map (A.den ρ1)∧v.cells.length=ti.sz∧v.fZ=true) →
       ∃ cs' nv kn bl ρ' L',k cs' (S.k9 nv kn bl)=some L'∧L'.wp p Q nv ρ' ks∧aQ N gk gb (S.k9 nv kn bl) ρ' env m∧S.nv≤nv∧b7 ρ ρ' S.nv ∧
        (gM ρ g→∃ ps zs',nL env ((i,x)::r)=some ps∧pR ps=true∧kB place' zs ps=some zs'∧zs'.map V.aJ=cs'.map (A.den ρ')):=by
      intro new nv1 kn1 bl1 ρ1 L1 k1 k2 k3 k6 k7 hnew hval
      have hon1:gM ρ1 g↔gM ρ g:=rE k7 hgk.1
      obtain ⟨cs',nv,kn,bl,ρ',L',q1,q2,q3,q4,q5,q6⟩:=aD2 hpl k3 (hgk.more k6 k7) (cs:=gO cs off new) (zs:=gO zs off v.cells)
       (aOn (sR hcs k6) hnew) (fun ho=>by
        have ho:=hon1.1 ho
        rw [aD1,aD1,hz ho,(hval ho).1,qT k7 hcs]) k1 k2
      refine ⟨cs',nv,kn,bl,ρ',L',q1,q2,q3,Nat.le_trans k6 q4,k7.trans q5 k6,fun hon=>?_⟩
      obtain ⟨ps,zs',p1,p2,p3,p4⟩:=q6 (hon1.2 hon)
      obtain ⟨v1,v2,v3⟩:=hval hon
      have hzl:zs.length=cs.length:=by have:=congrArg List.length (hz hon); simpa using this
      refine ⟨(i,v)::ps,zs',by simp only [nL,h1,p1],by simp only [pR,List.all_cons,v3,Bool.true_and]; exact p2,?_,p4⟩
      simp only [kB,hpl']
      have:(v.cells.length≠ti.sz || off+v.cells.length > zs.length)=false:=by simp [v2]; omega
      rw [if_neg (by rw [this]; simp)]; exact p3
     cases hag:ti.agg with
     | true =>
      rw [hag] at h
      simp only [cond_true] at h
      obtain ⟨j,nv1,kn1,bl1,ρ1,L1,k1,k2,k3,k4,k5,k6,k7,k8⟩:=aNo c h hw
      have hcl:(cellsOf j ti.sz 0).length=ti.sz:=a7u _ _ _
      refine go k1 k2 k3 k6 k7 (aB5 k5 0) fun hon=>?_
      obtain ⟨e1,e2⟩:=k8 hon
      obtain ⟨ds,d1,d2,d3⟩:=tT k4 e2
      have hvc:v.cells.map V.aJ=(cellsOf j ti.sz 0).map (A.den ρ1):=by
       rw [a7v ρ1 (cs:=ds) (by rw [d1]; rfl) d2,← a3c,h1' hon,← e1,d1]; rfl
      exact ⟨hvc,by have:=congrArg List.length hvc; simpa [hcl] using this,by rw [← aMc,h1' hon,← e1,d1]; rfl⟩
     | false =>
      rw [hag] at h
      simp only [cond_false] at h
      cases hz1:Nat.beq ti.sz 1 with
      | false=>rw [hz1] at h; simp at h
      | true =>
       rw [hz1] at h
       simp only [cond_true] at h
       obtain ⟨a',nv1,kn1,bl1,ρ1,L1,k1,k2,k3,k5,k6,k7,k8⟩:=aDy c hab h hw
       refine go k1 k2 k3 k6 k7 (by simp [k5]) fun hon=>?_
       obtain ⟨e1,e2⟩:=k8 hon
       have hsv:sc v=true:=by rw [← aRk,h1' hon]; exact e2
       rw [a5r hsv]
       exact ⟨by simp [h1' hon,e1],by rw [zzx hz1]; rfl,aRj hsv⟩
   ·simp at h
  ·simp at h
include hT in
theorem aYv {fs : List Field} {fs' : List (Nat × TypeId)} (hf : fs.map (fun f=>(f.offset,f.type)) = fs') (hall : ∀ q ∈ fs',∃ ti,dS tt q.2 = some ti) : ∃ ps,a1g P fs = some ps ∧ ∀ (i off : Nat) t ti,fs'[i]? = some (off,t) → dS tt t = some ti → ps[i]? = some (off,ti.sz):=by
 induction fs generalizing fs' with
 | nil=>subst hf; exact ⟨[],rfl,fun i off t ti h=>by simp at h⟩
 | cons f fs ih =>
  subst hf
  obtain ⟨ps,h1,h2⟩:=ih rfl (fun q hq=>hall q (by simp only [List.map_cons]; exact List.mem_cons_of_mem _ hq))
  obtain ⟨ti,hti⟩:=hall (f.offset,f.type) (by simp)
  obtain ⟨tok,htt⟩:=hT f.type ti hti
  have hsz:=tok.sz
  rw [htt] at hsz
  refine ⟨(f.offset,ti.sz)::ps,by simp only [a1g,hsz,h1],fun i off t ti' h3 h4=>?_⟩
  cases i with
  | zero =>
   simp only [List.map_cons,List.getElem?_cons_zero,zzz,zvy] at h3
   obtain ⟨rfl,rfl⟩:=h3
   rw [hti] at h4
   simp only [zzz] at h4
   subst h4; rfl
  | succ i =>
   simp only [List.map_cons,zvx] at h3
   exact h2 i off t ti' h3 h4
theorem aNp (z:List V):(z.map fun v=>A.k v.aJ).map (A.den ρ)=z.map V.aJ:=by simp [List.map_map,Function.comp_def,A.den]
theorem aHc (z:List V) (n:Nat):(z.map fun v=>A.k v.aJ).all (A.below n)=true:=by simp [List.all_map,Function.comp_def,A.below]
theorem a69 {l:List V} {w:V} (h:aI l=some w):w = .agg l∧l.all sc=true:=by
 unfold aI at h
 split at h
 ·rename_i hs
  simp only [zzz] at h
  exact ⟨h.symm,hs⟩
 ·simp at h
theorem aKu {place : Nat → Option (Nat × Nat)} {j : Nat} : ∀ {ps : List (Nat × V)} {zs zs' : List V},kB place zs ps = some zs' → (∀ q ∈ ps,∀ off sz,place q.1 = some (off,sz) → j < off ∨ off + sz ≤ j) → zs'[j]? = zs[j]?
 | [],zs,zs',h,_=>by simp only [kB,zzz] at h; rw [h]
 | (i,v)::r,zs,zs',h,hk=>by
  simp only [kB] at h
  split at h
  ·simp at h
  ·rename_i off size hp
   split at h
   ·simp at h
   ·rename_i hc
    have hc:v.cells.length=size∧¬ off+v.cells.length > zs.length:=by simpa using hc
    rw [aKu h fun q hq=>hk q (by simp [hq])]
    rcases hk (i,v) (by simp) off size hp with h1 | h1
    ·rw [List.append_assoc,List.getElem?_append_left (by simp; omega),List.getElem?_take,if_pos h1]
    ·rw [List.getElem?_append_right (by simp; omega),List.getElem?_drop]
     congr 1; simp; omega
theorem aHd {env:Env} : ∀ {parts:List (Nat×Operand)} {ps:List (Nat×V)},nL env parts=some ps→∀ q ∈ ps,∃ x,(q.1,x) ∈ parts
 | [],ps,h,q,hq=>by simp only [nL,zzz] at h; subst h; simp at hq
 | (i,x)::r,ps,h,q,hq=>by
  simp only [nL] at h
  split at h
  ·rename_i v vs h1 h2
   simp only [zzz] at h
   subst h
   rcases List.mem_cons.1 hq with rfl | hq
   ·exact ⟨x,by simp⟩
   ·obtain ⟨y,hy⟩:=aHd h2 q hq
    exact ⟨y,by simp [hy]⟩
  ·simp at h
include hT in
theorem b9f (c:aQ N gk gb S ρ env m) {g:Gd} (hgk:rF S ρ g) {t:TypeId} {parts:Array (Nat×Operand)} {k:SV→SS→OL} {L:L} (h:gL tt g (.build t parts) S k=some L) (hw:L.wp p Q S.nv ρ ks) :
  Fin p Q ks N ρ S env k (QO P tt p ρ g env m (.build t parts)):=by
 simp only [gL] at h
 split at h
 ·rename_i ti hti
  obtain ⟨tok,htt⟩:=hT t ti hti
  have hd:=tok.d
  rw [htt] at hd
  have fin:∀ {pl:Nat→Option (Nat×TypeId)} {pl':Nat→Option (Nat×Nat)} {z:List V} {L:Go.Fbs.L},ti.z=some z→(∀ i off t ti,pl i=some (off,t)→dS tt t=some ti→pl' i=some (off,ti.sz)) →
    (∀ ps,pR ps=true→a8h P t ps=(kB pl' z ps).map V.agg)→L.wp p Q S.nv ρ ks→a3d tt g pl parts.toList (z.map fun v=>.k v.aJ) S (fun cs S'=>j3 g cs (.agg cs) S' k)=some L→Fin p Q ks N ρ S env k (QO P tt p ρ g env m (.build t parts)):=by
   intro pl pl' z L hz hpl hb hw h
   obtain ⟨cs',nv,kn,bl,ρ',L',q1,q2,q3,q4,q5,q6⟩:=aD2 hpl c hgk (aHc z _) (zs:=z) (fun _=>(aNp z).symm) h hw
   have hon1:gM ρ' g↔gM ρ g:=rE q5 hgk.1
   have hgo:∀ o:Option V,iZ ρ' g o=iZ ρ g o:=fun o=>by
    cases g with
    | none=>rfl
    | some q =>
     obtain ⟨a,b⟩:=q
     simp only [iZ]
     rw [gS q5 (show a.below S.nv=true from hgk.1)]
   refine Fin.step (Fin.mono (iD q3 (o:=bK P (CE tt p) env m.H (.build t parts)) q1 (hgk.more q4 q5) q2 fun hon w hw'=>?_) fun v m' ⟨e1,e2⟩=>⟨e1,by rw [← hgo]; exact e2⟩) q5 q4 rfl
   obtain ⟨ps,zs',p1,p2,p3,p4⟩:=q6 (hon1.1 hon)
   simp only [E.ev] at hw'
   obtain ⟨rfl,_⟩:=a69 hw'
   refine ⟨.agg zs',?_,?_⟩
   ·simp only [bK,p1]
    rw [hb ps p2,p3]; rfl
   ·simp only [V.aJ,cF,p4]
  split at h
  ·rename_i fs z hdd hz
   rw [hdd] at hd
   obtain ⟨a,hu,hfs,_⟩:=hd
   obtain ⟨zv,hz1,hz2,_⟩:=tok.z z hz
   rw [htt] at hz1
   cases hall:fs.all (fun q=>(dS tt q.2).isSome) with
   | false=>rw [hall] at h; simp at h
   | true =>
    rw [hall] at h
    simp only [cond_true] at h
    obtain ⟨ps,hp1,hp2⟩:=aYv hT (fs:=a.toList) hfs (fun q hq=>Option.isSome_iff_exists.1 (List.all_eq_true.1 hall q hq))
    have hb:∀ ps',pR ps'=true→a8h P t ps'=(kB (fun i=>ps[i]?) z ps').map V.agg:=fun ps' hok=>by
     unfold a8h y0
     rw [if_pos hok]
     simp only [hu,hz1,hp1,hz2]
    cases g with
    | some q=>exact fin (pl':=fun i=>ps[i]?) hz hp2 hb hw h
    | none =>
     obtain ⟨cs',nv,kn,bl,ρ',L',q1,q2,q3,q4,q5,q6⟩:=aD2 (place':=fun i=>ps[i]?) hp2 c hgk (aHc z _) (zs:=z) (fun _=>(aNp z).symm) h hw
     obtain ⟨y,L2,kn2,bl2,r1,r2,r3,r4⟩:=kE q3 q1 q2
     obtain ⟨pv,zs',p1,p2,p3,p4⟩:=q6 trivial
     have r1:aI (cs'.map (A.den ρ'))=some y:=r1
     obtain ⟨rfl,_⟩:=a69 r1
     have hev:bK P (CE tt p) env m.H (.build t parts)=some (.agg zs'):=by
      simp only [bK,p1]
      rw [hb pv p2,p3]; rfl
     have her:(V.agg zs').aJ = .agg (cs'.map (A.den ρ')):=by simp only [V.aJ,cF,p4]
     have hrel:dV (ext ρ' nv (.agg (cs'.map (A.den ρ')))) gk gb m.T (aKn (.v nv) (aYh tt fs parts.toList z)) (.agg zs'):=by
      have h0:(V.agg zs').aJ=A.den (ext ρ' nv (.agg (cs'.map (A.den ρ')))) (.v nv):=by
       show _=ext ρ' nv _ nv
       rw [jR]; exact her
      unfold aKn
      split
      ·exact h0
      ·refine ⟨h0,zs',rfl,fun j hj=>?_⟩
       unfold aYh at hj
       rw [List.mem_filter] at hj
       obtain ⟨_,hj⟩:=hj
       simp only [zxz] at hj
       obtain ⟨hj1,hj2⟩:=hj
       rw [aKu (j:=j) p3 fun q hq off sz hpl=>?_]
       ·split at hj1
        ·rename_i hzj; exact hzj
        ·simp at hj1
       ·obtain ⟨x,hx⟩:=aHd p1 q hq
        have h5:=List.all_eq_true.1 hj2 _ hx
        simp only at h5
        split at h5
        ·rename_i off' t' hfq
         split at h5
         ·rename_i ti' hti'
          have h6:=hp2 q.1 off' t' ti' hfq hti'
          have hpl : ps[q.1]? = some (off,sz):=hpl
          rw [hpl] at h6
          simp only [zzz,zvy] at h6
          obtain ⟨rfl,rfl⟩:=h6
          simp only [Bool.or_eq_true] at h5
          rcases h5 with h5 | h5
          ·exact .inl (iP h5)
          ·exact .inr (zxx h5)
         ·simp at h5
        ·simp at h5
     refine Fin.step ⟨.agg zs',m,aKn (.v nv) (aYh tt fs parts.toList z),_,ext ρ' nv (.agg (cs'.map (A.den ρ'))),L2,gk,gb,⟨rfl,hev⟩,r2,r3,r4,hrel,?_,cI _ _ _,Nat.le_succ _,rfl⟩ q5 q4 rfl
     unfold aKn
     split <;> exact nY _
  ·rename_i n e z hdd hz
   rw [hdd] at hd
   obtain ⟨zv,hz1,hz2,_⟩:=tok.z z hz
   rw [htt] at hz1
   split at h
   ·rename_i ei hei
    obtain ⟨etok,het⟩:=hT e ei hei
    have hsz:=etok.sz
    rw [het] at hsz
    refine fin (pl':=fun i=>some (i*ei.sz,ei.sz)) hz (fun i off t ti h1 h2=>?_) (fun ps' hok=>?_) hw h
    ·simp only [zzz,zvy] at h1
     obtain ⟨rfl,rfl⟩:=h1
     rw [hei] at h2
     simp only [zzz] at h2
     subst h2; rfl
    ·unfold a8h y0
     rw [if_pos hok]
     have hu:P.underlying t=some (.array n e):=hd
     simp only [hu,hz1,hsz,hz2]
   ·simp at h
  ·simp at h
 ·simp at h
theorem aHe:∀ {parts:List (Nat×Operand)} {n:Nat} {vs:List V},a8v n parts=true→Fbs.gJ env (parts.map (·.2))=some vs→∃ ps,nL env parts=some ps∧tY n ps=some vs∧ps.map (·.2)=vs
 | [],n,vs,_,h=>by simp [Fbs.gJ] at h; subst h; exact ⟨[],rfl,rfl,rfl⟩
 | (i,x)::r,n,vs,ho,h=>by
  simp only [a8v,zxz] at ho
  have hi:=zzx ho.1
  subst hi
  simp only [List.map_cons,Fbs.gJ] at h
  split at h
  ·rename_i v vs' h1 h2
   simp only [zzz] at h
   subst h
   obtain ⟨ps,e1,e2,e3⟩:=aHe ho.2 h2
   exact ⟨(i,v)::ps,by simp only [nL,h1,e1],by simp only [tY,if_true,e2]; rfl,by simp [e3]⟩
  ·simp at h
theorem b1r {n:Nat} {vs:List V} {w:V} (h:hG n (vs.map V.aJ)=some w):w = .sl .ro (vs.map V.aJ)∧vs.length*n≤1000000∧vs.all (fun e=>e.cells.length == n)=true∧vs.all V.fZ=true:=by
 unfold hG at h
 split at h
 ·rename_i hc
  simp only [zzz] at h
  obtain ⟨h1,h2⟩:=hc
  rw [List.length_map] at h1
  rw [List.all_map] at h2
  refine ⟨h.symm,h1,?_,?_⟩
  ·rw [List.all_eq_true] at h2 ⊢
   intro e he
   have:=h2 e he
   simp only [Function.comp_def,qR,zxz] at this
   exact this.1
  ·rw [List.all_eq_true] at h2 ⊢
   intro e he
   have:=h2 e he
   simp only [Function.comp_def,aMc,zxz] at this
   exact this.2
 ·simp at h
theorem aQ.b47 (c:aQ N gk gb S ρ env m):aQ N gk gb { S with nk:=S.nk+1 } ρ env m :=
 ⟨c.n,c.cH,c.boxes,c.lA,c.nM,c.blt,c.kI,fun k i h=>let ⟨h1,h2⟩:=c.sP k i h; ⟨Nat.lt_succ_of_lt h1,h2⟩,c.known,c.cW,c.own⟩
include hT in
theorem aRz (c:aQ N gk gb S ρ env m) {g:Gd} (hgk:rF S ρ g) {t:TypeId} {len:Nat} {parts:Array (Nat×Operand)} {k:SV→SS→OL} {L:L} (h:gL tt g (.buildSlice t len parts) S k=some L) (hw:L.wp p Q S.nv ρ ks) :
  Fin p Q ks N ρ S env k (QO P tt p ρ g env m (.buildSlice t len parts)):=by
 simp only [gL] at h
 split at h
 ·rename_i ti as hti has
  obtain ⟨tok,htt⟩:=hT t ti hti
  have hd:=tok.d
  rw [htt] at hd
  obtain ⟨vs,h1,h2,_,h2l⟩:=c.mL has
  split at h
  ·rename_i e hdd
   rw [hdd] at hd
   have hu:P.underlying t=some (.slice e):=hd
   split at h
   ·rename_i ei hei
    obtain ⟨etok,het⟩:=hT e ei hei
    have hsz:=etok.sz
    rw [het] at hsz
    split at h
    ·rename_i z hz
     obtain ⟨zv,hz1,hz2,_⟩:=etok.z z hz
     rw [het] at hz1
     cases hc:(a8v 0 parts.toList && Nat.beq as.length len && Nat.blt 0 ei.sz && Nat.beq z.length ei.sz) with
     | false=>rw [hc] at h; simp at h
     | true =>
      rw [hc] at h
      simp only [cond_true] at h
      simp only [zxz] at hc
      have hlen:=zzx hc.1.1.2
      have hpos:=iP hc.1.2
      have hzl:=zzx hc.2
      obtain ⟨ps,p1,p2,p3⟩:=aHe hc.1.1.1 h1
      have hvl:vs.length=len:=by omega
      have hev:gM ρ g→∀ w,hG ei.sz (as.map (A.den ρ))=some w→bK P (CE tt p) env m.H (.buildSlice t len parts)=some (.sl .full (vs.map V.er))∧w = .sl .ro (vs.map V.aJ):=by
       intro hon w hw'
       rw [← h2 hon] at hw'
       obtain ⟨e1,e2,e3,e4⟩:=b1r hw'
       refine ⟨?_,e1⟩
       simp only [bK,p1]
       have hok:pR ps=true:=by
        unfold pR
        rw [← p3,List.all_map] at e4
        exact e4
       rw [aRa hu hsz hz1 (by rw [hz2]; exact hzl) hpos len ps]
       unfold a7r
       rw [if_pos hok,p2]
       simp only
       rw [if_pos ⟨hvl,by rw [← hvl]; exact e2,e3⟩]
      obtain ⟨y,L',kn,bl,e2,e3,e4,e5⟩:=kE c h hw
      cases g with
      | none =>
       simp only at e3
       obtain ⟨h6,h7⟩:=hev trivial y e2
       refine ⟨.sl .full (vs.map V.er),m,_,_,_,L',gk,gb,⟨rfl,h6⟩,e3,e4,e5.b47,⟨vs.map V.er,?_,.inl rfl⟩,nY _,cI _ _ _,Nat.le_succ _,rfl⟩
       show ext ρ S.nv y S.nv=_
       rw [jR,h7,List.map_map]
       congr 2
       funext v; exact (b1f v).symm
      | some q =>
       simp only at e3
       rcases uL e2 with ⟨hon,e6⟩ | ⟨hoff,rfl,e6⟩
       ·obtain ⟨h6,h7⟩:=hev hon y e6
        refine ⟨.sl .full (vs.map V.er),m,_,_,_,L',gk,gb,⟨rfl,by rw [pP hon]; exact h6⟩,e3,e4,e5,?_,nY _,cI _ _ _,Nat.le_succ _,rfl⟩
        show V.aJ _=ext ρ S.nv y S.nv
        rw [jR,h7]
        simp only [V.aJ,cF,List.map_map]
        congr 2
        funext v; exact b1f v
       ·exact ⟨.undef,m,_,_,_,L',gk,gb,⟨rfl,e6 _⟩,e3,e4,e5,by show V.aJ _=ext ρ S.nv .undef S.nv; rw [jR]; rfl,nY _,cI _ _ _,Nat.le_succ _,rfl⟩
    ·simp at h
   ·simp at h
  ·simp at h
 ·simp at h
end
end Go.Fbs

/- Calls; what makes boxes,writes,grows. -/
namespace Go.Fbs
def Canon (tt:TT) (p:PT):Prop:=∀ f args v,p f args=some v→v.aJ=v∧∀ g sg,a2j tt f=some (g,sg)→bD2 sg v
theorem dV.up {ρ : Nat → V} {gk gk' : Nat → Option Nat} {gb gb' : List Nat} {T T' : List (Nat × Nat)} (hk : ∀ k i,gk k = some i → gk' k = some i) (hb : ∀ (b l : Nat),gb[b]? = some l → gb'[b]? = some l)
  (hT : ∀ (k i : Nat) x,gk k = some i → T[i]? = some x → T'[i]? = some x) {s : SV} {v : V} (r : dV ρ gk gb T s v) : dV ρ gk' gb' T' s v:=by
 cases s with
 | val a=>exact r
 | lL a g=>exact r
 | grow k sz a =>
  obtain ⟨es,h1,h2⟩:=r
  refine ⟨es,h1,?_⟩
  rcases h2 with h2 | ⟨i,h3,h4,h5⟩
  ·exact .inl h2
  ·exact .inr ⟨i,hk k i h3,h4,hT k i _ h3 h5⟩
 | lT=>exact r
 | elem a n off g=>exact r
 | ptr b off g=>exact ⟨fun h=>let ⟨l,h1,h2⟩:=r.1 h; ⟨l,hb b l h1,h2⟩,r.2⟩
 | pix b off n i g=>exact ⟨fun h=>let ⟨l,q,z,h1,h2⟩:=r.1 h; ⟨l,q,z,hb b l h1,h2⟩,r.2⟩
 | stv a nl=>exact r
 | mR f caps=>exact let ⟨cs,h1,h2,h3⟩:=r; ⟨cs,h1,h2,fun i q c h4 h5=>let ⟨l,h6,h7⟩:=h3 i q c h4 h5; ⟨l,hb _ _ h6,h7⟩⟩
theorem Cells.up {ρ : Nat → V} {gk gk' : Nat → Option Nat} {gb gb' : List Nat} {T T' : List (Nat × Nat)} {nv : Nat} (hk : ∀ k i,gk k = some i → gk' k = some i) (hb : ∀ (b l : Nat),gb[b]? = some l → gb'[b]? = some l)
  (hT : ∀ (k i : Nat) x,gk k = some i → T[i]? = some x → T'[i]? = some x) {cells : List SV} {cs : List V} (r : Cells ρ gk gb T nv cells cs) : Cells ρ gk' gb' T' nv cells cs :=
 ⟨r.1,fun j s c h1 h2=>let ⟨h3,h4⟩:=r.2 j s c h1 h2; ⟨h3.up hk hb hT,h4⟩⟩
section
variable {P:Program} {tt:TT} (hT:∀ t ti,dS tt t=some ti→aU P ti∧ti.t=t)
variable {p:PT} {Q:V→Prop} {ks:List (List V→Prop)} {N:Nat} {gk:Nat→Option Nat} {gb:List Nat} {S:SS} {ρ:Nat→V} {env:Env} {m:Hp}
theorem aQ.a0c (c:aQ N gk gb S ρ env m) {cells:List SV} {cs:List V} (h:Cells ρ gk gb m.T S.nv cells cs) :
  aQ N gk (gb++[m.H.length]) { S with boxes:=S.boxes++[some cells] } ρ env { m with H:=m.H++[.cells cs] } ∧ dV ρ gk (gb++[m.H.length]) m.T (.ptr S.boxes.length 0 none) (.ptr m.H.length 0):=by
 have hb : ∀ (b l : Nat),gb[b]? = some l → (gb ++ [m.H.length])[b]? = some l:=fun b l h=>by
  rw [List.getElem?_append_left (zzy.1 h).1]; exact h
 have hl : ∀ (b l : Nat),gb[b]? = some l → l < m.H.length:=fun b l h=>c.blt l (zyx h)
 refine ⟨⟨c.n,fun t s hs=>?_,fun b cs' hc=>?_,by simp [c.lA],fun b b' l h1 h2=>?_,fun l hl'=>?_,c.kI,c.sP,c.known,c.cW,fun b hb'=>hb b b (c.own b hb')⟩,fun _=>⟨m.H.length,?_,rfl⟩,fun h=>absurd trivial h⟩
 ·obtain ⟨h1,h2,h3⟩:=c.cH t s hs
  exact ⟨h1,h2.up (fun _ _ h=>h) hb (fun _ _ _ _ h=>h),h3⟩
 ·by_cases hlt:b < S.boxes.length
  ·rw [List.getElem?_append_left hlt] at hc
   obtain ⟨l,ds,h1,h2,h3⟩:=c.boxes b cs' hc
   refine ⟨l,ds,hb b l h1,?_,h3.up (fun _ _ h=>h) hb (fun _ _ _ _ h=>h)⟩
   show (m.H ++ _)[l]? = _
   rw [List.getElem?_append_left (hl b l h1)]; exact h2
  ·have:b=S.boxes.length:=by
    have:=(zzy.1 hc).1; simp at this; omega
   subst this
   rw [List.getElem?_append_right (zxy _)] at hc
   simp at hc
   subst hc
   refine ⟨m.H.length,cs,?_,?_,h.up (fun _ _ h=>h) hb (fun _ _ _ _ h=>h)⟩
   ·rw [← c.lA]; simp
   ·simp
 ·by_cases h3:b < gb.length
  ·rw [List.getElem?_append_left h3] at h1
   by_cases h4:b' < gb.length
   ·rw [List.getElem?_append_left h4] at h2
    exact c.nM b b' l h1 h2
   ·rw [List.getElem?_append_right (by omega)] at h2
    have:=hl b l h1
    have:b' - gb.length=0:=by have:=(zzy.1 h2).1; simp at this; omega
    rw [this] at h2; simp at h2; omega
  ·rw [List.getElem?_append_right (by omega)] at h1
   have e1:b - gb.length=0:=by have:=(zzy.1 h1).1; simp at this; omega
   rw [e1] at h1; simp at h1
   by_cases h4:b' < gb.length
   ·rw [List.getElem?_append_left h4] at h2
    have:=hl b' l h2; omega
   ·rw [List.getElem?_append_right (by omega)] at h2
    have e2:b' - gb.length=0:=by have:=(zzy.1 h2).1; simp at this; omega
    omega
 ·simp only [List.mem_append,List.mem_singleton] at hl'
  simp only [zwy,List.length_singleton]
  rcases hl' with h | rfl
  ·have:=c.blt l h; omega
  ·omega
 ·rw [← c.lA]; simp
theorem aQ.bBn (c : aQ N gk gb S ρ env m) {b l : Nat} {cells : List SV} (hl : gb[b]? = some l) {cs : List V} (h : Cells ρ gk gb m.T S.nv cells cs) :
  aQ N gk gb { S with boxes:=S.boxes.set b (some cells) } ρ env { m with H:=m.H.set l (.cells cs) }:=by
 have hlt : l < m.H.length:=c.blt l (zyx hl)
 refine ⟨c.n,c.cH,fun b' cs' hc=>?_,by simp [c.lA],c.nM,fun l' h'=>by simp only [List.length_set]; exact c.blt l' h',c.kI,c.sP,c.known,c.cW,c.own⟩
 by_cases hbb:b=b'
 ·subst hbb
  have hbl:b < S.boxes.length:=by rw [← c.lA]; exact (zzy.1 hl).1
  rw [List.getElem?_set_self hbl] at hc
  simp only [zzz] at hc
  subst hc
  exact ⟨l,cs,hl,by show (m.H.set l _)[l]? = _; rw [List.getElem?_set_self hlt],h⟩
 ·rw [List.getElem?_set_ne hbb] at hc
  obtain ⟨l',ds,h1,h2,h3⟩:=c.boxes b' cs' hc
  refine ⟨l',ds,h1,?_,h3⟩
  have:l≠l':=fun e=>by subst e; exact hbb (c.nM b b' l hl h1)
  show (m.H.set l _)[l']? = _
  rw [List.getElem?_set_ne this]; exact h2
abbrev LO' (P:Program) (tt:TT) (p:PT) (g:Gd) (env:Env) (m:Hp) (op:Op):V→Hp→Prop:=fun v m'=>g=none∧nC (CE tt p) op=false∧evalOp P (CE tt p) env m op=some (v,m')
theorem aR0 {op:Op} {cs:List V} (hq:nC (CE tt p) op=false) (ha:oW op=true) (h:uZ P env op=some cs):evalOp P (CE tt p) env m op=some (.ptr m.H.length 0,{ m with H:=m.H++[.cells cs] }):=by
 unfold evalOp
 rw [if_neg (by rw [hq]; simp),if_pos ha,h]; rfl
theorem a1w {op:Op} {v:V} {m':Hp} (hq:nC (CE tt p) op=false) (ha:oW op=false) (h:evalW P (CE tt p) env m op=some (v,m')):evalOp P (CE tt p) env m op=some (v,m'):=by
 unfold evalOp
 rw [if_neg (by rw [hq]; simp),if_neg (by rw [ha]; simp)]; exact h
include hT in
theorem b9g (c:aQ N gk gb S ρ env m) {g:Gd} {t:TypeId} {k:SV→SS→OL} {L:L} (h:gL tt g (.alloc t) S k=some L) (hw:L.wp p Q S.nv ρ ks):Fin p Q ks N ρ S env k (LO' P tt p g env m (.alloc t)):=by
 simp only [gL] at h
 split at h
 ·rename_i ti hti
  obtain ⟨tok,htt⟩:=hT t ti hti
  split at h
  ·rename_i z hz
   obtain ⟨zv,hz1,hz2,_⟩:=tok.z z hz
   rw [htt] at hz1
   have hcells:Cells ρ gk gb m.T S.nv (z.map a5a) z:=⟨by simp,fun j s v h1 h2=>by
    rw [zvz,h2] at h1
    simp only [Option.map_some,zzz] at h1
    subst h1
    exact ⟨(a4q v).1 _,(a4q (ρ:=ρ) (gk:=gk) (gb:=gb) v).2 _⟩⟩
   obtain ⟨c',r'⟩:=c.a0c hcells
   exact ⟨_,_,_,_,ρ,L,gk,_,⟨rfl,rfl,aR0 rfl rfl (by simp only [uZ,hz1,Option.map_some,hz2])⟩,h,hw,c',r',rfl,b7.refl _ _,zxy _,rfl⟩
  ·simp at h
 ·simp at h
theorem aUo {T:List (Nat×Nat)} {nv:Nat} {as:List A} {cs:List V} (h:cs.map V.aJ=as.map (A.den ρ)) (hb:as.all (A.below nv)=true):Cells ρ gk gb T nv (as.map .val) cs:=by
 refine ⟨by have:=congrArg List.length h; simpa using this.symm,fun j s v h1 h2=>?_⟩
 rw [zvz,zyy] at h1
 obtain ⟨a,h3,rfl⟩:=h1
 have e : (cs.map V.aJ)[j]? = (as.map (A.den ρ))[j]?:=by rw [h]
 rw [zvz,zvz,h2,h3] at e
 simp only [Option.map_some,zzz] at e
 exact ⟨e,List.all_eq_true.1 hb a (zyx h3)⟩
def a82 (ρ:Nat→V) (gk:Nat→Option Nat) (gb:List Nat) (T:List (Nat×Nat)) (nv:Nat) (n:Nat) (v:V) (cells:List SV):Prop:=Cells ρ gk gb T nv cells v.cells∧v.fZ=true∧v.cells.length=n
theorem sU {T:List (Nat×Nat)} {nv:Nat} {s:SV} {v:V} (h:v.cells=[v]) (ho:v.fZ=true) (r:dV ρ gk gb T s v) (hb:s.below nv=true):a82 ρ gk gb T nv 1 v [s]:=by
 refine ⟨⟨by rw [h]; rfl,fun j s' v' h1 h2=>?_⟩,ho,by rw [h]; rfl⟩
 rw [h] at h2
 cases j with
 | zero=>simp at h1 h2; subst h1; subst h2; exact ⟨r,hb⟩
 | succ j=>simp at h1
theorem aD3 (c:aQ N gk gb S ρ env m) {n:Nat} {a:A} {v:V} (hv:v.aJ=a.den ρ) {k:List A→SS→OL} {L:L} (h:a0t none n a S k=some L) (hw:L.wp p Q S.nv ρ ks) :
  ∃ l nv kn bl ρ' L',k l (S.k9 nv kn bl)=some L'∧L'.wp p Q nv ρ' ks∧aQ N gk gb (S.k9 nv kn bl) ρ' env m∧S.nv≤nv∧b7 ρ ρ' S.nv∧a82 ρ' gk gb m.T nv n v (l.map .val):=by
 obtain ⟨j,nv1,kn1,bl1,ρ1,L1,k1,k2,k3,k4,k5,k6,k7,k8⟩:=aNo c h hw
 obtain ⟨e1,e2⟩:=k8 trivial
 obtain ⟨ds,d1,d2,d3⟩:=tT k4 e2
 have hvc:v.cells.map V.aJ=(cellsOf j n 0).map (A.den ρ1):=by
  rw [a7v ρ1 (cs:=ds) (by rw [d1]; rfl) d2,← a3c,hv,← e1,d1]; rfl
 exact ⟨_,nv1,kn1,bl1,ρ1,L1,k1,k2,k3,k6,k7,aUo hvc (aB5 k5 0),by rw [← aMc,hv,← e1,d1]; rfl,by have:=congrArg List.length hvc; simpa [a7u] using this⟩
theorem aKv (c : aQ N gk gb S ρ env m) {n : Nat} {a : A} {v : V} {nl : List Nat} (hv : v.aJ = a.den ρ) (hs : ∃ cs,v = .agg cs ∧ ∀ j ∈ nl,cs[j]? = some (.sl .full [])) {k : List A → SS → OL} {L : L} (h : a0t none n a S k = some L) (hw : L.wp p Q S.nv ρ ks) :
  ∃ l nv kn bl ρ' L',k l (S.k9 nv kn bl)=some L'∧L'.wp p Q nv ρ' ks∧aQ N gk gb (S.k9 nv kn bl) ρ' env m∧S.nv≤nv∧b7 ρ ρ' S.nv∧a82 ρ' gk gb m.T nv n v (l.zipIdx.map fun p=>bif jH nl p.2 then .lT else .val p.1):=by
 obtain ⟨l,nv,kn,bl,ρ',L',q1,q2,q3,q4,q5,⟨q6,q7⟩,q8⟩:=aD3 c hv h hw
 obtain ⟨cs,rfl,hcs⟩:=hs
 refine ⟨l,nv,kn,bl,ρ',L',q1,q2,q3,q4,q5,⟨by simpa using q6,fun j s x h1 h2=>?_⟩,q8⟩
 rw [zvz,zyy] at h1
 obtain ⟨⟨b,j'⟩,h3,rfl⟩:=h1
 rw [List.getElem?_zipIdx,zyy] at h3
 obtain ⟨b',h4,h5⟩:=h3
 simp only [Nat.zero_add,zvy] at h5
 obtain ⟨rfl,rfl⟩:=h5
 have h6:=q7 j (.val b') x (by rw [zvz,h4]; rfl) h2
 simp only
 cases hn:jH nl j with
 | false=>exact h6
 | true =>
  have hm:j ∈ nl:=aRw hn
  have:=hcs j hm
  have h2 : cs[j]? = some x:=h2
  rw [h2] at this
  exact ⟨Option.some.inj this,rfl⟩
theorem aR1 {T:List (Nat×Nat)} {q sz:Nat} {a:A} {v:V} (r:dV ρ gk gb T (.grow q sz a) v):v.cells=[v]∧v.fZ=true:=by
 obtain ⟨es,_,h⟩:=r
 rcases h with rfl | ⟨i,_,rfl,_⟩ <;> exact ⟨rfl,rfl⟩
theorem bD8 (c:aQ N gk gb S ρ env m) {g:Gd} {t:TypeId} {x:Operand} {k:SV→SS→OL} {L:L} (h:gL tt g (.box t x) S k=some L) (hw:L.wp p Q S.nv ρ ks):Fin p Q ks N ρ S env k (LO' P tt p g env m (.box t x)):=by
 simp only [gL] at h
 split at h
 ·rename_i ti s hti hs
  obtain ⟨v,h1,h2,hbel⟩:=c.gG hs
  have fin:∀ {S1:SS} {ρ1:Nat→V} {L1:Go.Fbs.L} {cells:List SV} {n:Nat},k (.ptr S1.boxes.length 0 none) { S1 with boxes:=S1.boxes++[some cells] } = some L1→L1.wp p Q S1.nv ρ1 ks→aQ N gk gb S1 ρ1 env m→a82 ρ1 gk gb m.T S1.nv n v cells →
    S.nv≤S1.nv→b7 ρ ρ1 S.nv→S1.dep=S.dep→Fin p Q ks N ρ S env k (LO' P tt p none env m (.box t x)):=by
   intro S1 ρ1 L1 cells n hk hw c1 hc hn ha hd
   obtain ⟨c',r'⟩:=c1.a0c hc.1
   refine ⟨_,_,_,_,ρ1,L1,gk,_,⟨rfl,rfl,aR0 rfl rfl ?_⟩,hk,hw,c',r',rfl,ha,hn,hd⟩
   simp only [uZ,h1]
   rw [if_pos hc.2.1]
  cases hag:ti.agg with
  | true =>
   rw [hag] at h
   simp only [cond_true] at h
   split at h
   ·rename_i a
    obtain ⟨l,nv,kn,bl,ρ',L',q1,q2,q3,q4,q5,q6⟩:=aD3 c (v:=v) h2 h hw
    exact fin (S1:=S.k9 nv kn bl) q1 q2 q3 q6 q4 q5 rfl
   ·rename_i a nl
    obtain ⟨l,nv,kn,bl,ρ',L',q1,q2,q3,q4,q5,q6⟩:=aKv c (v:=v) h2.1 h2.2 h hw
    exact fin (S1:=S.k9 nv kn bl) q1 q2 q3 q6 q4 q5 rfl
   ·simp at h
  | false =>
   rw [hag] at h
   simp only [cond_false] at h
   split at h
   ·rename_i a
    obtain ⟨a',nv,kn,bl,ρ',L',q1,q2,q3,q4,q5,q6,q7⟩:=aDy c hbel h hw
    obtain ⟨e1,e2⟩:=q7 trivial
    have h2':v.aJ=a.den ρ:=h2
    have hsv:sc v=true:=by rw [← aRk,h2']; exact e2
    exact fin (S1:=S.k9 nv kn bl) q1 q2 q3 (sU (a5r hsv) (aRj hsv) (show v.aJ=a'.den ρ' by rw [e1]; exact h2') q4) q5 q6 rfl
   ·have:=aR1 h2
    exact fin h hw c (sU this.1 this.2 h2 hbel) (zxy _) (b7.refl _ _) rfl
   ·have h2':v = .sl .full []:=h2
    subst h2'
    exact fin h hw c (sU rfl rfl h2 hbel) (zxy _) (b7.refl _ _) rfl
   ·simp at h
 ·simp at h
theorem aD4 {α : Type} {cs new : List α} {off j : Nat} (h : off + new.length ≤ cs.length) : (gO cs off new)[j]? = if off ≤ j ∧ j < off + new.length then new[j - off]? else cs[j]?:=by
 unfold gO
 by_cases h1:j < off
 ·rw [if_neg (by omega),List.append_assoc,List.getElem?_append_left (by simp; omega),List.getElem?_take,if_pos h1]
 ·by_cases h2:j < off+new.length
  ·rw [if_pos ⟨by omega,h2⟩,List.append_assoc,List.getElem?_append_right (by simp; omega),List.getElem?_append_left (by simp; omega)]
   congr 1; simp; omega
  ·rw [if_neg (by omega),List.getElem?_append_right (by simp; omega),List.getElem?_drop]
   congr 1; simp; omega
theorem Cells.put {T:List (Nat×Nat)} {nv:Nat} {cells new:List SV} {cs ns:List V} {off:Nat} (h:Cells ρ gk gb T nv cells cs) (h':Cells ρ gk gb T nv new ns) (hl:off+new.length≤cells.length) :
  Cells ρ gk gb T nv (gO cells off new) (gO cs off ns):=by
 have e1:=h.1; have e2:=h'.1
 refine ⟨by rw [aD0 hl,aD0 (by omega)]; exact h.1,fun j s v h1 h2=>?_⟩
 rw [aD4 hl] at h1
 rw [aD4 (by omega)] at h2
 by_cases hj:off≤j∧j < off+new.length
 ·rw [if_pos hj] at h1
  rw [if_pos (by omega)] at h2
  exact h'.2 _ s v h1 h2
 ·rw [if_neg hj] at h1
  rw [if_neg (by omega)] at h2
  exact h.2 j s v h1 h2
include hT in
theorem b9h (c:aQ N gk gb S ρ env m) {g:Gd} {t:TypeId} {x y:Operand} {k:SV→SS→OL} {L:L} (h:gL tt g (.store t x y) S k=some L) (hw:L.wp p Q S.nv ρ ks):Fin p Q ks N ρ S env k (LO' P tt p g env m (.store t x y)):=by
 simp only [gL] at h
 split at h
 ·rename_i ti b off s hti hx hs
  obtain ⟨tok,htt⟩:=hT t ti hti
  have hsz:=tok.sz
  rw [htt] at hsz
  obtain ⟨u,h1,h2,_⟩:=c.gG hx
  obtain ⟨v,h3,h4,hbel⟩:=c.gG hs
  obtain ⟨l,hl,rfl⟩:=h2.1 trivial
  split at h
  ·rename_i cells hb
   cases hle:Nat.ble (off+ti.sz) cells.length with
   | false=>rw [hle] at h; simp at h
   | true =>
    rw [hle] at h
    simp only [cond_true] at h
    have hle':=zxx hle
    have fin:∀ {S1:SS} {ρ1:Nat→V} {L1:Go.Fbs.L} {new:List SV},k uF { S1 with boxes:=S1.boxes.set b (some (gO cells off new)) } = some L1→L1.wp p Q S1.nv ρ1 ks→aQ N gk gb S1 ρ1 env m→a82 ρ1 gk gb m.T S1.nv ti.sz v new →
      S1.boxes=S.boxes→S.nv≤S1.nv→b7 ρ ρ1 S.nv→S1.dep=S.dep→Fin p Q ks N ρ S env k (LO' P tt p none env m (.store t x y)):=by
     intro S1 ρ1 L1 new hk hw c1 hc hbx hn ha hd
     obtain ⟨l',cs,e1,e2,e3⟩:=c1.boxes b cells (by rw [hbx]; exact hb)
     rw [hl] at e1
     simp only [zzz] at e1
     subst e1
     have hnl:new.length=ti.sz:=by rw [hc.1.1]; exact hc.2.2
     have hp:=e3.put (off:=off) hc.1 (by omega)
     have c':=c1.bBn hl hp
     refine ⟨.undef,_,uF,_,ρ1,L1,gk,gb,⟨rfl,rfl,a1w rfl rfl ?_⟩,hk,hw,c',rfl,rfl,ha,hn,hd⟩
     simp only [evalW,h1,h3,mP,hsz,e2]
     have:=e3.1
     rw [if_pos ⟨hc.2.1,hc.2.2,by omega⟩]
     rfl
    cases hag:ti.agg with
    | true =>
     rw [hag] at h
     simp only [cond_true] at h
     split at h
     ·rename_i a
      obtain ⟨as,nv,kn,bl,ρ',L',q1,q2,q3,q4,q5,q6⟩:=aD3 c (v:=v) h4 h hw
      exact fin (S1:=S.k9 nv kn bl) q1 q2 q3 q6 rfl q4 q5 rfl
     ·rename_i a nl
      obtain ⟨as,nv,kn,bl,ρ',L',q1,q2,q3,q4,q5,q6⟩:=aKv c (v:=v) h4.1 h4.2 h hw
      exact fin (S1:=S.k9 nv kn bl) q1 q2 q3 q6 rfl q4 q5 rfl
     ·simp at h
    | false =>
     rw [hag] at h
     simp only [cond_false] at h
     cases hz1:Nat.beq ti.sz 1 with
     | false=>rw [hz1] at h; simp at h
     | true =>
      rw [hz1] at h
      simp only [cond_true] at h
      have hone:=zzx hz1
      rw [hone] at fin
      split at h
      ·rename_i a
       obtain ⟨a',nv,kn,bl,ρ',L',q1,q2,q3,q4,q5,q6,q7⟩:=aDy c hbel h hw
       obtain ⟨e1,e2⟩:=q7 trivial
       have h4':v.aJ=a.den ρ:=h4
       have hsv:sc v=true:=by rw [← aRk,h4']; exact e2
       exact fin (S1:=S.k9 nv kn bl) q1 q2 q3 (sU (a5r hsv) (aRj hsv) (show v.aJ=a'.den ρ' by rw [e1]; exact h4') q4) rfl q5 q6 rfl
      ·have:=aR1 h4
       exact fin h hw c (sU this.1 this.2 h4 hbel) rfl (zxy _) (b7.refl _ _) rfl
      ·have h4':v = .sl .full []:=h4
       subst h4'
       exact fin h hw c (sU rfl rfl h4 hbel) rfl (zxy _) (b7.refl _ _) rfl
      ·simp at h
  ·simp at h
 ·simp at h
theorem aD5 {q n:Nat} {s:SV} (h:s.below n=true):(Fbs.jQ q s).below n=true:=by
 cases s with
 | grow k sz a=>simp only [Fbs.jQ]; cases Nat.beq q k <;> exact h
 | _=>exact h
theorem dV.jQ {T:List (Nat×Nat)} {q:Nat} {s:SV} {v:V} (r:dV ρ gk gb T s v):dV ρ (fun k=>if k=q then none else gk k) gb T (Fbs.jQ q s) v:=by
 cases s with
 | grow k sz a =>
  simp only [Fbs.jQ]
  cases hb:Nat.beq q k with
  | true=>exact tS r rfl
  | false =>
   have hne:¬ k=q:=fun e=>by subst e; simp at hb
   obtain ⟨es,h1,h2⟩:=r
   refine ⟨es,h1,?_⟩
   rcases h2 with h2 | ⟨i,h3,h4,h5⟩
   ·exact .inl h2
   ·exact .inr ⟨i,by show (if k=q then none else gk k)=some i; rw [if_neg hne]; exact h3,h4,h5⟩
 | _=>exact r
theorem aNq {α β:Type} (f:α→β):∀ (l:List (Nat×α)) (t:Nat),assoc (l.map fun p=>(p.1,f p.2)) t=(assoc l t).map f
 | [],t=>rfl
 | (j,x)::r,t=>by
  simp only [List.map_cons,assoc]
  cases Nat.beq j t with
  | true=>rfl
  | false=>exact aNq f r t
theorem aQ.jQ (c:aQ N gk gb S ρ env m) (q:Nat):aQ N (fun k=>if k=q then none else gk k) gb (S.jQ q) ρ env m:=by
 refine ⟨c.n,fun t s hs=>?_,fun b cells hb=>?_,by simp [SS.jQ,c.lA],c.nM,c.blt,fun k k' i h1 h2=>?_,fun k i h=>?_,c.known,c.cW,c.own⟩
 ·simp only [SS.look,SS.jQ] at hs
  rw [aNq (Fbs.jQ q),zyy] at hs
  obtain ⟨s',h1,rfl⟩:=hs
  obtain ⟨h2,h3,h4⟩:=c.cH t s' h1
  exact ⟨h2,h3.jQ,aD5 h4⟩
 ·simp only [SS.jQ,zvz,zyy] at hb
  obtain ⟨o,h1,h2⟩:=hb
  obtain ⟨cs',rfl,rfl⟩:=h2
  obtain ⟨l,cs,h3,h4,h5⟩:=c.boxes b cs' h1
  refine ⟨l,cs,h3,h4,by rw [List.length_map]; exact h5.1,fun j s v h6 h7=>?_⟩
  rw [zvz,zyy] at h6
  obtain ⟨s',h8,rfl⟩:=h6
  obtain ⟨h9,h10⟩:=h5.2 j s' v h8 h7
  exact ⟨h9.jQ,aD5 h10⟩
 ·split at h1
  ·simp at h1
  ·split at h2
   ·simp at h2
   ·exact c.kI k k' i h1 h2
 ·split at h
  ·simp at h
  ·exact c.sP k i h
theorem aQ.b48 (c : aQ N gk gb S ρ env m) {T' : List (Nat × Nat)} (hl : m.T.length ≤ T'.length) (h : ∀ (k i : Nat) x,gk k = some i → m.T[i]? = some x → T'[i]? = some x) : aQ N gk gb S ρ env { m with T:=T' } :=
 ⟨c.n,fun t s hs=>let ⟨h1,h2,h3⟩:=c.cH t s hs; ⟨h1,h2.up (fun _ _ h=>h) (fun _ _ h=>h) h,h3⟩,fun b cells hb=>let ⟨l,cs,h1,h2,h3⟩:=c.boxes b cells hb; ⟨l,cs,h1,h2,h3.up (fun _ _ h=>h) (fun _ _ h=>h) h⟩,
  c.lA,c.nM,c.blt,c.kI,fun k i hk=>let ⟨h1,h2⟩:=c.sP k i hk; ⟨h1,zuz h2 hl⟩,c.known,c.cW,c.own⟩
theorem aQ.aF4 (c:aQ N gk gb S ρ env m) {i:Nat} (hi:i < m.T.length) (hn:∀ k,gk k≠some i):aQ N (fun k=>if k=S.nk then some i else gk k) gb { S with nk:=S.nk+1 } ρ env m:=by
 have up:∀ k j,gk k=some j→(if k=S.nk then some i else gk k)=some j:=fun k j h=>by
  rw [if_neg (by have:=(c.sP k j h).1; omega)]; exact h
 refine ⟨c.n,fun t s hs=>let ⟨h1,h2,h3⟩:=c.cH t s hs; ⟨h1,h2.up up (fun _ _ h=>h) (fun _ _ _ _ h=>h),h3⟩,fun b cells hb=>let ⟨l,cs,h1,h2,h3⟩:=c.boxes b cells hb; ⟨l,cs,h1,h2,h3.up up (fun _ _ h=>h) (fun _ _ _ _ h=>h)⟩,
  c.lA,c.nM,c.blt,fun k k' j h1 h2=>?_,fun k j h=>?_,c.known,c.cW,c.own⟩
 ·split at h1 <;> split at h2
  ·omega
  ·simp only [zzz] at h1; subst h1; exact absurd h2 (hn k')
  ·simp only [zzz] at h2; subst h2; exact absurd h1 (hn k)
  ·exact c.kI k k' j h1 h2
 ·split at h
  ·simp only [zzz] at h; subst h; rename_i e; subst e; exact ⟨Nat.lt_succ_self _,hi⟩
  ·obtain ⟨h1,h2⟩:=c.sP k j h; exact ⟨Nat.lt_succ_of_lt h1,h2⟩
theorem aNr {n b:Nat} {x y w:V} (h:iB n b x.aJ y.aJ=some w):∃ g es g' ys,x = .sl g es∧y = .sl g' ys∧w = .sl .ro ((es++ys).map V.aJ)∧(es.length+ys.length)*(b+1)≤70368744177664∧es.all (fun e=>e.cells.length == n)=true∧ys.all (fun e=>e.cells.length == n)=true:=by
 unfold iB at h
 split at h
 ·rename_i h1 h2
  obtain ⟨g,es,rfl,rfl⟩:=aDw h1
  obtain ⟨g',ys,rfl,rfl⟩:=aDw h2
  split at h
  ·rename_i hc
   rw [List.length_map,List.length_map,a7t,a7t] at hc
   simp only [zzz] at h
   exact ⟨g,es,g',ys,rfl,rfl,by rw [← h,List.map_append],hc⟩
  ·simp at h
 ·simp at h
def SS.yT (S:SS):SV→SS
 | .grow q _ _=>S.jQ q
 | _=>S
theorem aUp (c:aQ N gk gb S ρ env m) {sx:SV} {x:V} (hx:dV ρ gk gb m.T sx x) {n b:Nat} {es ys:List V} {g0:Tag} (hxe:x = .sl g0 es)
  (hcase:(∃ q a,sx = .grow q n a)∨sx = .lT) (hb:(es.length+ys.length)*(b+1)≤70368744177664) (h1:es.all (fun e=>e.cells.length == n)=true) (h2:ys.all (fun e=>e.cells.length == n)=true) :
  ∃ v m' gk',a1q n b x ys m=some (v,m')∧m'.H=m.H ∧
   aQ N gk' gb { (S.yT sx) with nk:=S.nk+1 } ρ env m' ∧
   (∀ (a:A) (ρ':Nat→V),a.den ρ' = .sl .ro ((es++ys).map V.aJ)→dV ρ' gk' gb m'.T (.grow S.nk n a) v):=by
 subst hxe
 obtain ⟨S0,hS0,gk0,c0,hgk0,hnk,hown⟩:∃ S0,S0=(S.yT sx)∧∃ gk0,aQ N gk0 gb S0 ρ env m∧(∀ k i,gk0 k=some i→gk k=some i)∧S0.nk=S.nk∧(∀ i,g0 = .own i→∀ k,gk0 k≠some i):=by
  rcases hcase with ⟨q,a,rfl⟩ | rfl
  ·refine ⟨_,rfl,_,c.jQ q,fun k i h=>?_,rfl,fun i hi k hk=>?_⟩
   ·split at h
    ·simp at h
    ·exact h
   ·obtain ⟨es',_,h3⟩:=hx
    rcases h3 with h3 | ⟨i',h4,h5,_⟩
    ·simp only [V.sl.injEq] at h3; rw [h3.1] at hi; simp at hi
    ·simp only [V.sl.injEq] at h5
     rw [h5.1] at hi
     simp only [Tag.own.injEq] at hi
     subst hi
     split at hk
     ·simp at hk
     ·rename_i hne; exact hne (c.kI k q i' hk h4)
  ·refine ⟨_,rfl,gk,c,fun _ _ h=>h,rfl,fun i hi=>?_⟩
   have:V.sl g0 es = .sl .full []:=hx
   simp only [V.sl.injEq] at this
   rw [this.1] at hi; simp at hi
 have htag : g0 = .full ∨ ∃ i,g0 = .own i ∧ m.T[i]? = some (es.length,n):=by
  rcases hcase with ⟨q,a,rfl⟩ | rfl
  ·obtain ⟨es',_,h3⟩:=hx
   rcases h3 with h3 | ⟨i',h4,h5,h6⟩
   ·simp only [V.sl.injEq] at h3; exact .inl h3.1
   ·simp only [V.sl.injEq] at h5; obtain ⟨rfl,rfl⟩:=h5; exact .inr ⟨i',rfl,h6⟩
  ·have:V.sl g0 es = .sl .full []:=hx
   simp only [V.sl.injEq] at this
   exact .inl this.1
 rw [← hS0]
 unfold a1q
 simp only
 rw [if_pos ⟨hb,h1,h2⟩]
 by_cases hy:ys=[]
 ·subst hy
  rw [if_pos rfl]
  rcases htag with rfl | ⟨i,rfl,hi⟩
  ·refine ⟨_,_,gk0,rfl,rfl,hnk ▸ c0.b47,fun a ρ' ha=>⟨es,by rw [ha]; simp,.inl rfl⟩⟩
  ·have hlt:i < m.T.length:=(zzy.1 hi).1
   refine ⟨_,_,_,rfl,rfl,hnk ▸ c0.aF4 hlt (hown i rfl),fun a ρ' ha=>⟨es,by rw [ha]; simp,.inr ⟨i,?_,rfl,hi⟩⟩⟩
   simp [hnk]
 ·rw [if_neg hy]
  rcases htag with rfl | ⟨i,rfl,hi⟩
  ·simp only
   have c1:=c0.b48 (T':=m.T++[(es.length+ys.length,n)]) (by simp) (fun k i x hk hx=>by
    rw [List.getElem?_append_left (zzy.1 hx).1]; exact hx)
   have c2:=c1.aF4 (i:=m.T.length) (by simp) (fun k hk=>by have:=(c0.sP k _ hk).2; omega)
   refine ⟨_,_,_,rfl,rfl,hnk ▸ c2,fun a ρ' ha=>⟨es++ys,ha,.inr ⟨m.T.length,by simp [hnk],rfl,by simp⟩⟩⟩
  ·simp only [hi,if_true]
   have hlt:i < m.T.length:=(zzy.1 hi).1
   have c1:=c0.b48 (T':=m.T.set i (es.length+ys.length,n)) (by simp) (fun k j x hk hx=>by
    rw [List.getElem?_set_ne (fun e=>by subst e; exact hown i rfl k hk)]; exact hx)
   have c2:=c1.aF4 (i:=i) (by simpa using hlt) (hown i rfl)
   refine ⟨_,_,_,rfl,rfl,hnk ▸ c2,fun a ρ' ha=>⟨es++ys,ha,.inr ⟨i,by simp [hnk],rfl,by simp [hlt]⟩⟩⟩
end
end Go.Fbs

/- Common texts: values, words, what they answer; no statement of the seat. -/
import Derived.Test.YtnmcilaebamncaaS0
set_option linter.unusedVariables false
set_option linter.unusedSimpArgs false
set_option linter.unusedSectionVars false
/- A small language that code is told back in: what its words answer. -/
namespace Go.Fbs
mutual
def V.aL:V→V
 | .sl _ es=>.sl .ro (a1l es)
 | .agg cs=>.agg (a1l cs)
 | .ro cs=>.ro (a1l cs)
 | .func f cs=>.func f (a1l cs)
 | .aG vs=>.aG (a1l vs)
 | .bool b=>.bool b
 | .int k n=>.int k n
 | .str s=>.str s
 | .ptr l off=>.ptr l off
 | .dK=>.dK
 | .map l=>.map l
 | .slr l off n c=>.slr l off n c
 | .undef=>.undef
 | .any=>.any
def a1l:List V→List V
 | []=>[]
 | v::vs=>v.aL::a1l vs
end
theorem cW:∀ l:List V,a1l l=l.map V.aL
 | []=>by simp [a1l]
 | v::vs=>by simp [a1l,cW vs]
theorem a30 (v:V):v.aL.cells=v.cells.map V.aL:=by
 cases v <;> simp [V.aL,V.cells,cW]
theorem qZ (v:V):v.aL.cells.length=v.cells.length:=by rw [a30,List.length_map]
theorem aKy (v:V):v.aL.iW=v.iW:=by cases v <;> simp [V.aL,V.iW]
theorem a6h (es:List V):flat (es.map V.aL)=(flat es).map V.aL:=by
 induction es with
 | nil=>rfl
 | cons e es ih=>simp only [flat,List.map_cons,List.flatMap_cons,List.map_append] at ih ⊢; rw [ih,a30]
theorem a9q {κ:Ctx} {h:bX} {v:V} {x:Value} (r:aD κ h v x):aD κ h v.aL x:=by
 have get : ∀ {cs : List V} {xs : List Value},(∀ (i : Nat) c x,cs[i]? = some c → xs[i]? = some x → aD κ h c.aL x) → ∀ (i : Nat) c x,(a1l cs)[i]? = some c → xs[i]? = some x → aD κ h c x:=by
  intro cs xs ih i c x h1 h2
  rw [cW,List.getElem?_map,Option.map_eq_some_iff] at h1
  obtain ⟨c0,h3,rfl⟩:=h1
  exact ih i c0 x h3 h2
 induction r with
 | bool b=>exact .bool b
 | int k n=>exact .int k n
 | str s=>exact .str s
 | ptr i off b hb=>exact .ptr i off b hb
 | ro cs b off xs hx hl _ ih=>exact .ro _ b off xs hx (by rw [cW]; simpa using hl) (get ih)
 | dK=>exact .dK
 | slnil g hg=>exact .slnil .ro (by simp)
 | sl g es b off cap sz xs hx hu hl _ hc ht ih =>
  have e:(a1l es).length=es.length:=by rw [cW,List.length_map]
  simp only [V.aL]
  rw [← e]
  refine .sl .ro (a1l es) b off cap sz xs hx ?_ ?_ ?_ (by rw [e]; exact hc) trivial
  ·intro v hv
   rw [cW] at hv
   obtain ⟨v0,h1,rfl⟩:=List.mem_map.1 hv
   rw [qZ]; exact hu v0 h1
  ·rw [cW,a6h,List.length_map]; exact hl
  ·intro i c x h1 h2
   rw [cW,a6h,List.getElem?_map,Option.map_eq_some_iff] at h1
   obtain ⟨c0,h3,rfl⟩:=h1
   exact ih i c0 x h3 h2
 | j5=>exact .j5
 | map i b hb=>exact .map i b hb
 | slr i off n c b cap hb hn hc=>exact .slr i off n c b cap hb hn hc
 | func f caps xs hl _ ih=>exact .func f _ xs (by rw [cW]; simpa using hl) (get ih)
 | agg cs xs hl ho _ ih=>exact .agg _ xs (by rw [cW]; simpa using hl) ho (get ih)
 | aG cs xs hl _ ih=>exact .aG _ xs (by rw [cW]; simpa using hl) (get ih)
 | undef=>exact .undef
 | any x=>exact .any x
theorem b2x {κ:Ctx} {h:bX} {vs:List V} {xs:List Value} (r:aB κ h vs xs):aB κ h (vs.map V.aL) xs :=
 ⟨by rw [r.1,List.length_map],fun i c x h1 h2=>by
  rw [List.getElem?_map,Option.map_eq_some_iff] at h1
  obtain ⟨c0,h3,rfl⟩:=h1
  exact a9q (r.2 i c0 x h3 h2)⟩
theorem aT7 (v:V):v.er1.aL=v.aL:=by
 cases v with
 | sl g es=>cases g <;> simp [V.er1,V.aL]
 | _=>rfl
theorem aZ6 (v:V):v.er.aL=v.aL:=by
 have h:∀ cs:List V,(cs.map V.er1).map V.aL=cs.map V.aL:=fun cs=>by simp [List.map_map,Function.comp_def,aT7]
 cases v <;> simp [V.er,V.aL,cW,h,aT7]
def sc (v:V):Bool :=
 match v with
 | .undef | .any | .aG _ | .agg _=>false
 | _=>true
theorem a6i {v:V} (h:sc v=true):v.cells=[v]:=by cases v <;> simp_all [sc,V.cells]
theorem aQh {v:V} (h:sc v=true):v.iW=true:=by cases v <;> simp_all [sc,V.iW]
theorem aQi (v:V):sc v.aL=sc v:=by cases v <;> rfl
inductive A where
 | v (i:Nat)
 | k (x:V)
 | c (i j:Nat)
 deriving Inhabited
def a7 (x:V) (j:Nat):V:=x.cells.getD j .undef
def A.den (ρ:Nat→V):A→V
 | .v i=>ρ i
 | .k x=>x
 | .c i j=>a7 (ρ i) j
inductive E where
 | id (a:A)
 | pE (a:A)
 | gD (a:A)
 | bin (op:BinOp) (a b:A)
 | eqB (neg:Bool) (a b:A)
 | eqA (qs:List Nat) (neg:Bool) (a b:A)
 | un (op:UnOp) (a:A)
 | mm (max:Bool) (a b:A)
 | xZ (k:IntKind) (a:A)
 | vM (a:A)
 | vN (a:A)
 | slS (a:A) (lo hi:Option A)
 | slL (n:Nat) (a:A) (lo hi:Option A)
 | aWz (a i:A)
 | aW0 (g:Bool) (n:Nat) (a i:A)
 | b2y (len:Nat) (g:Bool) (n:Nat) (a i:A)
 | part (g:Bool) (n off:Nat) (a:A)
 | agg (l:List A)
 | lit (n:Nat) (l:List A)
 | make (n:Nat) (z:V) (dI:Nat) (l c:A)
 | app (n dI:Nat) (x y:A)
 | aQl (dI:Nat) (x y:A)
 | call (f:FuncId) (l:List A)
 | aJo (f:A) (l:List A)
 | fn (f:FuncId) (l:List A)
 | aW1 (a:A)
 | ext (a:A) (i:Nat)
 | pick (c a b:A)
 | chk (n:Nat) (a:A)
 | aW2 (a:A)
 | b2z (a:A)
 | inb (n:Nat) (i:A)
 | nth (l:List A) (i:A)
 | pre (n:Nat) (a:A)
 deriving Inhabited
inductive L where
 | bind (e:E) (g:Option (A×Bool)) (k:L)
 | ite (c:A) (t e:L)
 | ret (a:A)
 | b20 (l:List A)
 | join (m:Nat) (body k:L)
 | loop (init:List A) (body:L)
 | jmp (d:Nat) (l:List A)
 deriving Inhabited
def aS (op:BinOp) (x y:V):Option V :=
 match x,y with
 | .int k a,.int k' b =>
  match op with
  | .shl | .shr=>zP op k a b
  | _=>if k=k' then jL op k a b else none
 | .str a,.str b=>tG op a b
 | _,_=>none
def eqS (q:Nat) (x y:V):Option Bool :=
 match q,x,y with
 | 0,.bool a,.bool b=>some (a == b)
 | 1,.int k a,.int k' b=>if k=k' then some (a == b) else none
 | 2,.str a,.str b=>some (a == b)
 | _,_,_=>none
def iA:List Nat→List V→List V→Option Bool
 | [],[],[]=>some true
 | q::qs,x::xs,y::ys =>
  match eqS q x y,iA qs xs ys with
  | some a,some b=>some (a && b)
  | _,_=>none
 | _,_,_=>none
def aKz (neg:Bool) (x y:V):Option V :=
 match x,y with
 | .bool a,.bool b=>some (.bool ((a == b) != neg))
 | _,_=>none
def aQo (qs:List Nat) (neg:Bool) (x y:V):Option V :=
 match x,y with
 | .agg xs,.agg ys=>(iA qs xs ys).map fun b=>.bool (b != neg)
 | _,_=>none
def mmK (max:Bool) (x y:V):Option V :=
 match x,y with
 | .int k a,.int _ b=>some (.int k (if max then (if b > a then b else a) else (if b < a then b else a)))
 | _,_=>none
def a00 (n:Nat) (x:V) (lo hi:Option V):Option V :=
 match x with
 | .sl _ es =>
  match lR hi es.length es.length with
  | some h =>
   match lR lo 0 h with
   | some l=>if es.all (fun e=>e.cells.length == n)=true then some (.sl .ro ((es.take h).drop l)) else none
   | none=>none
  | none=>none
 | _=>none
def bP (n:Nat) (x:V):Option V :=
 match x with
 | .agg cs=>if cs.length=n∧cs.all sc=true then some (.agg cs) else none
 | _=>none
def rB (x:V):Option V:=if sc x then some x else none
def nB (g:Bool) (n:Nat) (x i:V):Option V :=
 match x,i with
 | .sl _ es,.int _ k =>
  if 0≤k then
   match es[k.toNat]? with
   | some e=>if g then bP n e else rB e
   | none=>none
  else none
 | _,_=>none
def rD (g:Bool) (n off:Nat) (x:V):Option V :=
 match x with
 | .agg cs =>
  if g then (if off+n≤cs.length then bP n (.agg ((cs.drop off).take n)) else none)
  else (match cs[off]? with | some c=>rB c | none=>none)
 | _=>none
def aE (l:List V):Option V:=if l.all sc then some (.agg l) else none
def lG (n:Nat) (l:List V):Option V :=
 if l.length*n≤1000000∧l.all (fun e=>e.cells.length == n && e.iW)=true then some (.sl .ro l) else none
def aM7 (z:V) (dI:Nat) (l c:V):Option V :=
 match l,c with
 | .int _ n,.int _ k=>if 0≤n∧n≤k∧k≤9223372036854775807∧dI*k≤140737488355328 then some (.sl .ro (List.replicate n.toNat z)) else none
 | _,_=>none
def jW (n dI:Nat) (x y:V):Option V :=
 match x,y with
 | .sl _ es,.sl _ ys =>
  if (es.length+ys.length)*(dI+1)≤70368744177664∧es.all (fun e=>e.cells.length == n)=true∧ys.all (fun e=>e.cells.length == n)=true then some (.sl .ro (es++ys)) else none
 | _,_=>none
def aW3 (dI:Nat) (x y:V):Option V :=
 match y with
 | .str s=>jW 1 dI x (.sl .ro (s.map fun b=>.int .u8 b.toNat))
 | _=>none
def a1m:Nat:=1000000
def uX (p:PT) (f:V) (l:List V):Option V :=
 match f with
 | .func g caps=>bif Nat.blt g a1m then p g (l++caps) else none
 | _=>none
def aNm (n:Nat) (x:V):Option V :=
 match x with
 | .aG vs=>some (.aG (vs.take n))
 | _=>none
def uQ:V→Bool
 | .bool _ | .undef=>true
 | _=>false
def a01 (x:V):Option V:=if uQ x then some x else none
def b21 (n:Nat) (i:V):Option V :=
 match i with
 | .int k m=>if 0≤m∧m < n then some (.int k m) else none
 | _=>none
def b22 (l:List V) (i:V):Option V :=
 match i with
 | .int _ m =>
  if 0≤m then
   match l[m.toNat]? with
   | some x=>rB x
   | none=>none
  else none
 | _=>none
def aM8 (x:V):Option V :=
 match x with
 | .func f cs=>some (.func f cs)
 | _=>none
def E.ev (p:PT) (ρ:Nat→V):E→Option V
 | .id a=>some (a.den ρ)
 | .pE a=>Fbs.pE (a.den ρ)
 | .gD a=>Fbs.gD (a.den ρ)
 | .bin op a b=>aS op (a.den ρ) (b.den ρ)
 | .eqB n a b=>aKz n (a.den ρ) (b.den ρ)
 | .eqA n g a b=>aQo n g (a.den ρ) (b.den ρ)
 | .un op a=>k9 op (a.den ρ)
 | .mm g a b=>mmK g (a.den ρ) (b.den ρ)
 | .xZ k a=>Fbs.xZ k (a.den ρ)
 | .vM a=>Fbs.vM (a.den ρ)
 | .vN a=>Fbs.vN (a.den ρ)
 | .slS a lo hi=>lF (a.den ρ) (lo.map (A.den ρ)) (hi.map (A.den ρ))
 | .slL n a lo hi=>a00 n (a.den ρ) (lo.map (A.den ρ)) (hi.map (A.den ρ))
 | .aWz a i=>tB (a.den ρ) (i.den ρ)
 | .aW0 g n a i=>nB g n (a.den ρ) (i.den ρ)
 | .b2y len g n a i=>a6g len g n (a.den ρ) (i.den ρ)
 | .part g n off a=>rD g n off (a.den ρ)
 | .agg l=>aE (l.map (A.den ρ))
 | .lit n l=>lG n (l.map (A.den ρ))
 | .make _ z b l c=>aM7 z b (l.den ρ) (c.den ρ)
 | .app n b x y=>jW n b (x.den ρ) (y.den ρ)
 | .aQl b x y=>aW3 b (x.den ρ) (y.den ρ)
 | .call f l=>p f (l.map (A.den ρ))
 | .aJo f l=>uX p (f.den ρ) (l.map (A.den ρ))
 | .fn f l=>some (.func f (l.map (A.den ρ)))
 | .aW1 a=>aM8 (a.den ρ)
 | .ext a i=>aA (a.den ρ) i
 | .pick c a b=>kV (c.den ρ) (a.den ρ) (b.den ρ)
 | .chk n a=>bP n (a.den ρ)
 | .aW2 a=>rB (a.den ρ)
 | .b2z a=>a01 (a.den ρ)
 | .inb n i=>b21 n (i.den ρ)
 | .nth l i=>b22 (l.map (A.den ρ)) (i.den ρ)
 | .pre n a=>aNm n (a.den ρ)
def ext (ρ:Nat→V) (n:Nat) (y:V):Nat→V:=fun i=>bif Nat.beq i n then y else ρ i
def gv (vs:List V) (i:Nat):V:=vs.getD i .undef
def exts (ρ:Nat→V) (n:Nat) (vs:List V):Nat→V:=fun i=>bif Nat.ble n i then gv vs (i - n) else ρ i
def cZ (c:V) (t e:Prop):Prop :=
 match c with
 | .bool b=>if b then t else e
 | _=>False
def b4q (p:PT) (ρ:Nat→V) (e:E):Option (A×Bool)→Option V
 | none=>e.ev p ρ
 | some (g,want)=>fD (g.den ρ) want (e.ev p ρ)
def aFq (F:(List V→Prop)→List V→Prop):Nat→List V→Prop
 | 0,_=>False
 | n+1,vs=>F (aFq F n) vs
def z7 (F:(List V→Prop)→List V→Prop) (vs:List V):Prop:=∃ n,aFq F n vs
def a0y (k:List V→Prop) (body:(List V→Prop)→Prop):Prop:=body k
def L.wp (p:PT) (Q:V→Prop):L→Nat→(Nat→V)→List (List V→Prop)→Prop
 | .bind e g k,n,ρ,ks=>opt (b4q p ρ e g) fun y=>k.wp p Q (n+1) (ext ρ n y) ks
 | .ite c t e,n,ρ,ks=>cZ (c.den ρ) (t.wp p Q n ρ ks) (e.wp p Q n ρ ks)
 | .ret a,_,ρ,_=>Q (a.den ρ)
 | .b20 l,_,ρ,_=>Q (.aG (l.map (A.den ρ)))
 | .join m body k,n,ρ,ks=>a0y (fun vs=>vs.length=m∧k.wp p Q (n+m) (exts ρ n vs) ks) fun r=>body.wp p Q n ρ (r::ks)
 | .loop init body,n,ρ,ks=>z7 (fun r vs=>vs.length=init.length∧body.wp p Q (n+init.length) (exts ρ n vs) (r::ks)) (init.map (A.den ρ))
 | .jmp d l,_,ρ,ks =>
  match ks[d]? with
  | some k=>k (l.map (A.den ρ))
  | none=>False
theorem pM {F:(List V→Prop)→List V→Prop} {vs:List V} (I:List V→Prop) (μ:List V→Nat) (h0:I vs)
  (round:∀ (r:List V→Prop) (vs:List V),I vs→(∀ vs',I vs'→μ vs' < μ vs→r vs')→F r vs):z7 F vs:=by
 have key:∀ n vs,μ vs < n→I vs→aFq F n vs:=by
  intro n
  induction n with
  | zero=>intro vs h; omega
  | succ n ih=>exact fun vs h hI=>round _ vs hI fun vs' hI' hμ=>ih vs' (by omega) hI'
 exact ⟨_,key _ vs (Nat.lt_succ_self _) h0⟩
end Go.Fbs

/- Calls that are led to boxes: what goes in,what comes out. -/
namespace Go.Fbs
mutual
def V.aV:V→Bool
 | .ptr _ _=>false
 | .map (some _)=>false
 | .slr ..=>false
 | .sl .ro es=>aN es
 | .sl _ _=>false
 | .agg cs=>aN cs
 | .ro cs=>aN cs
 | .func _ cs=>aN cs
 | .aG vs=>aN vs
 | _=>true
def aN:List V→Bool
 | []=>true
 | v::vs=>v.aV && aN vs
end
theorem rP:∀ {vs:List V},aN vs=true↔∀ v ∈ vs,v.aV=true
 | []=>by simp [aN]
 | v::vs=>by simp [aN,rP (vs:=vs)]
mutual
theorem rQ:∀ {v:V},v.aV=true→v.plain=true∧v.aL=v
 | .bool _,_=>⟨rfl,rfl⟩
 | .int _ _,_=>⟨rfl,rfl⟩
 | .str _,_=>⟨rfl,rfl⟩
 | .ptr _ _,h=>by simp [V.aV] at h
 | .ro cs,h=>by
  simp only [V.aV] at h
  have:=oG h
  exact ⟨this.1,by simp only [V.aL,this.2]⟩
 | .dK,_=>⟨rfl,rfl⟩
 | .sl .ro es,h=>by
  simp only [V.aV] at h
  have:=oG h
  exact ⟨this.1,by simp only [V.aL,this.2]⟩
 | .sl .full es,h=>by simp [V.aV] at h
 | .sl (.own i) es,h=>by simp [V.aV] at h
 | .map none,_=>⟨rfl,rfl⟩
 | .map (some _),h=>by simp [V.aV] at h
 | .slr ..,h=>by simp [V.aV] at h
 | .func _ cs,h=>by
  simp only [V.aV] at h
  have:=oG h
  exact ⟨this.1,by simp only [V.aL,this.2]⟩
 | .agg cs,h=>by
  simp only [V.aV] at h
  have:=oG h
  exact ⟨this.1,by simp only [V.aL,this.2]⟩
 | .aG cs,h=>by
  simp only [V.aV] at h
  have:=oG h
  exact ⟨this.1,by simp only [V.aL,this.2]⟩
 | .undef,_=>⟨rfl,rfl⟩
 | .any,_=>⟨rfl,rfl⟩
theorem oG:∀ {vs:List V},aN vs=true→qL vs=true∧a1l vs=vs
 | [],_=>⟨rfl,rfl⟩
 | v::vs,h=>by
  simp only [aN,Bool.and_eq_true] at h
  have h1:=rQ h.1
  have h2:=oG h.2
  exact ⟨by simp only [qL,h1.1,h2.1]; rfl,by simp only [a1l,h1.2,h2.2]⟩
end
def pack:List V→V
 | [a]=>a
 | l=>.aG l
inductive CK where
 | pl
 | gr (sz:Nat)
 deriving Inhabited
inductive AK where
 | v
 | b (off:Nat) (ks:List CK)
 deriving Inhabited
structure n6 where
 cF:Nat
 as:List AK
 deriving Inhabited
abbrev bE9:=List (FuncId×(FuncId×n6))
def cH:List AK→List (List CK)
 | []=>[]
 | .v::r=>cH r
 | .b _ ks::r=>ks::cH r
def nS (T:List (Nat×Nat)):List CK→List V→Option (List V×List GA)
 | [],[]=>some ([],[])
 | .pl::ks,c::cs=>(nS T ks cs).map fun q=>(c.aL::q.1,q.2)
 | .gr sz::ks,.sl .full es::cs=>if 0 < sz then (nS T ks cs).map fun q=>(.sl .ro (es.map V.aL)::q.1,.full es.length sz::q.2) else none
 | .gr sz :: ks,.sl (.own i) es :: cs=>if 0 < sz ∧ T[i]? = some (es.length,sz) then (nS T ks cs).map fun q=>(.sl .ro (es.map V.aL) :: q.1,.own i :: q.2) else none
 | _,_=>none
def pW (m:Hp):List AK→List V→Option (List V×List Nat×List GA)
 | [],[]=>some ([],[],[])
 | .v::ks,a::as=>(pW m ks as).map fun q=>(a.aL::q.1,q.2)
 | .b off cks::ks,.ptr l o::as =>
  if o=off then
   match m.H[l]? with
   | some (.cells cs) =>
    match nS m.T cks cs,pW m ks as with
    | some (w,gs),some q=>some (.agg w::q.1,l::q.2.1,gs++q.2.2)
    | _,_=>none
   | _=>none
  else none
 | _,_=>none
def kD (q:Nat):List CK→List V→List V×List (Nat×Nat)
 | .gr sz::ks,.sl _ es::ws=>(.sl (.own q) es::(kD (q+1) ks ws).1,(es.length,sz)::(kD (q+1) ks ws).2)
 | _::ks,w::ws=>(w::(kD q ks ws).1,(kD q ks ws).2)
 | _,_=>([],[])
def lM (b q:Nat):List AK→List V→List V×List LO×List (Nat×Nat)
 | .v::ks,w::ws=>(w::(lM b q ks ws).1,(lM b q ks ws).2)
 | .b off cks::ks,.agg cs::ws =>
  (.ptr b off::(lM (b+1) (q+(kD q cks cs).2.length) ks ws).1,.cells (kD q cks cs).1::(lM (b+1) (q+(kD q cks cs).2.length) ks ws).2.1,(kD q cks cs).2++(lM (b+1) (q+(kD q cks cs).2.length) ks ws).2.2)
 | _,_=>([],[],[])
def a6j (m:Hp):Nat→List (List CK)→Option (List V×List GA)
 | _,[]=>some ([],[])
 | b,cks::kss =>
  match m.H[b]? with
  | some (.cells cs) =>
   match nS m.T cks cs,a6j m (b+1) kss with
   | some (w,gs),some q=>some (.agg w::q.1,gs++q.2)
   | _,_=>none
  | _=>none
def p8:Nat→List (List CK)→List Nat→List V→List LO→List LO×List (Nat×Nat)
 | q,cks::kss,l::ls,.agg ws::outs,H =>
  ((p8 (q+(kD q cks ws).2.length) kss ls outs (H.set l (.cells (kD q cks ws).1))).1,(kD q cks ws).2++(p8 (q+(kD q cks ws).2.length) kss ls outs (H.set l (.cells (kD q cks ws).1))).2)
 | _,_,_,_,H=>(H,[])
def jU:List CK→List V→Bool
 | [],[]=>true
 | .pl::ks,_::ws=>jU ks ws
 | .gr _::ks,.sl .ro _::ws=>jU ks ws
 | _,_=>false
def fN:List (List CK)→List V→Bool
 | [],[]=>true
 | ks::kss,.agg ws::outs=>ws.all sc && jU ks ws && fN kss outs
 | _,_=>false
structure bDt (sg:n6) (v:V):Prop where
 aG:∃ rs,v = .aG rs∧sg.cF≤rs.length∧fN (cH sg.as) (rs.drop sg.cF)=true
def a1n {α : Type} (f : Nat → α) (l : List α) : Prop:=∀ (i j n : Nat),l[i]? = some (f n) → l[j]? = some (f n) → i = j
def a8p (l:List Nat):Prop:=a1n (fun n=>n) l
def aEe (l:List GA):Prop:=a1n GA.own l
open Classical in
noncomputable def aK0 (sg:n6) (F:List V→Option V) (args:List V) (m:Hp):Option (V×Hp) :=
 match pW m sg.as args with
 | some (words,ls,gs) =>
  if a8p ls∧aEe gs then
   match F words with
   | some (.aG rs)=>some (pack (rs.take sg.cF),⟨(p8 m.T.length (cH sg.as) ls (rs.drop sg.cF) m.H).1,a1k gs m.T++(p8 m.T.length (cH sg.as) ls (rs.drop sg.cF) m.H).2⟩)
   | _=>none
  else none
 | none=>none
def aM9 (m1:Hp) (kss:List (List CK)) (outs:List V):Prop:=∃ gs,a6j m1 0 kss=some (outs,gs)∧aEe gs
def Callee (P:Program) (f:FuncId) (sg:n6) (words rs:List V):Prop :=
 ∀ (κ:Ctx) (w:World) (xs:List Value),Mem κ w.heap ⟨(lM 0 0 sg.as words).2.1,(lM 0 0 sg.as words).2.2⟩→aB κ w.heap (lM 0 0 sg.as words).1 xs →
  Calls P f ⟨xs⟩ w (fun e w'=>∃ x κ' m1,e = .returned x∧Ext κ w ⟨(lM 0 0 sg.as words).2.1,(lM 0 0 sg.as words).2.2⟩ κ' w' m1∧aD κ' w'.heap (pack (rs.take sg.cF)) x∧aM9 m1 (cH sg.as) (rs.drop sg.cF))
section
variable {κ κ':Ctx} {h:bX}
theorem aJp (hw:∀ b,κ.hw b≤κ'.hw b) {v:V} {x:Value} (r:aD κ h v x) (hp:v.aL.aV=true):aD κ' h v.aL x :=
 a0n hw (a9q r) (rQ hp).1
theorem aL2 (hw : ∀ b,κ.hw b ≤ κ'.hw b) {g : Tag} {es : List V} {x : Value} (r : aD κ h (.sl g es) x) (hes : aN (es.map V.aL) = true) {j : Nat} {L' : iF} (hj : κ'.aU[j]? = some L')
  (hg : (∃ i,g = .own i ∧ κ.aU[i]? = some L') ∨ (g = .full ∧ L'.kind = .full ∧ L'.n = es.length)) : aD κ' h (.sl (.own j) (es.map V.aL)) x:=by
 cases r with
 | slnil _ h0 =>
  refine .slnil _ fun q hq=>?_
  simp only [Tag.own.injEq] at hq
  subst hq
  refine ⟨L',hj,fun hk=>?_⟩
  rcases hg with ⟨i,rfl,hi⟩ | ⟨_,hk',_⟩
  ·obtain ⟨L,h1,h2⟩:=h0 i rfl
   rw [hi] at h1
   simp only [Option.some.injEq] at h1
   subst h1
   exact h2 hk
  ·rw [hk'] at hk; simp at hk
 | sl _ _ b off cap sz xs hx hu hl hr hc ht =>
  have e:(es.map V.aL).length=es.length:=List.length_map ..
  rw [← e]
  refine .sl _ _ b off cap sz xs (fun i y hy=>let ⟨h1,h2⟩:=hx i y hy; ⟨Nat.lt_of_lt_of_le h1 (hw _),h2⟩) (fun v hv=>?_) (by rw [a6h,List.length_map]; exact hl) (fun i c x h1 h2=>?_) (by rw [e]; exact hc) ?_
  ·obtain ⟨v0,h1,rfl⟩:=List.mem_map.1 hv
   rw [qZ]; exact hu v0 h1
  ·rw [a6h,List.getElem?_map,Option.map_eq_some_iff] at h1
   obtain ⟨c0,h3,rfl⟩:=h1
   have hp:c0.aL.plain=true:=by
    refine aBm (oG hes).1 _ ?_
    rw [a6h]
    exact List.mem_map.2 ⟨c0,List.mem_of_getElem? h3,rfl⟩
   exact a0n hw (a9q (hr i c0 x h3 h2)) hp
  ·rw [e]
   refine ⟨L',hj,?_⟩
   rcases hg with ⟨i,rfl,hi⟩ | ⟨rfl,hk,hn⟩
   ·obtain ⟨L,h1,h2⟩:=ht
    rw [hi] at h1
    simp only [Option.some.injEq] at h1
    subst h1
    exact h2
   ·refine ⟨fun hr=>by rw [hk] at hr; simp at hr,fun _=>⟨by omega,fun _=>ht⟩⟩
end
section
variable {κ κp κ1 κ':Ctx} {h h1:bX} {m m1:Hp}
theorem a6k {T:List (Nat×Nat)} (hT:κ.aU.map iF.told=T) (hw:∀ b,κ.hw b≤κp.hw b):∀ {cks:List CK} {cs w:List V} {gs:List GA} {q:Nat} {xs:List Value},nS T cks cs=some (w,gs)→aN w=true →
  (∀ (i : Nat) g,gs[i]? = some g → κp.aU[q + i]? = some (GA.aU κ g)) → aB κ h cs xs → aB κp h (kD q cks w).1 xs ∧ (kD q cks w).2 = gs.map fun g=>(GA.aU κ g).told
 | [],[],w,gs,q,xs,e,hc,hg,r=>by
  simp only [nS,Option.some.injEq,Prod.mk.injEq] at e
  obtain ⟨rfl,rfl⟩:=e
  obtain rfl:=r.lC
  exact ⟨aB.nil,rfl⟩
 | .pl::ks,c::cs,w,gs,q,xs,e,hc,hg,r=>by
  simp only [nS,Option.map_eq_some_iff] at e
  obtain ⟨⟨w',gs'⟩,e,h1⟩:=e
  simp only [Prod.mk.injEq] at h1
  obtain ⟨rfl,rfl⟩:=h1
  simp only [aN,Bool.and_eq_true] at hc
  obtain ⟨x,xs',rfl,rx,r'⟩:=r.fP
  obtain ⟨h2,h3⟩:=a6k hT hw e hc.2 hg r'
  exact ⟨aB.cons (aJp hw rx hc.1) h2,h3⟩
 | .gr sz::ks,.sl .full es::cs,w,gs,q,xs,e,hc,hg,r=>by
  simp only [nS] at e
  split at e
  ·simp only [Option.map_eq_some_iff] at e
   obtain ⟨⟨w',gs'⟩,e,h1⟩:=e
   simp only [Prod.mk.injEq] at h1
   obtain ⟨rfl,rfl⟩:=h1
   simp only [aN,Bool.and_eq_true,V.aV] at hc
   obtain ⟨x,xs',rfl,rx,r'⟩:=r.fP
   obtain ⟨h2,h3⟩:=a6k (q:=q+1) hT hw e hc.2 (fun i g hi=>by rw [show q+1+i=q+(i+1) by omega]; exact hg (i+1) g (by simpa using hi)) r'
   have h0:=hg 0 _ rfl
   rw [Nat.add_zero] at h0
   refine ⟨aB.cons (aL2 hw rx hc.1 h0 (.inr ⟨rfl,rfl,rfl⟩)) h2,?_⟩
   simp only [kD,h3,List.map_cons,List.length_map]
   rfl
  ·simp at e
 | .gr sz::ks,.sl (.own i0) es::cs,w,gs,q,xs,e,hc,hg,r=>by
  simp only [nS] at e
  split at e
  ·rename_i hsz
   simp only [Option.map_eq_some_iff] at e
   obtain ⟨⟨w',gs'⟩,e,h1⟩:=e
   simp only [Prod.mk.injEq] at h1
   obtain ⟨rfl,rfl⟩:=h1
   simp only [aN,Bool.and_eq_true,V.aV] at hc
   obtain ⟨x,xs',rfl,rx,r'⟩:=r.fP
   obtain ⟨h2,h3⟩:=a6k (q:=q+1) hT hw e hc.2 (fun i g hi=>by rw [show q+1+i=q+(i+1) by omega]; exact hg (i+1) g (by simpa using hi)) r'
   have h0:=hg 0 _ rfl
   rw [Nat.add_zero] at h0
   have hti:=hsz.2
   rw [← hT,List.getElem?_map,Option.map_eq_some_iff] at hti
   obtain ⟨L,hL,hLt⟩:=hti
   have hga:GA.aU κ (.own i0)=L:=by simp [GA.aU,hL]
   rw [hga] at h0
   refine ⟨aB.cons (aL2 hw rx hc.1 h0 (.inl ⟨i0,rfl,hL⟩)) h2,?_⟩
   simp only [kD,h3,List.map_cons,List.length_map,hga,hLt]
  ·simp at e
 | [],_::_,_,_,_,_,e,_,_,_=>by simp [nS] at e
 | .pl::_,[],_,_,_,_,e,_,_,_=>by simp [nS] at e
 | .gr _::_,[],_,_,_,_,e,_,_,_=>by simp [nS] at e
 | .gr _::_,.sl .ro _::_,_,_,_,_,e,_,_,_=>by simp [nS] at e
 | .gr _::_,.bool _::_,_,_,_,_,e,_,_,_=>by simp [nS] at e
 | .gr _::_,.int _ _::_,_,_,_,_,e,_,_,_=>by simp [nS] at e
 | .gr _::_,.str _::_,_,_,_,_,e,_,_,_=>by simp [nS] at e
 | .gr _::_,.ptr _ _::_,_,_,_,_,e,_,_,_=>by simp [nS] at e
 | .gr _::_,.ro _::_,_,_,_,_,e,_,_,_=>by simp [nS] at e
 | .gr _::_,.dK::_,_,_,_,_,e,_,_,_=>by simp [nS] at e
 | .gr _::_,.map _::_,_,_,_,_,e,_,_,_=>by simp [nS] at e
 | .gr _::_,.slr .. :: _,_,_,_,_,e,_,_,_=>by simp [nS] at e
 | .gr _::_,.func _ _::_,_,_,_,_,e,_,_,_=>by simp [nS] at e
 | .gr _::_,.agg _::_,_,_,_,_,e,_,_,_=>by simp [nS] at e
 | .gr _::_,.aG _::_,_,_,_,_,e,_,_,_=>by simp [nS] at e
 | .gr _::_,.undef::_,_,_,_,_,e,_,_,_=>by simp [nS] at e
 | .gr _::_,.any::_,_,_,_,_,e,_,_,_=>by simp [nS] at e
theorem b23 {T:List (Nat×Nat)} (hT:κ.aU.map iF.told=T):∀ {cks:List CK} {cs w:List V} {gs:List GA} {q:Nat},nS T cks cs=some (w,gs)→(kD q cks w).2=gs.map fun g=>(GA.aU κ g).told:=by
 intro cks cs
 fun_induction nS T cks cs with
 | case1=>intro w gs q e; simp only [Option.some.injEq,Prod.mk.injEq] at e; obtain ⟨rfl,rfl⟩:=e; rfl
 | case2 ks c cs ih =>
  intro w gs q e
  simp only [Option.map_eq_some_iff] at e
  obtain ⟨⟨w',gs'⟩,e,h1⟩:=e
  simp only [Prod.mk.injEq] at h1
  obtain ⟨rfl,rfl⟩:=h1
  exact ih e
 | case3 sz ks es cs hs ih =>
  intro w gs q e
  simp only [Option.map_eq_some_iff] at e
  obtain ⟨⟨w',gs'⟩,e,h1⟩:=e
  simp only [Prod.mk.injEq] at h1
  obtain ⟨rfl,rfl⟩:=h1
  simp only [kD,ih e,List.map_cons,List.length_map]
  rfl
 | case4=>intro w gs q e; simp at e
 | case5 sz ks i0 es cs hs ih =>
  intro w gs q e
  simp only [Option.map_eq_some_iff] at e
  obtain ⟨⟨w',gs'⟩,e,h1⟩:=e
  simp only [Prod.mk.injEq] at h1
  obtain ⟨rfl,rfl⟩:=h1
  have hti:=hs.2
  rw [← hT,List.getElem?_map,Option.map_eq_some_iff] at hti
  obtain ⟨L,hL,hLt⟩:=hti
  have hga:GA.aU κ (.own i0)=L:=by simp [GA.aU,hL]
  simp only [kD,ih e,List.map_cons,List.length_map,hga,hLt]
 | case6=>intro w gs q e; simp at e
 | case7=>intro w gs q e; simp at e
theorem aQp {T : List (Nat × Nat)} : ∀ {cks : List CK} {cs w : List V} {gs : List GA},nS T cks cs = some (w,gs) → ∀ (q i : Nat),gs[q]? = some (.own i) → ∃ n sz,T[i]? = some (n,sz) ∧ 0 < sz:=by
 intro cks cs
 fun_induction nS T cks cs with
 | case1=>intro w gs e q i hi; simp only [Option.some.injEq,Prod.mk.injEq] at e; obtain ⟨_,rfl⟩:=e; simp at hi
 | case2 ks c cs ih =>
  intro w gs e q i hi
  simp only [Option.map_eq_some_iff] at e
  obtain ⟨⟨w',gs'⟩,e,h1⟩:=e
  simp only [Prod.mk.injEq] at h1
  obtain ⟨_,rfl⟩:=h1
  exact ih e q i hi
 | case3 sz ks es cs hs ih =>
  intro w gs e q i hi
  simp only [Option.map_eq_some_iff] at e
  obtain ⟨⟨w',gs'⟩,e,h1⟩:=e
  simp only [Prod.mk.injEq] at h1
  obtain ⟨_,rfl⟩:=h1
  cases q with
  | zero=>simp at hi
  | succ q=>exact ih e q i (by simpa using hi)
 | case4=>intro w gs e; simp at e
 | case5 sz ks i0 es cs hs ih =>
  intro w gs e q i hi
  simp only [Option.map_eq_some_iff] at e
  obtain ⟨⟨w',gs'⟩,e,h1⟩:=e
  simp only [Prod.mk.injEq] at h1
  obtain ⟨_,rfl⟩:=h1
  cases q with
  | zero=>simp only [List.getElem?_cons_zero,Option.some.injEq,GA.own.injEq] at hi; subst hi; exact ⟨_,_,hs.2,hs.1⟩
  | succ q=>exact ih e q i (by simpa using hi)
 | case6=>intro w gs e; simp at e
 | case7=>intro w gs e; simp at e
theorem aBr {m : Hp} : ∀ {ks : List AK} {args words : List V} {ls : List Nat} {gs : List GA},pW m ks args = some (words,ls,gs) → (∀ (q i : Nat),gs[q]? = some (.own i) → ∃ n sz,m.T[i]? = some (n,sz) ∧ 0 < sz) ∧ ls.length = (cH ks).length
 | [],[],words,ls,gs,e=>by
  simp only [pW,Option.some.injEq,Prod.mk.injEq] at e
  obtain ⟨_,rfl,rfl⟩:=e
  exact ⟨fun q i hi=>by simp at hi,rfl⟩
 | .v::ks,a::as,words,ls,gs,e=>by
  simp only [pW,Option.map_eq_some_iff] at e
  obtain ⟨⟨w',ls',gs'⟩,e,h1⟩:=e
  simp only [Prod.mk.injEq] at h1
  obtain ⟨_,rfl,rfl⟩:=h1
  exact aBr (ks:=ks) e
 | .b off cks::ks,a::as,words,ls,gs,e=>by
  cases a
  case ptr l o =>
    simp only [pW] at e
    split at e
    ·split at e
     ·split at e
      ·rename_i w gs1 q h1 h2
       simp only [Option.some.injEq,Prod.mk.injEq] at e
       obtain ⟨_,rfl,rfl⟩:=e
       obtain ⟨i1,i2⟩:=aBr (words:=q.1) (ls:=q.2.1) (gs:=q.2.2) h2
       refine ⟨fun p i hi=>?_,by simp [cH,i2]⟩
       rw [List.getElem?_append] at hi
       split at hi
       ·exact aQp h1 _ _ hi
       ·exact i1 _ _ hi
      ·simp at e
     ·simp at e
    ·simp at e
  all_goals simp [pW] at e
 | [],_::_,_,_,_,e=>by simp [pW] at e
 | .v::_,[],_,_,_,e=>by simp [pW] at e
 | .b _ _::_,[],_,_,_,e=>by simp [pW] at e
theorem b6z (k:Mem κ h m) {ks:List AK} {args words:List V} {ls:List Nat} {gs:List GA} (e:pW m ks args=some (words,ls,gs)) (h1:a8p ls) (h2:aEe gs):yY κ ls gs where
 nb:=h1
 ng:=h2
 ex p i hi:=by
  obtain ⟨n,sz,h3,h4⟩:=(aBr e).1 p i hi
  rw [← k.2.2,List.getElem?_map,Option.map_eq_some_iff] at h3
  obtain ⟨L,hL,hLt⟩:=h3
  refine ⟨L,hL,fun hk=>?_⟩
  unfold iF.told at hLt
  rw [if_pos hk] at hLt
  simp only [Prod.mk.injEq] at hLt
  omega
theorem aK1 (k:Mem κ h m) {LS:List Nat} {GS:List GA} : ∀ {ks:List AK} {args words:List V} {ls:List Nat} {gs:List GA} {b q:Nat} {xs:List Value},pW m ks args=some (words,ls,gs)→aN words=true →
  (∀ (i l : Nat),ls[i]? = some l → LS[b + i]? = some l) → (∀ (i : Nat) g,gs[i]? = some g → GS[q + i]? = some g) → aB κ h args xs →
  aB (part κ LS GS) h (lM b q ks words).1 xs∧(lM b q ks words).2.1.length=ls.length∧(lM b q ks words).2.2=gs.map (fun g=>(GA.aU κ g).told) ∧
  ∀ (j l cV : Nat) c,ls[j]? = some l → κ.box l = some cV → (lM b q ks words).2.1[j]? = some c → ∃ o,h[cV]? = some o ∧ tF (part κ LS GS) h c o
 | [],[],words,ls,gs,b,q,xs,e,hc,hl,hg,r=>by
  simp only [pW,Option.some.injEq,Prod.mk.injEq] at e
  obtain ⟨rfl,rfl,rfl⟩:=e
  obtain rfl:=r.lC
  exact ⟨aB.nil,rfl,rfl,fun j l cV c h1=>by simp at h1⟩
 | .v::ks,a::as,words,ls,gs,b,q,xs,e,hc,hl,hg,r=>by
  simp only [pW,Option.map_eq_some_iff] at e
  obtain ⟨⟨w',ls',gs'⟩,e,h1⟩:=e
  simp only [Prod.mk.injEq] at h1
  obtain ⟨rfl,rfl,rfl⟩:=h1
  simp only [aN,Bool.and_eq_true] at hc
  obtain ⟨x,xs',rfl,rx,r'⟩:=r.fP
  obtain ⟨h2,h3,h4,h5⟩:=aK1 k e hc.2 hl hg r'
  exact ⟨aB.cons (aJp (κ:=κ) (κ':=part κ LS GS) (fun _=>Nat.le_refl _) rx hc.1) h2,h3,h4,h5⟩
 | .b off cks::ks,a::as,words,ls,gs,b,q,xs,e,hc,hl,hg,r=>by
  cases a
  case ptr l o =>
    simp only [pW] at e
    split at e
    ·rename_i ho
     subst ho
     split at e
     ·rename_i cs hcs
      split at e
      ·rename_i w gs1 qq h1 h2
       obtain ⟨ws',ls',gs'⟩:=qq
       simp only [Option.some.injEq,Prod.mk.injEq] at e
       obtain ⟨rfl,rfl,rfl⟩:=e
       simp only [aN,Bool.and_eq_true,V.aV] at hc
       obtain ⟨x,xs',rfl,rx,r'⟩:=r.fP
       have hlen:∀ {xs0:List Value},aB κ h cs xs0→aB (part κ LS GS) h (kD q cks w).1 xs0∧(kD q cks w).2=gs1.map fun g=>(GA.aU κ g).told:=fun r0 =>
        a6k (κp:=part κ LS GS) k.2.2 (fun _=>Nat.le_refl _) h1 hc.1 (fun i g hi=>by
         have:=hg i g (by rw [List.getElem?_append_left (List.getElem?_eq_some_iff.1 hi).1]; exact hi)
         simp only [part,List.getElem?_map,this]; rfl) r0
       obtain ⟨cV,hblk,hx⟩:=hZ rx
       obtain ⟨ob,hob,xs0,E,hoe,hr0,hone⟩:=k.2.1.2 l cV (.cells cs) hblk hcs
       obtain ⟨g1,g2⟩:=hlen hr0
       have gl:(kD q cks w).2.length=gs1.length:=by rw [g2,List.length_map]
       obtain ⟨h3,h4,h5,h6⟩:=aK1 (LS:=LS) (GS:=GS) (b:=b+1) (q:=q+(kD q cks w).2.length) k h2 hc.2
        (fun i l hi=>by rw [show b+1+i=b+(i+1) by omega]; exact hl (i+1) l (by simpa using hi))
        (fun i g hi=>by
         rw [gl,show q+gs1.length+i=q+(gs1.length+i) by omega]
         refine hg (gs1.length+i) g ?_
         rw [List.getElem?_append_right (by omega),show gs1.length+i - gs1.length=i by omega]; exact hi) r'
       refine ⟨aB.cons ?_ h3,by simp only [lM,List.length_cons,h4],by simp only [lM]; rw [h5,g2,List.map_append],fun j l' blk' c hj hb hcj=>?_⟩
       ·rw [hx]
        refine .ptr b o cV ?_
        have:=hl 0 l rfl
        rw [Nat.add_zero] at this
        simp only [part,this]
        exact hblk
       ·cases j with
        | zero =>
         simp only [List.getElem?_cons_zero,Option.some.injEq] at hj
         subst hj
         simp only [lM,List.getElem?_cons_zero,Option.some.injEq] at hcj
         subst hcj
         rw [hblk] at hb
         simp only [Option.some.injEq] at hb
         subst hb
         exact ⟨ob,hob,xs0,E,hoe,g1,hone⟩
        | succ j =>
         simp only [List.getElem?_cons_succ] at hj
         simp only [lM,List.getElem?_cons_succ] at hcj
         exact h6 j l' blk' c hj hb hcj
      ·simp at e
     ·simp at e
    ·simp at e
  all_goals simp [pW] at e
 | [],_::_,_,_,_,_,_,_,e,_,_,_,_=>by simp [pW] at e
 | .v::_,[],_,_,_,_,_,_,e,_,_,_,_=>by simp [pW] at e
 | .b _ _::_,[],_,_,_,_,_,_,e,_,_,_,_=>by simp [pW] at e
theorem aL3 {m1 : Hp} : ∀ {kss : List (List CK)} {b : Nat} {outs : List V} {gs : List GA},a6j m1 b kss = some (outs,gs) → (∀ (q i : Nat),gs[q]? = some (.own i) → ∃ n sz,m1.T[i]? = some (n,sz) ∧ 0 < sz) ∧ outs.length = kss.length
 | [],b,outs,gs,e=>by
  simp only [a6j,Option.some.injEq,Prod.mk.injEq] at e
  obtain ⟨rfl,rfl⟩:=e
  exact ⟨fun q i hi=>by simp at hi,rfl⟩
 | cks::kss,b,outs,gs,e=>by
  simp only [a6j] at e
  split at e
  ·split at e
   ·rename_i w gs1 q h1 h2
    simp only [Option.some.injEq,Prod.mk.injEq] at e
    obtain ⟨rfl,rfl⟩:=e
    obtain ⟨i1,i2⟩:=aL3 (outs:=q.1) (gs:=q.2) h2
    refine ⟨fun p i hi=>?_,by simp [i2]⟩
    rw [List.getElem?_append] at hi
    split at hi
    ·exact aQp h1 _ _ hi
    ·exact i1 _ _ hi
   ·simp at e
  ·simp at e
theorem aT9 (k1:Mem κ1 h1 m1) (hw:∀ b,κ1.hw b≤κ'.hw b):∀ {kss:List (List CK)} {b q:Nat} {outs:List V} {gos:List GA} {ls:List Nat} {H:List LO},a6j m1 b kss=some (outs,gos)→ls.length=kss.length→aN outs=true →
  (∀ (i : Nat) g,gos[i]? = some g → κ'.aU[q + i]? = some (GA.aU κ1 g)) → a8p ls →
  (p8 q kss ls outs H).2 = gos.map (fun g=>(GA.aU κ1 g).told) ∧ (p8 q kss ls outs H).1.length = H.length ∧ (∀ l : Nat,(∀ i : Nat,ls[i]? ≠ some l) → (p8 q kss ls outs H).1[l]? = H[l]?) ∧
  ∀ (j l cV : Nat) c,ls[j]? = some l → κ1.box (b + j) = some cV → (p8 q kss ls outs H).1[l]? = some c → ∃ o,h1[cV]? = some o ∧ tF κ' h1 c o
 | [],b,q,outs,gos,ls,H,e,hl,hc,hg,hd=>by
  simp only [a6j,Option.some.injEq,Prod.mk.injEq] at e
  obtain ⟨rfl,rfl⟩:=e
  obtain rfl:=List.eq_nil_of_length_eq_zero hl
  exact ⟨rfl,rfl,fun _ _=>rfl,fun j l cV c h1=>by simp at h1⟩
 | cks::kss,b,q,outs,gos,[],H,e,hl,hc,hg,hd=>by simp at hl
 | cks::kss,b,q,outs,gos,l::ls,H,e,hl,hc,hg,hd=>by
  simp only [a6j] at e
  split at e
  ·rename_i cs hcs
   split at e
   ·rename_i w gs1 qq h2 h3
    obtain ⟨ws',gs'⟩:=qq
    simp only [Option.some.injEq,Prod.mk.injEq] at e
    obtain ⟨rfl,rfl⟩:=e
    simp only [aN,Bool.and_eq_true,V.aV] at hc
    have hlen:∀ {xs0:List Value},aB κ1 h1 cs xs0→aB κ' h1 (kD q cks w).1 xs0∧(kD q cks w).2=gs1.map fun g=>(GA.aU κ1 g).told:=fun r0 =>
     a6k k1.2.2 hw h2 hc.1 (fun i g hi=>hg i g (by rw [List.getElem?_append_left (List.getElem?_eq_some_iff.1 hi).1]; exact hi)) r0
    have told:(kD q cks w).2=gs1.map fun g=>(GA.aU κ1 g).told:=b23 k1.2.2 h2
    have gl:(kD q cks w).2.length=gs1.length:=by rw [told,List.length_map]
    have hd':a8p ls:=fun i j n h4 h5=>by
     have:=hd (i+1) (j+1) n (by simpa using h4) (by simpa using h5)
     omega
    have hn : ∀ i : Nat,ls[i]? ≠ some l:=fun i hi=>by
     have:=hd 0 (i+1) l rfl (by simpa using hi)
     omega
    obtain ⟨h4,h5,h6,h7⟩:=aT9 (H:=H.set l (.cells (kD q cks w).1)) (b:=b+1) (q:=q+(kD q cks w).2.length) k1 hw h3 (by simpa using hl) hc.2
     (fun i g hi=>by
      rw [gl,show q+gs1.length+i=q+(gs1.length+i) by omega]
      refine hg (gs1.length+i) g ?_
      rw [List.getElem?_append_right (by omega),show gs1.length+i - gs1.length=i by omega]; exact hi) hd'
    refine ⟨by simp only [p8]; rw [h4,told,List.map_append],by simp only [p8,h5,List.length_set],fun l' hl'=>?_,fun j l' cV c hj hb hcj=>?_⟩
    ·simp only [p8]
     rw [h6 l' fun i hi=>hl' (i+1) (by simpa using hi),List.getElem?_set_ne (fun e=>hl' 0 (by simp [e]))]
    ·cases j with
     | zero =>
      simp only [List.getElem?_cons_zero,Option.some.injEq] at hj
      subst hj
      simp only [p8] at hcj
      rw [h6 l hn] at hcj
      have hlt:l < H.length:=by have:=(List.getElem?_eq_some_iff.1 hcj).1; simpa using this
      rw [List.getElem?_set_self hlt] at hcj
      simp only [Option.some.injEq] at hcj
      subst hcj
      obtain ⟨ob,hob,xs0,E,hoe,hr0,hone⟩:=k1.2.1.2 b cV (.cells cs) hb hcs
      exact ⟨ob,hob,xs0,E,hoe,(hlen hr0).1,hone⟩
     | succ j =>
      simp only [List.getElem?_cons_succ] at hj
      simp only [p8] at hcj
      exact h7 j l' cV c hj (by rw [show b+1+j=b+(j+1) by omega]; exact hb) hcj
   ·simp at e
  ·simp at e
theorem b24 {P:Program} {f:FuncId} {sg:n6} {words rs args:List V} {ls:List Nat} {gs:List GA} {m:Hp} (e:pW m sg.as args=some (words,ls,gs)) (h1:a8p ls) (h2:aEe gs) (hw:aN words=true) (hr:aN rs=true)
  (hp:(pack (rs.take sg.cF)).plain=true) (hF:Callee P f sg words rs) :
  xE P f args m (pack (rs.take sg.cF)) ⟨(p8 m.T.length (cH sg.as) ls (rs.drop sg.cF) m.H).1,a1k gs m.T++(p8 m.T.length (cH sg.as) ls (rs.drop sg.cF) m.H).2⟩:=by
 intro κ w xs k ra
 have p:=b6z k e h1 h2
 obtain ⟨a1,a2,a3,a4⟩:=aK1 (LS:=ls) (GS:=gs) (b:=0) (q:=0) k e hw (fun i l h=>by rw [Nat.zero_add]; exact h) (fun i g h=>by rw [Nat.zero_add]; exact h) ra
 have km:Mem (part κ ls gs) w.heap ⟨(lM 0 0 sg.as words).2.1,(lM 0 0 sg.as words).2.2⟩:=by
  have:=b2w (gs:=gs) k p a2 (fun b l cV c hl hb hc=>a4 b l cV c hl hb hc)
  rw [a3]
  simpa [part,List.map_map,Function.comp_def] using this
 refine (hF (part κ ls gs) w xs km a1).mono fun e0 w' ⟨x,κ1,m1,he,hx,hv,gos,hend,hdist⟩=>?_
 obtain ⟨o1,o2⟩:=aL3 hend
 have q:sW κ1 gos:=⟨hdist,fun p i hi=>by
  obtain ⟨n,sz,h3,_⟩:=o1 p i hi
  rw [← hx.mem.2.2,List.getElem?_map,Option.map_eq_some_iff] at h3
  obtain ⟨L,hL,_⟩:=h3
  exact ⟨L,hL⟩⟩
 have hkl:κ.aU.length=m.T.length:=by rw [← k.2.2,List.length_map]
 have hlen:=(aBr e).2
 have hcr:aN (rs.drop sg.cF)=true:=rP.2 fun v hv=>rP.1 hr v (List.mem_of_mem_drop hv)
 obtain ⟨b1,b2,b3,b4⟩:=aT9 (κ':=back κ κ1 gs gos) (H:=m.H) (b:=0) (q:=m.T.length) hx.mem (fun b=>Nat.le_refl _) hend hlen hcr (fun i g hi=>by
  simp only [back]
  rw [List.getElem?_append_right (by simp; omega)]
  simp only [List.length_mapIdx,hkl,Nat.add_sub_cancel_left,List.getElem?_map,hi]
  rfl) h1
 refine ⟨x,back κ κ1 gs gos,he,⟨aT6 p hx.le q,?_,by simp only [b2]; exact Nat.le_refl _,fun l _ hb=>hb,hx.os,hx.out⟩,a0n (κ:=κ1) (κ':=back κ κ1 gs gos) (fun b=>Nat.le_refl _) hv hp⟩
 refine back_mem k p hx.le hx.mem q b2 (fun l hl=>b3 l hl) (fun b l cV c hl hb hc=>b4 b l cV c hl ?_ hc) (by rw [b1])
 rw [Nat.zero_add]
 refine hx.le.box b cV ?_
 simp only [part,hl]
 exact hb
end
end Go.Fbs

/- From code to the small language. -/
namespace Go.Fbs
inductive TD where
 | bool | int (k:IntKind) | str
 | sl (e:TypeId)
 | st (fs:List (Nat×TypeId))
 | arr (n:Nat) (e:TypeId)
 | other
 deriving Inhabited
structure TI where
 t:TypeId
 d:TD
 sz:Nat
 agg:Bool
 dI:Nat
 z:Option (List V)
 eq:Bool
 deriving Inhabited
def aJq:List TI→TypeId→Option TI
 | [],_=>none
 | i::r,t=>bif Nat.beq i.t t then some i else aJq r t
def assoc {α:Type} : List (Nat×α)→Nat→Option α
 | [],_=>none
 | (j,x)::r,i=>bif Nat.beq j i then some x else assoc r i
structure TT where
 ts:List TI
 sg:bE9
 dyn:List Nat
def TT.dy (tt:TT) (l:List Nat):TT:=⟨tt.ts,tt.sg,l⟩
def eX (tt:TT) (t:TypeId):Option TI:=aJq tt.ts t
def a45 (tt:TT) (e:FuncId):Option (FuncId×n6):=bif Nat.ble a1m e then assoc tt.sg e else none
def isE (tt:TT) (f:FuncId):Bool:=tt.sg.any fun q=>Nat.beq q.2.1 f
def aHp (P:Program) (t:TypeId):TD→Prop
 | .bool=>P.underlying t=some .bool
 | .int k=>P.underlying t=some (.int k)
 | .str=>P.underlying t=some .string
 | .sl e=>P.underlying t=some (.slice e)
 | .st fs => ∃ a : Array Field, P.underlying t = some (.struct a) ∧ a.toList.map (fun f => (f.offset, f.type)) = fs ∧ a.toList.all (fun f => f.name != "_") = true
 | .arr n e=>P.underlying t=some (.array n e)
 | .other=>True
structure aZ (P:Program) (i:TI):Prop where
 d:aHp P i.t i.d
 sz:fB P i.t=some i.sz
 agg:lH P i.t=some i.agg
 dI:kY P i.t=some i.dI
 z:∀ z,i.z=some z→∃ v,jY P i.t=some v∧v.cells=z∧(i.agg=true→v = .agg z)∧(i.agg=false→z=[v])
 eq:i.eq=true→P.stoodInHeld i.t=false∧P.eqGuardType P.depth i.t=false
def a9r (tt:TT) (f:TypeId→Option (List Nat)):Nat→List (Nat×TypeId)→Option (List Nat)
 | _,[]=>some []
 | n,(off,t)::r =>
  match eX tt t,f t with
  | some ti,some q=>bif Nat.beq off n && Nat.blt 0 ti.sz then (a9r tt f (n+ti.sz) r).map (q ++ ·) else none
  | _,_=>none
def leaves (tt:TT):Nat→TypeId→Option (List Nat)
 | 0,_=>none
 | d+1,t =>
  match eX tt t with
  | some ti =>
   match ti.d with
   | .bool=>bif Nat.beq ti.sz 1 && !ti.agg then some [0] else none
   | .int _=>bif Nat.beq ti.sz 1 && !ti.agg then some [1] else none
   | .str=>bif Nat.beq ti.sz 1 && !ti.agg then some [2] else none
   | .st fs =>
    bif ti.eq && ti.agg then
     match a9r tt (leaves tt d) 0 fs with
     | some q=>bif Nat.beq q.length ti.sz then some q else none
     | none=>none
    else none
   | _=>none
  | none=>none
abbrev Gd:=Option (A×Bool)
inductive SV where
 | val (a:A)
 | mL (a:A) (g:Gd)
 | grow (k sz:Nat) (a:A)
 | nA
 | elem (a:A) (n off:Nat) (g:Gd)
 | ptr (b off:Nat) (g:Gd)
 | pix (b off n:Nat) (i:A) (g:Gd)
 | stv (a:A) (nl:List Nat)
 | clo (f:Nat) (caps:List (Nat×Nat))
 deriving Inhabited
structure SS where
 cR:List (Nat×SV)
 boxes:List (Option (List SV))
 known:List (Nat×Nat)
 dM:List Nat
 a1o:List Nat
 nv:Nat
 nk:Nat
 dep:Nat
 own:Nat
 deriving Inhabited
def SS.look (S:SS) (t:Nat):Option SV:=assoc S.cR t
def aEh:A:=.k (.sl .ro [])
def vO:SV:=.val (.k .undef)
def SV.a? : SV → Option A
 | .val a=>some a
 | .grow _ _ a=>some a
 | .nA=>some aEh
 | .stv a _=>some a
 | _=>none
def a5l:V→SV
 | .sl .full []=>.nA
 | v=>.val (.k v.aL)
def SS.j6 (S:SS):Operand→Option SV
 | .tmp t=>S.look t
 | .const v=>(V.oS v).map a5l
 | .func f=>some (.val (.k (.func f [])))
 | .global _=>none
def SS.opA (S:SS) (x:Operand):Option A:=(S.j6 x).bind SV.a?
def SS.bFa (S:SS):List Operand→Option (List A)
 | []=>some []
 | x::xs =>
  match S.opA x,S.bFa xs with
  | some a,some as=>some (a::as)
  | _,_=>none
def SS.bF6 (S:SS):Option Operand→Option (Option A)
 | none=>some none
 | some x=>(S.opA x).map some
def a7h:V→V→Bool
 | .bool a,.bool b=>a == b
 | .int k a,.int k' b=>decide (k=k') && decide (a=b)
 | .str a,.str b=>decide (a=b)
 | .dK,.dK=>true
 | .sl .ro [],.sl .ro []=>true
 | _,_=>false
def A.same:A→A→Bool
 | .v i,.v j=>Nat.beq i j
 | .c i j,.c i' j'=>Nat.beq i i' && Nat.beq j j'
 | .k x,.k y=>a7h x y
 | _,_=>false
def Gd.same:Gd→Gd→Bool
 | none,none=>true
 | some (a,b),some (a',b')=>a.same a' && (b == b')
 | _,_=>false
def aFr:List (Nat×Nat)→List (Nat×Nat)→Bool
 | [],[]=>true
 | (a,b)::r,(a',b')::r'=>Nat.beq a a' && Nat.beq b b' && aFr r r'
 | _,_=>false
def SV.same:SV→SV→Bool
 | .nA,.nA=>true
 | .elem a n off g,.elem a' n' off' g'=>a.same a' && Nat.beq n n' && Nat.beq off off' && g.same g'
 | .ptr b off g,.ptr b' off' g'=>Nat.beq b b' && Nat.beq off off' && g.same g'
 | .pix b off n i g,.pix b' off' n' i' g'=>Nat.beq b b' && Nat.beq off off' && Nat.beq n n' && i.same i' && g.same g'
 | .clo f l,.clo f' l'=>Nat.beq f f' && aFr l l'
 | _,_=>false
def SV.ag (g:Gd):SV→Option A
 | .mL a g'=>bif g'.same g then some a else none
 | s=>s.a?
def SS.jS (S:SS) (g:Gd) (x:Operand):Option A:=(S.j6 x).bind (SV.ag g)
def SS.nC (S:SS) (g:Gd):List Operand→Option (List A)
 | []=>some []
 | x::xs =>
  match S.jS g x,S.nC g xs with
  | some a,some as=>some (a::as)
  | _,_=>none
def SS.a7n (S:SS) (g:Gd):Option Operand→Option (Option A)
 | none=>some none
 | some x=>(S.jS g x).map some
def SV.pk (g side:Gd) (s:SV):Option A :=
 match s.ag g with
 | some a=>some a
 | none=>s.ag side
def SS.aBs (S:SS) (g side:Gd) (x:Operand):Option A:=(S.j6 x).bind (SV.pk g side)
def SV.fits (s:Option SV) (t:SV):Bool :=
 match s,t with
 | some s,.val a=>(match s.a? with | some a'=>a'.same a | none=>false)
 | some s,t=>s.same t
 | none,_=>false
def A.below (n:Nat):A→Bool
 | .v i=>Nat.blt i n
 | .c i _=>Nat.blt i n
 | .k _=>true
def Gd.below (n:Nat):Gd→Bool
 | none=>true
 | some (a,_)=>a.below n
def SV.below (n:Nat):SV→Bool
 | .val a=>a.below n
 | .mL a g=>a.below n && g.below n
 | .grow _ _ a=>a.below n
 | .nA=>true
 | .elem a _ _ g=>a.below n && g.below n
 | .ptr _ _ g=>g.below n
 | .pix _ _ _ i g=>i.below n && g.below n
 | .stv a _=>a.below n
 | .clo _ _=>true
def SS.lZ (S:SS) (a:A) (n:Nat):Bool :=
 match a with
 | .v i=>(match assoc S.known i with | some m=>Nat.beq m n | none=>false)
 | .c i j=>Nat.beq n 0 && (match assoc S.known i with | some m=>Nat.blt j m | none=>false)
 | .k x=>Nat.beq n 0 && sc x
def cellsOf (i:Nat):Nat→Nat→List A
 | 0,_=>[]
 | n+1,j=>.c i j::cellsOf i n (j+1)
def aK2 (n:Nat):Option Nat:=bif Nat.beq n 0 then none else some n
def sX:E→Option Nat
 | .pE _ | .gD _ | .bin .. | .eqB .. | .eqA .. | .un .. | .mm .. | .xZ .. | .vM _ | .vN _ | .slS .. | .slL .. | .aWz .. | .lit .. | .make .. | .app .. | .aQl .. | .fn .. | .aW1 _ | .aW2 _ | .inb .. | .nth ..=>some 0
 | .aW0 g n _ _=>bif g then aK2 n else some 0
 | .part g n _ _=>bif g then aK2 n else some 0
 | .chk n _=>aK2 n
 | .agg l=>aK2 l.length
 | _=>none
abbrev OL:=Option L
def l3 (l:List Nat) (t:Nat):Bool:=l.any (Nat.beq t)
def SS.isB (S:SS):A→Bool
 | .v i=>l3 S.dM i
 | .k x=>uQ x
 | _=>false
def aFs:BinOp→Bool
 | .eql | .neq | .lss | .leq | .gtr | .geq=>true
 | _=>false
def aBt (S:SS):E→Bool
 | .bin op _ _=>aFs op
 | .eqB .. | .eqA .. | .un .not _=>true
 | .pick _ a b=>S.isB a && S.isB b
 | _=>false
def SS.l8 (S:SS) (nv:Nat) (kn:List (Nat×Nat)) (bl:List Nat×List Nat):SS:={ S with nv:=nv,known:=kn,dM:=bl.1,a1o:=bl.2 }
def SS.zZ (S:SS):A→List Nat
 | .v i=>bif l3 S.dM i then S.dM else i::S.dM
 | _=>S.dM
def SS.sure (S:SS):A→Bool
 | .v i=>!l3 S.a1o i
 | .c i _=>!l3 S.a1o i
 | .k _=>true
def emit (g:Gd) (e:E) (S:SS) (k:A→SS→OL):OL :=
 (k (.v S.nv) (S.l8 (S.nv+1)
  (match g,sX e with
   | none,some n=>(S.nv,n)::S.known
   | _,_=>S.known)
  (bif aBt S e then S.nv::S.dM else S.dM,match g with | none=>S.a1o | some _=>S.nv::S.a1o))).map (L.bind e g)
def sY (g:Gd) (e:E) (S:SS) (k:SV→SS→OL):OL:=emit g e S fun a S=>k (.val a) S
def kF (g:Gd) (as:List A) (e:E) (S:SS) (k:SV→SS→OL):OL :=
 match g with
 | none=>sY none e S k
 | some q=>bif as.all S.sure then emit none e S fun a S=>k (.mL a (some q)) S else sY (some q) e S k
def aW4 (g:Gd) (op:BinOp) (a b:A) (S:SS) (k:SV→SS→OL):OL :=
 match op with
 | .quo | .rem | .shl | .shr=>sY g (.bin op a b) S k
 | _=>kF g [a,b] (.bin op a b) S k
def a1q (g:Gd) (n:Nat) (a:A) (S:SS) (k:List A→SS→OL):OL :=
 bif Nat.beq n 0 then none else
 match a with
 | .v i=>bif S.lZ (.v i) n then k (cellsOf i n 0) S else emit g (.chk n a) S fun _ S'=>k (cellsOf S.nv n 0) S'
 | a=>emit g (.chk n a) S fun _ S'=>k (cellsOf S.nv n 0) S'
def aEi (g:Gd) (a:A) (S:SS) (k:A→SS→OL):OL :=
 bif S.lZ a 0 then k a S else emit g (.aW2 a) S k
def j1 {α:Type} (cs:List α) (off:Nat) (new:List α):List α:=cs.take off++new++cs.drop (off+new.length)
def a32 (tt:TT) (g:Gd) (place:Nat→Option (Nat×TypeId)):List (Nat×Operand)→List A→SS→(List A→SS→OL)→OL
 | [],cs,S,k=>k cs S
 | (i,x)::r,cs,S,k =>
  match place i,S.jS g x with
  | some (off,t),some a =>
   match eX tt t with
   | some ti =>
    bif Nat.ble (off+ti.sz) cs.length then
     bif ti.agg then a1q g ti.sz a S fun l S'=>a32 tt g place r (j1 cs off l) S' k
     else bif Nat.beq ti.sz 1 then aEi g a S fun a' S'=>a32 tt g place r (j1 cs off [a']) S' k else none
    else none
   | none=>none
  | _,_=>none
def a9s:Nat→List (Nat×Operand)→Bool
 | _,[]=>true
 | n,(i,_)::r=>Nat.beq i n && a9s (n+1) r
def aFt:List SV→Option (List A)
 | []=>some []
 | s::r =>
  match s.a?,aFt r with
  | some a,some as=>some (a::as)
  | _,_=>none
def aUa:List A→Option Nat
 | .c i 0::_=>some i
 | _=>none
def a2m (i:Nat):Nat→List A→Bool
 | _,[]=>true
 | j,.c i' j'::r=>Nat.beq i i' && Nat.beq j j' && a2m i (j+1) r
 | _,_=>false
def l4 (k:Nat):SV→SV
 | .grow k' sz a=>bif Nat.beq k k' then .val a else .grow k' sz a
 | s=>s
def SS.l4 (S:SS) (k:Nat):SS :=
 {S with cR:=S.cR.map (fun p=>(p.1,Fbs.l4 k p.2)),boxes:=S.boxes.map (Option.map (List.map (Fbs.l4 k))) }
def aJr (ti:TI) (g:Gd) (cells:List SV) (off:Nat) (S:SS) (k:SV→SS→OL):OL :=
 bif ti.agg then
  bif Nat.ble (off+ti.sz) cells.length then
  match aFt ((cells.drop off).take ti.sz) with
  | some as =>
   match g,aUa as with
   | none,some i=>bif a2m i 0 as && S.lZ (.v i) ti.sz && Nat.beq as.length ti.sz then k (.val (.v i)) S else kF g as (.agg as) S k
   | _,_=>kF g as (.agg as) S k
  | none=>none
  else none
 else
  match cells[off]? with
  | some s =>
   match g with
   | none=>k s S
   | some _=>(match s.a? with | some a=>k (.mL a g) S | none=>none)
  | none=>none
def lN (have_:Gd) (op:Gd):Bool :=
 match have_ with
 | none=>true
 | some _=>have_.same op
def cellsIn:List CK→List SV→Option (List A×List Nat)
 | [],[]=>some ([],[])
 | .pl::ks,s::ss =>
  match s.a?,cellsIn ks ss with
  | some a,some q=>some (a::q.1,q.2)
  | _,_=>none
 | .gr sz::ks,s::ss =>
  match s,cellsIn ks ss with
  | .grow k sz' a,some q=>bif Nat.beq sz' sz && Nat.blt 0 sz then some (a::q.1,k::q.2) else none
  | .nA,some q=>bif Nat.blt 0 sz then some (aEh::q.1,q.2) else none
  | _,_=>none
 | _,_=>none
inductive AI where
 | w (a:A)
 | b (b:Nat) (as:List A) (ks:List CK)
 deriving Inhabited
def yZ (S:SS):List AK→List Operand→Option (List AI×List Nat)
 | [],[]=>some ([],[])
 | .v::ks,x::xs =>
  match S.opA x,yZ S ks xs with
  | some a,some q=>some (.w a::q.1,q.2)
  | _,_=>none
 | .b off cks::ks,x::xs =>
  match S.j6 x with
  | some (.ptr b o none) =>
   bif Nat.beq o off then
    match S.boxes[b]? with
    | some (some cells) =>
     match cellsIn cks cells,yZ S ks xs with
     | some (as,ids),some q=>some (.b b as cks::q.1,ids++q.2)
     | _,_=>none
    | _=>none
   else none
  | _=>none
 | _,_=>none
def mH:List AI→List Nat
 | []=>[]
 | .w _::r=>mH r
 | .b b _ _::r=>b::mH r
def vP (l:List Nat) (t:Nat):Bool:=l.any (Nat.beq t)
def zI:List Nat→Bool
 | []=>true
 | n::r=>!vP r n && zI r
def aJs:List AI→SS→(List A→SS→OL)→OL
 | [],S,k=>k [] S
 | .w a::r,S,k=>aJs r S fun l S'=>k (a::l) S'
 | .b _ as _::r,S,k=>emit none (.agg as) S fun y S'=>aJs r S' fun l S''=>k (y::l) S''
def SS.r7 (S:SS):List Nat→SS
 | []=>S
 | q::r=>(S.l4 q).r7 r
def SS.forget (S:SS):List Nat→SS
 | []=>S
 | b::r=>({ S with boxes:=S.boxes.set b none } : SS).forget r
def kQ (z:Nat):Nat→Nat→List CK→List SV
 | _,_,[]=>[]
 | j,q,.pl::ks=>.val (.c z j)::kQ z (j+1) q ks
 | j,q,.gr sz::ks=>.grow q sz (.c z j)::kQ z (j+1) (q+1) ks
def tU:List CK→Nat
 | []=>0
 | .pl::ks=>tU ks
 | .gr _::ks=>tU ks+1
def aJt (y:A):Nat→List AI→SS→(SS→OL)→OL
 | _,[],S,k=>k S
 | i,.w _::r,S,k=>aJt y i r S k
 | i,.b b _ ks::r,S,k=>emit none (.ext y i) S fun z S=>emit none (.chk ks.length z) S fun _ S' =>
   aJt y (i+1) r { S' with boxes:=S'.boxes.set b (some (kQ S.nv 0 S'.nk ks)),nk:=S'.nk+tU ks } k
def b25 (S:SS) (x:Operand):Option (Nat×List SV) :=
 match S.j6 x with
 | some (.ptr b o none) =>
  match S.boxes[b]? with
  | some (some cells)=>some (o,cells)
  | _=>none
 | _=>none
def aQq:V→Bool
 | .sl _ _=>true
 | _=>false
def a2n:CK→SV→Option Bool
 | .pl,_=>some true
 | .gr _,.grow ..=>some true
 | .gr _,.nA=>some true
 | .gr _,.val (.k v)=>bif aQq v then none else some false
 | .gr _,_=>none
def xM:List CK→List SV→Option Bool
 | [],[]=>some true
 | k::ks,s::ss =>
  match xM ks ss with
  | some true=>a2n k s
  | some false=>some false
  | none=>none
 | _,_=>some false
def a47 (S:SS):List AK→List Operand→Option Bool
 | [],[]=>some true
 | .v::ks,_::xs=>a47 S ks xs
 | .b off cks::ks,x::xs =>
  match b25 S x,a47 S ks xs with
  | some q,some r=>bif Nat.beq q.1 off && r then xM cks q.2 else some false
  | _,_=>none
 | _,_=>some false
def a3a (tt:TT) (S:SS) (f:FuncId) (xs:List Operand):List FuncId→Option (FuncId×n6)
 | []=>none
 | e::r =>
  match a45 tt e with
  | some q=>bif Nat.beq q.1 f then (match a47 S q.2.as xs with | some true=>some (e,q.2) | some false=>a3a tt S f xs r | none=>none) else a3a tt S f xs r
  | none=>a3a tt S f xs r
def aNa (tt:TT) (f:FuncId) (xs:List Operand) (S:SS) (k:SV→SS→OL):OL :=
 match a3a tt S f xs (tt.sg.map (·.1)) with
 | some (e,sg) =>
  match yZ S sg.as xs with
  | some (ais,ids) =>
   bif zI ids && zI (mH ais) then
    aJs ais S fun ws S=>emit none (.call e ws) S fun y S =>
     emit none (bif Nat.beq sg.cF 1 then .ext y 0 else .pre sg.cF y) ((S.r7 ids).forget (mH ais)) fun r S =>
      aJt y sg.cF ais S fun S=>k (.val r) S
   else none
  | none=>none
 | none=>none
def aW5 (tt:TT) (fs:List (Nat×TypeId)) (parts:List (Nat×Operand)) (z:List V):List Nat :=
 (List.range z.length).filter fun j=>(match z[j]? with | some (.sl .full [])=>true | _=>false) &&
  parts.all fun q=>match fs[q.1]? with
   | some (off,t)=>(match eX tt t with | some ti=>Nat.blt j off || Nat.ble (off+ti.sz) j | none=>false)
   | none=>false
def aJu (y:A):List Nat→SV
 | []=>.val y
 | nl=>.stv y nl
def a7o (S:SS):List Operand→Option (List (Nat×Nat))
 | []=>some []
 | .tmp t::r =>
  match S.look t,a7o S r with
  | some (.ptr b 0 none),some l=>some ((t,b)::l)
  | _,_=>none
 | _=>none
def aEj (S:SS):List (Nat×Nat)→Bool
 | []=>true
 | (t,b)::r=>(match S.look t with | some (.ptr b' 0 none)=>Nat.beq b b' | _=>false) && aEj S r
def iZ (tt:TT) (g:Gd) (op:Op) (S:SS) (k:SV→SS→OL):OL :=
 match op with
 | .move x | .assign x =>
  match S.j6 x with
  | some s =>
   match g with
   | none=>k s S
   | some _=>(match s.ag g with | some a=>k (.mL a g) S | none=>(match s with | .ptr b off none=>k (.ptr b off g) S | _=>none))
  | none=>none
 | .pick c a b =>
  match S.jS g c with
  | some c' =>
   match S.aBs g (some (c',true)) a,S.aBs g (some (c',false)) b with
   | some a',some b'=>kF g [c',a',b'] (.pick c' a' b') S k
   | _,_=>none
  | none=>none
 | .load t x =>
  match S.j6 x,eX tt t with
  | some (.ptr b off h),some ti =>
   bif lN h g then
    match S.boxes[b]? with
    | some (some cells)=>aJr ti g cells off S k
    | _=>none
   else none
  | some (.elem a n off h),some ti =>
   bif lN h g then
    bif Nat.beq n 0 then
     bif Nat.beq off 0 && !ti.agg then
      match g with
      | none=>k (.val a) S
      | some _=>k (.mL a g) S
     else none
    else bif ti.agg then
     bif Nat.beq off 0 && Nat.beq ti.sz n then
      match g with
      | none=>k (.val a) S
      | some _=>k (.mL a g) S
     else kF g [a] (.part true ti.sz off a) S k
    else
     match g,a with
     | none,.v i=>bif S.lZ (.v i) n && Nat.blt off n then k (.val (.c i off)) S else kF g [a] (.part false 1 off a) S k
     | _,_=>kF g [a] (.part false 1 off a) S k
   else none
  | some (.pix b off n i h),some ti =>
   bif lN h g && !ti.agg then
    match S.boxes[b]? with
    | some (some cells) =>
     match aFt ((cells.drop off).take n) with
     | some as=>sY g (.nth as i) S k
     | none=>none
    | _=>none
   else none
  | _,_=>none
 | .nilCheck x =>
  match S.j6 x with
  | some (.ptr b off h)=>bif g.same h || h.same none && g.same none then k (.ptr b off h) S else none
  | some (.elem a n off h)=>bif g.same h || h.same none && g.same none then k (.elem a n off h) S else none
  | some s=>(match s.ag g with | some a=>sY g (.aW1 a) S k | none=>none)
  | none=>none
 | .binOp op t x y _ =>
  match eX tt t,S.jS g x,S.jS g y with
  | some ti,some a,some b =>
   match ti.d with
   | .int _ | .str=>aW4 g op a b S k
   | .bool=>bif ti.eq then (match op with | .eql=>kF g [a,b] (.eqB false a b) S k | .neq=>kF g [a,b] (.eqB true a b) S k | _=>none) else none
   | .st _=>bif ti.eq && ti.agg then (match leaves tt 20 t with | some qs=>(match op with | .eql=>kF g [a,b] (.eqA qs false a b) S k | .neq=>kF g [a,b] (.eqA qs true a b) S k | _=>none) | none=>none) else none
   | _=>none
  | _,_,_=>none
 | .unOp op _ x =>
  match S.jS g x with
  | some a=>kF g [a] (.un op a) S k
  | none=>none
 | .convert s d x =>
  match eX tt s,eX tt d,S.jS g x with
  | some si,some di,some a =>
   match si.d,di.d with
   | .int _,.int q=>kF g [a] (.xZ q a) S k
   | .str,.str=>kF g [a] (.vM a) S k
   | .sl e,.str=>(match eX tt e with | some ei=>(match ei.d with | .int .u8=>sY g (.vN a) S k | _=>none) | none=>none)
   | _,_=>none
  | _,_,_=>none
 | .slice t x lo hi none =>
  match eX tt t,S.jS g x,S.a7n g lo,S.a7n g hi with
  | some ti,some a,some l,some h =>
   match ti.d with
   | .str=>sY g (.slS a l h) S k
   | .sl e=>(match eX tt e with | some ei=>bif Nat.blt 0 ei.sz then sY g (.slL ei.sz a l h) S k else none | none=>none)
   | _=>none
  | _,_,_,_=>none
 | .field t x f =>
  match eX tt t,S.jS g x with
  | some ti,some a =>
   match ti.d with
   | .st fs =>
    match fs[f]? with
    | some (off,ft) =>
     match eX tt ft with
     | some fi =>
      bif fi.agg then kF g [a] (.part true fi.sz off a) S k
      else bif Nat.beq fi.sz 1 then
       match g,a with
       | none,.v i=>bif S.lZ (.v i) ti.sz && Nat.blt off ti.sz && Nat.blt 0 ti.sz then k (.val (.c i off)) S else kF g [a] (.part false 1 off a) S k
       | _,_=>kF g [a] (.part false 1 off a) S k
      else none
     | none=>none
    | none=>none
   | _=>none
  | _,_=>none
 | .fieldAddr t x f =>
  match eX tt t,S.j6 x with
  | some ti,some s =>
   match ti.d with
   | .st fs =>
    match fs[f]? with
    | some (off,ft) =>
     match eX tt ft with
     | some fi =>
      bif Nat.blt 0 fi.sz then
       match s with
       | .ptr b o h=>bif lN h g then k (.ptr b (o+off) g) S else none
       | .elem a n o h=>bif lN h g && Nat.blt 0 n then k (.elem a n (o+off) g) S else none
       | _=>none
      else none
     | none=>none
    | none=>none
   | _=>none
  | _,_=>none
 | .indexAddr t x i =>
  match S.j6 x with
  | some (.ptr b o h) =>
   match eX tt t,S.jS g i with
   | some ti,some j =>
    match ti.d with
    | .arr n e =>
     match eX tt e with
     | some ei=>bif lN h g && Nat.blt 1 n && Nat.beq ei.sz 1 then emit g (.inb n j) S fun y S'=>k (.pix b o n y g) S' else none
     | none=>none
    | _=>none
   | _,_=>none
  | _ =>
  match eX tt t,S.jS g x,S.jS g i with
  | some ti,some a,some j =>
   match ti.d with
   | .sl e =>
    match eX tt e with
    | some ei=>bif Nat.blt 0 ei.sz && (ei.agg || Nat.beq ei.sz 1) then emit g (.aW0 ei.agg ei.sz a j) S fun y S'=>k (.elem y (bif ei.agg then ei.sz else 0) 0 g) S' else none
    | none=>none
   | _=>none
  | _,_,_=>none
 | .index t x i =>
  match eX tt t,S.jS g x,S.jS g i with
  | some ti,some a,some j =>
   match ti.d with
   | .str=>sY g (.aWz a j) S k
   | .arr n e=>(match eX tt e with | some ei=>sY g (.b2y n ei.agg ei.sz a j) S k | none=>none)
   | _=>none
  | _,_,_=>none
 | .extract x i =>
  match S.jS g x with
  | some a=>kF g [a] (.ext a i) S k
  | none=>none
 | .build t parts =>
  match eX tt t with
  | some ti =>
   match ti.d,ti.z with
   | .st fs,some z=>bif fs.all (fun q=>(eX tt q.2).isSome) then a32 tt g (fun i=>fs[i]?) parts.toList (z.map fun v=>.k v.aL) S (fun cs S'=>match g with | none=>emit none (.agg cs) S' fun y S''=>k (aJu y (aW5 tt fs parts.toList z)) S'' | some _=>kF g cs (.agg cs) S' k) else none
   | .arr _ e,some z =>
    match eX tt e with
    | some ei=>a32 tt g (fun i=>some (i*ei.sz,e)) parts.toList (z.map fun v=>.k v.aL) S (fun cs S'=>kF g cs (.agg cs) S' k)
    | none=>none
   | _,_=>none
  | none=>none
 | .buildSlice t len parts =>
  match eX tt t,S.nC g (parts.toList.map (·.2)) with
  | some ti,some as =>
   match ti.d with
   | .sl e =>
    match eX tt e with
    | some ei =>
     match ei.z with
     | some z =>
      bif a9s 0 parts.toList && Nat.beq as.length len && Nat.blt 0 ei.sz && Nat.beq z.length ei.sz then
       emit g (.lit ei.sz as) S fun y S' =>
        match g with
        | none=>k (.grow S'.nk ei.sz y) { S' with nk:=S'.nk+1 }
        | some _=>k (.val y) S'
      else none
     | none=>none
    | none=>none
   | _=>none
  | _,_=>none
 | .makeFunc (.func f) first caps =>
  match g,a7o S caps.toList with
  | none,some ((t,b)::l)=>bif first.isEmpty && isE tt f then k (.clo f ((t,b)::l)) S else none
  | _,_ =>
  match S.nC g caps.toList with
  | some as=>bif first.isEmpty then sY g (.fn f as) S k else none
  | none=>none
 | .alloc t =>
  match g,eX tt t with
  | none,some ti =>
   match ti.z with
   | some z=>k (.ptr S.boxes.length 0 none) { S with boxes:=S.boxes++[some (z.map a5l)] }
   | none=>none
  | _,_=>none
 | .box t x =>
  match g,eX tt t,S.j6 x with
  | none,some ti,some s =>
   bif ti.agg then
    match s with
    | .val a=>a1q none ti.sz a S fun l S'=>k (.ptr S'.boxes.length 0 none) { S' with boxes:=S'.boxes++[some (l.map .val)] }
    | .stv a nl=>a1q none ti.sz a S fun l S'=>k (.ptr S'.boxes.length 0 none) { S' with boxes:=S'.boxes++[some (l.zipIdx.map fun p=>bif l3 nl p.2 then .nA else .val p.1)] }
    | _=>none
   else
    match s with
    | .val a=>aEi none a S fun a' S'=>k (.ptr S'.boxes.length 0 none) { S' with boxes:=S'.boxes++[some [.val a']] }
    | .grow q sz a=>k (.ptr S.boxes.length 0 none) { S with boxes:=S.boxes++[some [.grow q sz a]] }
    | .nA=>k (.ptr S.boxes.length 0 none) { S with boxes:=S.boxes++[some [.nA]] }
    | _=>none
  | _,_,_=>none
 | .store t x y =>
  match g,eX tt t,S.j6 x,S.j6 y with
  | none,some ti,some (.ptr b off none),some s =>
   match S.boxes[b]? with
   | some (some cells) =>
    bif Nat.ble (off+ti.sz) cells.length then
     bif ti.agg then
      match s with
      | .val a=>a1q none ti.sz a S fun l S'=>k vO { S' with boxes:=S'.boxes.set b (some (j1 cells off (l.map .val))) }
      | .stv a _=>a1q none ti.sz a S fun l S'=>k vO { S' with boxes:=S'.boxes.set b (some (j1 cells off (l.map .val))) }
      | _=>none
     else bif Nat.beq ti.sz 1 then
      match s with
      | .val a=>aEi none a S fun a' S'=>k vO { S' with boxes:=S'.boxes.set b (some (j1 cells off [.val a'])) }
      | .grow q sz a=>k vO { S with boxes:=S.boxes.set b (some (j1 cells off [.grow q sz a])) }
      | .nA=>k vO { S with boxes:=S.boxes.set b (some (j1 cells off [.nA])) }
      | _=>none
     else none
    else none
   | _=>none
  | _,_,_,_=>none
 | .makeSlice t l c =>
  match g,eX tt t,S.opA l,S.opA c with
  | none,some ti,some a,some b =>
   match ti.d with
   | .sl e =>
    match eX tt e with
    | some ei =>
     match ei.z with
     | some z=>bif Nat.blt 0 ei.sz && Nat.beq z.length ei.sz && (ei.agg || Nat.beq ei.sz 1) then
       emit none (.make ei.sz (bif ei.agg then .agg (z.map V.aL) else (z.map V.aL).headD .undef) ei.dI a b) S fun y S'=>k (.grow S'.nk ei.sz y) { S' with nk:=S'.nk+1 } else none
     | none=>none
    | none=>none
   | _=>none
  | _,_,_,_=>none
 | .call c =>
  match c.callee,c.argTypes.toList with
  | .builtin .len,[t] =>
   match eX tt t,S.nC g c.args.toList with
   | some ti,some [a]=>(match ti.d with | .str=>kF g [a] (.pE a) S k | .sl _=>kF g [a] (.gD a) S k | _=>none)
   | _,_=>none
  | .builtin .min,_=>(match S.nC g c.args.toList with | some [a,b]=>kF g [a,b] (.mm false a b) S k | _=>none)
  | .builtin .max,_=>(match S.nC g c.args.toList with | some [a,b]=>kF g [a,b] (.mm true a b) S k | _=>none)
  | .builtin .append,[t,u] =>
   match g,eX tt t,eX tt u,c.args.toList with
   | none,some ti,some ui,[x,y] =>
    match ti.d,S.j6 x,S.opA y with
    | .sl e,some sx,some b =>
     match eX tt e with
     | some ei =>
      match ei.z with
      | some z =>
      bif Nat.blt 0 ei.sz && Nat.beq z.length ei.sz then
       let go:=fun (e:E) (S:SS)=>emit none e S fun y S'=>k (.grow S'.nk ei.sz y) { S' with nk:=S'.nk+1 }
       let with_:=fun (a:A) (S:SS) =>
        match ui.d with
        | .sl _=>go (.app ei.sz ei.dI a b) S
        | .str=>bif Nat.beq ei.sz 1 then go (.aQl ei.dI a b) S else none
        | _=>none
       match sx with
       | .grow q sz a=>bif Nat.beq sz ei.sz then with_ a (S.l4 q) else none
       | .nA=>with_ aEh S
       | _=>none
      else none
      | none=>none
     | none=>none
    | _,_,_=>none
   | _,_,_,_=>none
  | .value (.func f),_ =>
   bif isE tt f then (match g with | none=>aNa tt f c.args.toList S k | some _=>none)
   else (match S.nC g c.args.toList with | some as=>bif Nat.blt f a1m then sY g (.call f as) S k else none | none=>none)
  | .value (.tmp t),_ =>
   bif l3 tt.dyn t then
    match g,S.look t with
    | none,some (.clo f caps)=>bif isE tt f && aEj S caps then aNa tt f (c.args.toList++caps.map fun q=>.tmp q.1) S k else none
    | _,_=>none
   else (match S.jS g (.tmp t),S.nC g c.args.toList with | some a,some as=>sY g (.aJo a as) S k | _,_=>none)
  | .value x,_=>(match S.jS g x,S.nC g c.args.toList with | some a,some as=>sY g (.aJo a as) S k | _,_=>none)
  | _,_=>none
 | _=>none
def SS.put (N:Nat) (S:SS) (d:Option Tmp) (s:SV):Option SS :=
 match d with
 | none=>some S
 | some d=>bif Nat.blt d N then some { S with cR:=(d,s)::S.cR.filter (fun p=>!Nat.beq p.1 d) } else none
def a9t (S:SS) (g:Gd):Op→List Operand
 | .pick c a b =>
  match S.jS g c with
  | some c'=>c::((bif (S.aBs g (some (c',true)) a).isSome then [] else [a])++(bif (S.aBs g (some (c',false)) b).isSome then [] else [b]))
  | none=>[c,a,b]
 | o=>o.operands.toList
def yG (g:Gd):List Operand→SS→(SS→OL)→OL
 | [],S,k=>k S
 | .tmp t::r,S,k =>
  match S.look t with
  | some (.mL a g')=>bif g'.same g then yG g r S k else emit g' (.id a) S fun y S'=>yG g r { S' with cR:=(t,.val y)::S'.cR.filter (fun p=>!Nat.beq p.1 t) } k
  | _=>yG g r S k
 | _::r,S,k=>yG g r S k
def aZ7 (ops:List Oper) (S:SS) (o:Oper) (k:Gd→SS→OL):OL :=
 match o.guard with
 | none=>k none S
 | some (j,want) =>
  match (ops[j]?).bind (·.dst) with
  | some d=>yG none [.tmp d] S fun S =>
   match S.look d with
   | some s =>
    match s.a? with
    | some a=>bif S.isB a then k (some (a,want)) S else emit none (.b2z a) S fun _ S'=>k (some (a,want)) { S' with dM:=S'.zZ a }
    | none=>none
   | none=>none
  | none=>none
def SV.unG (g:Gd):SV→SV
 | .mL a g'=>bif g'.same g then .val a else .mL a g'
 | .ptr b off g'=>bif g'.same g then .ptr b off none else .ptr b off g'
 | s=>s
def SS.unG (S:SS) (g:Gd):SS:={ S with cR:=S.cR.map fun p=>(p.1,p.2.unG g) }
def isSplit (tt:TT):Op→Bool
 | .call c=>(match c.callee with | .value (.func f)=>isE tt f | .value (.tmp t)=>l3 tt.dyn t | _=>false)
 | .store ..=>true
 | _=>false
def aQr:List (A×Bool)→A→Option Bool
 | [],_=>none
 | (x,b)::r,a=>bif x.same a then some b else aQr r a
def aW6:A→Option Bool
 | .k (.bool b)=>some b
 | _=>none
def knB (kn:List (A×Bool)) (a:A):Option Bool :=
 match aW6 a with
 | some b=>some b
 | none=>aQr kn a
def knU (kn:List (A×Bool)) (a:A) (want:Bool):Option Bool :=
 match a with
 | .k .undef=>some (!want)
 | a=>knB kn a
def a1r (kn:List (A×Bool)) (S:SS) (op:Op):Op :=
 match op with
 | .pick c a b =>
  match S.opA c with
  | some c' =>
   match knB kn c' with
   | some true=>bif (S.j6 b).isSome then .move a else .pick c a b
   | some false=>bif (S.j6 a).isSome then .move b else .pick c a b
   | none=>.pick c a b
  | none=>.pick c a b
 | op=>op
def yH (tt:TT) (N:Nat) (ops:List Oper):List (A×Bool)→List Oper→SS→(SS→OL)→OL
 | _,[],S,k=>k S
 | kn,o::rest,S,k =>
  aZ7 ops S o fun g S =>
   match g with
   | some (a,want) =>
    match knU kn a want with
    | some b =>
     bif b == want then yG none (a9t S none (a1r kn S o.op)) S fun S1=>iZ tt none (a1r kn S o.op) S1 fun s S'=>match S'.put N o.dst s with | some S''=>yH tt N ops kn rest S'' k | none=>none
     else match S.put N o.dst vO with | some S'=>yH tt N ops kn rest S' k | none=>none
    | none =>
     bif isSplit tt o.op then
      match iZ tt none o.op (S.unG (some (a,want))) (fun s S'=>match S'.put N o.dst s with | some S''=>yH tt N ops ((a,want)::kn) rest S'' k | none=>none),(match S.put N o.dst vO with | some S'=>yH tt N ops ((a,!want)::kn) rest S' k | none=>none) with
      | some x,some y=>some (.ite a (bif want then x else y) (bif want then y else x))
      | _,_=>none
     else yG (some (a,want)) (a9t S (some (a,want)) o.op) S fun S=>iZ tt (some (a,want)) o.op S fun s S'=>match S'.put N o.dst s with | some S''=>yH tt N ops kn rest S'' k | none=>none
   | none=>yG none (a9t S none (a1r kn S o.op)) S fun S1=>iZ tt none (a1r kn S o.op) S1 fun s S'=>match S'.put N o.dst s with | some S''=>yH tt N ops kn rest S'' k | none=>none
def aQs (tt:TT) (N:Nat) (ops rest:List Oper) (S:SS) (k:SS→OL):OL:=yH tt N ops [] rest S k
inductive Loc where
 | s (t:Nat)
 | c (b j:Nat)
 deriving Inhabited
inductive LK where
 | val (n:Option Nat)
 | grow (sz:Nat)
 deriving Inhabited
inductive OK where
 | loop (r:Nat) | block (id:Nat) | cond (t r:Nat)
 deriving Inhabited
abbrev Vars:=List (Loc×LK)
def OK.same:OK→OK→Bool
 | .loop a,.loop b=>Nat.beq a b
 | .block a,.block b=>Nat.beq a b
 | .cond a q,.cond b r=>Nat.beq a b && Nat.beq q r
 | _,_=>false
def aNb:List (OK×Vars)→OK→Option Vars
 | [],_=>none
 | (j,v)::r,i=>bif j.same i then some v else aNb r i
def z6:Code→Option Nat
 | .region id _ _=>some id
 | .seq a b=>(match z6 a with | some r=>some r | none=>z6 b)
 | .cond _ a b=>(match z6 a with | some r=>some r | none=>z6 b)
 | .block _ b=>z6 b
 | .loop b=>z6 b
 | .scope b=>z6 b
 | _=>none
def bDu (a b:Code):Nat:=match z6 a with | some r=>r | none=>(match z6 b with | some r=>r | none=>0)
def a0a:Code→List Nat
 | .region _ ops _=>ops.toList.filterMap (·.dst)
 | .seq a b=>a0a a++a0a b
 | .cond _ a b=>a0a a++a0a b
 | .block _ b=>a0a b
 | .loop b=>a0a b
 | .scope b=>a0a b
 | _=>[]
def a0q (S:SS) (i:Nat):LK→SV
 | .val _=>.val (.v (S.nv+i))
 | .grow sz=>.grow (S.nk+i) sz (.v (S.nv+i))
def uR (S:SS):Nat→Vars→List (Nat×SV)
 | _,[]=>[]
 | i,(.s t,q)::r=>(t,a0q S i q)::uR S (i+1) r
 | i,(.c _ _,_)::r=>uR S (i+1) r
def mV (S:SS):Nat→Vars→List (Option (List SV))→List (Option (List SV))
 | _,[],bs=>bs
 | i,(.s _,_)::r,bs=>mV S (i+1) r bs
 | i,(.c b j,q)::r,bs =>
  mV S (i + 1) r (match bs[b]? with
   | some (some cells)=>bs.set b (some (cells.set j (a0q S i q)))
   | _=>bs)
def pL (S:SS):Nat→Vars→List (Nat×Nat)
 | _,[]=>[]
 | i,(_,.val (some n))::r=>(S.nv+i,n)::pL S (i+1) r
 | i,_::r=>pL S (i+1) r
def a6l:Vars→List Nat
 | []=>[]
 | (.s t,_)::r=>t::a6l r
 | _::r=>a6l r
def uS:Vars→List (Nat×Nat)
 | []=>[]
 | (.c b j,_)::r=>(b,j)::uS r
 | _::r=>uS r
def aFu:SV→SV
 | .grow _ _ a=>.val a
 | .stv a _=>.val a
 | s=>s
def SV.inb (n:Nat):SV→Bool
 | .ptr b _ _=>Nat.blt b n
 | .pix b _ _ _ _=>Nat.blt b n
 | .mL _ _=>false
 | .clo _ caps=>caps.all fun q=>Nat.blt q.2 n
 | _=>true
def SS.keeps (S:SS) (s:SV):Bool:=s.below S.nv && s.inb S.boxes.length
def mW (S:SS) (ds:List Nat) (vars:Vars):SS :=
 let vs:=a6l vars
 {cR:=uR S 0 vars++((S.cR.filter fun p=>!l3 ds p.1 && !l3 vs p.1 && S.keeps p.2).map fun p=>(p.1,aFu p.2))
  boxes:=mV S 0 vars (S.boxes.map fun b=>match b with
   | some cells=>if cells.all S.keeps then some (cells.map aFu) else none
   | none=>none)
  known:=pL S 0 vars++(S.known.filter fun p=>Nat.blt p.1 S.nv)
  dM:=S.dM.filter fun i=>Nat.blt i S.nv
  a1o:=S.a1o
  nv:=S.nv+vars.length
  nk:=S.nk+vars.length
  dep:=S.dep
  own:=S.own }
def SS.at_ (S:SS):Loc→Option SV
 | .s t=>S.look t
 | .c b j =>
  match S.boxes[b]? with
  | some (some cells)=>cells[j]?
  | _=>none
def SS.aZ8 (S:SS):Option Nat→A→Bool
 | none,_=>true
 | some n,a=>S.lZ a n
def aJv (S:SS):Vars→Option (List A×List Nat)
 | []=>some ([],[])
 | (l,q)::r =>
  match S.at_ l,aJv S r with
  | some s,some (as,ids) =>
   match q,s with
   | .val n,s =>
    match s.a? with
    | some a=>bif S.aZ8 n a then some (a::as,ids) else none
    | none=>none
   | .grow sz,.grow k sz' a=>bif Nat.beq sz sz' && !l3 ids k then some (a::as,k::ids) else none
   | .grow _,.nA=>some (aEh::as,ids)
   | _,_=>none
  | _,_=>none
def a0b (vc:List (Nat×Nat)) (b:Nat):Nat→List SV→List SV→Bool
 | _,[],[]=>true
 | j,s::r,t::q=>(vc.any (fun p=>Nat.beq p.1 b && Nat.beq p.2 j) || SV.fits (some s) t) && a0b vc b (j+1) r q
 | _,_,_=>false
def sQ (vc:List (Nat×Nat)):Nat→List (Option (List SV))→List (Option (List SV))→Bool
 | _,_,[]=>true
 | b,_::r,none::q=>sQ vc (b+1) r q
 | b,some c::r,some d::q=>a0b vc b 0 c d && sQ vc (b+1) r q
 | _,_,_=>false
def aJw (S H:SS) (vars:Vars):Option (List A) :=
 match aJv S vars with
 | some (as,_) =>
  bif H.cR.all (fun p=>l3 (a6l vars) p.1 || SV.fits (S.look p.1) p.2) && sQ (uS vars) 0 S.boxes H.boxes && (Nat.beq S.own H.own && Nat.ble H.own H.boxes.length) then some as else none
 | none=>none
def CK0 (tt:TT):dG:=⟨isE tt,fun _ _=>none,noE,l3 tt.dyn⟩
def aW7 (tt:TT) (ops:List Oper):Nat→Nat
 | 0=>0
 | n+1=>bif nF ops (n+1) && (ops.take (n+1)).all (fun o=>nR (CK0 tt) o.op || (pB o.op && o.guard.isNone)) then n+1 else aW7 tt ops n
def slX (tt:TT) (t:TypeId):Bool:=match eX tt t with | some ti=>(match ti.d with | .sl _=>true | _=>false) | none=>false
def SV.a7p:SV→Option (Option Nat)
 | .ptr b _ _=>some (some b)
 | .pix b _ _ _ _=>some (some b)
 | .elem ..=>some none
 | _=>none
def SS.apart (S:SS):Rt→Rt→Bool
 | .tm t,.tm t' =>
  match (S.look t).bind SV.a7p,(S.look t').bind SV.a7p with
  | some (some b),some (some b')=>!Nat.beq b b'
  | some none,some _=>true
  | _,_=>false
 | .tm t,.nw _=>((S.look t).bind SV.a7p).isSome
 | .nw _,.tm t=>((S.look t).bind SV.a7p).isSome
 | .nw i,.nw j=>!Nat.beq i j
 | _,_=>true
abbrev KX:=SS→OL
def aBu (H:SS) (dep:Nat) (vars:Vars):KX:=fun S=>(aJw S H vars).map (L.jmp (S.dep - 1 - dep))
def aHq:List (Nat×KX)→Nat→Option KX
 | [],_=>none
 | (j,k)::r,i=>bif Nat.beq j i then some k else aHq r i
def mJ (tt:TT) (N:Nat) (orc:List (OK×Vars)):Code→SS→List (Nat×KX)→KX→KX→OL
 | .skip,S,_,k,_=>k S
 | .label _,S,_,k,_=>k S
 | .region _ ops d,S,_,k,_ =>
  bif d then (bif (let n:=aW7 tt ops.toList ops.toList.length; nF ops.toList n && (ops.toList.take n).all (fun o=>nR (CK0 tt) o.op || (pB o.op && o.guard.isNone))) then aQs tt N ops.toList ops.toList S k else bif a2l (CK0 tt) (slX tt) S.apart ops.toList then aQs tt N ops.toList ops.toList S k else none)
  else aQs tt N ops.toList ops.toList S k
 | .seq a b,S,xs,k,r=>mJ tt N orc a S xs (fun S'=>mJ tt N orc b S' xs k r) r
 | .cond c a b,S,xs,k,r =>
  match S.opA c with
  | some q =>
   match aW6 q with
   | some true=>mJ tt N orc a S xs k r
   | some false=>mJ tt N orc b S xs k r
   | none =>
   match (match c with | .tmp t=>aNb orc (.cond t (bDu a b)) | _=>none) with
   | none =>
    let S1:={ S with dM:=S.zZ q }
    match mJ tt N orc a S1 xs k r,mJ tt N orc b S1 xs k r with
    | some x,some y=>some (.ite q x y)
    | _,_=>none
   | some vars =>
    let H:=mW S (a0a a++a0a b) vars
    let S1:={ S with dep:=S.dep+1,dM:=S.zZ q }
    match k H,mJ tt N orc a S1 xs (aBu H S.dep vars) r,mJ tt N orc b S1 xs (aBu H S.dep vars) r with
    | some z,some x,some y=>some (.join vars.length (.ite q x y) z)
    | _,_,_=>none
  | none=>none
 | .block id c,S,xs,k,r =>
  match aNb orc (.block id) with
  | none=>mJ tt N orc c S ((id,k)::xs) k r
  | some vars =>
   let H:=mW S (a0a c) vars
   match k H,mJ tt N orc c { S with dep:=S.dep+1 } ((id,aBu H S.dep vars)::xs) (aBu H S.dep vars) r with
   | some z,some x=>some (.join vars.length x z)
   | _,_=>none
 | .loop c,S,xs,_,r =>
  match (z6 c).bind (fun q=>aNb orc (.loop q)) with
  | some vars =>
   let H:=mW S (a0a c) vars
   match aJw S H vars,mJ tt N orc c { H with dep:=S.dep+1 } xs (aBu H S.dep vars) r with
   | some init,some x=>some (.loop init x)
   | _,_=>none
  | none=>none
 | .exit id,S,xs,_,_ =>
  match aHq xs id with
  | some k=>k S
  | none=>none
 | .ret,S,_,_,r=>r S
 | _,_,_,_,_=>none
def a4b (tt:TT):List ResultVar→List A→SS→OL
 | [],[a],_=>some (.ret a)
 | [],as,_=>some (.b20 as)
 | .tmp t::r,as,S =>
  match (S.look t).bind SV.a? with
  | some a=>a4b tt r (as++[a]) S
  | none=>none
 | .cell t ty::r,as,S =>
  match S.look t,eX tt ty with
  | some (.ptr b off none),some ti =>
   match S.boxes[b]? with
   | some (some cells)=>aJr ti none cells off S fun s S'=>match s.a? with | some a=>a4b tt r (as ++ [a]) S' | none=>none
   | _=>none
  | _,_=>none
def a2o:Nat→Nat→List (Nat×SV)
 | _,0=>[]
 | i,n+1=>(i,.val (.v i))::a2o (i+1) n
def a6m (o:Oper):Option (Nat×Operand) :=
 match o.guard,o.dst,o.op with
 | none,some d,.move x=>some (d,x)
 | none,some d,.assign x=>some (d,x)
 | _,_,_=>none
def b26 (o:Oper):Option (Nat×TypeId×Operand×Operand) :=
 match o.guard,o.dst,o.op with
 | none,some d,.makeSlice t l c=>some (d,t,l,c)
 | _,_,_=>none
def b27 (o:Oper):Option (Nat×Operand×TypeId) :=
 match o.guard,o.dst,o.op with
 | none,some d,.call ⟨.builtin .len,args,ts⟩ =>
  (match args.toList,ts.toList with
  | [x],[t]=>some (d,x,t)
  | _,_=>none)
 | _,_,_=>none
def aW8 (o:Oper):Option (Nat×BinOp×Operand×Operand) :=
 match o.guard,o.dst,o.op with
 | none,some d,.binOp op _ x y _=>some (d,op,x,y)
 | _,_,_=>none
def b28 (o:Oper):Option (Nat×TypeId×Operand×Operand) :=
 match o.guard,o.dst,o.op with
 | none,some d,.indexAddr t x i=>some (d,t,x,i)
 | _,_,_=>none
def b29 (o:Oper):Option (TypeId×Operand×Operand) :=
 match o.guard,o.dst,o.op with
 | none,none,.store t x v=>some (t,x,v)
 | _,_,_=>none
def isT (x:Operand) (t:Nat):Bool :=
 match x with
 | .tmp s=>Nat.beq s t
 | _=>false
def isZ (x:Operand) (n:Nat):Bool :=
 match x with
 | .const (.int .i64 (.ofNat m))=>Nat.beq m n
 | _=>false
def aW9:BinOp→Bool
 | .lss=>true
 | _=>false
def isAdd:BinOp→Bool
 | .add=>true
 | _=>false
def aXa (x:Operand):Option Nat :=
 match x with
 | .const (.int .u8 (.ofNat c))=>some c
 | _=>none
structure FI where
 ks:Operand
 ty:TypeId
 ety:TypeId
 c:Nat
 b:Nat
 D:List Nat
def aXb (N out out' m:Nat) (o1 o2 o3 o4 o5 o6 o7 o8 o9 oA oB oC oD oE oF:Oper):Option FI:=do
 let v1 ← a6m o1
 let v2 ← b26 o2
 let v3 ← a6m o3
 let v4 ← a6m o4
 let v5 ← b27 o5
 let v6 ← a6m o6
 let v7 ← aW8 o7
 let v8 ← a6m o8
 let v9 ← a6m o9
 let vA ← a6m oA
 let vB ← a6m oB
 let vC ← b28 oC
 let vD ← b29 oD
 let vE ← aW8 oE
 let vF ← a6m oF
 let c ← aXa vD.2.2
 let D:=[v1.1,v2.1,v3.1,v4.1,v5.1,v6.1,v7.1,v8.1,v9.1,vA.1,vB.1,vC.1,vE.1]
 bif isT v2.2.2.1 v1.1 && isT v2.2.2.2 v1.1 && isT v3.2 v2.1 && isT v4.2 v3.1 && isT v5.2.1 v4.1 && Nat.beq v5.2.2 v2.2.1 && isZ v6.2 0 &&
  Nat.beq v7.1 m && aW9 v7.2.1 && isT v7.2.2.1 v6.1 && isT v7.2.2.2 v5.1 && isT v8.2 v6.1 && isT v9.2 v8.1 && isT vA.2 v3.1 && isT vB.2 v9.1 &&
  isT vC.2.2.1 vA.1 && isT vC.2.2.2 vB.1 && Nat.beq vC.2.1 v2.2.1 && isT vD.2.1 vC.1 && isAdd vE.2.1 && isT vE.2.2.1 v6.1 && isZ vE.2.2.2 1 && isT vF.2 vE.1 && Nat.beq vF.1 v6.1 &&
  Nat.beq out out' && D.all (fun d=>Nat.blt d N) && zI D then some ⟨v1.2,v2.2.1,vD.1,c,v3.1,D⟩ else none
def a7q (N:Nat):Code→Code→Option (FI×Code)
 | .region _ mk false,.seq (.seq (.region _ pre false) (.block out (.loop (.seq (.region _ tst false) (.seq (.cond (.tmp m) .skip (.exit out')) (.seq (.block _ (.seq (.region _ asg false) (.region _ st false))) (.region _ stp false))))))) rest =>
  match mk.toList,pre.toList,tst.toList,asg.toList,st.toList,stp.toList with
  | [o1,o2,o3],[o4,o5,o6],[o7],[o8,o9],[oA,oB,oC,oD],[oE,oF]=>(aXb N out out' m o1 o2 o3 o4 o5 o6 o7 o8 o9 oA oB oC oD oE oF).map fun f=>(f,rest)
  | _,_,_,_,_,_=>none
 | _,_=>none
def b4u (tt:TT) (N:Nat) (S:SS) (a b:Code):Option (FI×A×Nat) :=
 match a7q N a b with
 | some (f,_) =>
  match S.opA f.ks,eX tt f.ty,eX tt f.ety with
  | some x,some ti,some si =>
   match ti.d with
   | .sl e =>
    match eX tt e with
    | some ei =>
     match ei.z with
     | some [_]=>bif Nat.beq ei.sz 1 && !ei.agg && Nat.beq si.sz 1 then some (f,x,ei.dI) else none
     | _=>none
    | none=>none
   | _=>none
  | _,_,_=>none
 | none=>none
def a48 (tt:TT) (N:Nat) (orc:List (OK×Vars)):Bool→Code→SS→KX→KX→OL
 | sk,.seq a b,S,k,r =>
  bif sk then a48 tt N orc false b S k r else
  match b4u tt N S a b with
  | some (f,x,q)=>emit none (.make 1 (.int .u8 f.c) q x x) S fun y S'=>a48 tt N orc true b { S' with cR:=(f.b,.val y)::S'.cR.filter (fun p=>!l3 f.D p.1) } k r
  | none=>mJ tt N orc a S [] (fun S'=>a48 tt N orc false b S' k r) r
 | sk,c,S,k,r=>bif sk then none else mJ tt N orc c S [] k r
def aJ7 (tt:TT) (N:Nat) (orc:List (OK×Vars)) (rs:List ResultVar) (nargs:Nat) (c:Code):OL :=
 let S:SS:=⟨a2o 0 nargs,[],[],[],[],nargs,0,0,0⟩
 a48 tt N orc false c S (a4b tt rs []) (a4b tt rs [])
def rR:Nat→Nat→List AK→List (Nat×SV)
 | _,_,[]=>[]
 | i,b,.v::r=>(i,.val (.v i))::rR (i+1) b r
 | i,b,.b off _::r=>(i,.ptr b off none)::rR (i+1) (b+1) r
def oH:Nat→Nat→List AK→List (Option (List SV))
 | _,_,[]=>[]
 | i,q,.v::r=>oH (i+1) q r
 | i,q,.b _ ks::r=>some (kQ i 0 q ks)::oH (i+1) (q+tU ks) r
def uT:Nat→List AK→List (Nat×Nat)
 | _,[]=>[]
 | i,.v::r=>uT (i+1) r
 | i,.b _ ks::r=>(i,ks.length)::uT (i+1) r
def a8q:List (List CK)→Nat
 | []=>0
 | ks::r=>tU ks+a8q r
def a5m:List AK→Bool
 | []=>true
 | .v::r=>a5m r
 | .b _ ks::r=>Nat.blt 0 ks.length && a5m r
def aQt:Nat→List (List CK)→List Nat→List A→SS→OL
 | _,[],_,as,_=>some (.b20 as)
 | b,ks::r,ids,as,S =>
  match S.boxes[b]? with
  | some (some cells) =>
   match cellsIn ks cells with
   | some (ws,is)=>bif zI is && is.all (fun i=>!vP ids i) then emit none (.agg ws) S fun y S'=>aQt (b+1) r (is++ids) (as++[y]) S' else none
   | none=>none
  | _=>none
def a5a (tt:TT) (kss:List (List CK)):List ResultVar→List A→SS→OL
 | [],as,S=>bif Nat.beq S.own kss.length then aQt 0 kss [] as S else none
 | .tmp t::r,as,S =>
  match (S.look t).bind SV.a? with
  | some a=>a5a tt kss r (as++[a]) S
  | none=>none
 | .cell t ty::r,as,S =>
  match S.look t,eX tt ty with
  | some (.ptr b off none),some ti =>
   match S.boxes[b]? with
   | some (some cells)=>aJr ti none cells off S fun s S'=>match s.a? with | some a=>a5a tt kss r (as ++ [a]) S' | none=>none
   | _=>none
  | _,_=>none
def b4v (tt:TT) (N:Nat) (orc:List (OK×Vars)) (rs:List ResultVar) (sg:n6) (c:Code):OL :=
 bif a5m sg.as then
  let S:SS:=⟨rR 0 0 sg.as,oH 0 0 sg.as,uT 0 sg.as,[],[],sg.as.length,a8q (cH sg.as),0,(cH sg.as).length⟩
  mJ tt N orc c S [] (a5a tt (cH sg.as) rs []) (a5a tt (cH sg.as) rs [])
 else none
end Go.Fbs

/- The words answer what the operations do. -/
namespace Go.Fbs
def mX:Nat→V→Prop
 | 0,v=>sc v=true
 | n+1,v=>∃ cs,v = .agg cs∧cs.length=n+1∧cs.all sc=true
section
variable {x y i w:V}
theorem bAl (h:pE x.aL=some w):∃ v,pE x=some v∧v.aL=w:=by
 cases x <;> simp [V.aL,pE] at h ⊢; subst h; rfl
theorem bAm (h:gD x.aL=some w):∃ v,gD x=some v∧v.aL=w:=by
 cases x <;> simp [V.aL,gD,cW] at h ⊢; subst h; rfl
theorem mI {k:IntKind} {n:Int} (h:x.aL = .int k n):x = .int k n:=by cases x <;> simp_all [V.aL]
theorem nP {b:Bool} (h:x.aL = .bool b):x = .bool b:=by cases x <;> simp_all [V.aL]
theorem a0r {s:List UInt8} (h:x.aL = .str s):x = .str s:=by cases x <;> simp_all [V.aL]
theorem b0b (h:x.aL = .undef):x = .undef:=by cases x <;> simp_all [V.aL]
theorem aEk {g:Tag} {es:List V} (h:x.aL = .sl g es):∃ g' es',x = .sl g' es'∧es=es'.map V.aL:=by
 cases x <;> simp [V.aL,cW] at h; exact ⟨_,_,rfl,h.2.symm⟩
theorem a9v {cs:List V} (h:x.aL = .agg cs):∃ cs',x = .agg cs'∧cs=cs'.map V.aL:=by
 cases x <;> simp [V.aL,cW] at h; exact ⟨_,rfl,h.symm⟩
theorem b60 {cs:List V} (h:x.aL = .aG cs):∃ cs',x = .aG cs'∧cs=cs'.map V.aL:=by
 cases x <;> simp [V.aL,cW] at h; exact ⟨_,rfl,h.symm⟩
theorem aQu {f:Nat} {cs:List V} (h:x.aL = .func f cs):∃ cs',x = .func f cs'∧cs=cs'.map V.aL:=by
 cases x <;> simp [V.aL,cW] at h; exact ⟨_,by rw [h.1],h.2.symm⟩
theorem b0c {op:BinOp} {k:IntKind} {a b:Int} {v:V} (h:jL op k a b=some v):v.aL=v∧sc v=true:=by
 cases op <;> simp only [jL] at h <;> (try split at h) <;> simp at h <;> subst h <;> exact ⟨rfl,rfl⟩
theorem b0d {op:BinOp} {a b:List UInt8} {v:V} (h:tG op a b=some v):v.aL=v∧sc v=true:=by
 cases op <;> simp only [tG] at h <;> (try split at h) <;> simp at h <;> subst h <;> exact ⟨rfl,rfl⟩
theorem aGh {op:BinOp} {k:IntKind} {a b:Int} {v:V} (h:zP op k a b=some v):v.aL=v∧sc v=true:=by
 unfold zP at h
 split at h
 ·simp at h
 ·cases op <;> simp at h <;> subst h <;> exact ⟨rfl,rfl⟩
theorem aUb {op:BinOp} {v:V} (h:aS op x y=some v):v.aL=v∧sc v=true:=by
 unfold aS at h
 split at h
 ·split at h
  ·exact aGh h
  ·exact aGh h
  ·split at h
   ·exact b0c h
   ·simp at h
 ·exact b0d h
 ·simp at h
theorem bDv {P:Program} {op:BinOp} {t:TypeId} (h:aS op x.aL y.aL=some w):∃ v,a19 P op t x y=some v∧v.aL=w:=by
 have hw:=(aUb h).1
 refine ⟨w,?_,hw⟩
 unfold aS at h
 split at h
 ·rename_i k a k' b h1 h2
  rw [mI h1,mI h2]
  cases op <;> exact h
 ·rename_i a b h1 h2
  rw [a0r h1,a0r h2]
  exact h
 ·simp at h
theorem b4w {P:Program} {t:TypeId} {neg:Bool} (hu:P.underlying t=some .bool) (he:P.eqGuardType P.depth t=false) (h:aKz neg x.aL y.aL=some w):∃ v,a19 P (if neg then .neq else .eql) t x y=some v∧v.aL=w:=by
 unfold aKz at h
 split at h
 ·rename_i a b h1 h2
  simp only [Option.some.injEq] at h
  subst h
  rw [nP h1,nP h2]
  cases neg <;> simp [a19,he,xA,hu,V.aL]
 ·simp at h
theorem b61 {q:Nat} {r:Bool} (h:eqS q x.aL y.aL=some r):eqS q x y=some r:=by
 unfold eqS at h
 split at h
 ·rename_i h1 h2; rw [nP h1,nP h2]; exact h
 ·rename_i h1 h2; rw [mI h1,mI h2]; exact h
 ·rename_i h1 h2; rw [a0r h1,a0r h2]; exact h
 ·simp at h
theorem aGi:∀ {qs:List Nat} {xs ys:List V} {r:Bool},iA qs (xs.map V.aL) (ys.map V.aL)=some r→iA qs xs ys=some r
 | [],[],[],r,h=>h
 | q::qs,x::xs,y::ys,r,h=>by
  simp only [List.map_cons,iA] at h ⊢
  split at h
  ·rename_i a b h1 h2
   rw [b61 h1,aGi h2]; exact h
  ·simp at h
 | [],_::_,_,_,h=>by simp [iA] at h
 | [],[],_::_,_,h=>by simp [iA] at h
 | _::_,[],_,_,h=>by simp [iA] at h
 | _::_,_::_,[],_,h=>by simp [iA] at h
theorem a3b:∀ {qs:List Nat} {xs ys:List V} {r:Bool},iA qs xs ys=some r→xs.length=qs.length∧ys.length=qs.length
 | [],[],[],r,h=>⟨rfl,rfl⟩
 | q::qs,x::xs,y::ys,r,h=>by
  simp only [iA] at h
  split at h
  ·rename_i a b h1 h2
   have:=a3b h2
   simp [this]
  ·simp at h
 | [],_::_,_,_,h=>by simp [iA] at h
 | [],[],_::_,_,h=>by simp [iA] at h
 | _::_,[],_,_,h=>by simp [iA] at h
 | _::_,_::_,[],_,h=>by simp [iA] at h
theorem a9w:∀ {qs qs':List Nat} {xs ys:List V} {r:Bool},iA (qs++qs') xs ys=some r →
  ∃ a b,iA qs (xs.take qs.length) (ys.take qs.length)=some a∧iA qs' (xs.drop qs.length) (ys.drop qs.length)=some b∧r=(a && b)
 | [],qs',xs,ys,r,h=>⟨true,r,by simp [iA],h,by simp⟩
 | q::qs,qs',x::xs,y::ys,r,h=>by
  simp only [List.cons_append,iA] at h
  split at h
  ·rename_i a b h1 h2
   simp only [Option.some.injEq] at h
   obtain ⟨a',b',h3,h4,rfl⟩:=a9w h2
   refine ⟨a && a',b',by simp [iA,h1,h3],by simpa using h4,by rw [← h,Bool.and_assoc]⟩
  ·simp at h
 | _::_,_,[],_,_,h=>by simp [iA] at h
 | _::_,_,_::_,[],_,h=>by simp [iA] at h
end
section
variable {P:Program} {tt:TT} (hT:∀ t ti,eX tt t=some ti→aZ P ti∧ti.t=t)
include hT
omit hT in
theorem aXc {d:Nat} {t:TypeId} {ti:TI} {qs:List Nat} (h1:eX tt t=some ti) (h2:leaves tt d t=some qs) (h3:ti.agg=false):qs.length=1:=by
 cases d with
 | zero=>simp [leaves] at h2
 | succ d =>
  unfold leaves at h2
  rw [h1] at h2
  simp only [h3,Bool.and_false,Bool.not_false,Bool.and_true,cond_false] at h2
  split at h2 <;> (try (simp at h2; done))
  all_goals (cases hb:Nat.beq ti.sz 1 <;> rw [hb] at h2 <;> simp at h2; subst h2; rfl)
theorem aJx {d:Nat} (ih:∀ t ti qs,eX tt t=some ti→leaves tt d t=some qs→qs.length=ti.sz∧∀ (X Y:List V) (r:Bool),iA qs X Y=some r→xA P d t (if ti.agg then .agg X else X.headD .undef) (if ti.agg then .agg Y else Y.headD .undef)=some r)
  (i1:∀ t ti qs,eX tt t=some ti→leaves tt d t=some qs→ti.agg=false→qs.length=1) :
  ∀ (fs : List Field) (n : Nat) (qs : List Nat), a9r tt (leaves tt d) n (fs.map fun f => (f.offset, f.type)) = some qs → fs.all (fun f => f.name != "_") = true → ∀ (xs ys : List V) (r : Bool),
   iA qs (xs.drop n) (ys.drop n)=some r→aG1 P (xA P d) xs ys fs=some r
 | [],n,qs,h,_,xs,ys,r,he=>by
  simp only [List.map_nil,a9r,Option.some.injEq] at h
  subst h
  have:=a3b he
  rw [List.eq_nil_of_length_eq_zero this.1,List.eq_nil_of_length_eq_zero this.2] at he
  simp only [iA,Option.some.injEq] at he
  subst he
  rfl
 | f::fs,n,qs,h,hn,xs,ys,r,he=>by
  simp only [List.map_cons,a9r] at h
  split at h
  ·rename_i ti q1 hti hq1
   cases hc:(Nat.beq f.offset n && Nat.blt 0 ti.sz) with
   | false=>simp [hc] at h
   | true =>
    rw [hc] at h
    simp only [cond_true,Option.map_eq_some_iff] at h
    obtain ⟨q2,h,rfl⟩:=h
    simp only [Bool.and_eq_true] at hc
    have ho:=Nat.eq_of_beq_eq_true hc.1
    have hpos:0 < ti.sz:=Nat.le_of_ble_eq_true hc.2
    simp only [List.all_cons,Bool.and_eq_true] at hn
    obtain ⟨hl,h0⟩:=ih f.type ti q1 hti hq1
    have hlen:=a3b he
    obtain ⟨a,b,h1,h2,rfl⟩:=a9w he
    rw [hl,List.drop_drop,List.drop_drop] at h2
    have h3:=aJx ih i1 fs (n+ti.sz) q2 h hn.2 xs ys b h2
    rw [hl] at h1
    have h4:=h0 _ _ a h1
    obtain ⟨tok,htt⟩:=hT f.type ti hti
    have hp:∀ zs:List V,(zs.drop n).length=(q1++q2).length→a2z P f.type zs f.offset=some (if ti.agg then .agg ((zs.drop n).take ti.sz) else ((zs.drop n).take ti.sz).headD .undef):=by
     intro zs hz
     simp only [List.length_drop,List.length_append,hl] at hz
     unfold a2z
     have hag:=tok.agg; have hsz:=tok.sz
     rw [htt] at hag hsz
     rw [hag,hsz,ho]
     cases hg:ti.agg with
     | true =>
      simp only [if_true]
      rw [if_pos (by omega)]
     | false =>
      have h1:ti.sz=1:=by rw [← hl]; exact i1 f.type ti q1 hti hq1 hg
      simp only [h1]
      have:n < zs.length:=by omega
      rw [List.getElem?_eq_getElem this,List.drop_eq_getElem_cons this]
      rfl
    simp only [aG1]
    have hne : (f.name = "_") = False := by
     have:=hn.1
     simp only [bne_iff_ne,ne_eq] at this
     exact eq_false this
    simp only [hne,if_false,hp xs hlen.1,hp ys hlen.2,h4]
    cases a <;> simp [h3]
  ·simp at h
theorem aUc:∀ (d:Nat) (t:TypeId) (ti:TI) (qs:List Nat),eX tt t=some ti→leaves tt d t=some qs→qs.length=ti.sz∧∀ (X Y:List V) (r:Bool),iA qs X Y=some r →
  xA P d t (if ti.agg then .agg X else X.headD .undef) (if ti.agg then .agg Y else Y.headD .undef)=some r
 | 0,t,ti,qs,hti,hf=>by simp [leaves] at hf
 | d+1,t,ti,qs,hti,hf=>by
  obtain ⟨tok,htt⟩:=hT t ti hti
  have hdd:=tok.d
  rw [htt] at hdd
  simp only [leaves,hti] at hf
  have key:∀ q:Nat,(bif Nat.beq ti.sz 1 && !ti.agg then some [q] else none)=some qs→ti.sz=1∧ti.agg=false∧qs=[q]:=by
   intro q h
   cases hc:(Nat.beq ti.sz 1 && !ti.agg) with
   | false=>simp [hc] at h
   | true =>
    rw [hc] at h
    simp only [cond_true,Option.some.injEq] at h
    simp only [Bool.and_eq_true,Bool.not_eq_true'] at hc
    exact ⟨Nat.eq_of_beq_eq_true hc.1,hc.2,h.symm⟩
  have one:∀ {q:Nat} {X Y:List V} {r:Bool},iA [q] X Y=some r→∃ x y,X=[x]∧Y=[y]∧eqS q x y=some r:=by
   intro q X Y r h
   have:=a3b h
   obtain ⟨x,rfl⟩:=List.length_eq_one_iff.1 this.1
   obtain ⟨y,rfl⟩:=List.length_eq_one_iff.1 this.2
   refine ⟨x,y,rfl,rfl,?_⟩
   simp only [iA] at h
   cases hq:eqS q x y <;> simp [hq] at h
   rw [h]
  cases hd:ti.d with
  | bool =>
   rw [hd] at hf hdd
   simp only [aHp] at hdd
   obtain ⟨h1,h2,rfl⟩:=key 0 hf
   refine ⟨h1.symm,fun X Y r he=>?_⟩
   obtain ⟨x,y,rfl,rfl,hs⟩:=one he
   simp only [h2,xA,hdd]
   clear one key tok hf hdd hd he
   cases x <;> cases y <;> simp [eqS] at hs ⊢ <;> exact hs
  | int k =>
   rw [hd] at hf hdd
   simp only [aHp] at hdd
   obtain ⟨h1,h2,rfl⟩:=key 1 hf
   refine ⟨h1.symm,fun X Y r he=>?_⟩
   obtain ⟨x,y,rfl,rfl,hs⟩:=one he
   simp only [h2,xA,hdd]
   clear one key tok hf hdd hd he
   cases x <;> cases y <;> simp [eqS] at hs ⊢ <;> exact hs
  | str =>
   rw [hd] at hf hdd
   simp only [aHp] at hdd
   obtain ⟨h1,h2,rfl⟩:=key 2 hf
   refine ⟨h1.symm,fun X Y r he=>?_⟩
   obtain ⟨x,y,rfl,rfl,hs⟩:=one he
   simp only [h2,xA,hdd]
   clear one key tok hf hdd hd he
   cases x <;> cases y <;> simp [eqS] at hs ⊢ <;> exact hs
  | st fs =>
   rw [hd] at hf hdd
   obtain ⟨a,hu,hfs,hbl⟩:=hdd
   cases hc:(ti.eq && ti.agg) with
   | false=>simp [hc] at hf
   | true =>
    simp only [hc,cond_true] at hf
    simp only [Bool.and_eq_true] at hc
    split at hf
    ·rename_i q hq
     cases hl:Nat.beq q.length ti.sz with
     | false=>simp [hl] at hf
     | true =>
      simp only [hl,cond_true,Option.some.injEq] at hf
      subst hf
      refine ⟨Nat.eq_of_beq_eq_true hl,fun X Y r he=>?_⟩
      have hst:=(tok.eq hc.1).1
      rw [htt] at hst
      simp only [hc.2,if_true,xA,hu,hst,Bool.false_eq_true,if_false]
      rw [← hfs] at hq
      refine aJx hT (fun t ti qs h1 h2=>aUc d t ti qs h1 h2) (fun t ti qs h1 h2 h3=>?_) a.toList 0 q hq hbl X Y r (by simpa using he)
      exact aXc h1 h2 h3
    ·simp at hf
  | _=>rw [hd] at hf; simp at hf
end
end Go.Fbs

/- The words answer what the operations do: one by one. -/
namespace Go.Fbs
section
variable {x y i w:V}
theorem bFb {op:UnOp} (h:k9 op x.aL=some w):∃ v,k9 op x=some v∧v.aL=w:=by
 unfold k9 at h
 split at h
 ·rename_i h1
  rw [mI h1]
  simp only [Option.some.injEq] at h
  subst h
  exact ⟨_,rfl,rfl⟩
 ·rename_i h1
  rw [nP h1]
  simp only [Option.some.injEq] at h
  subst h
  exact ⟨_,rfl,rfl⟩
 ·simp at h
theorem b62 {k:IntKind} (h:xZ k x.aL=some w):∃ v,xZ k x=some v∧v.aL=w:=by
 unfold xZ at h
 split at h
 ·rename_i h1
  rw [mI h1]
  simp only [Option.some.injEq] at h
  subst h
  exact ⟨_,rfl,rfl⟩
 ·simp at h
theorem b3a (h:vM x.aL=some w):∃ v,vM x=some v∧v.aL=w:=by
 unfold vM at h
 split at h
 ·rename_i h1
  rw [a0r h1]
  simp only [Option.some.injEq] at h
  subst h
  exact ⟨_,rfl,rfl⟩
 ·simp at h
theorem aGj:∀ {es:List V} {bs:List UInt8},(es.map V.aL).mapM (fun (v:V)=>match v with | .int .u8 n=>some (UInt8.ofNat n.toNat) | _=>none)=some bs →
  es.mapM (fun (v:V)=>match v with | .int .u8 n=>some (UInt8.ofNat n.toNat) | _=>none)=some bs
 | [],bs,h=>h
 | e::es,bs,h=>by
  simp only [List.map_cons,List.mapM_cons,Option.bind_eq_bind,Option.bind_eq_some_iff] at h ⊢
  obtain ⟨b,h1,bs',h2,h3⟩:=h
  refine ⟨b,?_,bs',aGj h2,h3⟩
  split at h1
  ·rename_i h4; rw [mI h4]; exact h1
  ·simp at h1
theorem b3b (h:vN x.aL=some w):∃ v,vN x=some v∧v.aL=w:=by
 unfold vN at h
 split at h
 ·rename_i g es h1
  obtain ⟨g',es',rfl,rfl⟩:=aEk h1
  simp only [Option.map_eq_some_iff] at h
  obtain ⟨bs,h2,rfl⟩:=h
  exact ⟨.str bs,congrArg (Option.map V.str) (aGj h2),rfl⟩
 ·simp at h
theorem a7r {x:Option V} {d t n:Nat} (h:lR (x.map V.aL) d t=some n):lR x d t=some n:=by
 cases x with
 | none=>exact h
 | some v =>
  simp only [Option.map_some,lR] at h
  split at h
  ·rename_i h1; simp at h1
  ·rename_i h1
   simp only [Option.some.injEq] at h1
   rw [mI h1]; exact h
  ·simp at h
theorem bDw {lo hi:Option V} (h:lF x.aL (lo.map V.aL) (hi.map V.aL)=some w):∃ v,lF x lo hi=some v∧v.aL=w:=by
 unfold lF at h
 split at h
 ·rename_i s h1
  rw [a0r h1]
  split at h
  ·rename_i hh h2
   split at h
   ·rename_i l h3
    simp only [Option.some.injEq] at h
    subst h
    exact ⟨_,by simp only [lF,a7r h2,a7r h3]; rfl,rfl⟩
   ·simp at h
  ·simp at h
 ·simp at h
theorem a8r (es:List V) (n:Nat):(es.map V.aL).all (fun e=>e.cells.length == n)=es.all (fun e=>e.cells.length == n):=by
 rw [List.all_map]; congr 1; funext v; simp only [Function.comp_def,qZ]
theorem bDx {n:Nat} {lo hi:Option V} (h:a00 n x.aL (lo.map V.aL) (hi.map V.aL)=some w):∃ v,aJm n x lo hi=some v∧v.aL=w:=by
 unfold a00 at h
 split at h
 ·rename_i g es h1
  obtain ⟨g',es,rfl,rfl⟩:=aEk h1
  rw [List.length_map] at h
  split at h
  ·rename_i hh h2
   split at h
   ·rename_i l h3
    rw [a8r] at h
    split at h
    ·rename_i h4
     simp only [Option.some.injEq] at h
     subst h
     refine ⟨_,by simp only [aJm,a7r h2,a7r h3]; exact if_pos h4,?_⟩
     simp [V.aL,cW,List.map_take,List.map_drop]
    ·simp at h
   ·simp at h
  ·simp at h
 ·simp at h
theorem bAn (h:tB x.aL i.aL=some w):∃ v,tB x i=some v∧v.aL=w:=by
 unfold tB at h
 split at h
 ·rename_i s k n h1 h2
  rw [a0r h1,mI h2]
  split at h
  ·rename_i hn
   simp only [Option.map_eq_some_iff] at h
   obtain ⟨b,h3,rfl⟩:=h
   exact ⟨_,by simp only [tB]; rw [if_pos hn,h3]; rfl,rfl⟩
  ·simp at h
 ·simp at h
theorem aK3 {g:Bool} {n off:Nat} {cs:List V} (h:qN g n (cs.map V.aL) off=some w):∃ v,qN g n cs off=some v∧v.aL=w:=by
 unfold qN at h ⊢
 cases g with
 | true =>
  simp only [if_true,List.length_map] at h ⊢
  split at h
  ·rename_i hl
   simp only [Option.some.injEq] at h
   subst h
   refine ⟨_,if_pos hl,?_⟩
   simp [V.aL,cW,List.map_take,List.map_drop]
  ·simp at h
 | false =>
  simp only [Bool.false_eq_true,if_false,List.getElem?_map,Option.map_eq_some_iff] at h ⊢
  exact h
theorem bAo {len n:Nat} {g:Bool} (h:a6g len g n x.aL i.aL=some w):∃ v,a6g len g n x i=some v∧v.aL=w:=by
 unfold a6g at h
 split at h
 ·rename_i cs k m h1 h2
  obtain ⟨cs,rfl,rfl⟩:=a9v h1
  rw [mI h2]
  split at h
  ·rename_i hn
   obtain ⟨v,h3,h4⟩:=aK3 h
   exact ⟨v,by simp only [a6g]; rw [if_pos hn,h3],h4⟩
  ·simp at h
 ·simp at h
theorem xN {n:Nat} {v u:V} (h:bP n v=some u):u=v∧∃ cs,v = .agg cs∧cs.length=n∧cs.all sc=true:=by
 unfold bP at h
 split at h
 ·split at h
  ·rename_i hc
   simp only [Option.some.injEq] at h
   exact ⟨h.symm,_,rfl,hc.1,hc.2⟩
  ·simp at h
 ·simp at h
theorem rS {v u:V} (h:rB v=some u):u=v∧sc v=true:=by
 unfold rB at h
 split at h
 ·rename_i hs
  simp only [Option.some.injEq] at h
  exact ⟨h.symm,hs⟩
 ·simp at h
theorem b0e {g:Bool} {n off:Nat} (h:rD g n off x.aL=some w):∃ cs v,x = .agg cs∧qN g n cs off=some v∧v.aL=w∧(if g then bP n w=some w else sc w=true):=by
 unfold rD at h
 split at h
 ·rename_i cs h1
  obtain ⟨cs,rfl,rfl⟩:=a9v h1
  cases g with
  | true =>
   simp only [if_true] at h ⊢
   split at h
   ·rename_i hl
    obtain ⟨rfl,cs',h2,h3⟩:=xN h
    obtain ⟨v,h4,h5⟩:=aK3 (g:=true) (n:=n) (off:=off) (cs:=cs) (w:=.agg ((cs.map V.aL).drop off |>.take n)) (by unfold qN; simp only [if_true]; rw [if_pos hl])
    exact ⟨cs,v,rfl,h4,h5,h⟩
   ·simp at h
  | false =>
   simp only [Bool.false_eq_true,if_false] at h ⊢
   split at h
   ·rename_i c hc
    obtain ⟨rfl,h2⟩:=rS h
    obtain ⟨v,h4,h5⟩:=aK3 (g:=false) (n:=n) (off:=off) (cs:=cs) (w:=w) (by unfold qN; simp only [Bool.false_eq_true,if_false]; exact hc)
    exact ⟨cs,v,rfl,h4,h5,h2⟩
   ·simp at h
 ·simp at h
theorem y0 {n:Nat} (hn:0 < n) {v:V} (h:bP n v=some v):mX n v:=by
 obtain ⟨_,cs,h1,h2,h3⟩:=xN h
 cases n with
 | zero=>omega
 | succ n=>exact ⟨cs,h1,h2,h3⟩
theorem bAp {g:Bool} {n:Nat} (h:nB g n x.aL i.aL=some w) (hn:0 < n) (h1:g=false→n=1):∃ cs,a1h n x i=some (.ro cs)∧cs.map V.aL=w.cells∧mX (if g then n else 0) w:=by
 unfold nB at h
 split at h
 ·rename_i t es k m h2 h3
  obtain ⟨t,es,rfl,rfl⟩:=aEk h2
  rw [mI h3]
  split at h
  ·rename_i hm
   rw [List.getElem?_map] at h
   cases he : es[m.toNat]? with
   | none=>simp [he] at h
   | some e =>
    simp only [he,Option.map_some] at h
    have hlen:e.cells.length=n∧w=e.aL∧mX (if g then n else 0) w:=by
     cases g with
     | true =>
      simp only [if_true] at h ⊢
      obtain ⟨rfl,cs,h4,h5,h6⟩:=xN h
      refine ⟨?_,rfl,y0 hn h⟩
      rw [← qZ,h4]; exact h5
     | false =>
      simp only [Bool.false_eq_true,if_false] at h ⊢
      obtain ⟨rfl,h4⟩:=rS h
      refine ⟨?_,rfl,h4⟩
      rw [← qZ,a6i h4,h1 rfl]; rfl
    obtain ⟨h4,rfl,h5⟩:=hlen
    refine ⟨e.cells,?_,(a30 e).symm,h5⟩
    simp only [a1h]
    rw [if_pos hm,he]
    simp [h4]
  ·simp at h
 ·simp at h
theorem bDy {j:Nat} (h:aA x.aL j=some w):∃ v,aA x j=some v∧v.aL=w:=by
 unfold aA at h
 split at h
 ·rename_i vs h1
  obtain ⟨vs,rfl,rfl⟩:=b60 h1
  simp only [List.getElem?_map,Option.map_eq_some_iff] at h
  exact h
 ·simp at h
theorem bAq {P:Program} {g:Bool} {ts:List TypeId} (h:mmK g x.aL y.aL=some w):∃ v,uJ P (if g then .max else .min) ts [x,y]=some v∧v.aL=w:=by
 unfold mmK at h
 split at h
 ·rename_i k a k' b h1 h2
  rw [mI h1,mI h2]
  simp only [Option.some.injEq] at h
  subst h
  cases g <;> exact ⟨_,rfl,rfl⟩
 ·simp at h
theorem bAr (h:aM8 x.aL=some w):∃ v,a8g x=some v∧v.aL=w:=by
 unfold aM8 at h
 split at h
 ·rename_i f cs h1
  obtain ⟨cs,rfl,rfl⟩:=aQu h1
  simp only [Option.some.injEq] at h
  exact ⟨_,rfl,by rw [← h]; simp [V.aL,cW]⟩
 ·simp at h
def b3c (m:Hp) (v:V):Option (Nat×List V) :=
 match v with
 | .ptr l o =>
  match m.H[l]? with
  | some (.cells cs)=>some (o,cs)
  | _=>none
 | _=>none
def pX:List CK→List V→Bool
 | [],[]=>true
 | .pl::ks,_::ss=>pX ks ss
 | .gr _::ks,s::ss=>pX ks ss && aQq s
 | _,_=>false
def a3c (m:Hp):List AK→List V→Bool
 | [],[]=>true
 | .v::ks,_::xs=>a3c m ks xs
 | .b off cks::ks,x::xs=>(match b3c m x with | some q=>(Nat.beq q.1 off && a3c m ks xs) && pX cks q.2 | none=>false)
 | _,_=>false
def findD (tt:TT) (m:Hp) (f:FuncId) (xs:List V):List FuncId→Option (FuncId×n6)
 | []=>none
 | e::r =>
  match a45 tt e with
  | some q=>bif Nat.beq q.1 f && a3c m q.2.as xs then some (e,q.2) else findD tt m f xs r
  | none=>findD tt m f xs r
noncomputable def aBv (tt:TT) (p:PT):ET:=fun f args m =>
 match findD tt m f args (tt.sg.map (·.1)) with
 | some (e,sg)=>aK0 sg (p e) args m
 | none=>none
theorem a5b {tt:TT} {m:Hp} {f:FuncId} {xs:List V} {e:FuncId} {sg:n6} : ∀ {l:List FuncId},findD tt m f xs l=some (e,sg)→a45 tt e=some (f,sg)
 | [],h=>by simp [findD] at h
 | e'::r,h=>by
  simp only [findD] at h
  split at h
  ·rename_i q hq
   cases hc:(Nat.beq q.1 f && a3c m q.2.as xs) with
   | true =>
    rw [hc] at h
    simp only [cond_true,Option.some.injEq,Prod.mk.injEq] at h
    obtain ⟨rfl,rfl⟩:=h
    simp only [Bool.and_eq_true] at hc
    rw [hq,← Nat.eq_of_beq_eq_true hc.1]
   | false=>rw [hc] at h; exact a5b h
  ·exact a5b h
noncomputable abbrev CE (tt:TT) (p:PT):dG:=⟨isE tt,fun f a=>bif Nat.blt f a1m then p f (a.map V.aL) else none,aBv tt p,l3 tt.dyn⟩
theorem b63 {tt:TT} {p:PT} {l:List V} (h:uX p x.aL (l.map V.aL)=some w):∃ v,aId (CE tt p) x l=some v∧v=w:=by
 unfold uX at h
 split at h
 ·rename_i f cs h1
  obtain ⟨cs,rfl,rfl⟩:=aQu h1
  refine ⟨w,?_,rfl⟩
  simp only [aId]
  rw [List.map_append]; exact h
 ·simp at h
end
def j0 (ρ:Nat→V):Gd→Prop
 | none=>True
 | some (a,b)=>a.den ρ = .bool b
def gG (ρ:Nat→V) (gk:Nat→Option Nat) (gb:List Nat) (T:List (Nat×Nat)):SV→V→Prop
 | .val a,v=>v.aL=a.den ρ
 | .mL a g,v=>(j0 ρ g→v.aL=a.den ρ)∧(¬ j0 ρ g→v = .undef)
 | .grow k sz a,v=>∃ es,a.den ρ = .sl .ro (es.map V.aL) ∧ (v = .sl .full es ∨ ∃ i,gk k = some i ∧ v = .sl (.own i) es ∧ T[i]? = some (es.length,sz))
 | .nA,v=>v = .sl .full []
 | .elem a n off g,v=>(j0 ρ g→∃ cs:List V,v = .ro (cs.drop off)∧cs.map V.aL=(a.den ρ).cells∧mX n (a.den ρ))∧(¬ j0 ρ g→v = .undef)
 | .ptr b off g,v=>(j0 ρ g → ∃ l : Nat,gb[b]? = some l ∧ v = .ptr l off) ∧ (¬ j0 ρ g → v = .undef)
 | .pix b off n i g,v=>(j0 ρ g → ∃ (l : Nat) (q : IntKind) (z : Nat),gb[b]? = some l ∧ i.den ρ = .int q z ∧ z < n ∧ v = .ptr l (off + z)) ∧ (¬ j0 ρ g → v = .undef)
 | .stv a nl,v=>v.aL = a.den ρ ∧ ∃ cs,v = .agg cs ∧ ∀ j ∈ nl,cs[j]? = some (.sl .full [])
 | .clo f caps,v=>∃ cs,v = .func f cs ∧ cs.length = caps.length ∧ ∀ (i : Nat) q c,caps[i]? = some q → cs[i]? = some c → ∃ l,gb[q.2]? = some l ∧ c = .ptr l 0
def Cells (ρ:Nat→V) (gk:Nat→Option Nat) (gb:List Nat) (T:List (Nat×Nat)) (nv:Nat) (cells:List SV) (cs:List V):Prop :=
 cells.length = cs.length ∧ ∀ (j : Nat) s c,cells[j]? = some s → cs[j]? = some c → gG ρ gk gb T s c ∧ s.below nv = true
structure aQ (N:Nat) (gk:Nat→Option Nat) (gb:List Nat) (S:SS) (ρ:Nat→V) (env:Env) (m:Hp):Prop where
 n:env.n=N
 cR:∀ t s,S.look t=some s→t < N∧gG ρ gk gb m.T s (env.f t)∧s.below S.nv=true
 boxes : ∀ (b : Nat) cells,S.boxes[b]? = some (some cells) → ∃ (l : Nat) (cs : List V),gb[b]? = some l ∧ m.H[l]? = some (.cells cs) ∧ Cells ρ gk gb m.T S.nv cells cs
 mF:gb.length=S.boxes.length
 oO : ∀ (b b' l : Nat),gb[b]? = some l → gb[b']? = some l → b = b'
 blt:∀ l ∈ gb,l < m.H.length
 lJ:∀ k k' i,gk k=some i→gk k'=some i→k=k'
 tM:∀ k i,gk k=some i→k < S.nk∧i < m.T.length
 known:∀ i n,assoc S.known i=some n→i < S.nv∧mX n (ρ i)
 dM:∀ i ∈ S.dM,i < S.nv∧uQ (ρ i)=true
 own : ∀ b,b < S.own → gb[b]? = some b
def bR (ρ ρ':Nat→V) (n:Nat):Prop:=∀ i,i < n→ρ' i=ρ i
theorem bR.refl (ρ:Nat→V) (n:Nat):bR ρ ρ n:=fun _ _=>rfl
theorem bR.trans {ρ ρ' ρ'':Nat→V} {n n':Nat} (h:bR ρ ρ' n) (h':bR ρ' ρ'' n') (hn:n≤n'):bR ρ ρ'' n:=fun i hi=>(h' i (by omega)).trans (h i hi)
theorem cS (ρ:Nat→V) (n:Nat) (y:V):bR ρ (ext ρ n y) n:=by
 intro i hi
 unfold ext
 have:Nat.beq i n=false:=by
  cases h:Nat.beq i n with
  | false=>rfl
  | true=>have:=Nat.eq_of_beq_eq_true h; omega
 rw [this]; rfl
theorem l6 (ρ:Nat→V) (n:Nat) (y:V):ext ρ n y n=y:=by simp [ext]
theorem l7 {i n:Nat} (h:Nat.blt i n=true):i < n:=Nat.le_of_ble_eq_true h
theorem j7 {ρ ρ':Nat→V} {n:Nat} (h:bR ρ ρ' n) {a:A} (ha:a.below n=true):a.den ρ'=a.den ρ:=by
 cases a with
 | v i=>exact h i (l7 ha)
 | k x=>rfl
 | c i j=>show a7 (ρ' i) j=a7 (ρ i) j; rw [h i (l7 ha)]
theorem rT {ρ ρ':Nat→V} {n:Nat} (h:bR ρ ρ' n) {g:Gd} (hg:g.below n=true):j0 ρ' g↔j0 ρ g:=by
 cases g with
 | none=>exact Iff.rfl
 | some q=>obtain ⟨a,b⟩:=q; simp only [j0]; rw [j7 h hg]
theorem gG.agree {ρ ρ':Nat→V} {n:Nat} (h:bR ρ ρ' n) {gk:Nat→Option Nat} {gb:List Nat} {T:List (Nat×Nat)} {s:SV} {v:V} (hs:s.below n=true) (r:gG ρ gk gb T s v):gG ρ' gk gb T s v:=by
 cases s with
 | val a=>simp only [gG]; rw [j7 h hs]; exact r
 | mL a g =>
  simp only [SV.below,Bool.and_eq_true] at hs
  simp only [gG]; rw [j7 h hs.1,rT h hs.2]; exact r
 | grow k sz a=>simp only [gG]; rw [j7 h hs]; exact r
 | nA=>exact r
 | elem a m off g =>
  simp only [SV.below,Bool.and_eq_true] at hs
  simp only [gG]; rw [j7 h hs.1,rT h hs.2]; exact r
 | ptr b off g=>simp only [gG]; rw [rT h hs]; exact r
 | pix b off n i g =>
  simp only [SV.below,Bool.and_eq_true] at hs
  simp only [gG]; rw [j7 h hs.1,rT h hs.2]; exact r
 | stv a nl=>exact ⟨by rw [j7 h hs]; exact r.1,r.2⟩
 | clo f caps=>exact r
theorem A.cO {a:A} {n n':Nat} (h:a.below n=true) (hn:n≤n'):a.below n'=true:=by
 cases a with
 | v i=>exact Nat.ble_eq_true_of_le (Nat.le_trans (l7 h) hn)
 | k x=>rfl
 | c i j=>exact Nat.ble_eq_true_of_le (Nat.le_trans (l7 h) hn)
theorem Gd.cO {g:Gd} {n n':Nat} (h:Gd.below n g=true) (hn:n≤n'):Gd.below n' g=true:=by
 cases g with
 | none=>rfl
 | some q=>exact A.cO (a:=q.1) h hn
theorem SV.cO {s:SV} {n n':Nat} (h:s.below n=true) (hn:n≤n'):s.below n'=true:=by
 cases s with
 | val a=>exact A.cO (a:=a) h hn
 | mL a g =>
  simp only [SV.below,Bool.and_eq_true] at h ⊢
  exact ⟨A.cO h.1 hn,Gd.cO h.2 hn⟩
 | grow k sz a=>exact A.cO (a:=a) h hn
 | nA=>rfl
 | elem a m off g =>
  simp only [SV.below,Bool.and_eq_true] at h ⊢
  exact ⟨A.cO h.1 hn,Gd.cO h.2 hn⟩
 | ptr b off g=>exact Gd.cO (g:=g) h hn
 | pix b off m i g =>
  simp only [SV.below,Bool.and_eq_true] at h ⊢
  exact ⟨A.cO h.1 hn,Gd.cO h.2 hn⟩
 | stv a nl=>exact A.cO (a:=a) h hn
 | clo f caps=>rfl
theorem Cells.agree {ρ ρ':Nat→V} {n n':Nat} (h:bR ρ ρ' n) (hn:n≤n') {gk:Nat→Option Nat} {gb:List Nat} {T:List (Nat×Nat)} {cells:List SV} {cs:List V} (r:Cells ρ gk gb T n cells cs):Cells ρ' gk gb T n' cells cs :=
 ⟨r.1,fun j s c h1 h2=>let ⟨h3,h4⟩:=r.2 j s c h1 h2; ⟨h3.agree h h4,SV.cO h4 hn⟩⟩
theorem aQ.more {N:Nat} {gk:Nat→Option Nat} {gb:List Nat} {S:SS} {ρ ρ':Nat→V} {env:Env} {m:Hp} (c:aQ N gk gb S ρ env m) (h:bR ρ ρ' S.nv) {nv:Nat} (hn:S.nv≤nv) {kn:List (Nat×Nat)}
  (hk:∀ i n,assoc kn i=some n→i < nv∧mX n (ρ' i)) {bl:List Nat×List Nat} (hl:∀ i ∈ bl.1,i < nv∧uQ (ρ' i)=true):aQ N gk gb (S.l8 nv kn bl) ρ' env m where
 n:=c.n
 cR t s hs:=let ⟨h1,h2,h3⟩:=c.cR t s hs; ⟨h1,h2.agree h h3,SV.cO h3 hn⟩
 boxes b cells hb:=let ⟨l,cs,h0,h1,h2⟩:=c.boxes b cells hb; ⟨l,cs,h0,h1,h2.agree h hn⟩
 mF:=c.mF
 oO:=c.oO
 blt:=c.blt
 lJ:=c.lJ
 tM:=c.tM
 known:=hk
 dM:=hl
 own:=c.own
section
variable {N:Nat} {gk:Nat→Option Nat} {gb:List Nat} {S:SS} {ρ:Nat→V} {env:Env} {m:Hp}
theorem uU {T : List (Nat × Nat)} {s : SV} {v : V} {a : A} (r : gG ρ gk gb T s v) (h : s.a? = some a) : v.aL = a.den ρ:=by
 cases s <;> simp [SV.a?] at h
 ·subst h; exact r
 ·subst h
  obtain ⟨es,h1,h2⟩:=r
  rw [h1]
  rcases h2 with rfl | ⟨i,_,rfl,_⟩ <;> simp [V.aL,cW]
 ·subst h
  have:v = .sl .full []:=r
  rw [this]; rfl
 ·subst h; exact r.1
theorem yA {s : SV} {a : A} {n : Nat} (hb : s.below n = true) (h : s.a? = some a) : a.below n = true:=by
 cases s <;> simp [SV.a?] at h <;> subst h <;> first | exact hb | rfl
theorem a5c (v:V):(∀ T,gG ρ gk gb T (a5l v) v)∧∀ n,(a5l v).below n=true:=by
 unfold a5l
 split
 ·exact ⟨fun _=>rfl,fun _=>rfl⟩
 ·exact ⟨fun _=>rfl,fun _=>rfl⟩
theorem aQ.j6 (c:aQ N gk gb S ρ env m) {x:Operand} {s:SV} (h:S.j6 x=some s):∃ v,Fbs.ev env x=some v∧gG ρ gk gb m.T s v∧s.below S.nv=true:=by
 cases x with
 | tmp t =>
  obtain ⟨h1,h2,h3⟩:=c.cR t s h
  refine ⟨env.f t,?_,h2,h3⟩
  simp only [Fbs.ev,Env.get]
  rw [if_pos (by rw [c.n]; exact h1)]
 | const v =>
  simp only [SS.j6,Option.map_eq_some_iff] at h
  obtain ⟨u,h1,rfl⟩:=h
  exact ⟨u,h1,(a5c (ρ:=ρ) (gk:=gk) (gb:=gb) u).1 _,(a5c (ρ:=ρ) (gk:=gk) (gb:=gb) u).2 _⟩
 | func f =>
  simp only [SS.j6,Option.some.injEq] at h
  subst h
  exact ⟨_,rfl,rfl,rfl⟩
 | global g=>simp [SS.j6] at h
theorem aQ.opA (c:aQ N gk gb S ρ env m) {x:Operand} {a:A} (h:S.opA x=some a):∃ v,Fbs.ev env x=some v∧v.aL=a.den ρ∧a.below S.nv=true:=by
 simp only [SS.opA,Option.bind_eq_some_iff] at h
 obtain ⟨s,h1,h2⟩:=h
 obtain ⟨v,h3,h4,h5⟩:=c.j6 h1
 exact ⟨v,h3,uU h4 h2,yA h5 h2⟩
theorem aEl {T:List (Nat×Nat)} {s:SV} {v:V} {a:A} {g:Gd} (hsame:∀ a b:Gd,Gd.same a b=true→a=b) (r:gG ρ gk gb T s v) (h:s.ag g=some a):j0 ρ g→v.aL=a.den ρ:=by
 cases s with
 | mL a' g' =>
  simp only [SV.ag] at h
  cases hg:Gd.same g' g with
  | false=>rw [hg] at h; simp at h
  | true =>
   rw [hg] at h
   simp only [cond_true,Option.some.injEq] at h
   subst h
   rw [← hsame g' g hg]; exact r.1
 | _=>exact fun _=>uU r h
theorem aBw {s:SV} {a:A} {g:Gd} {n:Nat} (hb:s.below n=true) (h:s.ag g=some a):a.below n=true:=by
 cases s with
 | mL a' g' =>
  simp only [SV.ag] at h
  simp only [SV.below,Bool.and_eq_true] at hb
  cases hg:Gd.same g' g with
  | false=>rw [hg] at h; simp at h
  | true=>rw [hg] at h; simp only [cond_true,Option.some.injEq] at h; subst h; exact hb.1
 | _=>exact yA hb h
theorem aXd {x y:V} (h:a7h x y=true):x=y:=by
 unfold a7h at h
 split at h <;> simp_all
theorem A.iE {a b:A} (h:a.same b=true):a=b:=by
 unfold A.same at h
 split at h
 ·rw [Nat.eq_of_beq_eq_true h]
 ·simp only [Bool.and_eq_true] at h
  rw [Nat.eq_of_beq_eq_true h.1,Nat.eq_of_beq_eq_true h.2]
 ·rw [aXd h]
 ·simp at h
theorem Gd.iE {a b:Gd} (h:Gd.same a b=true):a=b:=by
 unfold Gd.same at h
 split at h
 ·rfl
 ·simp only [Bool.and_eq_true,beq_iff_eq] at h
  rw [A.iE h.1,h.2]
 ·simp at h
theorem aQ.jS (c:aQ N gk gb S ρ env m) {g:Gd} {x:Operand} {a:A} (h:S.jS g x=some a):∃ v,Fbs.ev env x=some v∧(j0 ρ g→v.aL=a.den ρ)∧a.below S.nv=true:=by
 simp only [SS.jS,Option.bind_eq_some_iff] at h
 obtain ⟨s,h1,h2⟩:=h
 obtain ⟨v,h3,h4,h5⟩:=c.j6 h1
 exact ⟨v,h3,aEl (fun _ _=>Gd.iE) h4 h2,aBw h5 h2⟩
theorem aQ.nC (c:aQ N gk gb S ρ env m) {g:Gd} : ∀ {xs:List Operand} {as:List A},S.nC g xs=some as→∃ vs,Fbs.fQ env xs=some vs∧(j0 ρ g→vs.map V.aL=as.map (A.den ρ))∧as.all (A.below S.nv)=true∧vs.length=as.length
 | [],as,h=>by simp [SS.nC] at h; subst h; exact ⟨[],rfl,fun _=>rfl,rfl,rfl⟩
 | x::xs,as,h=>by
  simp only [SS.nC] at h
  split at h
  ·rename_i a as' h1 h2
   simp only [Option.some.injEq] at h
   subst h
   obtain ⟨v,h3,h4,h5⟩:=c.jS h1
   obtain ⟨vs,h6,h7,h8,h9⟩:=c.nC h2
   exact ⟨v::vs,by simp only [Fbs.fQ,h3,h6],fun hon=>by simp [h4 hon,h7 hon],by simp only [List.all_cons,h5,h8]; rfl,by simp [h9]⟩
  ·simp at h
theorem aQ.a7n (c:aQ N gk gb S ρ env m) {g:Gd} {x:Option Operand} {a:Option A} (h:S.a7n g x=some a):∃ v,qS env x=some v∧(j0 ρ g→v.map V.aL=a.map (A.den ρ))∧(∀ b,a=some b→b.below S.nv=true):=by
 cases x with
 | none=>simp [SS.a7n] at h; subst h; exact ⟨none,rfl,fun _=>rfl,fun _ h=>by simp at h⟩
 | some x =>
  simp only [SS.a7n,Option.map_eq_some_iff] at h
  obtain ⟨a,h1,rfl⟩:=h
  obtain ⟨v,h3,h4,h5⟩:=c.jS h1
  exact ⟨some v,by simp [qS,h3],fun hon=>by simp [h4 hon],fun b hb=>by simp at hb; subst hb; exact h5⟩
theorem aQ.aBs (c:aQ N gk gb S ρ env m) {g side:Gd} {x:Operand} {a:A} (h:S.aBs g side x=some a):∃ v,Fbs.ev env x=some v∧(j0 ρ g→j0 ρ side→v.aL=a.den ρ)∧a.below S.nv=true:=by
 simp only [SS.aBs,Option.bind_eq_some_iff] at h
 obtain ⟨s,h1,h2⟩:=h
 obtain ⟨v,h3,h4,h5⟩:=c.j6 h1
 unfold SV.pk at h2
 split at h2
 ·rename_i a' ha
  simp only [Option.some.injEq] at h2
  subst h2
  exact ⟨v,h3,fun hg _=>aEl (fun _ _=>Gd.iE) h4 ha hg,aBw h5 ha⟩
 ·exact ⟨v,h3,fun _ hs=>aEl (fun _ _=>Gd.iE) h4 h2 hs,aBw h5 h2⟩
theorem aQ.lZ (c:aQ N gk gb S ρ env m) {a:A} {n:Nat} (h:S.lZ a n=true):mX n (a.den ρ):=by
 cases a with
 | v i =>
  simp only [SS.lZ] at h
  split at h
  ·rename_i q hq
   have:=Nat.eq_of_beq_eq_true h
   subst this
   exact (c.known i q hq).2
  ·simp at h
 | c i j =>
  simp only [SS.lZ,Bool.and_eq_true] at h
  obtain ⟨h0,h⟩:=h
  have:=Nat.eq_of_beq_eq_true h0
  subst this
  split at h
  ·rename_i q hq
   have hj:=l7 h
   have:=(c.known i q hq).2
   cases q with
   | zero=>omega
   | succ q =>
    obtain ⟨cs,h1,h2,h3⟩:=this
    show sc (a7 (ρ i) j)=true
    rw [h1]
    simp only [a7,V.cells]
    rw [List.getD_eq_getElem?_getD,List.getElem?_eq_getElem (by omega)]
    exact List.all_eq_true.1 h3 _ (List.getElem_mem _)
  ·simp at h
 | k x =>
  simp only [SS.lZ,Bool.and_eq_true] at h
  have:=Nat.eq_of_beq_eq_true h.1
  subst this
  exact h.2
theorem aQv {l:List Nat} {i:Nat} (h:l3 l i=true):i ∈ l:=by
 unfold l3 at h
 rw [List.any_eq_true] at h
 obtain ⟨j,h1,h2⟩:=h
 rw [Nat.eq_of_beq_eq_true h2]; exact h1
theorem aQ.isB (c:aQ N gk gb S ρ env m) {a:A} (h:S.isB a=true):uQ (a.den ρ)=true:=by
 cases a with
 | v i=>exact (c.dM i (aQv h)).2
 | k x=>exact h
 | c i j=>simp [SS.isB] at h
theorem aQ.zZ (c:aQ N gk gb S ρ env m) {a:A} (ha:a.below S.nv=true) (h:uQ (a.den ρ)=true):∀ i ∈ S.zZ a,i < S.nv∧uQ (ρ i)=true:=by
 cases a with
 | v i =>
  intro j hj
  simp only [SS.zZ] at hj
  cases hb:l3 S.dM i with
  | true=>rw [hb] at hj; exact c.dM j hj
  | false =>
   rw [hb] at hj
   simp only [cond_false,List.mem_cons] at hj
   rcases hj with rfl | hj
   ·exact ⟨l7 ha,h⟩
   ·exact c.dM j hj
 | k x=>exact c.dM
 | c i j=>exact c.dM
theorem aQ.aBx (c:aQ N gk gb S ρ env m) {i n:Nat} (h:S.lZ (.v i) n=true):i < S.nv:=by
 simp only [SS.lZ] at h
 split at h
 ·rename_i q hq; exact (c.known i q hq).1
 ·simp at h
end
end Go.Fbs

/- A word is spoken: what is known behind it. -/
namespace Go.Fbs
def kE (ρ:Nat→V) (g:Gd) (o:Option V):Option V :=
 match g with
 | none=>o
 | some (a,b)=>fD (a.den ρ) b o
theorem b3d (p:PT) (ρ:Nat→V) (e:E) (g:Gd):b4q p ρ e g=kE ρ g (e.ev p ρ):=by
 cases g <;> rfl
theorem aSg {x:V} {b:Bool} {o:Option V} {y:V} (h:fD x b o=some y):(x = .bool b∧o=some y)∨(x ≠ .bool b∧y = .undef∧∀ o':Option V,fD x b o'=some .undef):=by
 unfold fD at h
 cases x with
 | bool t =>
  simp only at h
  by_cases ht:t=b
  ·subst ht; simp at h; exact .inl ⟨rfl,h⟩
  ·have:(t == b)=false:=by simpa using ht
   rw [this] at h
   simp at h
   exact .inr ⟨by simp [ht],h.symm,fun o'=>by simp [fD,ht]⟩
 | undef=>simp at h; exact .inr ⟨by simp,h.symm,fun _=>rfl⟩
 | _=>simp at h
theorem vT {ρ:Nat→V} {g:Gd} {o:Option V} {y:V} (h:kE ρ g o=some y):(j0 ρ g∧o=some y)∨(¬ j0 ρ g∧y = .undef∧∀ o',kE ρ g o'=some .undef):=by
 cases g with
 | none=>exact .inl ⟨trivial,h⟩
 | some q =>
  obtain ⟨a,b⟩:=q
  rcases aSg h with ⟨h1,h2⟩ | ⟨h1,h2,h3⟩
  ·exact .inl ⟨h1,h2⟩
  ·exact .inr ⟨h1,h2,h3⟩
theorem pY {ρ:Nat→V} {g:Gd} (h:j0 ρ g) (o:Option V):kE ρ g o=o:=by
 cases g with
 | none=>rfl
 | some q =>
  obtain ⟨a,b⟩:=q
  simp only [j0] at h
  simp [kE,h,fD]
theorem a7s {n k:Nat} (h:aK2 n=some k):k=n∧0 < n:=by
 unfold aK2 at h
 cases hb:Nat.beq n 0 with
 | true=>rw [hb] at h; simp at h
 | false =>
  rw [hb] at h
  simp at h
  refine ⟨h.symm,Nat.pos_of_ne_zero fun e=>?_⟩
  subst e; simp at hb
theorem b64 {p:PT} {ρ:Nat→V} {e:E} {y:V} {n:Nat} (h:e.ev p ρ=some y) (hk:sX e=some n):mX n y:=by
 have s0:∀ {o:Option V},o=some y→some 0=some n→(∀ z,o=some z→sc z=true)→mX n y:=fun ho h0 hs=>by
  simp only [Option.some.injEq] at h0; subst h0; exact hs _ ho
 cases e with
 | id a=>simp [sX] at hk
 | pre n a=>simp [sX] at hk
 | pE a=>simp only [E.ev] at h; exact s0 h hk fun z hz=>by unfold pE at hz; split at hz <;> simp at hz; subst hz; rfl
 | gD a=>simp only [E.ev] at h; exact s0 h hk fun z hz=>by unfold gD at hz; split at hz <;> simp at hz; subst hz; rfl
 | bin op a b=>simp only [E.ev] at h; exact s0 h hk fun z hz=>(aUb hz).2
 | eqB q a b=>simp only [E.ev] at h; exact s0 h hk fun z hz=>by unfold aKz at hz; split at hz <;> simp at hz; subst hz; rfl
 | eqA q g a b =>
  simp only [E.ev] at h
  refine s0 h hk fun z hz=>?_
  unfold aQo at hz
  split at hz
  ·simp only [Option.map_eq_some_iff] at hz; obtain ⟨_,_,rfl⟩:=hz; rfl
  ·simp at hz
 | un op a =>
  simp only [E.ev] at h
  refine s0 h hk fun z hz=>?_
  unfold k9 at hz
  split at hz <;> simp at hz <;> subst hz <;> rfl
 | mm g a b=>simp only [E.ev] at h; exact s0 h hk fun z hz=>by unfold mmK at hz; split at hz <;> simp at hz; subst hz; rfl
 | xZ q a=>simp only [E.ev] at h; exact s0 h hk fun z hz=>by unfold xZ at hz; split at hz <;> simp at hz; subst hz; rfl
 | vM a=>simp only [E.ev] at h; exact s0 h hk fun z hz=>by unfold vM at hz; split at hz <;> simp at hz; subst hz; rfl
 | vN a =>
  simp only [E.ev] at h
  refine s0 h hk fun z hz=>?_
  unfold vN at hz
  split at hz
  ·simp only [Option.map_eq_some_iff] at hz; obtain ⟨_,_,rfl⟩:=hz; rfl
  ·simp at hz
 | slS a lo hi =>
  simp only [E.ev] at h
  refine s0 h hk fun z hz=>?_
  unfold lF at hz
  split at hz <;> (try (simp at hz; done))
  split at hz <;> (try (simp at hz; done))
  split at hz <;> simp at hz; subst hz; rfl
 | slL q a lo hi =>
  simp only [E.ev] at h
  refine s0 h hk fun z hz=>?_
  unfold a00 at hz
  split at hz <;> (try (simp at hz; done))
  split at hz <;> (try (simp at hz; done))
  split at hz <;> (try (simp at hz; done))
  split at hz <;> simp at hz; subst hz; rfl
 | aWz a i =>
  simp only [E.ev] at h
  refine s0 h hk fun z hz=>?_
  unfold tB at hz
  split at hz <;> (try (simp at hz; done))
  split at hz <;> (try (simp at hz; done))
  simp only [Option.map_eq_some_iff] at hz; obtain ⟨_,_,rfl⟩:=hz; rfl
 | aW0 g q a i =>
  simp only [E.ev] at h
  unfold nB at h
  split at h <;> (try (simp at h; done))
  split at h <;> (try (simp at h; done))
  split at h <;> (try (simp at h; done))
  cases g with
  | true =>
   simp only [sX,cond_true] at hk
   obtain ⟨rfl,hp⟩:=a7s hk
   simp only [if_true] at h
   have:=(xN h).1
   subst this
   exact y0 hp h
  | false =>
   simp only [sX,cond_false,Option.some.injEq] at hk
   subst hk
   simp only [Bool.false_eq_true,if_false] at h
   obtain ⟨rfl,h2⟩:=rS h
   exact h2
 | b2y len g q a i=>simp [sX] at hk
 | inb q i =>
  simp only [E.ev] at h
  refine s0 h hk fun z hz=>?_
  unfold b21 at hz
  split at hz <;> (try (simp at hz; done))
  split at hz <;> simp at hz; subst hz; rfl
 | nth l i =>
  simp only [E.ev] at h
  refine s0 h hk fun z hz=>?_
  unfold b22 at hz
  split at hz <;> (try (simp at hz; done))
  split at hz <;> (try (simp at hz; done))
  split at hz <;> (try (simp at hz; done))
  exact (rS hz).1 ▸ (rS hz).2
 | part g q off a =>
  simp only [E.ev] at h
  unfold rD at h
  split at h <;> (try (simp at h; done))
  cases g with
  | true =>
   simp only [sX,cond_true] at hk
   obtain ⟨rfl,hp⟩:=a7s hk
   simp only [if_true] at h
   split at h <;> (try (simp at h; done))
   have:=(xN h).1
   subst this
   exact y0 hp h
  | false =>
   simp only [sX,cond_false,Option.some.injEq] at hk
   subst hk
   simp only [Bool.false_eq_true,if_false] at h
   split at h <;> (try (simp at h; done))
   obtain ⟨rfl,h2⟩:=rS h
   exact h2
 | agg l =>
  simp only [sX] at hk
  obtain ⟨rfl,hp⟩:=a7s hk
  simp only [E.ev,aE] at h
  split at h
  ·rename_i hs
   simp only [Option.some.injEq] at h
   subst h
   cases hl:l.length with
   | zero=>omega
   | succ q=>exact ⟨_,rfl,by rw [List.length_map,hl],hs⟩
  ·simp at h
 | lit q l=>simp only [E.ev] at h; exact s0 h hk fun z hz=>by unfold lG at hz; split at hz <;> simp at hz; subst hz; rfl
 | make q z b l c =>
  simp only [E.ev] at h
  refine s0 h hk fun z hz=>?_
  unfold aM7 at hz
  split at hz <;> (try (simp at hz; done))
  split at hz <;> simp at hz; subst hz; rfl
 | app q b x y =>
  simp only [E.ev] at h
  refine s0 h hk fun z hz=>?_
  unfold jW at hz
  split at hz <;> (try (simp at hz; done))
  split at hz <;> simp at hz; subst hz; rfl
 | aQl b x y =>
  simp only [E.ev] at h
  refine s0 h hk fun z hz=>?_
  unfold aW3 at hz
  split at hz <;> (try (simp at hz; done))
  unfold jW at hz
  split at hz <;> (try (simp at hz; done))
  split at hz <;> simp at hz; subst hz; rfl
 | call f l=>simp [sX] at hk
 | aJo f l=>simp [sX] at hk
 | fn f l=>simp only [E.ev] at h; exact s0 h hk fun z hz=>by simp at hz; subst hz; rfl
 | aW1 a=>simp only [E.ev] at h; exact s0 h hk fun z hz=>by unfold aM8 at hz; split at hz <;> simp at hz; subst hz; rfl
 | ext a i=>simp [sX] at hk
 | pick c a b=>simp [sX] at hk
 | chk q a =>
  simp only [sX] at hk
  obtain ⟨rfl,hp⟩:=a7s hk
  have:=(xN h).1
  subst this
  exact y0 hp h
 | aW2 a=>simp only [E.ev] at h; exact s0 h hk fun z hz=>by obtain ⟨rfl,h2⟩:=rS hz; exact h2
 | b2z a=>simp [sX] at hk
section
variable {p:PT} {Q:V→Prop} {ks:List (List V→Prop)} {N:Nat} {gk:Nat→Option Nat} {gb:List Nat} {S:SS} {ρ:Nat→V} {env:Env} {m:Hp}
theorem aXe {op:BinOp} {k:IntKind} {a b:Int} {v:V} (h:jL op k a b=some v) (hc:aFs op=true):uQ v=true:=by
 cases op <;> simp [aFs] at hc <;> simp [jL] at h <;> subst h <;> rfl
theorem aXf {op:BinOp} {a b:List UInt8} {v:V} (h:tG op a b=some v) (hc:aFs op=true):uQ v=true:=by
 cases op <;> simp [aFs] at hc <;> simp [tG] at h <;> subst h <;> rfl
theorem b65 (c:aQ N gk gb S ρ env m) {e:E} {y:V} (h:e.ev p ρ=some y) (hb:aBt S e=true):uQ y=true:=by
 cases e with
 | bin op a b =>
  simp only [aBt] at hb
  simp only [E.ev] at h
  unfold aS at h
  split at h
  ·cases op <;> simp only [aFs,Bool.false_eq_true] at hb <;> (simp only at h; split at h) <;> first | exact aXe h rfl | (simp at h)
  ·exact aXf h hb
  ·simp at h
 | eqB q a b=>simp only [E.ev] at h; unfold aKz at h; split at h <;> simp at h; subst h; rfl
 | eqA q g a b =>
  simp only [E.ev] at h; unfold aQo at h
  split at h
  ·simp only [Option.map_eq_some_iff] at h; obtain ⟨_,_,rfl⟩:=h; rfl
  ·simp at h
 | un op a =>
  cases op <;> simp [aBt] at hb
  simp only [E.ev] at h; unfold k9 at h
  split at h <;> simp_all <;> subst h <;> rfl
 | pick q a b =>
  simp only [aBt,Bool.and_eq_true] at hb
  simp only [E.ev] at h; unfold kV at h
  split at h
  ·rename_i t _
   simp only [Option.some.injEq] at h
   subst h
   cases t
   ·exact c.isB hb.2
   ·exact c.isB hb.1
  ·simp at h
 | _=>simp [aBt] at hb
theorem lE (c:aQ N gk gb S ρ env m) {g:Gd} {e:E} {k:A→SS→OL} {L:L} (h:emit g e S k=some L) (hw:L.wp p Q S.nv ρ ks) :
  ∃ y L' kn bl,kE ρ g (e.ev p ρ)=some y∧k (.v S.nv) (S.l8 (S.nv+1) kn bl)=some L'∧L'.wp p Q (S.nv+1) (ext ρ S.nv y) ks∧aQ N gk gb (S.l8 (S.nv+1) kn bl) (ext ρ S.nv y) env m:=by
 simp only [emit,Option.map_eq_some_iff] at h
 obtain ⟨L',h1,rfl⟩:=h
 simp only [L.wp,b3d] at hw
 cases hy:kE ρ g (e.ev p ρ) with
 | none=>rw [hy] at hw; exact hw.elim
 | some y =>
  rw [hy] at hw
  refine ⟨y,L',_,_,rfl,h1,hw,?_⟩
  refine c.more (cS ρ S.nv y) (Nat.le_succ _) ?_ ?_
  rotate_left
  ·have old:∀ i ∈ S.dM,i < S.nv+1∧uQ (ext ρ S.nv y i)=true:=fun i hi=>by
    obtain ⟨h2,h3⟩:=c.dM i hi
    exact ⟨by omega,by rw [cS ρ S.nv y i h2]; exact h3⟩
   intro i hi
   cases hbe:aBt S e with
   | false=>rw [hbe] at hi; exact old i hi
   | true =>
    rw [hbe] at hi
    simp only [cond_true,List.mem_cons] at hi
    rcases hi with rfl | hi
    ·refine ⟨by omega,?_⟩
     rw [l6]
     rcases vT hy with ⟨_,h5⟩ | ⟨_,rfl,_⟩
     ·exact b65 c h5 hbe
     ·rfl
    ·exact old i hi
  have old:∀ i n,assoc S.known i=some n→i < S.nv+1∧mX n (ext ρ S.nv y i):=fun i n hi=>by
   obtain ⟨h2,h3⟩:=c.known i n hi
   exact ⟨by omega,by rw [cS ρ S.nv y i h2]; exact h3⟩
  intro i n hi
  split at hi
  ·rename_i q hk
   simp only [assoc] at hi
   by_cases hb:Nat.beq S.nv i=true
   ·rw [hb] at hi
    simp only [cond_true,Option.some.injEq] at hi
    subst hi
    have:=Nat.eq_of_beq_eq_true hb
    subst this
    exact ⟨by omega,by rw [l6]; exact b64 hy hk⟩
   ·have hb':Nat.beq S.nv i=false:=by
     cases hc:Nat.beq S.nv i with
     | false=>rfl
     | true=>exact absurd hc hb
    rw [hb'] at hi
    exact old i n hi
  ·exact old i n hi
def Fin (p:PT) (Q:V→Prop) (ks:List (List V→Prop)) (N:Nat) (ρ:Nat→V) (S:SS) (env:Env) (k:SV→SS→OL) (o:V→Hp→Prop):Prop :=
 ∃ v m' s S' ρ' L' gk' gb',o v m'∧k s S'=some L'∧L'.wp p Q S'.nv ρ' ks∧aQ N gk' gb' S' ρ' env m'∧gG ρ' gk' gb' m'.T s v∧s.below S'.nv=true∧bR ρ ρ' S.nv∧S.nv≤S'.nv∧S'.dep=S.dep
theorem Fin.step {S1:SS} {ρ1:Nat→V} {k:SV→SS→OL} {o:V→Hp→Prop} (h:Fin p Q ks N ρ1 S1 env k o) (ha:bR ρ ρ1 S.nv) (hn:S.nv≤S1.nv) (hd:S1.dep=S.dep):Fin p Q ks N ρ S env k o:=by
 obtain ⟨v,m',s,S',ρ',L',gk',gb',h1,h2,h3,h4,h5,h6,h7,h8,h9⟩:=h
 exact ⟨v,m',s,S',ρ',L',gk',gb',h1,h2,h3,h4,h5,h6,ha.trans h7 hn,Nat.le_trans hn h8,h9.trans hd⟩
theorem Fin.mono {k:SV→SS→OL} {o o':V→Hp→Prop} (h:Fin p Q ks N ρ S env k o) (ho:∀ v m,o v m→o' v m):Fin p Q ks N ρ S env k o':=by
 obtain ⟨v,m',s,S',ρ',L',gk',gb',h1,h2⟩:=h
 exact ⟨v,m',s,S',ρ',L',gk',gb',ho _ _ h1,h2⟩
theorem oP (c:aQ N gk gb S ρ env m) {k:SV→SS→OL} {L:L} {s:SV} {v:V} {o:V→Hp→Prop} (h:k s S=some L) (hw:L.wp p Q S.nv ρ ks) (ho:o v m) (hr:gG ρ gk gb m.T s v) (hb:s.below S.nv=true):Fin p Q ks N ρ S env k o :=
 ⟨v,m,s,S,ρ,L,gk,gb,ho,h,hw,c,hr,hb,bR.refl _ _,Nat.le_refl _,rfl⟩
theorem oW (n:Nat):A.below (n+1) (.v n)=true:=Nat.ble_eq_true_of_le (Nat.le_refl _)
theorem nQ (c:aQ N gk gb S ρ env m) {g:Gd} {e:E} {k:SV→SS→OL} {L:L} {o:Option V} (h:sY g e S k=some L) (hw:L.wp p Q S.nv ρ ks)
  (hq:j0 ρ g→∀ w,e.ev p ρ=some w→∃ v,o=some v∧v.aL=w):Fin p Q ks N ρ S env k (fun v m'=>m'=m∧kE ρ g o=some v):=by
 obtain ⟨y,L',kn,bl,h1,h2,h3,h4⟩:=lE c h hw
 have:∃ v,kE ρ g o=some v∧v.aL=y:=by
  rcases vT h1 with ⟨hon,h5⟩ | ⟨hoff,rfl,h6⟩
  ·obtain ⟨v,h7,h8⟩:=hq hon y h5
   exact ⟨v,by rw [pY hon]; exact h7,h8⟩
  ·exact ⟨.undef,h6 o,rfl⟩
 obtain ⟨v,h5,h6⟩:=this
 refine ⟨v,m,_,_,_,L',gk,gb,⟨rfl,h5⟩,h2,h3,h4,?_,oW _,cS _ _ _,Nat.le_succ _,rfl⟩
 show v.aL=ext ρ S.nv y S.nv
 rw [l6]; exact h6
theorem aSh (i n : Nat) : ∀ (j q : Nat),q < n → (cellsOf i n j)[q]? = some (.c i (j + q)):=by
 induction n with
 | zero=>intro j q h; omega
 | succ n ih =>
  intro j q h
  cases q with
  | zero=>rfl
  | succ q=>simp only [cellsOf,List.getElem?_cons_succ]; rw [ih (j+1) q (by omega)]; congr 2; omega
theorem a8s (i n:Nat):∀ j,(cellsOf i n j).length=n:=by
 induction n with
 | zero=>intro j; rfl
 | succ n ih=>intro j; simp [cellsOf,ih]
theorem a8t (ρ:Nat→V) {i n:Nat} {cs:List V} (h:(ρ i).cells=cs) (hl:cs.length=n):(cellsOf i n 0).map (A.den ρ)=cs:=by
 apply List.ext_getElem?
 intro q
 by_cases hq:q < n
 ·rw [List.getElem?_map,aSh i n 0 q hq,List.getElem?_eq_getElem (by omega)]
  simp only [Option.map_some,A.den,a7,Nat.zero_add,h]
  rw [List.getD_eq_getElem?_getD,List.getElem?_eq_getElem (by omega)]; rfl
 ·rw [List.getElem?_eq_none (by simp [a8s]; omega),List.getElem?_eq_none (by omega)]
theorem aCe {i n nv:Nat} (h:i < nv):∀ j,(cellsOf i n j).all (A.below nv)=true:=by
 induction n with
 | zero=>intro j; rfl
 | succ n ih=>intro j; simp only [cellsOf,List.all_cons,ih,Bool.and_true]; exact Nat.ble_eq_true_of_le h
theorem uV {n:Nat} {v:V} (hn:0 < n) (h:mX n v):∃ cs,v = .agg cs∧cs.length=n∧cs.all sc=true:=by
 cases n with
 | zero=>omega
 | succ n=>exact h
theorem aL4 (c:aQ N gk gb S ρ env m) {g:Gd} {n:Nat} {a:A} {k:List A→SS→OL} {L:L} (h:a1q g n a S k=some L) (hw:L.wp p Q S.nv ρ ks) :
  ∃ i nv kn bl ρ' L',k (cellsOf i n 0) (S.l8 nv kn bl)=some L'∧L'.wp p Q nv ρ' ks∧aQ N gk gb (S.l8 nv kn bl) ρ' env m∧0 < n∧i < nv∧S.nv≤nv∧bR ρ ρ' S.nv∧(j0 ρ g→ρ' i=a.den ρ∧mX n (ρ' i)):=by
 unfold a1q at h
 cases hn0:Nat.beq n 0 with
 | true=>rw [hn0] at h; simp at h
 | false =>
  rw [hn0] at h
  simp only [cond_false] at h
  have hn:0 < n:=Nat.pos_of_ne_zero fun e=>by subst e; simp at hn0
  have viaChk:∀ {L:Go.Fbs.L} (_:L.wp p Q S.nv ρ ks),emit g (.chk n a) S (fun _ S'=>k (cellsOf S.nv n 0) S')=some L→∃ i nv kn bl ρ' L',k (cellsOf i n 0) (S.l8 nv kn bl)=some L'∧L'.wp p Q nv ρ' ks∧aQ N gk gb (S.l8 nv kn bl) ρ' env m∧0 < n∧i < nv∧S.nv≤nv∧bR ρ ρ' S.nv∧(j0 ρ g→ρ' i=a.den ρ∧mX n (ρ' i)):=by
   intro L hw he
   obtain ⟨y,L',kn,bl,h1,h2,h3,h4⟩:=lE c he hw
   refine ⟨S.nv,S.nv+1,kn,bl,_,L',h2,h3,h4,hn,Nat.lt_succ_self _,Nat.le_succ _,cS _ _ _,fun hon=>?_⟩
   rw [pY hon] at h1
   rw [l6]
   simp only [E.ev] at h1
   have:=(xN h1).1
   subst this
   exact ⟨rfl,y0 hn h1⟩
  split at h
  ·rename_i i
   cases hk:S.lZ (.v i) n with
   | true =>
    rw [hk] at h
    simp only [cond_true] at h
    exact ⟨i,S.nv,S.known,(S.dM,S.a1o),ρ,L,h,hw,c,hn,c.aBx hk,Nat.le_refl _,bR.refl _ _,fun _=>⟨rfl,c.lZ hk⟩⟩
   | false =>
    rw [hk] at h
    exact viaChk hw h
  ·exact viaChk hw h
theorem aEm (c:aQ N gk gb S ρ env m) {g:Gd} {a:A} (hab:a.below S.nv=true) {k:A→SS→OL} {L:L} (h:aEi g a S k=some L) (hw:L.wp p Q S.nv ρ ks) :
  ∃ a' nv kn bl ρ' L',k a' (S.l8 nv kn bl)=some L'∧L'.wp p Q nv ρ' ks∧aQ N gk gb (S.l8 nv kn bl) ρ' env m∧a'.below nv=true∧S.nv≤nv∧bR ρ ρ' S.nv∧(j0 ρ g→a'.den ρ'=a.den ρ∧sc (a.den ρ)=true):=by
 unfold aEi at h
 cases hk:S.lZ a 0 with
 | true =>
  rw [hk] at h
  simp only [cond_true] at h
  exact ⟨a,S.nv,S.known,(S.dM,S.a1o),ρ,L,h,hw,c,hab,Nat.le_refl _,bR.refl _ _,fun _=>⟨rfl,c.lZ hk⟩⟩
 | false =>
  rw [hk] at h
  simp only [cond_false] at h
  obtain ⟨y,L',kn,bl,h1,h2,h3,h4⟩:=lE c h hw
  refine ⟨.v S.nv,S.nv+1,kn,bl,_,L',h2,h3,h4,oW _,Nat.le_succ _,cS _ _ _,fun hon=>?_⟩
  rw [pY hon] at h1
  simp only [E.ev] at h1
  obtain ⟨rfl,h5⟩:=rS h1
  exact ⟨l6 _ _ _,h5⟩
end
end Go.Fbs

/- Operations that leave the memory as it is. -/
namespace Go.Fbs
def rU (S:SS) (ρ:Nat→V) (g:Gd):Prop:=Gd.below S.nv g=true∧∀ a b,g=some (a,b)→uQ (a.den ρ)=true
theorem a5d {S:SS} {ρ:Nat→V} {g:Gd} (hg:rU S ρ g) (h:¬ j0 ρ g) (o:Option V):kE ρ g o=some .undef:=by
 cases g with
 | none=>exact absurd trivial h
 | some q =>
  obtain ⟨a,b⟩:=q
  have:=hg.2 a b rfl
  simp only [j0] at h
  simp only [kE]
  cases hd:a.den ρ with
  | bool t =>
   rw [hd] at h
   simp only [fD]
   have:(t == b)=false:=by
    cases t <;> cases b <;> simp_all
   rw [this]; rfl
  | undef=>rfl
  | _=>rw [hd] at this; simp [uQ] at this
theorem rU.more {S:SS} {ρ ρ':Nat→V} {g:Gd} (hg:rU S ρ g) {nv:Nat} (hn:S.nv≤nv) (ha:bR ρ ρ' S.nv) {kn:List (Nat×Nat)} {bl:List Nat×List Nat} : rU (S.l8 nv kn bl) ρ' g :=
 ⟨Gd.cO hg.1 hn,fun a b h=>by
  have hb:a.below S.nv=true:=by have:=hg.1; rw [h] at this; exact this
  rw [j7 ha hb]; exact hg.2 a b h⟩
section
variable {P:Program} {tt:TT} (hT:∀ t ti,eX tt t=some ti→aZ P ti∧ti.t=t)
variable {p:PT} {Q:V→Prop} {ks:List (List V→Prop)} {N:Nat} {gk:Nat→Option Nat} {gb:List Nat} {S:SS} {ρ:Nat→V} {env:Env} {m:Hp}
abbrev QO (P:Program) (tt:TT) (p:PT) (ρ:Nat→V) (g:Gd) (env:Env) (m:Hp) (op:Op):V→Hp→Prop:=fun v m'=>m'=m∧kE ρ g (bV P (CE tt p) env m.H op)=some v
theorem a9x (c:aQ N gk gb S ρ env m) {g:Gd} {k:SV→SS→OL} {L:L} {o:Option V} {s:SV} {v:V} {a:A}
  (h:(match g with | none=>k s S | some _=>k (.mL a g) S)=some L) (hg:rU S ρ g) (hw:L.wp p Q S.nv ρ ks) (ho:j0 ρ g→o=some v) (hr:g=none→gG ρ gk gb m.T s v) (hb:s.below S.nv=true) (hab:a.below S.nv=true) (ha:j0 ρ g→v.aL=a.den ρ) :
  Fin p Q ks N ρ S env k (fun v m'=>m'=m∧kE ρ g o=some v):=by
 cases g with
 | none=>exact oP c h hw ⟨rfl,ho trivial⟩ (hr rfl) hb
 | some q =>
  have hbel:SV.below S.nv (.mL a (some q))=true:=by simp only [SV.below,hab,Bool.true_and]; exact hg.1
  by_cases hon:j0 ρ (some q)
  ·exact oP c h hw ⟨rfl,by rw [pY hon]; exact ho hon⟩ ⟨fun _=>ha hon,fun h=>absurd hon h⟩ hbel
  ·exact oP c h hw ⟨rfl,a5d hg hon o⟩ ⟨fun h=>absurd h hon,fun _=>rfl⟩ hbel
theorem jE (c:aQ N gk gb S ρ env m) {g:Gd} {as:List A} {e:E} {k:SV→SS→OL} {L:L} {o:Option V} (h:kF g as e S k=some L) (hg:rU S ρ g) (hw:L.wp p Q S.nv ρ ks)
  (hq:j0 ρ g→∀ w,e.ev p ρ=some w→∃ v,o=some v∧v.aL=w):Fin p Q ks N ρ S env k (fun v m'=>m'=m∧kE ρ g o=some v):=by
 cases g with
 | none=>exact nQ c h hw hq
 | some q =>
  simp only [kF] at h
  cases hs:as.all S.sure with
  | false=>rw [hs] at h; exact nQ c h hw hq
  | true =>
   rw [hs] at h
   simp only [cond_true] at h
   obtain ⟨y,L',kn,bl,h1,h2,h3,h4⟩:=lE c h hw
   have hgi:j0 (ext ρ S.nv y) (some q)↔j0 ρ (some q):=rT (cS _ _ _) hg.1
   have hbel:SV.below (S.nv+1) (.mL (.v S.nv) (some q))=true:=by
    simp only [SV.below,Bool.and_eq_true]
    exact ⟨oW _,Gd.cO hg.1 (Nat.le_succ _)⟩
   by_cases hon:j0 ρ (some q)
   ·obtain ⟨v,h5,h6⟩:=hq hon y h1
    exact ⟨v,m,_,_,_,L',gk,gb,⟨rfl,by rw [pY hon]; exact h5⟩,h2,h3,h4,⟨fun _=>by show v.aL=ext ρ S.nv y S.nv; rw [l6]; exact h6,fun h=>absurd (hgi.2 hon) h⟩,hbel,cS _ _ _,Nat.le_succ _,rfl⟩
   ·exact ⟨.undef,m,_,_,_,L',gk,gb,⟨rfl,a5d hg hon o⟩,h2,h3,h4,⟨fun h=>absurd (hgi.1 h) hon,fun _=>rfl⟩,hbel,cS _ _ _,Nat.le_succ _,rfl⟩
theorem b0f (c:aQ N gk gb S ρ env m) {g:Gd} {x:Operand} {k:SV→SS→OL} {L:L}
  (h:(match S.j6 x with | some s=>(match g with | none=>k s S | some _=>(match s.ag g with | some a=>k (.mL a g) S | none=>(match s with | .ptr b off none=>k (.ptr b off g) S | _=>none))) | none=>none)=some L) (hg:rU S ρ g) (hw:L.wp p Q S.nv ρ ks) :
  Fin p Q ks N ρ S env k (fun v m'=>m'=m∧kE ρ g (Fbs.ev env x)=some v):=by
 split at h
 ·rename_i s hs
  obtain ⟨v,h1,h2,h3⟩:=c.j6 hs
  cases g with
  | none=>exact oP c h hw ⟨rfl,h1⟩ h2 h3
  | some q =>
   simp only at h
   split at h
   ·rename_i a ha
    exact a9x c (s:=s) h hg hw (fun _=>h1) (fun h=>by simp at h) h3 (aBw h3 ha) (aEl (fun _ _=>Gd.iE) h2 ha)
   ·split at h
    ·rename_i b off hno
     obtain ⟨l,h4,rfl⟩:=h2.1 trivial
     by_cases hon:j0 ρ (some q)
     ·exact ⟨.ptr l off,m,_,S,ρ,L,gk,gb,⟨rfl,by rw [pY hon]; exact h1⟩,h,hw,c,⟨fun _=>⟨l,h4,rfl⟩,fun hn=>absurd hon hn⟩,hg.1,bR.refl _ _,Nat.le_refl _,rfl⟩
     ·exact ⟨.undef,m,_,S,ρ,L,gk,gb,⟨rfl,a5d hg hon _⟩,h,hw,c,⟨fun h=>absurd h hon,fun _=>rfl⟩,hg.1,bR.refl _ _,Nat.le_refl _,rfl⟩
    ·simp at h
 ·simp at h
theorem bAs (c:aQ N gk gb S ρ env m) {g:Gd} (hg:rU S ρ g) {x y z:Operand} {k:SV→SS→OL} {L:L}
  (h:iZ tt g (.pick x y z) S k=some L) (hw:L.wp p Q S.nv ρ ks) :
  Fin p Q ks N ρ S env k (QO P tt p ρ g env m (.pick x y z)):=by
 simp only [iZ] at h
 split at h
 ·rename_i a1 e1
  split at h
  ·rename_i a2 a3 e2 e3
   obtain ⟨v1,h1,h1',_⟩:=c.jS e1
   obtain ⟨v2,h2,h2',_⟩:=c.aBs e2
   obtain ⟨v3,h3,h3',_⟩:=c.aBs e3
   refine jE c h hg hw fun hon w hw'=>?_
   simp only [E.ev] at hw'
   simp only [bV,h1,h2,h3]
   unfold kV at hw'
   split at hw'
   ·rename_i t ht
    simp only [Option.some.injEq] at hw'
    have hv1:v1 = .bool t:=nP (by rw [h1' hon]; exact ht)
    subst hv1
    refine ⟨_,rfl,?_⟩
    cases t with
    | true=>simp only [if_true] at hw' ⊢; rw [← hw']; exact h2' hon ht
    | false=>simp only [Bool.false_eq_true,if_false] at hw' ⊢; rw [← hw']; exact h3' hon ht
   ·simp at hw'
  ·simp at h
 ·simp at h
theorem aQw {T : List (Nat × Nat)} : ∀ {l : List SV} {as : List A} {cs : List V},aFt l = some as → l.length = cs.length → (∀ (j : Nat) s v,l[j]? = some s → cs[j]? = some v → gG ρ gk gb T s v) → cs.map V.aL = as.map (A.den ρ)
 | [],as,cs,h,hl,_=>by
  simp [aFt] at h; subst h
  cases cs with
  | nil=>rfl
  | cons=>simp at hl
 | s::l,as,cs,h,hl,hr=>by
  simp only [aFt] at h
  split at h
  ·rename_i a as' h1 h2
   simp only [Option.some.injEq] at h
   subst h
   cases cs with
   | nil=>simp at hl
   | cons v cs =>
    simp only [List.map_cons]
    rw [uU (hr 0 s v rfl rfl) h1,aQw h2 (by simpa using hl) (fun j s v h3 h4=>hr (j+1) s v (by simpa using h3) (by simpa using h4))]
  ·simp at h
theorem aEn {i:Nat} : ∀ (as:List A) (j:Nat),a2m i j as=true→as=cellsOf i as.length j
 | [],j,_=>rfl
 | .c i' j'::r,j,h=>by
  simp only [a2m,Bool.and_eq_true] at h
  have h1:=Nat.eq_of_beq_eq_true h.1.1
  have h2:=Nat.eq_of_beq_eq_true h.1.2
  subst h1; subst h2
  simp only [List.length_cons,cellsOf]
  rw [← aEn r (j+1) h.2]
 | .v _::r,j,h=>by simp [a2m] at h
 | .k _::r,j,h=>by simp [a2m] at h
theorem aHr (c:aQ N gk gb S ρ env m) {t:TypeId} {ti:TI} (tok:aZ P ti) (htt:ti.t=t) {g:Gd} (hgk:rU S ρ g) {cells:List SV} {cs:List V} (hc:Cells ρ gk gb m.T S.nv cells cs) {off:Nat} {k:SV→SS→OL} {L:L} {o:Option V}
  (h:aJr ti g cells off S k=some L) (hw:L.wp p Q S.nv ρ ks) (ho:j0 ρ g→o=loadT P t (cs.drop off)):Fin p Q ks N ρ S env k (fun v m'=>m'=m∧kE ρ g o=some v):=by
 have hag:=tok.agg; have hsz:=tok.sz
 rw [htt] at hag hsz
 have hload:loadT P t (cs.drop off)=qM ti.agg ti.sz (cs.drop off):=aKx hag hsz _
 rw [hload] at ho
 unfold aJr at h
 cases hg:ti.agg with
 | true =>
  rw [hg] at h ho
  simp only [cond_true] at h
  cases hle:Nat.ble (off+ti.sz) cells.length with
  | false=>rw [hle] at h; simp at h
  | true =>
   rw [hle] at h
   simp only [cond_true] at h
   have hle':=Nat.le_of_ble_eq_true hle
   split at h
   ·rename_i as has
    have hlen:((cells.drop off).take ti.sz).length=((cs.drop off).take ti.sz).length:=by simp [hc.1]
    have hden:=aQw (ρ:=ρ) (gk:=gk) (gb:=gb) (T:=m.T) has hlen (fun j s v h1 h2=>by
     rw [List.getElem?_take] at h1 h2
     split at h1
     ·rename_i hj
      rw [if_pos hj] at h2
      rw [List.getElem?_drop] at h1 h2
      exact (hc.2 _ s v h1 h2).1
     ·simp at h1)
    have hval:qM true ti.sz (cs.drop off)=some (.agg ((cs.drop off).take ti.sz)):=by
     unfold qM
     rw [if_pos rfl,if_pos (by rw [List.length_drop,← hc.1]; omega)]
    have viaAgg:∀ {L:Go.Fbs.L},L.wp p Q S.nv ρ ks→kF g as (.agg as) S k=some L→Fin p Q ks N ρ S env k (fun v m'=>m'=m∧kE ρ g o=some v):=fun hw he=>by
     refine jE c he hgk hw fun hon w hw'=>⟨_,(ho hon).trans hval,?_⟩
     simp only [E.ev,aE] at hw'
     split at hw'
     ·simp only [Option.some.injEq] at hw'
      rw [← hw']
      simp only [V.aL,cW]
      rw [hden]
     ·simp at hw'
    split at h
    ·rename_i i hi
     cases hwh:(a2m i 0 as && S.lZ (.v i) ti.sz && Nat.beq as.length ti.sz) with
     | false=>rw [hwh] at h; exact viaAgg hw h
     | true =>
      rw [hwh] at h
      simp only [cond_true] at h
      simp only [Bool.and_eq_true] at hwh
      have hl:=Nat.eq_of_beq_eq_true hwh.2
      have hk:=c.lZ hwh.1.2
      have hpos:0 < ti.sz:=by
       rw [← hl]
       cases as with
       | nil=>simp [aUa] at hi
       | cons=>simp
      obtain ⟨ds,hd1,hd2,hd3⟩:=uV hpos hk
      have has2:=aEn as 0 hwh.1.1
      refine oP c h hw ⟨rfl,(ho trivial).trans hval⟩ ?_ ?_
      ·show V.aL _=A.den ρ (.v i)
       rw [hd1]
       simp only [V.aL,cW]
       rw [hden,has2,hl,a8t ρ (cs:=ds) (by show (A.den ρ (.v i)).cells=ds; rw [hd1]; rfl) hd2]
      ·exact Nat.ble_eq_true_of_le (c.aBx hwh.1.2)
    ·exact viaAgg hw h
   ·simp at h
 | false =>
  rw [hg] at h ho
  simp only [cond_false] at h
  split at h
  ·rename_i s hs
   have hlt:off < cells.length:=(List.getElem?_eq_some_iff.1 hs).1
   obtain ⟨v,hv⟩ : ∃ v,cs[off]? = some v:=⟨cs[off]'(by rw [← hc.1]; exact hlt),List.getElem?_eq_getElem _⟩
   obtain ⟨h1,h2⟩:=hc.2 off s v hs hv
   have hval:qM false ti.sz (cs.drop off)=some v:=by
    unfold qM
    rw [if_neg (by simp),List.getElem?_drop]; exact hv
   cases g with
   | none=>exact oP c h hw ⟨rfl,(ho trivial).trans hval⟩ h1 h2
   | some q =>
    simp only at h
    split at h
    ·rename_i a ha
     exact a9x c (s:=s) h hgk hw (fun hon=>(ho hon).trans hval) (fun h=>by simp at h) h2 (yA h2 ha) (fun _=>uU h1 ha)
    ·simp at h
  ·simp at h
theorem tN {hv g:Gd} (h:lN hv g=true) (hon:j0 ρ g):j0 ρ hv:=by
 unfold lN at h
 cases hv with
 | none=>trivial
 | some q=>rw [Gd.iE h]; exact hon
theorem aSi {v:V} (h:mX 0 v):sc v=true:=h
include hT in
theorem bAt (c:aQ N gk gb S ρ env m) {g:Gd} (hgk:rU S ρ g) {t:TypeId} {x:Operand} {k:SV→SS→OL} {L:L} (h:iZ tt g (.load t x) S k=some L) (hw:L.wp p Q S.nv ρ ks) :
  Fin p Q ks N ρ S env k (QO P tt p ρ g env m (.load t x)):=by
 simp only [iZ] at h
 split at h
 ·rename_i b off hv ti hx hti
  obtain ⟨tok,htt⟩:=hT t ti hti
  obtain ⟨v,h1,h2,h3⟩:=c.j6 hx
  cases hf:lN hv g with
  | false=>rw [hf] at h; simp at h
  | true =>
   rw [hf] at h
   simp only [cond_true] at h
   split at h
   ·rename_i cells hb
    obtain ⟨l,cs,h0,h4,h5⟩:=c.boxes b cells hb
    refine aHr c tok htt hgk h5 h hw fun hon=>?_
    obtain ⟨l',hl,hv'⟩:=h2.1 (tN hf hon)
    rw [h0] at hl
    simp only [Option.some.injEq] at hl
    subst hl
    simp only [bV,hP,h1,hv',nX,h4]
   ·simp at h
 ·rename_i a n off hv ti hx hti
  obtain ⟨tok,htt⟩:=hT t ti hti
  have hag:=tok.agg; have hsz:=tok.sz
  rw [htt] at hag hsz
  obtain ⟨v,h1,h2,h3⟩:=c.j6 hx
  have hbel:a.below S.nv=true:=by simp only [SV.below,Bool.and_eq_true] at h3; exact h3.1
  cases hf:lN hv g with
  | false=>rw [hf] at h; simp at h
  | true =>
   rw [hf] at h
   simp only [cond_true] at h
   have hev:j0 ρ g→∃ cs:List V,cs.map V.aL=(a.den ρ).cells∧mX n (a.den ρ)∧bV P (CE tt p) env m.H (.load t x)=qM ti.agg ti.sz (cs.drop off):=fun hon=>by
    obtain ⟨cs,h4,h5,h6⟩:=h2.1 (tN hf hon)
    refine ⟨cs,h5,h6,?_⟩
    simp only [bV,hP,h1,h4,nX]
    exact aKx hag hsz _
   have part:∀ {pg:Bool} {pn:Nat} {L:Go.Fbs.L},L.wp p Q S.nv ρ ks→0 < n→ti.agg=pg→(pg=true→pn=ti.sz)→kF g [a] (.part pg pn off a) S k=some L→Fin p Q ks N ρ S env k (QO P tt p ρ g env m (.load t x)):=by
    intro pg pn L hw hn hpg hpn he
    refine jE c he hgk hw fun hon w hw'=>?_
    obtain ⟨cs,h5,h6,h7⟩:=hev hon
    rw [h7,hpg]
    obtain ⟨ds,hd1,hd2,hd3⟩:=uV hn h6
    simp only [E.ev] at hw'
    have:a.den ρ=(V.agg cs).aL:=by rw [hd1]; simp only [V.aL,cW,h5,hd1]; rfl
    rw [this] at hw'
    obtain ⟨cs',v',e1,e2,e3,_⟩:=b0e hw'
    simp only [V.agg.injEq] at e1
    subst e1
    refine ⟨v',?_,e3⟩
    rw [← e2]
    cases pg with
    | true=>simp only [qM,qN,if_true,hpn rfl,List.length_drop]; split <;> split <;> first | rfl | (exfalso; rename_i q1 q2; simp [qN,hpn rfl] at e2; omega)
    | false=>simp only [qM,qN,Bool.false_eq_true,if_false,List.getElem?_drop]; rfl
   cases hn0:Nat.beq n 0 with
   | true =>
    have hn:n=0:=Nat.eq_of_beq_eq_true hn0
    subst hn
    rw [hn0] at h
    simp only [cond_true] at h
    cases hcond:(Nat.beq off 0 && !ti.agg) with
    | false=>rw [hcond] at h; simp at h
    | true =>
     rw [hcond] at h
     simp only [cond_true] at h
     simp only [Bool.and_eq_true,Bool.not_eq_true'] at hcond
     have ho:=Nat.eq_of_beq_eq_true hcond.1
     subst ho
     by_cases hon:j0 ρ g
     ·obtain ⟨cs,h5,h6,h7⟩:=hev hon
      have hs:=aSi h6
      rw [a6i hs] at h5
      obtain ⟨u,rfl⟩:∃ u,cs=[u]:=by
       have:=congrArg List.length h5
       simp only [List.length_map,List.length_singleton] at this
       exact List.length_eq_one_iff.1 this
      simp only [List.map_cons,List.map_nil,List.cons.injEq,and_true] at h5
      have h8:bV P (CE tt p) env m.H (.load t x)=some u:=by rw [h7,hcond.2]; rfl
      exact a9x c (s:=.val a) (v:=u) h hgk hw (fun _=>h8) (fun _=>h5) hbel hbel (fun _=>h5)
     ·cases g with
      | none=>exact absurd trivial hon
      | some q=>exact a9x c (v:=.undef) (s:=.val a) h hgk hw (fun hon'=>absurd hon' hon) (fun h=>by simp at h) hbel hbel (fun hon'=>absurd hon' hon)
   | false =>
    have hn:0 < n:=Nat.pos_of_ne_zero fun e=>by subst e; simp at hn0
    rw [hn0] at h
    simp only [cond_false] at h
    cases hg:ti.agg with
    | true =>
     rw [hg] at h
     simp only [cond_true] at h
     cases hcond:(Nat.beq off 0 && Nat.beq ti.sz n) with
     | false =>
      rw [hcond] at h
      exact part hw hn hg (fun _=>rfl) h
     | true =>
      rw [hcond] at h
      simp only [cond_true] at h
      simp only [Bool.and_eq_true] at hcond
      have ho:=Nat.eq_of_beq_eq_true hcond.1
      have hz:=Nat.eq_of_beq_eq_true hcond.2
      subst ho
      by_cases hon:j0 ρ g
      ·obtain ⟨cs,h5,h6,h7⟩:=hev hon
       obtain ⟨ds,hd1,hd2,hd3⟩:=uV hn h6
       have hl:cs.length=n:=by rw [← hd2]; have:=congrArg List.length h5; rw [hd1] at this; simpa [V.cells] using this
       have h8:bV P (CE tt p) env m.H (.load t x)=some (.agg cs):=by
        rw [h7,hg]
        simp only [List.drop_zero,qM,if_true]
        rw [if_pos (by omega),List.take_of_length_le (by omega)]
       have h9:(V.agg cs).aL=a.den ρ:=by simp only [V.aL,cW,h5]; rw [hd1]; rfl
       exact a9x c (s:=.val a) (v:=.agg cs) h hgk hw (fun _=>h8) (fun _=>h9) hbel hbel (fun _=>h9)
      ·cases g with
       | none=>exact absurd trivial hon
       | some q=>exact a9x c (v:=.undef) (s:=.val a) h hgk hw (fun hon'=>absurd hon' hon) (fun h=>by simp at h) hbel hbel (fun hon'=>absurd hon' hon)
    | false =>
     rw [hg] at h
     simp only [cond_false] at h
     split at h
     ·rename_i i
      cases hcond:(S.lZ (.v i) n && Nat.blt off n) with
      | false=>rw [hcond] at h; exact part hw hn hg (by simp) h
      | true =>
       rw [hcond] at h
       simp only [cond_true] at h
       simp only [Bool.and_eq_true] at hcond
       obtain ⟨cs,h5,h6,h7⟩:=hev trivial
       obtain ⟨ds,hd1,hd2,hd3⟩:=uV hn h6
       have hl:cs.length=n:=by rw [← hd2]; have:=congrArg List.length h5; rw [hd1] at this; simpa [V.cells] using this
       have hlt:=l7 hcond.2
       refine oP c h hw ⟨rfl,show bV P (CE tt p) env m.H (.load t x)=some (cs[off]'(by omega)) from ?_⟩ ?_ ?_
       ·rw [h7,hg]
        simp only [qM,Bool.false_eq_true,if_false,List.getElem?_drop]
        exact List.getElem?_eq_getElem _
       ·show V.aL _=a7 (A.den ρ (.v i)) off
        unfold a7
        rw [← h5,List.getD_eq_getElem?_getD,List.getElem?_map,List.getElem?_eq_getElem (by omega)]
        rfl
       ·exact Nat.ble_eq_true_of_le (c.aBx hcond.1)
     ·exact part hw hn hg (by simp) h
 ·rename_i b off n i hv ti hx hti
  obtain ⟨tok,htt⟩:=hT t ti hti
  have hag:=tok.agg; have hsz:=tok.sz
  rw [htt] at hag hsz
  obtain ⟨v,h1,h2,h3⟩:=c.j6 hx
  cases hf:(lN hv g && !ti.agg) with
  | false=>rw [hf] at h; simp at h
  | true =>
   rw [hf] at h
   simp only [cond_true] at h
   simp only [Bool.and_eq_true,Bool.not_eq_true'] at hf
   split at h
   ·rename_i cells hb
    split at h
    ·rename_i as has
     obtain ⟨l,cs,h0,h4,h5⟩:=c.boxes b cells hb
     refine nQ c h hw fun hon w hw'=>?_
     obtain ⟨l',q,z,e1,e2,e3,e4⟩:=h2.1 (tN hf.1 hon)
     rw [h0] at e1
     simp only [Option.some.injEq] at e1
     subst e1
     have hev:bV P (CE tt p) env m.H (.load t x)=cs[off+z]?:=by
      simp only [bV,hP,h1,e4,nX,h4]
      rw [aKx hag hsz,hf.2]
      simp only [qM,Bool.false_eq_true,if_false,List.getElem?_drop,Nat.add_zero]
     have hcs:((cs.drop off).take n).map V.aL=as.map (A.den ρ):=aQw has (by simp [h5.1]) fun j s u g1 g2=>by
      rw [List.getElem?_take] at g1 g2
      split at g1
      ·rw [if_pos (by assumption)] at g2
       rw [List.getElem?_drop] at g1 g2
       exact (h5.2 _ s u g1 g2).1
      ·simp at g1
     simp only [E.ev,e2,← hcs] at hw'
     unfold b22 at hw'
     simp only at hw'
     rw [if_pos (by omega)] at hw'
     split at hw'
     ·rename_i u hu
      obtain ⟨rfl,_⟩:=rS hw'
      simp only [Int.toNat_natCast,List.getElem?_map,Option.map_eq_some_iff] at hu
      obtain ⟨u0,g1,g2⟩:=hu
      rw [List.getElem?_take,if_pos e3,List.getElem?_drop] at g1
      exact ⟨u0,by rw [hev]; exact g1,g2⟩
     ·simp at hw'
    ·simp at h
   ·simp at h
 ·simp at h
end
end Go.Fbs

/- The other operations that leave the memory as it is. -/
namespace Go.Fbs
section
variable {P:Program} {tt:TT} (hT:∀ t ti,eX tt t=some ti→aZ P ti∧ti.t=t)
variable {p:PT} {Q:V→Prop} {ks:List (List V→Prop)} {N:Nat} {gk:Nat→Option Nat} {gb:List Nat} {S:SS} {ρ:Nat→V} {env:Env} {m:Hp}
theorem aBy (c:aQ N gk gb S ρ env m) {g:Gd} (hg:rU S ρ g) {k:SV→SS→OL} {L:L} {o:Option V} {s:SV} (h:k s S=some L) (hw:L.wp p Q S.nv ρ ks) (hb:s.below S.nv=true)
  (hon:j0 ρ g→∃ v,o=some v∧gG ρ gk gb m.T s v) (hoff:¬ j0 ρ g→gG ρ gk gb m.T s .undef):Fin p Q ks N ρ S env k (fun v m'=>m'=m∧kE ρ g o=some v):=by
 by_cases ho:j0 ρ g
 ·obtain ⟨v,h1,h2⟩:=hon ho
  exact oP c h hw ⟨rfl,by rw [pY ho]; exact h1⟩ h2 hb
 ·exact oP c h hw ⟨rfl,a5d hg ho o⟩ (hoff ho) hb
theorem aXg (c:aQ N gk gb S ρ env m) {g:Gd} (hg:rU S ρ g) {x:Operand} {k:SV→SS→OL} {L:L} (h:iZ tt g (.nilCheck x) S k=some L) (hw:L.wp p Q S.nv ρ ks) :
  Fin p Q ks N ρ S env k (QO P tt p ρ g env m (.nilCheck x)):=by
 simp only [iZ] at h
 have cnd:∀ {hv:Gd},(g.same hv || hv.same none && g.same none)=true→g=hv:=fun {hv} e=>by
  simp only [Bool.or_eq_true,Bool.and_eq_true] at e
  rcases e with e | ⟨e1,e2⟩
  ·exact Gd.iE e
  ·rw [Gd.iE e1,Gd.iE e2]
 split at h
 ·rename_i b off hv hx
  obtain ⟨v,h1,h2,h3⟩:=c.j6 hx
  cases hc:(g.same hv || hv.same none && g.same none) with
  | false=>rw [hc] at h; simp at h
  | true =>
   rw [hc] at h
   have:=cnd hc
   subst this
   refine aBy c hg h hw h3 (fun ho=>⟨v,?_,h2⟩) (fun ho=>?_)
   ·obtain ⟨l,_,h4⟩:=h2.1 ho
    simp only [bV,hP,h1,h4,a8g]
   ·rw [h2.2 ho] at h2; exact h2
 ·rename_i a n off hv hx
  obtain ⟨v,h1,h2,h3⟩:=c.j6 hx
  cases hc:(g.same hv || hv.same none && g.same none) with
  | false=>rw [hc] at h; simp at h
  | true =>
   rw [hc] at h
   have:=cnd hc
   subst this
   refine aBy c hg h hw h3 (fun ho=>⟨v,?_,h2⟩) (fun ho=>?_)
   ·obtain ⟨cs,h4,_⟩:=h2.1 ho
    simp only [bV,hP,h1,h4,a8g]
   ·rw [h2.2 ho] at h2; exact h2
 ·rename_i s hx
  split at h
  ·rename_i a ha
   obtain ⟨v,h1,h2,h3⟩:=c.j6 hx
   refine nQ c h hw fun hon w hw'=>?_
   simp only [E.ev,← aEl (fun _ _=>Gd.iE) h2 ha hon] at hw'
   simp only [bV,hP,h1]
   exact bAr hw'
  ·simp at h
 ·simp at h
include hT in
theorem b66 (c:aQ N gk gb S ρ env m) {g:Gd} (hgk:rU S ρ g) {op:BinOp} {t u:TypeId} {x y:Operand} {k:SV→SS→OL} {L:L} (h:iZ tt g (.binOp op t x y u) S k=some L) (hw:L.wp p Q S.nv ρ ks) :
  Fin p Q ks N ρ S env k (QO P tt p ρ g env m (.binOp op t x y u)):=by
 simp only [iZ] at h
 split at h
 ·rename_i ti a b hti ha hb
  obtain ⟨tok,htt⟩:=hT t ti hti
  obtain ⟨v1,h1,h1',_⟩:=c.jS ha
  obtain ⟨v2,h2,h2',_⟩:=c.jS hb
  have hdd:=tok.d
  have hee:=tok.eq
  rw [htt] at hdd hee
  have hev:bV P (CE tt p) env m.H (.binOp op t x y u)=a19 P op t v1 v2:=by simp only [bV,mQ,h1,h2]
  have cor:j0 ρ g→∀ w,(E.bin op a b).ev p ρ=some w→∃ v,bV P (CE tt p) env m.H (.binOp op t x y u)=some v∧v.aL=w:=fun hon w hw'=>by
   simp only [E.ev,← h1' hon,← h2' hon] at hw'
   rw [hev]; exact bDv hw'
  have int:∀ {L:Go.Fbs.L},L.wp p Q S.nv ρ ks→aW4 g op a b S k=some L→Fin p Q ks N ρ S env k (QO P tt p ρ g env m (.binOp op t x y u)):=fun hw he=>by
   unfold aW4 at he
   cases op <;> first | exact nQ c he hw cor | exact jE c he hgk hw cor
  split at h
  ·exact int hw h
  ·exact int hw h
  ·rename_i hd
   rw [hd] at hdd
   cases he:ti.eq with
   | false=>rw [he] at h; simp at h
   | true =>
    rw [he] at h
    simp only [cond_true] at h
    have hgd:=(hee he).2
    split at h
    ·refine jE c h hgk hw fun hon w hw'=>?_
     simp only [E.ev,← h1' hon,← h2' hon] at hw'
     rw [hev]; exact b4w (neg:=false) hdd hgd hw'
    ·refine jE c h hgk hw fun hon w hw'=>?_
     simp only [E.ev,← h1' hon,← h2' hon] at hw'
     rw [hev]; exact b4w (neg:=true) hdd hgd hw'
    ·simp at h
  ·rename_i fs hd
   cases he:(ti.eq && ti.agg) with
   | false=>rw [he] at h; simp at h
   | true =>
    rw [he] at h
    simp only [cond_true] at h
    simp only [Bool.and_eq_true] at he
    have hgd:=(hee he.1).2
    split at h
    ·rename_i qs hqs
     have key:∀ (neg:Bool) (w:V),aQo qs neg v1.aL v2.aL=some w→∃ v,a19 P (if neg then .neq else .eql) t v1 v2=some v∧v.aL=w:=by
      intro neg w hw'
      unfold aQo at hw'
      split at hw'
      ·rename_i xs ys e1 e2
       obtain ⟨xs,rfl,rfl⟩:=a9v e1
       obtain ⟨ys,rfl,rfl⟩:=a9v e2
       simp only [Option.map_eq_some_iff] at hw'
       obtain ⟨r,e3,rfl⟩:=hw'
       have e4:=(aUc hT 20 t ti qs hti hqs).2 xs ys r (aGi e3)
       simp only [he.2,if_true] at e4
       cases neg <;> simp [a19,hgd,e4,V.aL]
      ·simp at hw'
     split at h
     ·refine jE c h hgk hw fun hon w hw'=>?_
      simp only [E.ev,← h1' hon,← h2' hon] at hw'
      rw [hev]; exact key false w hw'
     ·refine jE c h hgk hw fun hon w hw'=>?_
      simp only [E.ev,← h1' hon,← h2' hon] at hw'
      rw [hev]; exact key true w hw'
     ·simp at h
    ·simp at h
  ·simp at h
 ·simp at h
theorem bAu (c:aQ N gk gb S ρ env m) {g:Gd} (hgk:rU S ρ g) {op:UnOp} {t:TypeId} {x:Operand} {k:SV→SS→OL} {L:L} (h:iZ tt g (.unOp op t x) S k=some L) (hw:L.wp p Q S.nv ρ ks) :
  Fin p Q ks N ρ S env k (QO P tt p ρ g env m (.unOp op t x)):=by
 simp only [iZ] at h
 split at h
 ·rename_i a ha
  obtain ⟨v1,h1,h1',_⟩:=c.jS ha
  refine jE c h hgk hw fun hon w hw'=>?_
  simp only [E.ev,← h1' hon] at hw'
  simp only [bV,hP,h1]
  exact bFb hw'
 ·simp at h
include hT in
theorem b0g (c:aQ N gk gb S ρ env m) {g:Gd} (hgk:rU S ρ g) {s d:TypeId} {x:Operand} {k:SV→SS→OL} {L:L} (h:iZ tt g (.convert s d x) S k=some L) (hw:L.wp p Q S.nv ρ ks) :
  Fin p Q ks N ρ S env k (QO P tt p ρ g env m (.convert s d x)):=by
 simp only [iZ] at h
 split at h
 ·rename_i si di a hsi hdi ha
  obtain ⟨stok,hst⟩:=hT s si hsi
  obtain ⟨dtok,hdt⟩:=hT d di hdi
  obtain ⟨v1,h1,h1',_⟩:=c.jS ha
  have hs:=stok.d
  have hd:=dtok.d
  rw [hst] at hs
  rw [hdt] at hd
  have hev:bV P (CE tt p) env m.H (.convert s d x)=a4u P s d v1:=by simp only [bV,hP,h1]
  split at h
  ·rename_i q1 q2 e1 e2
   rw [e1] at hs; rw [e2] at hd
   refine jE c h hgk hw fun hon w hw'=>?_
   simp only [E.ev,← h1' hon] at hw'
   rw [hev,b6w hs hd]; exact b62 hw'
  ·rename_i e1 e2
   rw [e1] at hs; rw [e2] at hd
   refine jE c h hgk hw fun hon w hw'=>?_
   simp only [E.ev,← h1' hon] at hw'
   rw [hev,b2r hs hd]; exact b3a hw'
  ·rename_i e e1 e2
   rw [e1] at hs; rw [e2] at hd
   split at h
   ·rename_i ei hei
    split at h
    ·rename_i e3
     obtain ⟨etok,het⟩:=hT e ei hei
     have he:=etok.d
     rw [het,e3] at he
     refine nQ c h hw fun hon w hw'=>?_
     simp only [E.ev,← h1' hon] at hw'
     rw [hev,b2s hs he hd]; exact b3b hw'
    ·simp at h
   ·simp at h
  ·simp at h
 ·simp at h
include hT in
theorem b67 (c:aQ N gk gb S ρ env m) {g:Gd} {t:TypeId} {x:Operand} {lo hi:Option Operand} {k:SV→SS→OL} {L:L} (h:iZ tt g (.slice t x lo hi none) S k=some L) (hw:L.wp p Q S.nv ρ ks) :
  Fin p Q ks N ρ S env k (QO P tt p ρ g env m (.slice t x lo hi none)):=by
 simp only [iZ] at h
 split at h
 ·rename_i ti a l hh hti ha hl hhi
  obtain ⟨tok,htt⟩:=hT t ti hti
  obtain ⟨v1,h1,h1',_⟩:=c.jS ha
  obtain ⟨v2,h2,h2',_⟩:=c.a7n hl
  obtain ⟨v3,h3,h3',_⟩:=c.a7n hhi
  have hd:=tok.d
  rw [htt] at hd
  have hev:bV P (CE tt p) env m.H (.slice t x lo hi none)=rG P t v1 v2 v3:=by simp only [bV,h1,h2,h3]
  split at h
  ·rename_i e1
   rw [e1] at hd
   refine nQ c h hw fun hon w hw'=>?_
   simp only [E.ev,← h1' hon,← h2' hon,← h3' hon] at hw'
   rw [hev,b2n hd]; exact bDw hw'
  ·rename_i e e1
   rw [e1] at hd
   split at h
   ·rename_i ei hei
    obtain ⟨etok,het⟩:=hT e ei hei
    have hz:=etok.sz
    rw [het] at hz
    cases hp:Nat.blt 0 ei.sz with
    | false=>rw [hp] at h; simp at h
    | true =>
     rw [hp] at h
     refine nQ c h hw fun hon w hw'=>?_
     simp only [E.ev,← h1' hon,← h2' hon,← h3' hon] at hw'
     rw [hev,b2o hd hz (l7 hp)]; exact bDx hw'
   ·simp at h
  ·simp at h
 ·simp at h
include hT in
theorem aUd {t : TypeId} {ti : TI} (hti : eX tt t = some ti) {fs : List (Nat × TypeId)} (hd : ti.d = .st fs) {f off : Nat} {ft : TypeId} (hf : fs[f]? = some (off,ft)) :
  ∃ (a : Array Field) (fd : Field),P.underlying t = some (.struct a) ∧ a[f]? = some fd ∧ fd.offset = off ∧ fd.type = ft:=by
 obtain ⟨tok,htt⟩:=hT t ti hti
 have hdd:=tok.d
 rw [htt,hd] at hdd
 obtain ⟨a,h1,h2,_⟩:=hdd
 rw [← h2,List.getElem?_map,Option.map_eq_some_iff] at hf
 obtain ⟨fd,h3,h4⟩:=hf
 simp only [Prod.mk.injEq] at h4
 exact ⟨a,fd,h1,by rw [← Array.getElem?_toList]; exact h3,h4.1,h4.2⟩
include hT in
theorem b68 (c:aQ N gk gb S ρ env m) {g:Gd} (hgk:rU S ρ g) {t:TypeId} {x:Operand} {f:Nat} {k:SV→SS→OL} {L:L} (h:iZ tt g (.field t x f) S k=some L) (hw:L.wp p Q S.nv ρ ks) :
  Fin p Q ks N ρ S env k (QO P tt p ρ g env m (.field t x f)):=by
 simp only [iZ] at h
 split at h
 ·rename_i ti a hti ha
  obtain ⟨v1,h1,h1',hbel⟩:=c.jS ha
  split at h
  ·rename_i fs hd
   split at h
   ·rename_i off ft hf
    split at h
    ·rename_i fi hfi
     obtain ⟨A',fd,hu,hfd,ho,hft⟩:=aUd hT hti hd hf
     obtain ⟨ftok,hftt⟩:=hT ft fi hfi
     have hag:=ftok.agg; have hsz:=ftok.sz
     rw [hftt] at hag hsz
     have hev:bV P (CE tt p) env m.H (.field t x f)=aEa fi.agg fi.sz off v1:=by
      simp only [bV,hP,h1]
      exact b6v hu hfd (by rw [hft]; exact hag) (by rw [hft]; exact hsz) ho v1
     have part:∀ {pg:Bool} {pn:Nat} {L:Go.Fbs.L},L.wp p Q S.nv ρ ks→fi.agg=pg→(pg=true→pn=fi.sz)→kF g [a] (.part pg pn off a) S k=some L→Fin p Q ks N ρ S env k (QO P tt p ρ g env m (.field t x f)):=by
      intro pg pn L hw hpg hpn he
      refine jE c he hgk hw fun hon w hw'=>?_
      simp only [E.ev,← h1' hon] at hw'
      obtain ⟨cs,v',e1,e2,e3,_⟩:=b0e hw'
      refine ⟨v',?_,e3⟩
      rw [hev,e1,hpg]
      simp only [aEa]
      cases pg with
      | true=>rw [← hpn rfl]; exact e2
      | false=>simp only [qN,Bool.false_eq_true,if_false] at e2 ⊢; exact e2
     cases hg:fi.agg with
     | true=>rw [hg] at h; exact part hw hg (fun _=>rfl) h
     | false =>
      rw [hg] at h
      simp only [cond_false] at h
      cases hz1:Nat.beq fi.sz 1 with
      | false=>rw [hz1] at h; simp at h
      | true =>
       rw [hz1] at h
       simp only [cond_true] at h
       split at h
       ·rename_i i
        cases hc:(S.lZ (.v i) ti.sz && Nat.blt off ti.sz && Nat.blt 0 ti.sz) with
        | false=>rw [hc] at h; exact part hw hg (by simp) h
        | true =>
         rw [hc] at h
         simp only [cond_true] at h
         simp only [Bool.and_eq_true] at hc
         obtain ⟨ds,hd1,hd2,hd3⟩:=uV (l7 hc.2) (c.lZ hc.1.1)
         have hlt:=l7 hc.1.2
         replace h1':=h1' trivial
         rw [hd1] at h1'
         obtain ⟨cs,rfl,rfl⟩:=a9v h1'
         rw [List.length_map] at hd2
         refine oP c h hw ⟨rfl,show bV P (CE tt p) env m.H (.field t x f)=some (cs[off]'(by omega)) from ?_⟩ ?_ ?_
         ·rw [hev,hg]
          simp only [aEa,qN,Bool.false_eq_true,if_false]
          exact List.getElem?_eq_getElem _
         ·show V.aL _=a7 (A.den ρ (.v i)) off
          rw [hd1]
          simp only [a7,V.cells]
          rw [List.getD_eq_getElem?_getD,List.getElem?_map,List.getElem?_eq_getElem (by omega)]
          rfl
         ·exact Nat.ble_eq_true_of_le (c.aBx hc.1.1)
       ·exact part hw hg (by simp) h
    ·simp at h
   ·simp at h
  ·simp at h
 ·simp at h
include hT in
theorem aSj (c:aQ N gk gb S ρ env m) {g:Gd} (hgk:rU S ρ g) {t:TypeId} {x:Operand} {f:Nat} {k:SV→SS→OL} {L:L} (h:iZ tt g (.fieldAddr t x f) S k=some L) (hw:L.wp p Q S.nv ρ ks) :
  Fin p Q ks N ρ S env k (QO P tt p ρ g env m (.fieldAddr t x f)):=by
 simp only [iZ] at h
 split at h
 ·rename_i ti s hti hs
  obtain ⟨v1,h1,h2,hbel⟩:=c.j6 hs
  split at h
  ·rename_i fs hd
   split at h
   ·rename_i off ft hf
    split at h
    ·rename_i fi hfi
     obtain ⟨A',fd,hu,hfd,ho,hft⟩:=aUd hT hti hd hf
     obtain ⟨ftok,hftt⟩:=hT ft fi hfi
     have hsz:=ftok.sz
     rw [hftt] at hsz
     cases hp:Nat.blt 0 fi.sz with
     | false=>rw [hp] at h; simp at h
     | true =>
      rw [hp] at h
      simp only [cond_true] at h
      obtain ⟨q,hq⟩:∃ q,fi.sz=q+1:=⟨fi.sz - 1,by have:=l7 hp; omega⟩
      have hev:bV P (CE tt p) env m.H (.fieldAddr t x f)=aBn off v1:=by
       simp only [bV,hP,h1]
       exact aSc hu hfd (by rw [hft,hsz,hq]) ho v1
      split at h
      ·rename_i b o hv
       cases hgf:lN hv g with
       | false=>rw [hgf] at h; simp at h
       | true =>
        rw [hgf] at h
        refine aBy c hgk h hw hgk.1 (fun hon=>?_) (fun hoff=>⟨fun h=>absurd h hoff,fun _=>rfl⟩)
        obtain ⟨l,hl,hv'⟩:=h2.1 (tN hgf hon)
        rw [hev,hv']
        exact ⟨_,rfl,fun _=>⟨l,hl,rfl⟩,fun h=>absurd hon h⟩
      ·rename_i a n o hv
       cases hgf:(lN hv g && Nat.blt 0 n) with
       | false=>rw [hgf] at h; simp at h
       | true =>
        rw [hgf] at h
        simp only [Bool.and_eq_true] at hgf
        refine aBy c hgk h hw ?_ (fun hon=>?_) (fun hoff=>⟨fun h=>absurd h hoff,fun _=>rfl⟩)
        ·simp only [SV.below,Bool.and_eq_true] at hbel ⊢
         exact ⟨hbel.1,hgk.1⟩
        ·obtain ⟨cs,h3,h4,h5⟩:=h2.1 (tN hgf.1 hon)
         rw [hev,h3]
         exact ⟨_,rfl,fun _=>⟨cs,by simp,h4,h5⟩,fun h=>absurd hon h⟩
      ·simp at h
    ·simp at h
   ·simp at h
  ·simp at h
 ·simp at h
include hT in
theorem aSk (c:aQ N gk gb S ρ env m) {g:Gd} (hgk:rU S ρ g) {t:TypeId} {x i:Operand} {k:SV→SS→OL} {L:L} (h:iZ tt g (.indexAddr t x i) S k=some L) (hw:L.wp p Q S.nv ρ ks) :
  Fin p Q ks N ρ S env k (QO P tt p ρ g env m (.indexAddr t x i)):=by
 simp only [iZ] at h
 split at h
 ·rename_i b o hv hx
  obtain ⟨v1,h1,h1',h1b⟩:=c.j6 hx
  split at h
  ·rename_i ti j hti hj
   obtain ⟨tok,htt⟩:=hT t ti hti
   obtain ⟨v2,h2,h2',_⟩:=c.jS hj
   have hd:=tok.d
   rw [htt] at hd
   split at h
   ·rename_i n e e1
    rw [e1] at hd
    split at h
    ·rename_i ei hei
     obtain ⟨etok,het⟩:=hT e ei hei
     have hz:=etok.sz
     rw [het] at hz
     cases hp:(lN hv g && Nat.blt 1 n && Nat.beq ei.sz 1) with
     | false=>rw [hp] at h; simp at h
     | true =>
      rw [hp] at h
      simp only [cond_true] at h
      simp only [Bool.and_eq_true] at hp
      have hn1:=l7 hp.1.2
      have hs1:=Nat.eq_of_beq_eq_true hp.2
      have hev:bV P (CE tt p) env m.H (.indexAddr t x i)=a43 n ei.sz v1 v2:=by
       simp only [bV,mQ,h1,h2]
       exact aQa hd hz v1 v2
      obtain ⟨y,L',kn,bl,e2,e3,e4,e5⟩:=lE c h hw
      have hbel:SV.below (S.nv+1) (.pix b o n (.v S.nv) g)=true:=by
       simp only [SV.below,Bool.and_eq_true]
       exact ⟨oW _,Gd.cO hgk.1 (Nat.le_succ _)⟩
      have hgi:j0 (ext ρ S.nv y) g↔j0 ρ g:=rT (cS _ _ _) hgk.1
      rcases vT e2 with ⟨hon,e6⟩ | ⟨hoff,rfl,e6⟩
      ·simp only [E.ev,← h2' hon] at e6
       obtain ⟨l,hl,hv1⟩:=h1'.1 (tN hp.1.1 hon)
       unfold b21 at e6
       split at e6
       ·rename_i q z hq
        split at e6
        ·rename_i hzn
         simp only [Option.some.injEq] at e6
         have hv2:=mI hq
         refine ⟨.ptr l (o+z.toNat),m,_,_,_,L',gk,gb,⟨rfl,?_⟩,e3,e4,e5,⟨fun _=>⟨l,q,z.toNat,hl,?_,by omega,rfl⟩,fun h=>absurd (hgi.2 hon) h⟩,hbel,cS _ _ _,Nat.le_succ _,rfl⟩
         ·rw [pY hon,hev,hv1,hv2]
          simp only [a43,hs1,Nat.mul_one]
          rw [if_pos ⟨hzn.1,hzn.2,hn1⟩]
         ·show ext ρ S.nv y S.nv=_
          rw [l6,← e6]
          congr 1; omega
        ·simp at e6
       ·simp at e6
      ·exact ⟨.undef,m,_,_,_,L',gk,gb,⟨rfl,e6 _⟩,e3,e4,e5,⟨fun h=>absurd (hgi.1 h) hoff,fun _=>rfl⟩,hbel,cS _ _ _,Nat.le_succ _,rfl⟩
    ·simp at h
   ·simp at h
  ·simp at h
 ·split at h
  ·rename_i ti a j hti ha hj
   obtain ⟨tok,htt⟩:=hT t ti hti
   obtain ⟨v1,h1,h1',_⟩:=c.jS ha
   obtain ⟨v2,h2,h2',_⟩:=c.jS hj
   have hd:=tok.d
   rw [htt] at hd
   split at h
   ·rename_i e e1
    rw [e1] at hd
    split at h
    ·rename_i ei hei
     obtain ⟨etok,het⟩:=hT e ei hei
     have hz:=etok.sz
     rw [het] at hz
     cases hp:(Nat.blt 0 ei.sz && (ei.agg || Nat.beq ei.sz 1)) with
     | false=>rw [hp] at h; simp at h
     | true =>
      rw [hp] at h
      simp only [cond_true] at h
      simp only [Bool.and_eq_true,Bool.or_eq_true] at hp
      have hpos:=l7 hp.1
      obtain ⟨q,hq⟩:∃ q,ei.sz=q+1:=⟨ei.sz - 1,by omega⟩
      have hev:bV P (CE tt p) env m.H (.indexAddr t x i)=a1h ei.sz v1 v2:=by
       simp only [bV,mQ,h1,h2,hq]
       exact aP9 hd (by rw [hz,hq]) v1 v2
      obtain ⟨y,L',kn,bl,e2,e3,e4,e5⟩:=lE c h hw
      have hbel:SV.below (S.nv+1) (.elem (.v S.nv) (bif ei.agg then ei.sz else 0) 0 g)=true:=by
       simp only [SV.below,Bool.and_eq_true]
       exact ⟨oW _,Gd.cO hgk.1 (Nat.le_succ _)⟩
      have hgi:j0 (ext ρ S.nv y) g↔j0 ρ g:=rT (cS _ _ _) hgk.1
      rcases vT e2 with ⟨hon,e6⟩ | ⟨hoff,rfl,e6⟩
      ·simp only [E.ev,← h1' hon,← h2' hon] at e6
       obtain ⟨cs,e7,e8,e9⟩:=bAp e6 hpos (fun hg=>by
        rcases hp.2 with h | h
        ·rw [hg] at h; simp at h
        ·exact Nat.eq_of_beq_eq_true h)
       refine ⟨.ro cs,m,_,_,_,L',gk,gb,⟨rfl,?_⟩,e3,e4,e5,⟨fun _=>⟨cs,rfl,?_,?_⟩,fun h=>absurd (hgi.2 hon) h⟩,hbel,cS _ _ _,Nat.le_succ _,rfl⟩
       ·rw [pY hon,hev]; exact e7
       ·show _=(ext ρ S.nv y S.nv).cells; rw [l6]; exact e8
       ·show mX _ (ext ρ S.nv y S.nv); rw [l6]
        cases hg:ei.agg <;> rw [hg] at e9 <;> exact e9
      ·exact ⟨.undef,m,_,_,_,L',gk,gb,⟨rfl,e6 _⟩,e3,e4,e5,⟨fun h=>absurd (hgi.1 h) hoff,fun _=>rfl⟩,hbel,cS _ _ _,Nat.le_succ _,rfl⟩
    ·simp at h
   ·simp at h
  ·simp at h
include hT in
theorem b69 (c:aQ N gk gb S ρ env m) {g:Gd} {t:TypeId} {x i:Operand} {k:SV→SS→OL} {L:L} (h:iZ tt g (.index t x i) S k=some L) (hw:L.wp p Q S.nv ρ ks) :
  Fin p Q ks N ρ S env k (QO P tt p ρ g env m (.index t x i)):=by
 simp only [iZ] at h
 split at h
 ·rename_i ti a j hti ha hj
  obtain ⟨tok,htt⟩:=hT t ti hti
  obtain ⟨v1,h1,h1',_⟩:=c.jS ha
  obtain ⟨v2,h2,h2',_⟩:=c.jS hj
  have hd:=tok.d
  rw [htt] at hd
  have hev:bV P (CE tt p) env m.H (.index t x i)=qF P t v1 v2:=by simp only [bV,mQ,h1,h2]
  split at h
  ·rename_i e1
   rw [e1] at hd
   refine nQ c h hw fun hon w hw'=>?_
   simp only [E.ev,← h1' hon,← h2' hon] at hw'
   rw [hev,b2p hd]; exact bAn hw'
  ·rename_i n e e1
   rw [e1] at hd
   split at h
   ·rename_i ei hei
    obtain ⟨etok,het⟩:=hT e ei hei
    have hz:=etok.sz; have hag:=etok.agg
    rw [het] at hz hag
    refine nQ c h hw fun hon w hw'=>?_
    simp only [E.ev,← h1' hon,← h2' hon] at hw'
    rw [hev,b2q hd hag hz]; exact bAo hw'
   ·simp at h
  ·simp at h
 ·simp at h
theorem b0h (c:aQ N gk gb S ρ env m) {g:Gd} (hgk:rU S ρ g) {x:Operand} {i:Nat} {k:SV→SS→OL} {L:L} (h:iZ tt g (.extract x i) S k=some L) (hw:L.wp p Q S.nv ρ ks) :
  Fin p Q ks N ρ S env k (QO P tt p ρ g env m (.extract x i)):=by
 simp only [iZ] at h
 split at h
 ·rename_i a ha
  obtain ⟨v1,h1,h1',_⟩:=c.jS ha
  refine jE c h hgk hw fun hon w hw'=>?_
  simp only [E.ev,← h1' hon] at hw'
  simp only [bV,hP,h1]
  exact bDy hw'
 ·simp at h
theorem aQx (c : aQ N gk gb S ρ env m) : ∀ {xs : List Operand} {l : List (Nat × Nat)},a7o S xs = some l → xs = l.map (fun q=>Operand.tmp q.1) ∧ ∃ cs,Fbs.fQ env xs = some cs ∧ cs.length = l.length ∧ ∀ (i : Nat) q v,l[i]? = some q → cs[i]? = some v → ∃ l',gb[q.2]? = some l' ∧ v = .ptr l' 0
 | [],l,h=>by
  simp only [a7o,Option.some.injEq] at h
  subst h
  exact ⟨rfl,[],rfl,rfl,fun i q v hq _=>by simp at hq⟩
 | .tmp t::r,l,h=>by
  simp only [a7o] at h
  split at h
  ·rename_i b l' h1 h2
   simp only [Option.some.injEq] at h
   subst h
   obtain ⟨e0,cs,e1,e2,e3⟩:=aQx c h2
   obtain ⟨g1,g2,_⟩:=c.cR t _ h1
   obtain ⟨a,g3,g4⟩:=g2.1 trivial
   have hev:Fbs.ev env (.tmp t)=some (.ptr a 0):=by
    simp only [Fbs.ev,Env.get]
    rw [if_pos (by rw [c.n]; exact g1),g4]
   refine ⟨by simp [← e0],.ptr a 0::cs,by simp only [Fbs.fQ,hev,e1],by simp [e2],fun i q v hq hv=>?_⟩
   cases i with
   | zero =>
    simp only [List.getElem?_cons_zero,Option.some.injEq] at hq hv
    subst hq hv
    exact ⟨a,g3,rfl⟩
   | succ i=>exact e3 i q v (by simpa using hq) (by simpa using hv)
  ·simp at h
 | .const _::_,_,h=>by simp [a7o] at h
 | .func _::_,_,h=>by simp [a7o] at h
 | .global _::_,_,h=>by simp [a7o] at h
theorem aXh (c:aQ N gk gb S ρ env m) {g:Gd} {fn:Fn} {first caps:Array Operand} {k:SV→SS→OL} {L:L} (h:iZ tt g (.makeFunc fn first caps) S k=some L) (hw:L.wp p Q S.nv ρ ks) :
  Fin p Q ks N ρ S env k (QO P tt p ρ g env m (.makeFunc fn first caps)):=by
 cases fn with
 | func f =>
  simp only [iZ] at h
  split at h
  ·rename_i t b l hcap
   cases hf:(first.isEmpty && isE tt f) with
   | false=>rw [hf] at h; simp at h
   | true =>
    rw [hf] at h
    simp only [cond_true] at h
    simp only [Bool.and_eq_true] at hf
    obtain ⟨_,cs,e1,e2,e3⟩:=aQx c hcap
    have hfirst:first = #[]:=by simpa using hf.1
    refine oP (v:=.func f cs) c h hw ⟨rfl,?_⟩ ⟨cs,rfl,e2,e3⟩ rfl
    show bV P (CE tt p) env m.H (.makeFunc (.func f) first caps)=_
    simp only [bV,e1,hfirst,if_true]
  split at h
  ·rename_i as has
   obtain ⟨vs,h1,h2,_⟩:=c.nC has
   cases hf:first.isEmpty with
   | false=>rw [hf] at h; simp at h
   | true =>
    rw [hf] at h
    refine nQ c h hw fun hon w hw'=>⟨.func f vs,?_,?_⟩
    ·have:first = #[]:=by simpa using hf
     simp only [bV,h1,this,if_true]
    ·simp only [E.ev,Option.some.injEq] at hw'
     rw [← hw',← h2 hon]; simp [V.aL,cW]
  ·simp at h
 | _=>simp [iZ] at h
end
end Go.Fbs

/- Structs,slices written out,calls. -/
namespace Go.Fbs
section
variable {P:Program} {tt:TT} (hT:∀ t ti,eX tt t=some ti→aZ P ti∧ti.t=t)
variable {p:PT} {Q:V→Prop} {ks:List (List V→Prop)} {N:Nat} {gk:Nat→Option Nat} {gb:List Nat} {S:SS} {ρ:Nat→V} {env:Env} {m:Hp}
theorem aEo {α:Type} {cs new:List α} {off:Nat} (h:off+new.length≤cs.length):(j1 cs off new).length=cs.length:=by
 simp [j1]; omega
theorem aEp {α β:Type} (f:α→β) (cs new:List α) (off:Nat):(j1 cs off new).map f=j1 (cs.map f) off (new.map f):=by
 simp [j1,List.map_take,List.map_drop]
theorem aMo {cs new:List A} {off nv:Nat} (h1:cs.all (A.below nv)=true) (h2:new.all (A.below nv)=true):(j1 cs off new).all (A.below nv)=true:=by
 rw [List.all_eq_true] at *
 intro a ha
 simp only [j1,List.mem_append] at ha
 rcases ha with (ha | ha) | ha
 ·exact h1 a (List.mem_of_mem_take ha)
 ·exact h2 a ha
 ·exact h1 a (List.mem_of_mem_drop ha)
theorem tO {l:List A} {n n':Nat} (h:l.all (A.below n)=true) (hn:n≤n'):l.all (A.below n')=true:=by
 rw [List.all_eq_true] at *
 exact fun a ha=>A.cO (h a ha) hn
theorem r8 {ρ':Nat→V} {n:Nat} (h:bR ρ ρ' n):∀ {l:List A},l.all (A.below n)=true→l.map (A.den ρ')=l.map (A.den ρ)
 | [],_=>rfl
 | a::l,hl=>by
  simp only [List.all_cons,Bool.and_eq_true] at hl
  simp only [List.map_cons]
  rw [j7 h hl.1,r8 h hl.2]
theorem aEq {g:Gd} {place:Nat→Option (Nat×TypeId)} {place':Nat→Option (Nat×Nat)} (hpl:∀ i off t ti,place i=some (off,t)→eX tt t=some ti→place' i=some (off,ti.sz)) :
  ∀ {parts:List (Nat×Operand)} {S:SS} {ρ:Nat→V} {cs:List A} {k:List A→SS→OL} {L:L} (c:aQ N gk gb S ρ env m) (hgk:rU S ρ g) (hcs:cs.all (A.below S.nv)=true) {zs:List V} (hz:j0 ρ g→zs.map V.aL=cs.map (A.den ρ))
   (h:a32 tt g place parts cs S k=some L) (hw:L.wp p Q S.nv ρ ks),
   ∃ cs' nv kn bl ρ' L',k cs' (S.l8 nv kn bl)=some L'∧L'.wp p Q nv ρ' ks∧aQ N gk gb (S.l8 nv kn bl) ρ' env m∧S.nv≤nv∧bR ρ ρ' S.nv ∧
    (j0 ρ g→∃ ps zs',oN env parts=some ps∧pZ ps=true∧lA place' zs ps=some zs'∧zs'.map V.aL=cs'.map (A.den ρ'))
 | [],S,ρ,cs,k,L,c,hgk,hcs,zs,hz,h,hw=>⟨cs,S.nv,S.known,(S.dM,S.a1o),ρ,L,h,hw,c,Nat.le_refl _,bR.refl _ _,fun hon=>⟨[],zs,rfl,rfl,rfl,hz hon⟩⟩
 | (i,x)::r,S,ρ,cs,k,L,c,hgk,hcs,zs,hz,h,hw=>by
  simp only [a32] at h
  split at h
  ·rename_i off t a hp ha
   split at h
   ·rename_i ti hti
    obtain ⟨v,h1,h1',hab⟩:=c.jS ha
    have hpl':=hpl i off t ti hp hti
    cases hle:Nat.ble (off+ti.sz) cs.length with
    | false=>rw [hle] at h; simp at h
    | true =>
     rw [hle] at h
     simp only [cond_true] at h
     have hle':=Nat.le_of_ble_eq_true hle
     have go:∀ {new:List A} {nv1:Nat} {kn1:List (Nat×Nat)} {bl1:List Nat×List Nat} {ρ1:Nat→V} {L1:Go.Fbs.L},a32 tt g place r (j1 cs off new) (S.l8 nv1 kn1 bl1) k=some L1→L1.wp p Q nv1 ρ1 ks→aQ N gk gb (S.l8 nv1 kn1 bl1) ρ1 env m→S.nv≤nv1→bR ρ ρ1 S.nv →
       new.all (A.below nv1)=true→(j0 ρ g→v.cells.map V.aL=new.map (A.den ρ1)∧v.cells.length=ti.sz∧v.iW=true) →
       ∃ cs' nv kn bl ρ' L',k cs' (S.l8 nv kn bl)=some L'∧L'.wp p Q nv ρ' ks∧aQ N gk gb (S.l8 nv kn bl) ρ' env m∧S.nv≤nv∧bR ρ ρ' S.nv ∧
        (j0 ρ g→∃ ps zs',oN env ((i,x)::r)=some ps∧pZ ps=true∧lA place' zs ps=some zs'∧zs'.map V.aL=cs'.map (A.den ρ')):=by
      intro new nv1 kn1 bl1 ρ1 L1 k1 k2 k3 k6 k7 hnew hval
      have hon1:j0 ρ1 g↔j0 ρ g:=rT k7 hgk.1
      obtain ⟨cs',nv,kn,bl,ρ',L',q1,q2,q3,q4,q5,q6⟩:=aEq hpl k3 (hgk.more k6 k7) (cs:=j1 cs off new) (zs:=j1 zs off v.cells)
       (aMo (tO hcs k6) hnew) (fun ho=>by
        have ho:=hon1.1 ho
        rw [aEp,aEp,hz ho,(hval ho).1,r8 k7 hcs]) k1 k2
      refine ⟨cs',nv,kn,bl,ρ',L',q1,q2,q3,Nat.le_trans k6 q4,k7.trans q5 k6,fun hon=>?_⟩
      obtain ⟨ps,zs',p1,p2,p3,p4⟩:=q6 (hon1.2 hon)
      obtain ⟨v1,v2,v3⟩:=hval hon
      have hzl:zs.length=cs.length:=by have:=congrArg List.length (hz hon); simpa using this
      refine ⟨(i,v)::ps,zs',by simp only [oN,h1,p1],by simp only [pZ,List.all_cons,v3,Bool.true_and]; exact p2,?_,p4⟩
      simp only [lA,hpl']
      have:(v.cells.length≠ti.sz || off+v.cells.length > zs.length)=false:=by simp [v2]; omega
      rw [if_neg (by rw [this]; simp)]; exact p3
     cases hag:ti.agg with
     | true =>
      rw [hag] at h
      simp only [cond_true] at h
      obtain ⟨j,nv1,kn1,bl1,ρ1,L1,k1,k2,k3,k4,k5,k6,k7,k8⟩:=aL4 c h hw
      have hcl:(cellsOf j ti.sz 0).length=ti.sz:=a8s _ _ _
      refine go k1 k2 k3 k6 k7 (aCe k5 0) fun hon=>?_
      obtain ⟨e1,e2⟩:=k8 hon
      obtain ⟨ds,d1,d2,d3⟩:=uV k4 e2
      have hvc:v.cells.map V.aL=(cellsOf j ti.sz 0).map (A.den ρ1):=by
       rw [a8t ρ1 (cs:=ds) (by rw [d1]; rfl) d2,← a30,h1' hon,← e1,d1]; rfl
      exact ⟨hvc,by have:=congrArg List.length hvc; simpa [hcl] using this,by rw [← aKy,h1' hon,← e1,d1]; rfl⟩
     | false =>
      rw [hag] at h
      simp only [cond_false] at h
      cases hz1:Nat.beq ti.sz 1 with
      | false=>rw [hz1] at h; simp at h
      | true =>
       rw [hz1] at h
       simp only [cond_true] at h
       obtain ⟨a',nv1,kn1,bl1,ρ1,L1,k1,k2,k3,k5,k6,k7,k8⟩:=aEm c hab h hw
       refine go k1 k2 k3 k6 k7 (by simp [k5]) fun hon=>?_
       obtain ⟨e1,e2⟩:=k8 hon
       have hsv:sc v=true:=by rw [← aQi,h1' hon]; exact e2
       rw [a6i hsv]
       exact ⟨by simp [h1' hon,e1],by rw [Nat.eq_of_beq_eq_true hz1]; rfl,aQh hsv⟩
   ·simp at h
  ·simp at h
include hT in
theorem aXi {fs : List Field} {fs' : List (Nat × TypeId)} (hf : fs.map (fun f=>(f.offset,f.type)) = fs') (hall : ∀ q ∈ fs',∃ ti,eX tt q.2 = some ti) : ∃ ps,a2a P fs = some ps ∧ ∀ (i off : Nat) t ti,fs'[i]? = some (off,t) → eX tt t = some ti → ps[i]? = some (off,ti.sz):=by
 induction fs generalizing fs' with
 | nil=>subst hf; exact ⟨[],rfl,fun i off t ti h=>by simp at h⟩
 | cons f fs ih =>
  subst hf
  obtain ⟨ps,h1,h2⟩:=ih rfl (fun q hq=>hall q (by simp only [List.map_cons]; exact List.mem_cons_of_mem _ hq))
  obtain ⟨ti,hti⟩:=hall (f.offset,f.type) (by simp)
  obtain ⟨tok,htt⟩:=hT f.type ti hti
  have hsz:=tok.sz
  rw [htt] at hsz
  refine ⟨(f.offset,ti.sz)::ps,by simp only [a2a,hsz,h1],fun i off t ti' h3 h4=>?_⟩
  cases i with
  | zero =>
   simp only [List.map_cons,List.getElem?_cons_zero,Option.some.injEq,Prod.mk.injEq] at h3
   obtain ⟨rfl,rfl⟩:=h3
   rw [hti] at h4
   simp only [Option.some.injEq] at h4
   subst h4; rfl
  | succ i =>
   simp only [List.map_cons,List.getElem?_cons_succ] at h3
   exact h2 i off t ti' h3 h4
theorem aL5 (z:List V):(z.map fun v=>A.k v.aL).map (A.den ρ)=z.map V.aL:=by simp [List.map_map,Function.comp_def,A.den]
theorem aGk (z:List V) (n:Nat):(z.map fun v=>A.k v.aL).all (A.below n)=true:=by simp [List.all_map,Function.comp_def,A.below]
theorem a7t {l:List V} {w:V} (h:aE l=some w):w = .agg l∧l.all sc=true:=by
 unfold aE at h
 split at h
 ·rename_i hs
  simp only [Option.some.injEq] at h
  exact ⟨h.symm,hs⟩
 ·simp at h
theorem aJy {place : Nat → Option (Nat × Nat)} {j : Nat} : ∀ {ps : List (Nat × V)} {zs zs' : List V},lA place zs ps = some zs' → (∀ q ∈ ps,∀ off sz,place q.1 = some (off,sz) → j < off ∨ off + sz ≤ j) → zs'[j]? = zs[j]?
 | [],zs,zs',h,_=>by simp only [lA,Option.some.injEq] at h; rw [h]
 | (i,v)::r,zs,zs',h,hk=>by
  simp only [lA] at h
  split at h
  ·simp at h
  ·rename_i off size hp
   split at h
   ·simp at h
   ·rename_i hc
    have hc:v.cells.length=size∧¬ off+v.cells.length > zs.length:=by simpa using hc
    rw [aJy h fun q hq=>hk q (by simp [hq])]
    rcases hk (i,v) (by simp) off size hp with h1 | h1
    ·rw [List.append_assoc,List.getElem?_append_left (by simp; omega),List.getElem?_take,if_pos h1]
    ·rw [List.getElem?_append_right (by simp; omega),List.getElem?_drop]
     congr 1; simp; omega
theorem aGl {env:Env} : ∀ {parts:List (Nat×Operand)} {ps:List (Nat×V)},oN env parts=some ps→∀ q ∈ ps,∃ x,(q.1,x) ∈ parts
 | [],ps,h,q,hq=>by simp only [oN,Option.some.injEq] at h; subst h; simp at hq
 | (i,x)::r,ps,h,q,hq=>by
  simp only [oN] at h
  split at h
  ·rename_i v vs h1 h2
   simp only [Option.some.injEq] at h
   subst h
   rcases List.mem_cons.1 hq with rfl | hq
   ·exact ⟨x,by simp⟩
   ·obtain ⟨y,hy⟩:=aGl h2 q hq
    exact ⟨y,by simp [hy]⟩
  ·simp at h
include hT in
theorem b7a (c:aQ N gk gb S ρ env m) {g:Gd} (hgk:rU S ρ g) {t:TypeId} {parts:Array (Nat×Operand)} {k:SV→SS→OL} {L:L} (h:iZ tt g (.build t parts) S k=some L) (hw:L.wp p Q S.nv ρ ks) :
  Fin p Q ks N ρ S env k (QO P tt p ρ g env m (.build t parts)):=by
 simp only [iZ] at h
 split at h
 ·rename_i ti hti
  obtain ⟨tok,htt⟩:=hT t ti hti
  have hd:=tok.d
  rw [htt] at hd
  have fin:∀ {pl:Nat→Option (Nat×TypeId)} {pl':Nat→Option (Nat×Nat)} {z:List V} {L:Go.Fbs.L},ti.z=some z→(∀ i off t ti,pl i=some (off,t)→eX tt t=some ti→pl' i=some (off,ti.sz)) →
    (∀ ps,pZ ps=true→a9e P t ps=(lA pl' z ps).map V.agg)→L.wp p Q S.nv ρ ks→a32 tt g pl parts.toList (z.map fun v=>.k v.aL) S (fun cs S'=>kF g cs (.agg cs) S' k)=some L→Fin p Q ks N ρ S env k (QO P tt p ρ g env m (.build t parts)):=by
   intro pl pl' z L hz hpl hb hw h
   obtain ⟨cs',nv,kn,bl,ρ',L',q1,q2,q3,q4,q5,q6⟩:=aEq hpl c hgk (aGk z _) (zs:=z) (fun _=>(aL5 z).symm) h hw
   have hon1:j0 ρ' g↔j0 ρ g:=rT q5 hgk.1
   have hgo:∀ o:Option V,kE ρ' g o=kE ρ g o:=fun o=>by
    cases g with
    | none=>rfl
    | some q =>
     obtain ⟨a,b⟩:=q
     simp only [kE]
     rw [j7 q5 (show a.below S.nv=true from hgk.1)]
   refine Fin.step (Fin.mono (jE q3 (o:=bV P (CE tt p) env m.H (.build t parts)) q1 (hgk.more q4 q5) q2 fun hon w hw'=>?_) fun v m' ⟨e1,e2⟩=>⟨e1,by rw [← hgo]; exact e2⟩) q5 q4 rfl
   obtain ⟨ps,zs',p1,p2,p3,p4⟩:=q6 (hon1.1 hon)
   simp only [E.ev] at hw'
   obtain ⟨rfl,_⟩:=a7t hw'
   refine ⟨.agg zs',?_,?_⟩
   ·simp only [bV,p1]
    rw [hb ps p2,p3]; rfl
   ·simp only [V.aL,cW,p4]
  split at h
  ·rename_i fs z hdd hz
   rw [hdd] at hd
   obtain ⟨a,hu,hfs,_⟩:=hd
   obtain ⟨zv,hz1,hz2,_⟩:=tok.z z hz
   rw [htt] at hz1
   cases hall:fs.all (fun q=>(eX tt q.2).isSome) with
   | false=>rw [hall] at h; simp at h
   | true =>
    rw [hall] at h
    simp only [cond_true] at h
    obtain ⟨ps,hp1,hp2⟩:=aXi hT (fs:=a.toList) hfs (fun q hq=>Option.isSome_iff_exists.1 (List.all_eq_true.1 hall q hq))
    have hb:∀ ps',pZ ps'=true→a9e P t ps'=(lA (fun i=>ps[i]?) z ps').map V.agg:=fun ps' hok=>by
     unfold a9e yR
     rw [if_pos hok]
     simp only [hu,hz1,hp1,hz2]
    cases g with
    | some q=>exact fin (pl':=fun i=>ps[i]?) hz hp2 hb hw h
    | none =>
     obtain ⟨cs',nv,kn,bl,ρ',L',q1,q2,q3,q4,q5,q6⟩:=aEq (place':=fun i=>ps[i]?) hp2 c hgk (aGk z _) (zs:=z) (fun _=>(aL5 z).symm) h hw
     obtain ⟨y,L2,kn2,bl2,r1,r2,r3,r4⟩:=lE q3 q1 q2
     obtain ⟨pv,zs',p1,p2,p3,p4⟩:=q6 trivial
     have r1:aE (cs'.map (A.den ρ'))=some y:=r1
     obtain ⟨rfl,_⟩:=a7t r1
     have hev:bV P (CE tt p) env m.H (.build t parts)=some (.agg zs'):=by
      simp only [bV,p1]
      rw [hb pv p2,p3]; rfl
     have her:(V.agg zs').aL = .agg (cs'.map (A.den ρ')):=by simp only [V.aL,cW,p4]
     have hrel:gG (ext ρ' nv (.agg (cs'.map (A.den ρ')))) gk gb m.T (aJu (.v nv) (aW5 tt fs parts.toList z)) (.agg zs'):=by
      have h0:(V.agg zs').aL=A.den (ext ρ' nv (.agg (cs'.map (A.den ρ')))) (.v nv):=by
       show _=ext ρ' nv _ nv
       rw [l6]; exact her
      unfold aJu
      split
      ·exact h0
      ·refine ⟨h0,zs',rfl,fun j hj=>?_⟩
       unfold aW5 at hj
       rw [List.mem_filter] at hj
       obtain ⟨_,hj⟩:=hj
       simp only [Bool.and_eq_true] at hj
       obtain ⟨hj1,hj2⟩:=hj
       rw [aJy (j:=j) p3 fun q hq off sz hpl=>?_]
       ·split at hj1
        ·rename_i hzj; exact hzj
        ·simp at hj1
       ·obtain ⟨x,hx⟩:=aGl p1 q hq
        have h5:=List.all_eq_true.1 hj2 _ hx
        simp only at h5
        split at h5
        ·rename_i off' t' hfq
         split at h5
         ·rename_i ti' hti'
          have h6:=hp2 q.1 off' t' ti' hfq hti'
          have hpl : ps[q.1]? = some (off,sz):=hpl
          rw [hpl] at h6
          simp only [Option.some.injEq,Prod.mk.injEq] at h6
          obtain ⟨rfl,rfl⟩:=h6
          simp only [Bool.or_eq_true] at h5
          rcases h5 with h5 | h5
          ·exact .inl (l7 h5)
          ·exact .inr (Nat.le_of_ble_eq_true h5)
         ·simp at h5
        ·simp at h5
     refine Fin.step ⟨.agg zs',m,aJu (.v nv) (aW5 tt fs parts.toList z),_,ext ρ' nv (.agg (cs'.map (A.den ρ'))),L2,gk,gb,⟨rfl,hev⟩,r2,r3,r4,hrel,?_,cS _ _ _,Nat.le_succ _,rfl⟩ q5 q4 rfl
     unfold aJu
     split <;> exact oW _
  ·rename_i n e z hdd hz
   rw [hdd] at hd
   obtain ⟨zv,hz1,hz2,_⟩:=tok.z z hz
   rw [htt] at hz1
   split at h
   ·rename_i ei hei
    obtain ⟨etok,het⟩:=hT e ei hei
    have hsz:=etok.sz
    rw [het] at hsz
    refine fin (pl':=fun i=>some (i*ei.sz,ei.sz)) hz (fun i off t ti h1 h2=>?_) (fun ps' hok=>?_) hw h
    ·simp only [Option.some.injEq,Prod.mk.injEq] at h1
     obtain ⟨rfl,rfl⟩:=h1
     rw [hei] at h2
     simp only [Option.some.injEq] at h2
     subst h2; rfl
    ·unfold a9e yR
     rw [if_pos hok]
     have hu:P.underlying t=some (.array n e):=hd
     simp only [hu,hz1,hsz,hz2]
   ·simp at h
  ·simp at h
 ·simp at h
theorem aGm:∀ {parts:List (Nat×Operand)} {n:Nat} {vs:List V},a9s n parts=true→Fbs.fQ env (parts.map (·.2))=some vs→∃ ps,oN env parts=some ps∧vH n ps=some vs∧ps.map (·.2)=vs
 | [],n,vs,_,h=>by simp [Fbs.fQ] at h; subst h; exact ⟨[],rfl,rfl,rfl⟩
 | (i,x)::r,n,vs,ho,h=>by
  simp only [a9s,Bool.and_eq_true] at ho
  have hi:=Nat.eq_of_beq_eq_true ho.1
  subst hi
  simp only [List.map_cons,Fbs.fQ] at h
  split at h
  ·rename_i v vs' h1 h2
   simp only [Option.some.injEq] at h
   subst h
   obtain ⟨ps,e1,e2,e3⟩:=aGm ho.2 h2
   exact ⟨(i,v)::ps,by simp only [oN,h1,e1],by simp only [vH,if_true,e2]; rfl,by simp [e3]⟩
  ·simp at h
theorem b0i {n:Nat} {vs:List V} {w:V} (h:lG n (vs.map V.aL)=some w):w = .sl .ro (vs.map V.aL)∧vs.length*n≤1000000∧vs.all (fun e=>e.cells.length == n)=true∧vs.all V.iW=true:=by
 unfold lG at h
 split at h
 ·rename_i hc
  simp only [Option.some.injEq] at h
  obtain ⟨h1,h2⟩:=hc
  rw [List.length_map] at h1
  rw [List.all_map] at h2
  refine ⟨h.symm,h1,?_,?_⟩
  ·rw [List.all_eq_true] at h2 ⊢
   intro e he
   have:=h2 e he
   simp only [Function.comp_def,qZ,Bool.and_eq_true] at this
   exact this.1
  ·rw [List.all_eq_true] at h2 ⊢
   intro e he
   have:=h2 e he
   simp only [Function.comp_def,aKy,Bool.and_eq_true] at this
   exact this.2
 ·simp at h
theorem aQ.b3e (c:aQ N gk gb S ρ env m):aQ N gk gb { S with nk:=S.nk+1 } ρ env m :=
 ⟨c.n,c.cR,c.boxes,c.mF,c.oO,c.blt,c.lJ,fun k i h=>let ⟨h1,h2⟩:=c.tM k i h; ⟨Nat.lt_succ_of_lt h1,h2⟩,c.known,c.dM,c.own⟩
include hT in
theorem aQy (c:aQ N gk gb S ρ env m) {g:Gd} (hgk:rU S ρ g) {t:TypeId} {len:Nat} {parts:Array (Nat×Operand)} {k:SV→SS→OL} {L:L} (h:iZ tt g (.buildSlice t len parts) S k=some L) (hw:L.wp p Q S.nv ρ ks) :
  Fin p Q ks N ρ S env k (QO P tt p ρ g env m (.buildSlice t len parts)):=by
 simp only [iZ] at h
 split at h
 ·rename_i ti as hti has
  obtain ⟨tok,htt⟩:=hT t ti hti
  have hd:=tok.d
  rw [htt] at hd
  obtain ⟨vs,h1,h2,_,h2l⟩:=c.nC has
  split at h
  ·rename_i e hdd
   rw [hdd] at hd
   have hu:P.underlying t=some (.slice e):=hd
   split at h
   ·rename_i ei hei
    obtain ⟨etok,het⟩:=hT e ei hei
    have hsz:=etok.sz
    rw [het] at hsz
    split at h
    ·rename_i z hz
     obtain ⟨zv,hz1,hz2,_⟩:=etok.z z hz
     rw [het] at hz1
     cases hc:(a9s 0 parts.toList && Nat.beq as.length len && Nat.blt 0 ei.sz && Nat.beq z.length ei.sz) with
     | false=>rw [hc] at h; simp at h
     | true =>
      rw [hc] at h
      simp only [cond_true] at h
      simp only [Bool.and_eq_true] at hc
      have hlen:=Nat.eq_of_beq_eq_true hc.1.1.2
      have hpos:=l7 hc.1.2
      have hzl:=Nat.eq_of_beq_eq_true hc.2
      obtain ⟨ps,p1,p2,p3⟩:=aGm hc.1.1.1 h1
      have hvl:vs.length=len:=by omega
      have hev:j0 ρ g→∀ w,lG ei.sz (as.map (A.den ρ))=some w→bV P (CE tt p) env m.H (.buildSlice t len parts)=some (.sl .full (vs.map V.er))∧w = .sl .ro (vs.map V.aL):=by
       intro hon w hw'
       rw [← h2 hon] at hw'
       obtain ⟨e1,e2,e3,e4⟩:=b0i hw'
       refine ⟨?_,e1⟩
       simp only [bV,p1]
       have hok:pZ ps=true:=by
        unfold pZ
        rw [← p3,List.all_map] at e4
        exact e4
       rw [aP8 hu hsz hz1 (by rw [hz2]; exact hzl) hpos len ps]
       unfold a8o
       rw [if_pos hok,p2]
       simp only
       rw [if_pos ⟨hvl,by rw [← hvl]; exact e2,e3⟩]
      obtain ⟨y,L',kn,bl,e2,e3,e4,e5⟩:=lE c h hw
      cases g with
      | none =>
       simp only at e3
       obtain ⟨h6,h7⟩:=hev trivial y e2
       refine ⟨.sl .full (vs.map V.er),m,_,_,_,L',gk,gb,⟨rfl,h6⟩,e3,e4,e5.b3e,⟨vs.map V.er,?_,.inl rfl⟩,oW _,cS _ _ _,Nat.le_succ _,rfl⟩
       show ext ρ S.nv y S.nv=_
       rw [l6,h7,List.map_map]
       congr 2
       funext v; exact (aZ6 v).symm
      | some q =>
       simp only at e3
       rcases vT e2 with ⟨hon,e6⟩ | ⟨hoff,rfl,e6⟩
       ·obtain ⟨h6,h7⟩:=hev hon y e6
        refine ⟨.sl .full (vs.map V.er),m,_,_,_,L',gk,gb,⟨rfl,by rw [pY hon]; exact h6⟩,e3,e4,e5,?_,oW _,cS _ _ _,Nat.le_succ _,rfl⟩
        show V.aL _=ext ρ S.nv y S.nv
        rw [l6,h7]
        simp only [V.aL,cW,List.map_map]
        congr 2
        funext v; exact aZ6 v
       ·exact ⟨.undef,m,_,_,_,L',gk,gb,⟨rfl,e6 _⟩,e3,e4,e5,by show V.aL _=ext ρ S.nv .undef S.nv; rw [l6]; rfl,oW _,cS _ _ _,Nat.le_succ _,rfl⟩
    ·simp at h
   ·simp at h
  ·simp at h
 ·simp at h
end
end Go.Fbs

/- Calls; what makes boxes,writes,grows. -/
namespace Go.Fbs
def Canon (tt:TT) (p:PT):Prop:=∀ f args v,p f args=some v→v.aL=v∧∀ g sg,a45 tt f=some (g,sg)→bDt sg v
theorem gG.up {ρ : Nat → V} {gk gk' : Nat → Option Nat} {gb gb' : List Nat} {T T' : List (Nat × Nat)} (hk : ∀ k i,gk k = some i → gk' k = some i) (hb : ∀ (b l : Nat),gb[b]? = some l → gb'[b]? = some l)
  (hT : ∀ (k i : Nat) x,gk k = some i → T[i]? = some x → T'[i]? = some x) {s : SV} {v : V} (r : gG ρ gk gb T s v) : gG ρ gk' gb' T' s v:=by
 cases s with
 | val a=>exact r
 | mL a g=>exact r
 | grow k sz a =>
  obtain ⟨es,h1,h2⟩:=r
  refine ⟨es,h1,?_⟩
  rcases h2 with h2 | ⟨i,h3,h4,h5⟩
  ·exact .inl h2
  ·exact .inr ⟨i,hk k i h3,h4,hT k i _ h3 h5⟩
 | nA=>exact r
 | elem a n off g=>exact r
 | ptr b off g=>exact ⟨fun h=>let ⟨l,h1,h2⟩:=r.1 h; ⟨l,hb b l h1,h2⟩,r.2⟩
 | pix b off n i g=>exact ⟨fun h=>let ⟨l,q,z,h1,h2⟩:=r.1 h; ⟨l,q,z,hb b l h1,h2⟩,r.2⟩
 | stv a nl=>exact r
 | clo f caps=>exact let ⟨cs,h1,h2,h3⟩:=r; ⟨cs,h1,h2,fun i q c h4 h5=>let ⟨l,h6,h7⟩:=h3 i q c h4 h5; ⟨l,hb _ _ h6,h7⟩⟩
theorem Cells.up {ρ : Nat → V} {gk gk' : Nat → Option Nat} {gb gb' : List Nat} {T T' : List (Nat × Nat)} {nv : Nat} (hk : ∀ k i,gk k = some i → gk' k = some i) (hb : ∀ (b l : Nat),gb[b]? = some l → gb'[b]? = some l)
  (hT : ∀ (k i : Nat) x,gk k = some i → T[i]? = some x → T'[i]? = some x) {cells : List SV} {cs : List V} (r : Cells ρ gk gb T nv cells cs) : Cells ρ gk' gb' T' nv cells cs :=
 ⟨r.1,fun j s c h1 h2=>let ⟨h3,h4⟩:=r.2 j s c h1 h2; ⟨h3.up hk hb hT,h4⟩⟩
section
variable {P:Program} {tt:TT} (hT:∀ t ti,eX tt t=some ti→aZ P ti∧ti.t=t)
variable {p:PT} {Q:V→Prop} {ks:List (List V→Prop)} {N:Nat} {gk:Nat→Option Nat} {gb:List Nat} {S:SS} {ρ:Nat→V} {env:Env} {m:Hp}
theorem aQ.a08 (c:aQ N gk gb S ρ env m) {cells:List SV} {cs:List V} (h:Cells ρ gk gb m.T S.nv cells cs) :
  aQ N gk (gb++[m.H.length]) { S with boxes:=S.boxes++[some cells] } ρ env { m with H:=m.H++[.cells cs] } ∧ gG ρ gk (gb++[m.H.length]) m.T (.ptr S.boxes.length 0 none) (.ptr m.H.length 0):=by
 have hb : ∀ (b l : Nat),gb[b]? = some l → (gb ++ [m.H.length])[b]? = some l:=fun b l h=>by
  rw [List.getElem?_append_left (List.getElem?_eq_some_iff.1 h).1]; exact h
 have hl : ∀ (b l : Nat),gb[b]? = some l → l < m.H.length:=fun b l h=>c.blt l (List.mem_of_getElem? h)
 refine ⟨⟨c.n,fun t s hs=>?_,fun b cs' hc=>?_,by simp [c.mF],fun b b' l h1 h2=>?_,fun l hl'=>?_,c.lJ,c.tM,c.known,c.dM,fun b hb'=>hb b b (c.own b hb')⟩,fun _=>⟨m.H.length,?_,rfl⟩,fun h=>absurd trivial h⟩
 ·obtain ⟨h1,h2,h3⟩:=c.cR t s hs
  exact ⟨h1,h2.up (fun _ _ h=>h) hb (fun _ _ _ _ h=>h),h3⟩
 ·by_cases hlt:b < S.boxes.length
  ·rw [List.getElem?_append_left hlt] at hc
   obtain ⟨l,ds,h1,h2,h3⟩:=c.boxes b cs' hc
   refine ⟨l,ds,hb b l h1,?_,h3.up (fun _ _ h=>h) hb (fun _ _ _ _ h=>h)⟩
   show (m.H ++ _)[l]? = _
   rw [List.getElem?_append_left (hl b l h1)]; exact h2
  ·have:b=S.boxes.length:=by
    have:=(List.getElem?_eq_some_iff.1 hc).1; simp at this; omega
   subst this
   rw [List.getElem?_append_right (Nat.le_refl _)] at hc
   simp at hc
   subst hc
   refine ⟨m.H.length,cs,?_,?_,h.up (fun _ _ h=>h) hb (fun _ _ _ _ h=>h)⟩
   ·rw [← c.mF]; simp
   ·simp
 ·by_cases h3:b < gb.length
  ·rw [List.getElem?_append_left h3] at h1
   by_cases h4:b' < gb.length
   ·rw [List.getElem?_append_left h4] at h2
    exact c.oO b b' l h1 h2
   ·rw [List.getElem?_append_right (by omega)] at h2
    have:=hl b l h1
    have:b' - gb.length=0:=by have:=(List.getElem?_eq_some_iff.1 h2).1; simp at this; omega
    rw [this] at h2; simp at h2; omega
  ·rw [List.getElem?_append_right (by omega)] at h1
   have e1:b - gb.length=0:=by have:=(List.getElem?_eq_some_iff.1 h1).1; simp at this; omega
   rw [e1] at h1; simp at h1
   by_cases h4:b' < gb.length
   ·rw [List.getElem?_append_left h4] at h2
    have:=hl b' l h2; omega
   ·rw [List.getElem?_append_right (by omega)] at h2
    have e2:b' - gb.length=0:=by have:=(List.getElem?_eq_some_iff.1 h2).1; simp at this; omega
    omega
 ·simp only [List.mem_append,List.mem_singleton] at hl'
  simp only [List.length_append,List.length_singleton]
  rcases hl' with h | rfl
  ·have:=c.blt l h; omega
  ·omega
 ·rw [← c.mF]; simp
theorem aQ.bAv (c : aQ N gk gb S ρ env m) {b l : Nat} {cells : List SV} (hl : gb[b]? = some l) {cs : List V} (h : Cells ρ gk gb m.T S.nv cells cs) :
  aQ N gk gb { S with boxes:=S.boxes.set b (some cells) } ρ env { m with H:=m.H.set l (.cells cs) }:=by
 have hlt : l < m.H.length:=c.blt l (List.mem_of_getElem? hl)
 refine ⟨c.n,c.cR,fun b' cs' hc=>?_,by simp [c.mF],c.oO,fun l' h'=>by simp only [List.length_set]; exact c.blt l' h',c.lJ,c.tM,c.known,c.dM,c.own⟩
 by_cases hbb:b=b'
 ·subst hbb
  have hbl:b < S.boxes.length:=by rw [← c.mF]; exact (List.getElem?_eq_some_iff.1 hl).1
  rw [List.getElem?_set_self hbl] at hc
  simp only [Option.some.injEq] at hc
  subst hc
  exact ⟨l,cs,hl,by show (m.H.set l _)[l]? = _; rw [List.getElem?_set_self hlt],h⟩
 ·rw [List.getElem?_set_ne hbb] at hc
  obtain ⟨l',ds,h1,h2,h3⟩:=c.boxes b' cs' hc
  refine ⟨l',ds,h1,?_,h3⟩
  have:l≠l':=fun e=>by subst e; exact hbb (c.oO b b' l hl h1)
  show (m.H.set l _)[l']? = _
  rw [List.getElem?_set_ne this]; exact h2
abbrev LO' (P:Program) (tt:TT) (p:PT) (g:Gd) (env:Env) (m:Hp) (op:Op):V→Hp→Prop:=fun v m'=>g=none∧nR (CE tt p) op=false∧evalOp P (CE tt p) env m op=some (v,m')
theorem aQz {op:Op} {cs:List V} (hq:nR (CE tt p) op=false) (ha:pB op=true) (h:wK P env op=some cs):evalOp P (CE tt p) env m op=some (.ptr m.H.length 0,{ m with H:=m.H++[.cells cs] }):=by
 unfold evalOp
 rw [if_neg (by rw [hq]; simp),if_pos ha,h]; rfl
theorem a2p {op:Op} {v:V} {m':Hp} (hq:nR (CE tt p) op=false) (ha:pB op=false) (h:evalW P (CE tt p) env m op=some (v,m')):evalOp P (CE tt p) env m op=some (v,m'):=by
 unfold evalOp
 rw [if_neg (by rw [hq]; simp),if_neg (by rw [ha]; simp)]; exact h
include hT in
theorem b7b (c:aQ N gk gb S ρ env m) {g:Gd} {t:TypeId} {k:SV→SS→OL} {L:L} (h:iZ tt g (.alloc t) S k=some L) (hw:L.wp p Q S.nv ρ ks):Fin p Q ks N ρ S env k (LO' P tt p g env m (.alloc t)):=by
 simp only [iZ] at h
 split at h
 ·rename_i ti hti
  obtain ⟨tok,htt⟩:=hT t ti hti
  split at h
  ·rename_i z hz
   obtain ⟨zv,hz1,hz2,_⟩:=tok.z z hz
   rw [htt] at hz1
   have hcells:Cells ρ gk gb m.T S.nv (z.map a5l) z:=⟨by simp,fun j s v h1 h2=>by
    rw [List.getElem?_map,h2] at h1
    simp only [Option.map_some,Option.some.injEq] at h1
    subst h1
    exact ⟨(a5c v).1 _,(a5c (ρ:=ρ) (gk:=gk) (gb:=gb) v).2 _⟩⟩
   obtain ⟨c',r'⟩:=c.a08 hcells
   exact ⟨_,_,_,_,ρ,L,gk,_,⟨rfl,rfl,aQz rfl rfl (by simp only [wK,hz1,Option.map_some,hz2])⟩,h,hw,c',r',rfl,bR.refl _ _,Nat.le_refl _,rfl⟩
  ·simp at h
 ·simp at h
theorem aSl {T:List (Nat×Nat)} {nv:Nat} {as:List A} {cs:List V} (h:cs.map V.aL=as.map (A.den ρ)) (hb:as.all (A.below nv)=true):Cells ρ gk gb T nv (as.map .val) cs:=by
 refine ⟨by have:=congrArg List.length h; simpa using this.symm,fun j s v h1 h2=>?_⟩
 rw [List.getElem?_map,Option.map_eq_some_iff] at h1
 obtain ⟨a,h3,rfl⟩:=h1
 have e : (cs.map V.aL)[j]? = (as.map (A.den ρ))[j]?:=by rw [h]
 rw [List.getElem?_map,List.getElem?_map,h2,h3] at e
 simp only [Option.map_some,Option.some.injEq] at e
 exact ⟨e,List.all_eq_true.1 hb a (List.mem_of_getElem? h3)⟩
def a9y (ρ:Nat→V) (gk:Nat→Option Nat) (gb:List Nat) (T:List (Nat×Nat)) (nv:Nat) (n:Nat) (v:V) (cells:List SV):Prop:=Cells ρ gk gb T nv cells v.cells∧v.iW=true∧v.cells.length=n
theorem tP {T:List (Nat×Nat)} {nv:Nat} {s:SV} {v:V} (h:v.cells=[v]) (ho:v.iW=true) (r:gG ρ gk gb T s v) (hb:s.below nv=true):a9y ρ gk gb T nv 1 v [s]:=by
 refine ⟨⟨by rw [h]; rfl,fun j s' v' h1 h2=>?_⟩,ho,by rw [h]; rfl⟩
 rw [h] at h2
 cases j with
 | zero=>simp at h1 h2; subst h1; subst h2; exact ⟨r,hb⟩
 | succ j=>simp at h1
theorem a7u (c:aQ N gk gb S ρ env m) {n:Nat} {a:A} {v:V} (hv:v.aL=a.den ρ) {k:List A→SS→OL} {L:L} (h:a1q none n a S k=some L) (hw:L.wp p Q S.nv ρ ks) :
  ∃ l nv kn bl ρ' L',k l (S.l8 nv kn bl)=some L'∧L'.wp p Q nv ρ' ks∧aQ N gk gb (S.l8 nv kn bl) ρ' env m∧S.nv≤nv∧bR ρ ρ' S.nv∧a9y ρ' gk gb m.T nv n v (l.map .val):=by
 obtain ⟨j,nv1,kn1,bl1,ρ1,L1,k1,k2,k3,k4,k5,k6,k7,k8⟩:=aL4 c h hw
 obtain ⟨e1,e2⟩:=k8 trivial
 obtain ⟨ds,d1,d2,d3⟩:=uV k4 e2
 have hvc:v.cells.map V.aL=(cellsOf j n 0).map (A.den ρ1):=by
  rw [a8t ρ1 (cs:=ds) (by rw [d1]; rfl) d2,← a30,hv,← e1,d1]; rfl
 exact ⟨_,nv1,kn1,bl1,ρ1,L1,k1,k2,k3,k6,k7,aSl hvc (aCe k5 0),by rw [← aKy,hv,← e1,d1]; rfl,by have:=congrArg List.length hvc; simpa [a8s] using this⟩
theorem aXj (c : aQ N gk gb S ρ env m) {n : Nat} {a : A} {v : V} {nl : List Nat} (hv : v.aL = a.den ρ) (hs : ∃ cs,v = .agg cs ∧ ∀ j ∈ nl,cs[j]? = some (.sl .full [])) {k : List A → SS → OL} {L : L} (h : a1q none n a S k = some L) (hw : L.wp p Q S.nv ρ ks) :
  ∃ l nv kn bl ρ' L',k l (S.l8 nv kn bl)=some L'∧L'.wp p Q nv ρ' ks∧aQ N gk gb (S.l8 nv kn bl) ρ' env m∧S.nv≤nv∧bR ρ ρ' S.nv∧a9y ρ' gk gb m.T nv n v (l.zipIdx.map fun p=>bif l3 nl p.2 then .nA else .val p.1):=by
 obtain ⟨l,nv,kn,bl,ρ',L',q1,q2,q3,q4,q5,⟨q6,q7⟩,q8⟩:=a7u c hv h hw
 obtain ⟨cs,rfl,hcs⟩:=hs
 refine ⟨l,nv,kn,bl,ρ',L',q1,q2,q3,q4,q5,⟨by simpa using q6,fun j s x h1 h2=>?_⟩,q8⟩
 rw [List.getElem?_map,Option.map_eq_some_iff] at h1
 obtain ⟨⟨b,j'⟩,h3,rfl⟩:=h1
 rw [List.getElem?_zipIdx,Option.map_eq_some_iff] at h3
 obtain ⟨b',h4,h5⟩:=h3
 simp only [Nat.zero_add,Prod.mk.injEq] at h5
 obtain ⟨rfl,rfl⟩:=h5
 have h6:=q7 j (.val b') x (by rw [List.getElem?_map,h4]; rfl) h2
 simp only
 cases hn:l3 nl j with
 | false=>exact h6
 | true =>
  have hm:j ∈ nl:=aQv hn
  have:=hcs j hm
  have h2 : cs[j]? = some x:=h2
  rw [h2] at this
  exact ⟨Option.some.inj this,rfl⟩
theorem aQ0 {T:List (Nat×Nat)} {q sz:Nat} {a:A} {v:V} (r:gG ρ gk gb T (.grow q sz a) v):v.cells=[v]∧v.iW=true:=by
 obtain ⟨es,_,h⟩:=r
 rcases h with rfl | ⟨i,_,rfl,_⟩ <;> exact ⟨rfl,rfl⟩
theorem bDz (c:aQ N gk gb S ρ env m) {g:Gd} {t:TypeId} {x:Operand} {k:SV→SS→OL} {L:L} (h:iZ tt g (.box t x) S k=some L) (hw:L.wp p Q S.nv ρ ks):Fin p Q ks N ρ S env k (LO' P tt p g env m (.box t x)):=by
 simp only [iZ] at h
 split at h
 ·rename_i ti s hti hs
  obtain ⟨v,h1,h2,hbel⟩:=c.j6 hs
  have fin:∀ {S1:SS} {ρ1:Nat→V} {L1:Go.Fbs.L} {cells:List SV} {n:Nat},k (.ptr S1.boxes.length 0 none) { S1 with boxes:=S1.boxes++[some cells] } = some L1→L1.wp p Q S1.nv ρ1 ks→aQ N gk gb S1 ρ1 env m→a9y ρ1 gk gb m.T S1.nv n v cells →
    S.nv≤S1.nv→bR ρ ρ1 S.nv→S1.dep=S.dep→Fin p Q ks N ρ S env k (LO' P tt p none env m (.box t x)):=by
   intro S1 ρ1 L1 cells n hk hw c1 hc hn ha hd
   obtain ⟨c',r'⟩:=c1.a08 hc.1
   refine ⟨_,_,_,_,ρ1,L1,gk,_,⟨rfl,rfl,aQz rfl rfl ?_⟩,hk,hw,c',r',rfl,ha,hn,hd⟩
   simp only [wK,h1]
   rw [if_pos hc.2.1]
  cases hag:ti.agg with
  | true =>
   rw [hag] at h
   simp only [cond_true] at h
   split at h
   ·rename_i a
    obtain ⟨l,nv,kn,bl,ρ',L',q1,q2,q3,q4,q5,q6⟩:=a7u c (v:=v) h2 h hw
    exact fin (S1:=S.l8 nv kn bl) q1 q2 q3 q6 q4 q5 rfl
   ·rename_i a nl
    obtain ⟨l,nv,kn,bl,ρ',L',q1,q2,q3,q4,q5,q6⟩:=aXj c (v:=v) h2.1 h2.2 h hw
    exact fin (S1:=S.l8 nv kn bl) q1 q2 q3 q6 q4 q5 rfl
   ·simp at h
  | false =>
   rw [hag] at h
   simp only [cond_false] at h
   split at h
   ·rename_i a
    obtain ⟨a',nv,kn,bl,ρ',L',q1,q2,q3,q4,q5,q6,q7⟩:=aEm c hbel h hw
    obtain ⟨e1,e2⟩:=q7 trivial
    have h2':v.aL=a.den ρ:=h2
    have hsv:sc v=true:=by rw [← aQi,h2']; exact e2
    exact fin (S1:=S.l8 nv kn bl) q1 q2 q3 (tP (a6i hsv) (aQh hsv) (show v.aL=a'.den ρ' by rw [e1]; exact h2') q4) q5 q6 rfl
   ·have:=aQ0 h2
    exact fin h hw c (tP this.1 this.2 h2 hbel) (Nat.le_refl _) (bR.refl _ _) rfl
   ·have h2':v = .sl .full []:=h2
    subst h2'
    exact fin h hw c (tP rfl rfl h2 hbel) (Nat.le_refl _) (bR.refl _ _) rfl
   ·simp at h
 ·simp at h
theorem aEr {α : Type} {cs new : List α} {off j : Nat} (h : off + new.length ≤ cs.length) : (j1 cs off new)[j]? = if off ≤ j ∧ j < off + new.length then new[j - off]? else cs[j]?:=by
 unfold j1
 by_cases h1:j < off
 ·rw [if_neg (by omega),List.append_assoc,List.getElem?_append_left (by simp; omega),List.getElem?_take,if_pos h1]
 ·by_cases h2:j < off+new.length
  ·rw [if_pos ⟨by omega,h2⟩,List.append_assoc,List.getElem?_append_right (by simp; omega),List.getElem?_append_left (by simp; omega)]
   congr 1; simp; omega
  ·rw [if_neg (by omega),List.getElem?_append_right (by simp; omega),List.getElem?_drop]
   congr 1; simp; omega
theorem Cells.put {T:List (Nat×Nat)} {nv:Nat} {cells new:List SV} {cs ns:List V} {off:Nat} (h:Cells ρ gk gb T nv cells cs) (h':Cells ρ gk gb T nv new ns) (hl:off+new.length≤cells.length) :
  Cells ρ gk gb T nv (j1 cells off new) (j1 cs off ns):=by
 have e1:=h.1; have e2:=h'.1
 refine ⟨by rw [aEo hl,aEo (by omega)]; exact h.1,fun j s v h1 h2=>?_⟩
 rw [aEr hl] at h1
 rw [aEr (by omega)] at h2
 by_cases hj:off≤j∧j < off+new.length
 ·rw [if_pos hj] at h1
  rw [if_pos (by omega)] at h2
  exact h'.2 _ s v h1 h2
 ·rw [if_neg hj] at h1
  rw [if_neg (by omega)] at h2
  exact h.2 j s v h1 h2
include hT in
theorem b7c (c:aQ N gk gb S ρ env m) {g:Gd} {t:TypeId} {x y:Operand} {k:SV→SS→OL} {L:L} (h:iZ tt g (.store t x y) S k=some L) (hw:L.wp p Q S.nv ρ ks):Fin p Q ks N ρ S env k (LO' P tt p g env m (.store t x y)):=by
 simp only [iZ] at h
 split at h
 ·rename_i ti b off s hti hx hs
  obtain ⟨tok,htt⟩:=hT t ti hti
  have hsz:=tok.sz
  rw [htt] at hsz
  obtain ⟨u,h1,h2,_⟩:=c.j6 hx
  obtain ⟨v,h3,h4,hbel⟩:=c.j6 hs
  obtain ⟨l,hl,rfl⟩:=h2.1 trivial
  split at h
  ·rename_i cells hb
   cases hle:Nat.ble (off+ti.sz) cells.length with
   | false=>rw [hle] at h; simp at h
   | true =>
    rw [hle] at h
    simp only [cond_true] at h
    have hle':=Nat.le_of_ble_eq_true hle
    have fin:∀ {S1:SS} {ρ1:Nat→V} {L1:Go.Fbs.L} {new:List SV},k vO { S1 with boxes:=S1.boxes.set b (some (j1 cells off new)) } = some L1→L1.wp p Q S1.nv ρ1 ks→aQ N gk gb S1 ρ1 env m→a9y ρ1 gk gb m.T S1.nv ti.sz v new →
      S1.boxes=S.boxes→S.nv≤S1.nv→bR ρ ρ1 S.nv→S1.dep=S.dep→Fin p Q ks N ρ S env k (LO' P tt p none env m (.store t x y)):=by
     intro S1 ρ1 L1 new hk hw c1 hc hbx hn ha hd
     obtain ⟨l',cs,e1,e2,e3⟩:=c1.boxes b cells (by rw [hbx]; exact hb)
     rw [hl] at e1
     simp only [Option.some.injEq] at e1
     subst e1
     have hnl:new.length=ti.sz:=by rw [hc.1.1]; exact hc.2.2
     have hp:=e3.put (off:=off) hc.1 (by omega)
     have c':=c1.bAv hl hp
     refine ⟨.undef,_,vO,_,ρ1,L1,gk,gb,⟨rfl,rfl,a2p rfl rfl ?_⟩,hk,hw,c',rfl,rfl,ha,hn,hd⟩
     simp only [evalW,h1,h3,nE,hsz,e2]
     have:=e3.1
     rw [if_pos ⟨hc.2.1,hc.2.2,by omega⟩]
     rfl
    cases hag:ti.agg with
    | true =>
     rw [hag] at h
     simp only [cond_true] at h
     split at h
     ·rename_i a
      obtain ⟨as,nv,kn,bl,ρ',L',q1,q2,q3,q4,q5,q6⟩:=a7u c (v:=v) h4 h hw
      exact fin (S1:=S.l8 nv kn bl) q1 q2 q3 q6 rfl q4 q5 rfl
     ·rename_i a nl
      obtain ⟨as,nv,kn,bl,ρ',L',q1,q2,q3,q4,q5,q6⟩:=a7u c (v:=v) h4.1 h hw
      exact fin (S1:=S.l8 nv kn bl) q1 q2 q3 q6 rfl q4 q5 rfl
     ·simp at h
    | false =>
     rw [hag] at h
     simp only [cond_false] at h
     cases hz1:Nat.beq ti.sz 1 with
     | false=>rw [hz1] at h; simp at h
     | true =>
      rw [hz1] at h
      simp only [cond_true] at h
      have hone:=Nat.eq_of_beq_eq_true hz1
      rw [hone] at fin
      split at h
      ·rename_i a
       obtain ⟨a',nv,kn,bl,ρ',L',q1,q2,q3,q4,q5,q6,q7⟩:=aEm c hbel h hw
       obtain ⟨e1,e2⟩:=q7 trivial
       have h4':v.aL=a.den ρ:=h4
       have hsv:sc v=true:=by rw [← aQi,h4']; exact e2
       exact fin (S1:=S.l8 nv kn bl) q1 q2 q3 (tP (a6i hsv) (aQh hsv) (show v.aL=a'.den ρ' by rw [e1]; exact h4') q4) rfl q5 q6 rfl
      ·have:=aQ0 h4
       exact fin h hw c (tP this.1 this.2 h4 hbel) rfl (Nat.le_refl _) (bR.refl _ _) rfl
      ·have h4':v = .sl .full []:=h4
       subst h4'
       exact fin h hw c (tP rfl rfl h4 hbel) rfl (Nat.le_refl _) (bR.refl _ _) rfl
      ·simp at h
  ·simp at h
 ·simp at h
theorem aEs {q n:Nat} {s:SV} (h:s.below n=true):(Fbs.l4 q s).below n=true:=by
 cases s with
 | grow k sz a=>simp only [Fbs.l4]; cases Nat.beq q k <;> exact h
 | _=>exact h
theorem gG.l4 {T:List (Nat×Nat)} {q:Nat} {s:SV} {v:V} (r:gG ρ gk gb T s v):gG ρ (fun k=>if k=q then none else gk k) gb T (Fbs.l4 q s) v:=by
 cases s with
 | grow k sz a =>
  simp only [Fbs.l4]
  cases hb:Nat.beq q k with
  | true=>exact uU r rfl
  | false =>
   have hne:¬ k=q:=fun e=>by subst e; simp at hb
   obtain ⟨es,h1,h2⟩:=r
   refine ⟨es,h1,?_⟩
   rcases h2 with h2 | ⟨i,h3,h4,h5⟩
   ·exact .inl h2
   ·exact .inr ⟨i,by show (if k=q then none else gk k)=some i; rw [if_neg hne]; exact h3,h4,h5⟩
 | _=>exact r
theorem aL6 {α β:Type} (f:α→β):∀ (l:List (Nat×α)) (t:Nat),assoc (l.map fun p=>(p.1,f p.2)) t=(assoc l t).map f
 | [],t=>rfl
 | (j,x)::r,t=>by
  simp only [List.map_cons,assoc]
  cases Nat.beq j t with
  | true=>rfl
  | false=>exact aL6 f r t
theorem aQ.l4 (c:aQ N gk gb S ρ env m) (q:Nat):aQ N (fun k=>if k=q then none else gk k) gb (S.l4 q) ρ env m:=by
 refine ⟨c.n,fun t s hs=>?_,fun b cells hb=>?_,by simp [SS.l4,c.mF],c.oO,c.blt,fun k k' i h1 h2=>?_,fun k i h=>?_,c.known,c.dM,c.own⟩
 ·simp only [SS.look,SS.l4] at hs
  rw [aL6 (Fbs.l4 q),Option.map_eq_some_iff] at hs
  obtain ⟨s',h1,rfl⟩:=hs
  obtain ⟨h2,h3,h4⟩:=c.cR t s' h1
  exact ⟨h2,h3.l4,aEs h4⟩
 ·simp only [SS.l4,List.getElem?_map,Option.map_eq_some_iff] at hb
  obtain ⟨o,h1,h2⟩:=hb
  obtain ⟨cs',rfl,rfl⟩:=h2
  obtain ⟨l,cs,h3,h4,h5⟩:=c.boxes b cs' h1
  refine ⟨l,cs,h3,h4,by rw [List.length_map]; exact h5.1,fun j s v h6 h7=>?_⟩
  rw [List.getElem?_map,Option.map_eq_some_iff] at h6
  obtain ⟨s',h8,rfl⟩:=h6
  obtain ⟨h9,h10⟩:=h5.2 j s' v h8 h7
  exact ⟨h9.l4,aEs h10⟩
 ·split at h1
  ·simp at h1
  ·split at h2
   ·simp at h2
   ·exact c.lJ k k' i h1 h2
 ·split at h
  ·simp at h
  ·exact c.tM k i h
theorem aQ.b3f (c : aQ N gk gb S ρ env m) {T' : List (Nat × Nat)} (hl : m.T.length ≤ T'.length) (h : ∀ (k i : Nat) x,gk k = some i → m.T[i]? = some x → T'[i]? = some x) : aQ N gk gb S ρ env { m with T:=T' } :=
 ⟨c.n,fun t s hs=>let ⟨h1,h2,h3⟩:=c.cR t s hs; ⟨h1,h2.up (fun _ _ h=>h) (fun _ _ h=>h) h,h3⟩,fun b cells hb=>let ⟨l,cs,h1,h2,h3⟩:=c.boxes b cells hb; ⟨l,cs,h1,h2,h3.up (fun _ _ h=>h) (fun _ _ h=>h) h⟩,
  c.mF,c.oO,c.blt,c.lJ,fun k i hk=>let ⟨h1,h2⟩:=c.tM k i hk; ⟨h1,Nat.lt_of_lt_of_le h2 hl⟩,c.known,c.dM,c.own⟩
theorem aQ.aFv (c:aQ N gk gb S ρ env m) {i:Nat} (hi:i < m.T.length) (hn:∀ k,gk k≠some i):aQ N (fun k=>if k=S.nk then some i else gk k) gb { S with nk:=S.nk+1 } ρ env m:=by
 have up:∀ k j,gk k=some j→(if k=S.nk then some i else gk k)=some j:=fun k j h=>by
  rw [if_neg (by have:=(c.tM k j h).1; omega)]; exact h
 refine ⟨c.n,fun t s hs=>let ⟨h1,h2,h3⟩:=c.cR t s hs; ⟨h1,h2.up up (fun _ _ h=>h) (fun _ _ _ _ h=>h),h3⟩,fun b cells hb=>let ⟨l,cs,h1,h2,h3⟩:=c.boxes b cells hb; ⟨l,cs,h1,h2,h3.up up (fun _ _ h=>h) (fun _ _ _ _ h=>h)⟩,
  c.mF,c.oO,c.blt,fun k k' j h1 h2=>?_,fun k j h=>?_,c.known,c.dM,c.own⟩
 ·split at h1 <;> split at h2
  ·omega
  ·simp only [Option.some.injEq] at h1; subst h1; exact absurd h2 (hn k')
  ·simp only [Option.some.injEq] at h2; subst h2; exact absurd h1 (hn k)
  ·exact c.lJ k k' j h1 h2
 ·split at h
  ·simp only [Option.some.injEq] at h; subst h; rename_i e; subst e; exact ⟨Nat.lt_succ_self _,hi⟩
  ·obtain ⟨h1,h2⟩:=c.tM k j h; exact ⟨Nat.lt_succ_of_lt h1,h2⟩
theorem aL7 {n b:Nat} {x y w:V} (h:jW n b x.aL y.aL=some w):∃ g es g' ys,x = .sl g es∧y = .sl g' ys∧w = .sl .ro ((es++ys).map V.aL)∧(es.length+ys.length)*(b+1)≤70368744177664∧es.all (fun e=>e.cells.length == n)=true∧ys.all (fun e=>e.cells.length == n)=true:=by
 unfold jW at h
 split at h
 ·rename_i h1 h2
  obtain ⟨g,es,rfl,rfl⟩:=aEk h1
  obtain ⟨g',ys,rfl,rfl⟩:=aEk h2
  split at h
  ·rename_i hc
   rw [List.length_map,List.length_map,a8r,a8r] at hc
   simp only [Option.some.injEq] at h
   exact ⟨g,es,g',ys,rfl,rfl,by rw [← h,List.map_append],hc⟩
  ·simp at h
 ·simp at h
def SS.zJ (S:SS):SV→SS
 | .grow q _ _=>S.l4 q
 | _=>S
theorem aSm (c:aQ N gk gb S ρ env m) {sx:SV} {x:V} (hx:gG ρ gk gb m.T sx x) {n b:Nat} {es ys:List V} {g0:Tag} (hxe:x = .sl g0 es)
  (hcase:(∃ q a,sx = .grow q n a)∨sx = .nA) (hb:(es.length+ys.length)*(b+1)≤70368744177664) (h1:es.all (fun e=>e.cells.length == n)=true) (h2:ys.all (fun e=>e.cells.length == n)=true) :
  ∃ v m' gk',a2j n b x ys m=some (v,m')∧m'.H=m.H ∧
   aQ N gk' gb { (S.zJ sx) with nk:=S.nk+1 } ρ env m' ∧
   (∀ (a:A) (ρ':Nat→V),a.den ρ' = .sl .ro ((es++ys).map V.aL)→gG ρ' gk' gb m'.T (.grow S.nk n a) v):=by
 subst hxe
 obtain ⟨S0,hS0,gk0,c0,hgk0,hnk,hown⟩:∃ S0,S0=(S.zJ sx)∧∃ gk0,aQ N gk0 gb S0 ρ env m∧(∀ k i,gk0 k=some i→gk k=some i)∧S0.nk=S.nk∧(∀ i,g0 = .own i→∀ k,gk0 k≠some i):=by
  rcases hcase with ⟨q,a,rfl⟩ | rfl
  ·refine ⟨_,rfl,_,c.l4 q,fun k i h=>?_,rfl,fun i hi k hk=>?_⟩
   ·split at h
    ·simp at h
    ·exact h
   ·obtain ⟨es',_,h3⟩:=hx
    rcases h3 with h3 | ⟨i',h4,h5,_⟩
    ·simp only [V.sl.injEq] at h3; rw [h3.1] at hi; simp at hi
    ·simp only [V.sl.injEq] at h5
     rw [h5.1] at hi
     simp only [Tag.own.injEq] at hi
     subst hi
     split at hk
     ·simp at hk
     ·rename_i hne; exact hne (c.lJ k q i' hk h4)
  ·refine ⟨_,rfl,gk,c,fun _ _ h=>h,rfl,fun i hi=>?_⟩
   have:V.sl g0 es = .sl .full []:=hx
   simp only [V.sl.injEq] at this
   rw [this.1] at hi; simp at hi
 have htag : g0 = .full ∨ ∃ i,g0 = .own i ∧ m.T[i]? = some (es.length,n):=by
  rcases hcase with ⟨q,a,rfl⟩ | rfl
  ·obtain ⟨es',_,h3⟩:=hx
   rcases h3 with h3 | ⟨i',h4,h5,h6⟩
   ·simp only [V.sl.injEq] at h3; exact .inl h3.1
   ·simp only [V.sl.injEq] at h5; obtain ⟨rfl,rfl⟩:=h5; exact .inr ⟨i',rfl,h6⟩
  ·have:V.sl g0 es = .sl .full []:=hx
   simp only [V.sl.injEq] at this
   exact .inl this.1
 rw [← hS0]
 unfold a2j
 simp only
 rw [if_pos ⟨hb,h1,h2⟩]
 by_cases hy:ys=[]
 ·subst hy
  rw [if_pos rfl]
  rcases htag with rfl | ⟨i,rfl,hi⟩
  ·refine ⟨_,_,gk0,rfl,rfl,hnk ▸ c0.b3e,fun a ρ' ha=>⟨es,by rw [ha]; simp,.inl rfl⟩⟩
  ·have hlt:i < m.T.length:=(List.getElem?_eq_some_iff.1 hi).1
   refine ⟨_,_,_,rfl,rfl,hnk ▸ c0.aFv hlt (hown i rfl),fun a ρ' ha=>⟨es,by rw [ha]; simp,.inr ⟨i,?_,rfl,hi⟩⟩⟩
   simp [hnk]
 ·rw [if_neg hy]
  rcases htag with rfl | ⟨i,rfl,hi⟩
  ·simp only
   have c1:=c0.b3f (T':=m.T++[(es.length+ys.length,n)]) (by simp) (fun k i x hk hx=>by
    rw [List.getElem?_append_left (List.getElem?_eq_some_iff.1 hx).1]; exact hx)
   have c2:=c1.aFv (i:=m.T.length) (by simp) (fun k hk=>by have:=(c0.tM k _ hk).2; omega)
   refine ⟨_,_,_,rfl,rfl,hnk ▸ c2,fun a ρ' ha=>⟨es++ys,ha,.inr ⟨m.T.length,by simp [hnk],rfl,by simp⟩⟩⟩
  ·simp only [hi,if_true]
   have hlt:i < m.T.length:=(List.getElem?_eq_some_iff.1 hi).1
   have c1:=c0.b3f (T':=m.T.set i (es.length+ys.length,n)) (by simp) (fun k j x hk hx=>by
    rw [List.getElem?_set_ne (fun e=>by subst e; exact hown i rfl k hk)]; exact hx)
   have c2:=c1.aFv (i:=i) (by simpa using hlt) (hown i rfl)
   refine ⟨_,_,_,rfl,rfl,hnk ▸ c2,fun a ρ' ha=>⟨es++ys,ha,.inr ⟨i,by simp [hnk],rfl,by simp [hlt]⟩⟩⟩
end
end Go.Fbs

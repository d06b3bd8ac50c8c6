/- Common texts: values, words, what they answer; no statement of the seat. -/
import Derived.Test.YthakklikgmcgdaaGreatDoorS0
set_option linter.unusedSimpArgs false
set_option linter.unusedVariables false
set_option linter.unusedSectionVars false
/- A small language that code is told back in: what its words answer. -/
namespace Go.Fbs
mutual
def V.aI:V→V
 | .sl _ es=>.sl .ro (xW es)
 | .agg cs=>.agg (xW cs)
 | .ro cs=>.ro (xW cs)
 | .func f cs=>.func f (xW cs)
 | .tup vs=>.tup (xW vs)
 | .bool b=>.bool b
 | .int k n=>.int k n
 | .str s=>.str s
 | .ptr l off=>.ptr l off
 | .nilp=>.nilp
 | .map l=>.map l
 | .xO l off n c=>.xO l off n c
 | .undef=>.undef
 | .any=>.any
def xW:List V→List V
 | []=>[]
 | v::vs=>v.aI::xW vs
end
theorem bP:∀ l:List V,xW l=l.map V.aI
 | []=>by simp [xW]
 | v::vs=>by simp [xW,bP vs]
theorem a05 (v:V):v.aI.cells=v.cells.map V.aI:=by
 cases v <;> simp [V.aI,V.cells,bP]
theorem nY (v:V):v.aI.cells.length=v.cells.length:=by rw [a05,List.length_map]
theorem aGd (v:V):v.aI.ok1=v.ok1:=by cases v <;> simp [V.aI,V.ok1]
theorem a3g (es:List V):flat (es.map V.aI)=(flat es).map V.aI:=by
 induction es with
 | nil=>rfl
 | cons e es ih=>simp only [flat,List.map_cons,List.flatMap_cons,List.map_append] at ih ⊢; rw [ih,a05]
theorem a2x {κ:Ctx} {h:Heap} {v:V} {x:Value} (r:Rep κ h v x):Rep κ h v.aI x:=by
 have get : ∀ {cs : List V} {xs : List Value},(∀ (i : Nat) c x,cs[i]? = some c → xs[i]? = some x → Rep κ h c.aI x) → ∀ (i : Nat) c x,(xW cs)[i]? = some c → xs[i]? = some x → Rep κ h c x:=by
  intro cs xs ih i c x h1 h2
  rw [bP,List.getElem?_map,Option.map_eq_some_iff] at h1
  obtain ⟨c0,h3,rfl⟩:=h1
  exact ih i c0 x h3 h2
 induction r with
 | bool b=>exact .bool b
 | int k n=>exact .int k n
 | str s=>exact .str s
 | ptr i off b hb=>exact .ptr i off b hb
 | ro cs b off xs hx hl _ ih=>exact .ro _ b off xs hx (by rw [bP]; simpa using hl) (get ih)
 | nilp=>exact .nilp
 | slnil g hg=>exact .slnil .ro (by simp)
 | sl g es b off cap sz xs hx hu hl _ hc ht ih =>
  have e:(xW es).length=es.length:=by rw [bP,List.length_map]
  simp only [V.aI]
  rw [← e]
  refine .sl .ro (xW es) b off cap sz xs hx ?_ ?_ ?_ (by rw [e]; exact hc) trivial
  ·intro v hv
   rw [bP] at hv
   obtain ⟨v0,h1,rfl⟩:=List.mem_map.1 hv
   rw [nY]; exact hu v0 h1
  ·rw [bP,a3g,List.length_map]; exact hl
  ·intro i c x h1 h2
   rw [bP,a3g,List.getElem?_map,Option.map_eq_some_iff] at h1
   obtain ⟨c0,h3,rfl⟩:=h1
   exact ih i c0 x h3 h2
 | mapnil=>exact .mapnil
 | map i b hb=>exact .map i b hb
 | xO i off n c b cap hb hn hc=>exact .xO i off n c b cap hb hn hc
 | func f caps xs hl _ ih=>exact .func f _ xs (by rw [bP]; simpa using hl) (get ih)
 | agg cs xs hl ho _ ih=>exact .agg _ xs (by rw [bP]; simpa using hl) ho (get ih)
 | tup cs xs hl _ ih=>exact .tup _ xs (by rw [bP]; simpa using hl) (get ih)
 | undef=>exact .undef
 | any x=>exact .any x
theorem aUw {κ:Ctx} {h:Heap} {vs:List V} {xs:List Value} (r:Reps κ h vs xs):Reps κ h (vs.map V.aI) xs :=
 ⟨by rw [r.1,List.length_map],fun i c x h1 h2=>by
  rw [List.getElem?_map,Option.map_eq_some_iff] at h1
  obtain ⟨c0,h3,rfl⟩:=h1
  exact a2x (r.2 i c0 x h3 h2)⟩
theorem aNs (v:V):v.er1.aI=v.aI:=by
 cases v with
 | sl g es=>cases g <;> simp [V.er1,V.aI]
 | _=>rfl
theorem aRx (v:V):v.er.aI=v.aI:=by
 have h:∀ cs:List V,(cs.map V.er1).map V.aI=cs.map V.aI:=fun cs=>by simp [List.map_map,Function.comp_def,aNs]
 cases v <;> simp [V.er,V.aI,bP,h,aNs]
def sc (v:V):Bool :=
 match v with
 | .undef | .any | .tup _ | .agg _=>false
 | _=>true
theorem a3h {v:V} (h:sc v=true):v.cells=[v]:=by cases v <;> simp_all [sc,V.cells]
theorem aJ2 {v:V} (h:sc v=true):v.ok1=true:=by cases v <;> simp_all [sc,V.ok1]
theorem aJ3 (v:V):sc v.aI=sc v:=by cases v <;> rfl
inductive A where
 | v (i:Nat)
 | k (x:V)
 | c (i j:Nat)
 deriving Inhabited
def aA (x:V) (j:Nat):V:=x.cells.getD j .undef
def A.den (ρ:Nat→V):A→V
 | .v i=>ρ i
 | .k x=>x
 | .c i j=>aA (ρ i) j
inductive E where
 | id (a:A)
 | fG (a:A)
 | lenL (a:A)
 | bin (op:BinOp) (a b:A)
 | eqB (neg:Bool) (a b:A)
 | eqA (qs:List Nat) (neg:Bool) (a b:A)
 | un (op:UnOp) (a:A)
 | mm (max:Bool) (a b:A)
 | kF (k:IntKind) (a:A)
 | sP (a:A)
 | mN (a:A)
 | slS (a:A) (lo hi:Option A)
 | slL (n:Nat) (a:A) (lo hi:Option A)
 | aPb (a i:A)
 | aPc (g:Bool) (n:Nat) (a i:A)
 | aUx (len:Nat) (g:Bool) (n:Nat) (a i:A)
 | part (g:Bool) (n off:Nat) (a:A)
 | agg (l:List A)
 | lit (n:Nat) (l:List A)
 | make (n:Nat) (z:V) (by_:Nat) (l c:A)
 | app (n by_:Nat) (x y:A)
 | aJ6 (by_:Nat) (x y:A)
 | call (f:FuncId) (l:List A)
 | aEl (f:A) (l:List A)
 | fn (f:FuncId) (l:List A)
 | aPd (a:A)
 | ext (a:A) (i:Nat)
 | pick (c a b:A)
 | chk (n:Nat) (a:A)
 | aPe (a:A)
 | aUy (a:A)
 | inb (n:Nat) (i:A)
 | nth (l:List A) (i:A)
 | pre (n:Nat) (a:A)
 | flip (m1 m2:Nat) (s i c:A)
 deriving Inhabited
inductive L where
 | bind (e:E) (g:Option (A×Bool)) (k:L)
 | ite (c:A) (t e:L)
 | ret (a:A)
 | aUz (l:List A)
 | join (m:Nat) (body k:L)
 | loop (init:List A) (body:L)
 | jmp (d:Nat) (l:List A)
 deriving Inhabited
def aC (op:BinOp) (x y:V):Option V :=
 match x,y with
 | .int k a,.int k' b =>
  match op with
  | .shl | .shr=>wT op k a b
  | _=>if k=k' then intBin op k a b else none
 | .str a,.str b=>strBin op a b
 | _,_=>none
def eqS (q:Nat) (x y:V):Option Bool :=
 match q,x,y with
 | 0,.bool a,.bool b=>some (a == b)
 | 1,.int k a,.int k' b=>if k=k' then some (a == b) else none
 | 2,.str a,.str b=>some (a == b)
 | _,_,_=>none
def fB:List Nat→List V→List V→Option Bool
 | [],[],[]=>some true
 | q::qs,x::xs,y::ys =>
  match eqS q x y,fB qs xs ys with
  | some a,some b=>some (a && b)
  | _,_=>none
 | _,_,_=>none
def aDf (neg:Bool) (x y:V):Option V :=
 match x,y with
 | .bool a,.bool b=>some (.bool ((a == b) != neg))
 | _,_=>none
def aJ9 (qs:List Nat) (neg:Bool) (x y:V):Option V :=
 match x,y with
 | .agg xs,.agg ys=>(fB qs xs ys).map fun b=>.bool (b != neg)
 | _,_=>none
def mmK (max:Bool) (x y:V):Option V :=
 match x,y with
 | .int k a,.int _ b=>some (.int k (if max then (if b > a then b else a) else (if b < a then b else a)))
 | _,_=>none
def aDg (n:Nat) (x:V) (lo hi:Option V):Option V :=
 match x with
 | .sl _ es =>
  match iE hi es.length es.length with
  | some h =>
   match iE lo 0 h with
   | some l=>if es.all (fun e=>e.cells.length == n)=true then some (.sl .ro ((es.take h).drop l)) else none
   | none=>none
  | none=>none
 | _=>none
def aP (n:Nat) (x:V):Option V :=
 match x with
 | .agg cs=>if cs.length=n∧cs.all sc=true then some (.agg cs) else none
 | _=>none
def iI (x:V):Option V:=if sc x then some x else none
def gS (g:Bool) (n:Nat) (x i:V):Option V :=
 match x,i with
 | .sl _ es,.int _ k =>
  if 0≤k then
   match es[k.toNat]? with
   | some e=>if g then aP n e else iI e
   | none=>none
  else none
 | _,_=>none
def aI0 (g:Bool) (n off:Nat) (x:V):Option V :=
 match x with
 | .agg cs =>
  if g then (if off+n≤cs.length then aP n (.agg ((cs.drop off).take n)) else none)
  else (match cs[off]? with | some c=>iI c | none=>none)
 | _=>none
def aD (l:List V):Option V:=if l.all sc then some (.agg l) else none
def kV (n:Nat) (l:List V):Option V :=
 if l.length*n≤1000000∧l.all (fun e=>e.cells.length == n && e.ok1)=true then some (.sl .ro l) else none
def aI1 (z:V) (by_:Nat) (l c:V):Option V :=
 match l,c with
 | .int _ n,.int _ k=>if 0≤n∧n≤k∧k≤9223372036854775807∧by_*k≤140737488355328 then some (.sl .ro (List.replicate n.toNat z)) else none
 | _,_=>none
def appK (n by_:Nat) (x y:V):Option V :=
 match x,y with
 | .sl _ es,.sl _ ys =>
  if (es.length+ys.length)*(by_+1)≤70368744177664∧es.all (fun e=>e.cells.length == n)=true∧ys.all (fun e=>e.cells.length == n)=true then some (.sl .ro (es++ys)) else none
 | _,_=>none
def aPf (by_:Nat) (x y:V):Option V :=
 match y with
 | .str s=>appK 1 by_ x (.sl .ro (s.map fun b=>.int .u8 b.toNat))
 | _=>none
def wW:Nat:=1000000
def aEm (p:PT) (f:V) (l:List V):Option V :=
 match f with
 | .func g caps=>bif Nat.blt g wW then p g (l++caps) else none
 | _=>none
def fA (n:Nat) (x:V):Option V :=
 match x with
 | .tup vs=>some (.tup (vs.take n))
 | _=>none
def rI:V→Bool
 | .bool _ | .undef=>true
 | _=>false
def oS (x:V):Option V:=if rI x then some x else none
def aU0 (n:Nat) (i:V):Option V :=
 match i with
 | .int k m=>if 0≤m∧m < n then some (.int k m) else none
 | _=>none
def aU1 (l:List V) (i:V):Option V :=
 match i with
 | .int _ m =>
  if 0≤m then
   match l[m.toNat]? with
   | some x=>iI x
   | none=>none
  else none
 | _=>none
def aPg (m1 m2:Nat) (l:List UInt8) (n b:Int):Option (Nat×Int) :=
 match intBin .and .i64 n m1 with
 | some (.int .i64 q) =>
  match intBin .rem .i64 q l.length with
  | some (.int .i64 r) =>
   match l[r.toNat]?,intBin .and .u8 b m2 with
   | some x,some (.int .u8 d) =>
    match intBin .xor .u8 x.toNat d with
    | some (.int .u8 e)=>if 0≤r then some (r.toNat,e) else none
    | _=>none
   | _,_=>none
  | _=>none
 | _=>none
def uU (m1 m2:Nat) (s i c:V):Option V :=
 match s,i,c with
 | .str l,.int .i64 n,.int .u8 b =>
  if l.length≤1000000000 then
   if l=[] then some (.str [])
   else (aPg m1 m2 l n b).map fun p=>.str (l.set p.1 (UInt8.ofNat p.2.toNat))
  else none
 | _,_,_=>none
def aI2 (x:V):Option V :=
 match x with
 | .func f cs=>some (.func f cs)
 | _=>none
def E.ev (p:PT) (ρ:Nat→V):E→Option V
 | .id a=>some (a.den ρ)
 | .fG a=>Fbs.fG (a.den ρ)
 | .lenL a=>Fbs.lenL (a.den ρ)
 | .bin op a b=>aC op (a.den ρ) (b.den ρ)
 | .eqB n a b=>aDf n (a.den ρ) (b.den ρ)
 | .eqA n g a b=>aJ9 n g (a.den ρ) (b.den ρ)
 | .un op a=>unV op (a.den ρ)
 | .mm g a b=>mmK g (a.den ρ) (b.den ρ)
 | .kF k a=>Fbs.kF k (a.den ρ)
 | .sP a=>Fbs.sP (a.den ρ)
 | .mN a=>Fbs.mN (a.den ρ)
 | .slS a lo hi=>cO (a.den ρ) (lo.map (A.den ρ)) (hi.map (A.den ρ))
 | .slL n a lo hi=>aDg n (a.den ρ) (lo.map (A.den ρ)) (hi.map (A.den ρ))
 | .aPb a i=>cV (a.den ρ) (i.den ρ)
 | .aPc g n a i=>gS g n (a.den ρ) (i.den ρ)
 | .aUx len g n a i=>a3f len g n (a.den ρ) (i.den ρ)
 | .part g n off a=>aI0 g n off (a.den ρ)
 | .agg l=>aD (l.map (A.den ρ))
 | .lit n l=>kV n (l.map (A.den ρ))
 | .make _ z b l c=>aI1 z b (l.den ρ) (c.den ρ)
 | .app n b x y=>appK n b (x.den ρ) (y.den ρ)
 | .aJ6 b x y=>aPf b (x.den ρ) (y.den ρ)
 | .call f l=>p f (l.map (A.den ρ))
 | .aEl f l=>aEm p (f.den ρ) (l.map (A.den ρ))
 | .fn f l=>some (.func f (l.map (A.den ρ)))
 | .aPd a=>aI2 (a.den ρ)
 | .ext a i=>extractV (a.den ρ) i
 | .pick c a b=>pickV (c.den ρ) (a.den ρ) (b.den ρ)
 | .chk n a=>aP n (a.den ρ)
 | .aPe a=>iI (a.den ρ)
 | .aUy a=>oS (a.den ρ)
 | .inb n i=>aU0 n (i.den ρ)
 | .nth l i=>aU1 (l.map (A.den ρ)) (i.den ρ)
 | .pre n a=>fA n (a.den ρ)
 | .flip m1 m2 s i c=>uU m1 m2 (s.den ρ) (i.den ρ) (c.den ρ)
def ext (ρ:Nat→V) (n:Nat) (y:V):Nat→V:=fun i=>bif Nat.beq i n then y else ρ i
def gv (vs:List V) (i:Nat):V:=vs.getD i .undef
def exts (ρ:Nat→V) (n:Nat) (vs:List V):Nat→V:=fun i=>bif Nat.ble n i then gv vs (i - n) else ρ i
def aM (c:V) (t e:Prop):Prop :=
 match c with
 | .bool b=>if b then t else e
 | _=>False
def aXg (p:PT) (ρ:Nat→V) (e:E):Option (A×Bool)→Option V
 | none=>e.ev p ρ
 | some (g,want)=>b7 (g.den ρ) want (e.ev p ρ)
def aBn (F:(List V→Prop)→List V→Prop):Nat→List V→Prop
 | 0,_=>False
 | n+1,vs=>F (aBn F n) vs
def jX (F:(List V→Prop)→List V→Prop) (vs:List V):Prop:=∃ n,aBn F n vs
def iU (k:List V→Prop) (body:(List V→Prop)→Prop):Prop:=body k
def L.wp (p:PT) (Q:V→Prop):L→Nat→(Nat→V)→List (List V→Prop)→Prop
 | .bind e g k,n,ρ,ks=>opt (aXg p ρ e g) fun y=>k.wp p Q (n+1) (ext ρ n y) ks
 | .ite c t e,n,ρ,ks=>aM (c.den ρ) (t.wp p Q n ρ ks) (e.wp p Q n ρ ks)
 | .ret a,_,ρ,_=>Q (a.den ρ)
 | .aUz l,_,ρ,_=>Q (.tup (l.map (A.den ρ)))
 | .join m body k,n,ρ,ks=>iU (fun vs=>vs.length=m∧k.wp p Q (n+m) (exts ρ n vs) ks) fun r=>body.wp p Q n ρ (r::ks)
 | .loop init body,n,ρ,ks=>jX (fun r vs=>vs.length=init.length∧body.wp p Q (n+init.length) (exts ρ n vs) (r::ks)) (init.map (A.den ρ))
 | .jmp d l,_,ρ,ks =>
  match ks[d]? with
  | some k=>k (l.map (A.den ρ))
  | none=>False
theorem gP {F:(List V→Prop)→List V→Prop} {vs:List V} (I:List V→Prop) (μ:List V→Nat) (h0:I vs)
  (round:∀ (r:List V→Prop) (vs:List V),I vs→(∀ vs',I vs'→μ vs' < μ vs→r vs')→F r vs):jX F vs:=by
 have key:∀ n vs,μ vs < n→I vs→aBn F n vs:=by
  intro n
  induction n with
  | zero=>intro vs h; omega
  | succ n ih=>exact fun vs h hI=>round _ vs hI fun vs' hI' hμ=>ih vs' (by omega) hI'
 exact ⟨_,key _ vs (Nat.lt_succ_self _) h0⟩
end Go.Fbs

/- Calls that are led to boxes: what goes in,what comes out. -/
namespace Go.Fbs
mutual
def V.bR:V→Bool
 | .ptr _ _=>false
 | .map (some _)=>false
 | .xO ..=>false
 | .sl .ro es=>aJ es
 | .sl _ _=>false
 | .agg cs=>aJ cs
 | .ro cs=>aJ cs
 | .func _ cs=>aJ cs
 | .tup vs=>aJ vs
 | _=>true
def aJ:List V→Bool
 | []=>true
 | v::vs=>v.bR && aJ vs
end
theorem jF:∀ {vs:List V},aJ vs=true↔∀ v ∈ vs,v.bR=true
 | []=>by simp [aJ]
 | v::vs=>by simp [aJ,jF (vs:=vs)]
mutual
theorem iN:∀ {v:V},v.bR=true→v.plain=true∧v.aI=v
 | .bool _,_=>⟨rfl,rfl⟩
 | .int _ _,_=>⟨rfl,rfl⟩
 | .str _,_=>⟨rfl,rfl⟩
 | .ptr _ _,h=>by simp [V.bR] at h
 | .ro cs,h=>by
  simp only [V.bR] at h
  have:=jM h
  exact ⟨this.1,by simp only [V.aI,this.2]⟩
 | .nilp,_=>⟨rfl,rfl⟩
 | .sl .ro es,h=>by
  simp only [V.bR] at h
  have:=jM h
  exact ⟨this.1,by simp only [V.aI,this.2]⟩
 | .sl .full es,h=>by simp [V.bR] at h
 | .sl (.own i) es,h=>by simp [V.bR] at h
 | .map none,_=>⟨rfl,rfl⟩
 | .map (some _),h=>by simp [V.bR] at h
 | .xO ..,h=>by simp [V.bR] at h
 | .func _ cs,h=>by
  simp only [V.bR] at h
  have:=jM h
  exact ⟨this.1,by simp only [V.aI,this.2]⟩
 | .agg cs,h=>by
  simp only [V.bR] at h
  have:=jM h
  exact ⟨this.1,by simp only [V.aI,this.2]⟩
 | .tup cs,h=>by
  simp only [V.bR] at h
  have:=jM h
  exact ⟨this.1,by simp only [V.aI,this.2]⟩
 | .undef,_=>⟨rfl,rfl⟩
 | .any,_=>⟨rfl,rfl⟩
theorem jM:∀ {vs:List V},aJ vs=true→bT vs=true∧xW vs=vs
 | [],_=>⟨rfl,rfl⟩
 | v::vs,h=>by
  simp only [aJ,Bool.and_eq_true] at h
  have h1:=iN h.1
  have h2:=jM h.2
  exact ⟨by simp only [bT,h1.1,h2.1]; rfl,by simp only [xW,h1.2,h2.2]⟩
end
def pack:List V→V
 | [a]=>a
 | l=>.tup l
inductive CK where
 | pl
 | self (t:Nat)
 | gr (sz:Nat) (done:Bool)
 deriving Inhabited
inductive AK where
 | v
 | b (off:Nat) (ks:List CK)
 deriving Inhabited
inductive GK where
 | one
 | lR (f:FuncId) (n:Nat)
 deriving Inhabited
structure gY where
 bF:Nat
 as:List AK
 gr:List GK
 deriving Inhabited
def nU:List GK→List V→Option (List V)
 | [],vs=>some vs
 | .one::gs,v::vs=>(nU gs vs).map (v :: ·)
 | .lR f n::gs,.func f' cs::vs=>if f'=f∧cs.length=n then (nU gs vs).map (cs ++ ·) else none
 | _,_=>none
def unA:List GK→List V→List V
 | [],vs=>vs
 | .one::gs,vs=>vs.take 1++unA gs (vs.drop 1)
 | .lR f n::gs,vs=>.func f (vs.take n)::unA gs (vs.drop n)
abbrev b3j:=List (FuncId×(FuncId×gY))
def gT:List AK→List (List CK)
 | []=>[]
 | .v::r=>gT r
 | .b _ ks::r=>ks::gT r
def CK.out:CK→CK
 | .gr _ true=>.pl
 | k=>k
def eN (as:List AK):List (List CK):=(gT as).map (·.map CK.out)
theorem aRy (as:List AK):(eN as).length=(gT as).length:=List.length_map ..
def tyK:List CK→Option Nat
 | []=>none
 | .self t::_=>some t
 | _::r=>tyK r
def a0u (ks:List CK) (e:Option Nat):Bool :=
 match tyK ks with
 | none=>true
 | some t=>e == some t
theorem aKa {ks:List CK} {e:Option Nat} (h:a0u ks e=true) {t:Nat} (ht:tyK ks=some t):e=some t:=by
 unfold a0u at h
 rw [ht] at h
 simpa using h
def fV (l:Nat) (T:List (Nat×Nat)):List CK→List V→Option (List V×List GA)
 | [],[]=>some ([],[])
 | .pl::ks,c::cs=>(fV l T ks cs).map fun q=>(c.aI::q.1,q.2)
 | .self _::ks,.nilp::cs=>(fV l T ks cs).map fun q=>(.bool false::q.1,q.2)
 | .self _::ks,.ptr b o::cs=>if b=l∧o=0 then (fV l T ks cs).map fun q=>(.bool true::q.1,q.2) else none
 | .gr sz _::ks,.sl .full es::cs=>if 0 < sz∧(sz=1→es.length=0) then (fV l T ks cs).map fun q=>(.sl .ro (es.map V.aI)::q.1,.full es.length sz::q.2) else none
 | .gr sz _ :: ks,.sl (.own i) es :: cs=>if 0 < sz ∧ T[i]? = some (es.length,sz) then (fV l T ks cs).map fun q=>(.sl .ro (es.map V.aI) :: q.1,.own i :: q.2) else none
 | _,_=>none
def aDh (e:Option Nat) (l:Nat) (T:List (Nat×Nat)) (ks:List CK) (cs:List V):Option (List V×List GA):=if a0u ks e=true then fV l T ks cs else none
theorem uA {e:Option Nat} {l:Nat} {T:List (Nat×Nat)} {ks:List CK} {cs:List V} {q:List V×List GA} (h:aDh e l T ks cs=some q):fV l T ks cs=some q∧a0u ks e=true:=by
 unfold aDh at h
 split at h
 ·rename_i h1
  exact ⟨h,h1⟩
 ·simp at h
theorem aGe {e:Option Nat} {l:Nat} {T:List (Nat×Nat)} {ks:List CK} {cs:List V} {q:List V×List GA} (h:fV l T ks cs=some q) (h1:a0u ks e=true):aDh e l T ks cs=some q:=by
 unfold aDh
 rw [if_pos h1]; exact h
def iS (m:Hp):List AK→List V→Option (List V×List Nat×List GA)
 | [],[]=>some ([],[],[])
 | .v::ks,a::as=>(iS m ks as).map fun q=>(a.aI::q.1,q.2)
 | .b off cks::ks,.ptr l o::as =>
  if o=off then
   match m.H[l]? with
   | some (.cells e cs) =>
    match aDh e l m.T cks cs,iS m ks as with
    | some (w,gs),some q=>some (.agg w::q.1,l::q.2.1,gs++q.2.2)
    | _,_=>none
   | _=>none
  else none
 | _,_=>none
def aI3 (b:Nat):V→V
 | .bool true=>.ptr b 0
 | _=>.nilp
def gQ (b q:Nat):List CK→List V→List V×List (Nat×Nat)
 | .gr sz _::ks,.sl _ es::ws=>(.sl (.own q) es::(gQ b (q+1) ks ws).1,(es.length,sz)::(gQ b (q+1) ks ws).2)
 | .self _::ks,w::ws=>(aI3 b w::(gQ b q ks ws).1,(gQ b q ks ws).2)
 | _::ks,w::ws=>(w::(gQ b q ks ws).1,(gQ b q ks ws).2)
 | _,_=>([],[])
def iD (b q:Nat):List AK→List V→List V×List LO×List (Nat×Nat)
 | .v::ks,w::ws=>(w::(iD b q ks ws).1,(iD b q ks ws).2)
 | .b off cks::ks,.agg cs::ws =>
  (.ptr b off::(iD (b+1) (q+(gQ b q cks cs).2.length) ks ws).1,.cells (tyK cks) (gQ b q cks cs).1::(iD (b+1) (q+(gQ b q cks cs).2.length) ks ws).2.1,(gQ b q cks cs).2++(iD (b+1) (q+(gQ b q cks cs).2.length) ks ws).2.2)
 | _,_=>([],[],[])
def vV (m:Hp):Nat→List (List CK)→Option (List V×List GA)
 | _,[]=>some ([],[])
 | b,cks::kss =>
  match m.H[b]? with
  | some (.cells e cs) =>
   match aDh e b m.T cks cs,vV m (b+1) kss with
   | some (w,gs),some q=>some (.agg w::q.1,gs++q.2)
   | _,_=>none
  | _=>none
def mJ:Nat→List (List CK)→List Nat→List V→List LO→List LO×List (Nat×Nat)
 | q,cks::kss,l::ls,.agg ws::outs,H =>
  ((mJ (q+(gQ l q cks ws).2.length) kss ls outs (H.set l (.cells (tyK cks) (gQ l q cks ws).1))).1,(gQ l q cks ws).2++(mJ (q+(gQ l q cks ws).2.length) kss ls outs (H.set l (.cells (tyK cks) (gQ l q cks ws).1))).2)
 | _,_,_,_,H=>(H,[])
def jN:List CK→List V→Bool
 | [],[]=>true
 | .pl::ks,_::ws=>jN ks ws
 | .self _::ks,.bool _::ws=>jN ks ws
 | .gr _ _::ks,.sl .ro _::ws=>jN ks ws
 | _,_=>false
def fE:List (List CK)→List V→Bool
 | [],[]=>true
 | ks::kss,.agg ws::outs=>ws.all sc && jN ks ws && fE kss outs
 | _,_=>false
structure b2h (sg:gY) (v:V):Prop where
 tup:∃ rs,v = .tup rs∧sg.bF≤rs.length∧fE (eN sg.as) (rs.drop sg.bF)=true
def xX {α : Type} (f : Nat → α) (l : List α) : Prop:=∀ (i j n : Nat),l[i]? = some (f n) → l[j]? = some (f n) → i = j
def a5h (l:List Nat):Prop:=xX (fun n=>n) l
def a9x (l:List GA):Prop:=xX GA.own l
open Classical in
noncomputable def aGf (sg:gY) (F:List V→Option V) (args:List V) (m:Hp):Option (V×Hp) :=
 match (nU sg.gr args).bind (iS m sg.as) with
 | some (words,ls,gs) =>
  if a5h ls∧a9x gs then
   match F words with
   | some (.tup rs)=>some (pack (rs.take sg.bF),⟨(mJ m.T.length (eN sg.as) ls (rs.drop sg.bF) m.H).1,xV gs m.T++(mJ m.T.length (eN sg.as) ls (rs.drop sg.bF) m.H).2⟩)
   | _=>none
  else none
 | none=>none
def aI4 (m1:Hp) (kss:List (List CK)) (outs:List V):Prop:=∃ gs,vV m1 0 kss=some (outs,gs)∧a9x gs
def Callee (P:Program) (f:FuncId) (sg:gY) (words rs:List V):Prop :=
 ∀ (κ:Ctx) (w:World) (xs:List Value),Mem κ w.heap ⟨(iD 0 0 sg.as words).2.1,(iD 0 0 sg.as words).2.2⟩→Reps κ w.heap (unA sg.gr (iD 0 0 sg.as words).1) xs →
  Calls P f ⟨xs⟩ w (fun e w'=>∃ x κ' m1,e = .returned x∧Ext κ w ⟨(iD 0 0 sg.as words).2.1,(iD 0 0 sg.as words).2.2⟩ κ' w' m1∧Rep κ' w'.heap (pack (rs.take sg.bF)) x∧aI4 m1 (eN sg.as) (rs.drop sg.bF))
section
variable {κ κ':Ctx} {h:Heap}
theorem aEn (hw:∀ b,κ.hw b≤κ'.hw b) {v:V} {x:Value} (r:Rep κ h v x) (hp:v.aI.bR=true):Rep κ' h v.aI x :=
 a03 hw (a2x r) (iN hp).1
theorem aHk (hw : ∀ b,κ.hw b ≤ κ'.hw b) {g : Tag} {es : List V} {x : Value} (r : Rep κ h (.sl g es) x) (hes : aJ (es.map V.aI) = true) {j : Nat} {L' : cY} (hj : κ'.aN[j]? = some L')
  (hg : (∃ i,g = .own i ∧ κ.aN[i]? = some L') ∨ (g = .full ∧ L'.kind = .full ∧ L'.n = es.length)) : Rep κ' h (.sl (.own j) (es.map V.aI)) x:=by
 cases r with
 | slnil _ h0 =>
  refine .slnil _ fun q hq=>?_
  simp only [Tag.own.injEq] at hq
  subst hq
  refine ⟨L',hj,fun hk=>?_⟩
  rcases hg with ⟨i,rfl,hi⟩ | ⟨_,hk',_⟩
  ·obtain ⟨L,h1,h2⟩:=h0 i rfl
   rw [hi] at h1
   simp only [Option.some.injEq] at h1
   subst h1
   exact h2 hk
  ·rw [hk'] at hk; simp at hk
 | sl _ _ b off cap sz xs hx hu hl hr hc ht =>
  have e:(es.map V.aI).length=es.length:=List.length_map ..
  rw [← e]
  refine .sl _ _ b off cap sz xs (fun i y hy=>let ⟨h1,h2⟩:=hx i y hy; ⟨Nat.lt_of_lt_of_le h1 (hw _),h2⟩) (fun v hv=>?_) (by rw [a3g,List.length_map]; exact hl) (fun i c x h1 h2=>?_) (by rw [e]; exact hc) ?_
  ·obtain ⟨v0,h1,rfl⟩:=List.mem_map.1 hv
   rw [nY]; exact hu v0 h1
  ·rw [a3g,List.getElem?_map,Option.map_eq_some_iff] at h1
   obtain ⟨c0,h3,rfl⟩:=h1
   have hp:c0.aI.plain=true:=by
    refine xQ (jM hes).1 _ ?_
    rw [a3g]
    exact List.mem_map.2 ⟨c0,List.mem_of_getElem? h3,rfl⟩
   exact a03 hw (a2x (hr i c0 x h3 h2)) hp
  ·rw [e]
   refine ⟨L',hj,?_⟩
   rcases hg with ⟨i,rfl,hi⟩ | ⟨rfl,hk,hn⟩
   ·obtain ⟨L,h1,h2⟩:=ht
    rw [hi] at h1
    simp only [Option.some.injEq] at h1
    subst h1
    exact h2
   ·refine ⟨fun hr=>by rw [hk] at hr; simp at hr,fun _=>⟨by omega,fun _=>ht⟩⟩
end
section
variable {κ κp κ1 κ':Ctx} {h h1:Heap} {m m1:Hp}
theorem wX {T:List (Nat×Nat)} {l b:Nat} (hT:κ.aN.map cY.told=T) (hw:∀ b,κ.hw b≤κp.hw b) (hb:∀ blk,κ.box l=some blk→κp.box b=some blk):∀ {cks:List CK} {cs w:List V} {gs:List GA} {q:Nat} {xs:List Value},fV l T cks cs=some (w,gs)→aJ w=true →
  (∀ (i : Nat) g,gs[i]? = some g → κp.aN[q + i]? = some (GA.aN κ g)) → Reps κ h cs xs → Reps κp h (gQ b q cks w).1 xs ∧ (gQ b q cks w).2 = gs.map fun g=>(GA.aN κ g).told
 | [],[],w,gs,q,xs,e,hc,hg,r=>by
  simp only [fV,Option.some.injEq,Prod.mk.injEq] at e
  obtain ⟨rfl,rfl⟩:=e
  obtain rfl:=r.inv_nil
  exact ⟨Reps.nil,rfl⟩
 | .pl::ks,c::cs,w,gs,q,xs,e,hc,hg,r=>by
  simp only [fV,Option.map_eq_some_iff] at e
  obtain ⟨⟨w',gs'⟩,e,h1⟩:=e
  simp only [Prod.mk.injEq] at h1
  obtain ⟨rfl,rfl⟩:=h1
  simp only [aJ,Bool.and_eq_true] at hc
  obtain ⟨x,xs',rfl,rx,r'⟩:=r.inv_cons
  obtain ⟨h2,h3⟩:=wX hT hw hb e hc.2 hg r'
  exact ⟨Reps.cons (aEn hw rx hc.1) h2,h3⟩
 | .self _::ks,.nilp::cs,w,gs,q,xs,e,hc,hg,r=>by
  simp only [fV,Option.map_eq_some_iff] at e
  obtain ⟨⟨w',gs'⟩,e,h1⟩:=e
  simp only [Prod.mk.injEq] at h1
  obtain ⟨rfl,rfl⟩:=h1
  simp only [aJ,Bool.and_eq_true] at hc
  obtain ⟨x,xs',rfl,rx,r'⟩:=r.inv_cons
  obtain ⟨h2,h3⟩:=wX hT hw hb e hc.2 hg r'
  refine ⟨Reps.cons (c:=aI3 b (.bool false)) ?_ h2,h3⟩
  rw [rep_nilp rx]; exact .nilp
 | .self _::ks,.ptr l' o::cs,w,gs,q,xs,e,hc,hg,r=>by
  simp only [fV] at e
  split at e
  ·rename_i hlo
   obtain ⟨rfl,rfl⟩:=hlo
   simp only [Option.map_eq_some_iff] at e
   obtain ⟨⟨w',gs'⟩,e,h1⟩:=e
   simp only [Prod.mk.injEq] at h1
   obtain ⟨rfl,rfl⟩:=h1
   simp only [aJ,Bool.and_eq_true] at hc
   obtain ⟨x,xs',rfl,rx,r'⟩:=r.inv_cons
   obtain ⟨h2,h3⟩:=wX hT hw hb e hc.2 hg r'
   refine ⟨Reps.cons (c:=aI3 b (.bool true)) ?_ h2,h3⟩
   obtain ⟨blk,hblk,hx⟩:=rep_ptr rx
   rw [hx]; exact .ptr b 0 blk (hb blk hblk)
  ·simp at e
 | .gr sz _::ks,.sl .full es::cs,w,gs,q,xs,e,hc,hg,r=>by
  simp only [fV] at e
  split at e
  ·rename_i hs
   simp only [Option.map_eq_some_iff] at e
   obtain ⟨⟨w',gs'⟩,e,h1⟩:=e
   simp only [Prod.mk.injEq] at h1
   obtain ⟨rfl,rfl⟩:=h1
   simp only [aJ,Bool.and_eq_true,V.bR] at hc
   obtain ⟨x,xs',rfl,rx,r'⟩:=r.inv_cons
   obtain ⟨h2,h3⟩:=wX (q:=q+1) hT hw hb e hc.2 (fun i g hi=>by rw [show q+1+i=q+(i+1) by omega]; exact hg (i+1) g (by simpa using hi)) r'
   have h0:=hg 0 _ rfl
   rw [Nat.add_zero] at h0
   refine ⟨Reps.cons (aHk hw rx hc.1 h0 (.inr ⟨rfl,rfl,rfl⟩)) h2,?_⟩
   simp only [gQ,h3,List.map_cons,List.length_map,aHi hs.1]
  ·simp at e
 | .gr sz _::ks,.sl (.own i0) es::cs,w,gs,q,xs,e,hc,hg,r=>by
  simp only [fV] at e
  split at e
  ·rename_i hsz
   simp only [Option.map_eq_some_iff] at e
   obtain ⟨⟨w',gs'⟩,e,h1⟩:=e
   simp only [Prod.mk.injEq] at h1
   obtain ⟨rfl,rfl⟩:=h1
   simp only [aJ,Bool.and_eq_true,V.bR] at hc
   obtain ⟨x,xs',rfl,rx,r'⟩:=r.inv_cons
   obtain ⟨h2,h3⟩:=wX (q:=q+1) hT hw hb e hc.2 (fun i g hi=>by rw [show q+1+i=q+(i+1) by omega]; exact hg (i+1) g (by simpa using hi)) r'
   have h0:=hg 0 _ rfl
   rw [Nat.add_zero] at h0
   have hti:=hsz.2
   rw [← hT,List.getElem?_map,Option.map_eq_some_iff] at hti
   obtain ⟨L,hL,hLt⟩:=hti
   have hga:GA.aN κ (.own i0)=L:=by simp [GA.aN,hL]
   rw [hga] at h0
   refine ⟨Reps.cons (aHk hw rx hc.1 h0 (.inl ⟨i0,rfl,hL⟩)) h2,?_⟩
   simp only [gQ,h3,List.map_cons,List.length_map,hga,hLt]
  ·simp at e
 | [],_::_,_,_,_,_,e,_,_,_=>by simp [fV] at e
 | .pl::_,[],_,_,_,_,e,_,_,_=>by simp [fV] at e
 | .self _::_,[],_,_,_,_,e,_,_,_=>by simp [fV] at e
 | .self _::_,.bool _::_,_,_,_,_,e,_,_,_=>by simp [fV] at e
 | .self _::_,.int _ _::_,_,_,_,_,e,_,_,_=>by simp [fV] at e
 | .self _::_,.str _::_,_,_,_,_,e,_,_,_=>by simp [fV] at e
 | .self _::_,.ro _::_,_,_,_,_,e,_,_,_=>by simp [fV] at e
 | .self _::_,.sl _ _::_,_,_,_,_,e,_,_,_=>by simp [fV] at e
 | .self _::_,.map _::_,_,_,_,_,e,_,_,_=>by simp [fV] at e
 | .self _::_,.xO .. :: _,_,_,_,_,e,_,_,_=>by simp [fV] at e
 | .self _::_,.func _ _::_,_,_,_,_,e,_,_,_=>by simp [fV] at e
 | .self _::_,.agg _::_,_,_,_,_,e,_,_,_=>by simp [fV] at e
 | .self _::_,.tup _::_,_,_,_,_,e,_,_,_=>by simp [fV] at e
 | .self _::_,.undef::_,_,_,_,_,e,_,_,_=>by simp [fV] at e
 | .self _::_,.any::_,_,_,_,_,e,_,_,_=>by simp [fV] at e
 | .gr _ _::_,[],_,_,_,_,e,_,_,_=>by simp [fV] at e
 | .gr _ _::_,.sl .ro _::_,_,_,_,_,e,_,_,_=>by simp [fV] at e
 | .gr _ _::_,.bool _::_,_,_,_,_,e,_,_,_=>by simp [fV] at e
 | .gr _ _::_,.int _ _::_,_,_,_,_,e,_,_,_=>by simp [fV] at e
 | .gr _ _::_,.str _::_,_,_,_,_,e,_,_,_=>by simp [fV] at e
 | .gr _ _::_,.ptr _ _::_,_,_,_,_,e,_,_,_=>by simp [fV] at e
 | .gr _ _::_,.ro _::_,_,_,_,_,e,_,_,_=>by simp [fV] at e
 | .gr _ _::_,.nilp::_,_,_,_,_,e,_,_,_=>by simp [fV] at e
 | .gr _ _::_,.map _::_,_,_,_,_,e,_,_,_=>by simp [fV] at e
 | .gr _ _::_,.xO .. :: _,_,_,_,_,e,_,_,_=>by simp [fV] at e
 | .gr _ _::_,.func _ _::_,_,_,_,_,e,_,_,_=>by simp [fV] at e
 | .gr _ _::_,.agg _::_,_,_,_,_,e,_,_,_=>by simp [fV] at e
 | .gr _ _::_,.tup _::_,_,_,_,_,e,_,_,_=>by simp [fV] at e
 | .gr _ _::_,.undef::_,_,_,_,_,e,_,_,_=>by simp [fV] at e
 | .gr _ _::_,.any::_,_,_,_,_,e,_,_,_=>by simp [fV] at e
theorem aU2 {T:List (Nat×Nat)} {l b:Nat} (hT:κ.aN.map cY.told=T):∀ {cks:List CK} {cs w:List V} {gs:List GA} {q:Nat},fV l T cks cs=some (w,gs)→(gQ b q cks w).2=gs.map fun g=>(GA.aN κ g).told:=by
 intro cks cs
 fun_induction fV l T cks cs with
 | case1=>intro w gs q e; simp only [Option.some.injEq,Prod.mk.injEq] at e; obtain ⟨rfl,rfl⟩:=e; rfl
 | case2 ks c cs ih =>
  intro w gs q e
  simp only [Option.map_eq_some_iff] at e
  obtain ⟨⟨w',gs'⟩,e,h1⟩:=e
  simp only [Prod.mk.injEq] at h1
  obtain ⟨rfl,rfl⟩:=h1
  exact ih e
 | case3 _ ks cs ih =>
  intro w gs q e
  simp only [Option.map_eq_some_iff] at e
  obtain ⟨⟨w',gs'⟩,e,h1⟩:=e
  simp only [Prod.mk.injEq] at h1
  obtain ⟨rfl,rfl⟩:=h1
  exact ih e
 | case4 _ ks b' o cs hlo ih =>
  intro w gs q e
  simp only [Option.map_eq_some_iff] at e
  obtain ⟨⟨w',gs'⟩,e,h1⟩:=e
  simp only [Prod.mk.injEq] at h1
  obtain ⟨rfl,rfl⟩:=h1
  exact ih e
 | case5=>intro w gs q e; simp at e
 | case6 sz _ ks es cs hs ih =>
  intro w gs q e
  simp only [Option.map_eq_some_iff] at e
  obtain ⟨⟨w',gs'⟩,e,h1⟩:=e
  simp only [Prod.mk.injEq] at h1
  obtain ⟨rfl,rfl⟩:=h1
  simp only [gQ,ih e,List.map_cons,List.length_map,aHi hs.1]
 | case7=>intro w gs q e; simp at e
 | case8 sz _ ks i0 es cs hs ih =>
  intro w gs q e
  simp only [Option.map_eq_some_iff] at e
  obtain ⟨⟨w',gs'⟩,e,h1⟩:=e
  simp only [Prod.mk.injEq] at h1
  obtain ⟨rfl,rfl⟩:=h1
  have hti:=hs.2
  rw [← hT,List.getElem?_map,Option.map_eq_some_iff] at hti
  obtain ⟨L,hL,hLt⟩:=hti
  have hga:GA.aN κ (.own i0)=L:=by simp [GA.aN,hL]
  simp only [gQ,ih e,List.map_cons,List.length_map,hga,hLt]
 | case9=>intro w gs q e; simp at e
 | case10=>intro w gs q e; simp at e
theorem aKb {l : Nat} {T : List (Nat × Nat)} : ∀ {cks : List CK} {cs w : List V} {gs : List GA},fV l T cks cs = some (w,gs) → ∀ (q i : Nat),gs[q]? = some (.own i) → ∃ n sz,T[i]? = some (n,sz) ∧ 0 < sz:=by
 intro cks cs
 fun_induction fV l T cks cs with
 | case1=>intro w gs e q i hi; simp only [Option.some.injEq,Prod.mk.injEq] at e; obtain ⟨_,rfl⟩:=e; simp at hi
 | case2 ks c cs ih =>
  intro w gs e q i hi
  simp only [Option.map_eq_some_iff] at e
  obtain ⟨⟨w',gs'⟩,e,h1⟩:=e
  simp only [Prod.mk.injEq] at h1
  obtain ⟨_,rfl⟩:=h1
  exact ih e q i hi
 | case3 _ ks cs ih =>
  intro w gs e q i hi
  simp only [Option.map_eq_some_iff] at e
  obtain ⟨⟨w',gs'⟩,e,h1⟩:=e
  simp only [Prod.mk.injEq] at h1
  obtain ⟨_,rfl⟩:=h1
  exact ih e q i hi
 | case4 _ ks b' o cs hlo ih =>
  intro w gs e q i hi
  simp only [Option.map_eq_some_iff] at e
  obtain ⟨⟨w',gs'⟩,e,h1⟩:=e
  simp only [Prod.mk.injEq] at h1
  obtain ⟨_,rfl⟩:=h1
  exact ih e q i hi
 | case5=>intro w gs e; simp at e
 | case6 sz _ ks es cs hs ih =>
  intro w gs e q i hi
  simp only [Option.map_eq_some_iff] at e
  obtain ⟨⟨w',gs'⟩,e,h1⟩:=e
  simp only [Prod.mk.injEq] at h1
  obtain ⟨_,rfl⟩:=h1
  cases q with
  | zero=>simp at hi
  | succ q=>exact ih e q i (by simpa using hi)
 | case7=>intro w gs e; simp at e
 | case8 sz _ ks i0 es cs hs ih =>
  intro w gs e q i hi
  simp only [Option.map_eq_some_iff] at e
  obtain ⟨⟨w',gs'⟩,e,h1⟩:=e
  simp only [Prod.mk.injEq] at h1
  obtain ⟨_,rfl⟩:=h1
  cases q with
  | zero=>simp only [List.getElem?_cons_zero,Option.some.injEq,GA.own.injEq] at hi; subst hi; exact ⟨_,_,hs.2,hs.1⟩
  | succ q=>exact ih e q i (by simpa using hi)
 | case9=>intro w gs e; simp at e
 | case10=>intro w gs e; simp at e
theorem aKc {l : Nat} {T : List (Nat × Nat)} : ∀ {cks : List CK} {cs w : List V} {gs : List GA},fV l T cks cs = some (w,gs) → ∀ (q n : Nat),gs[q]? = some (.full n 1) → n = 0:=by
 intro cks cs
 fun_induction fV l T cks cs with
 | case1 =>
  intro w gs e q n hi
  simp only [Option.some.injEq,Prod.mk.injEq] at e
  obtain ⟨_,rfl⟩:=e
  simp at hi
 | case6 sz _ ks es cs hs ih =>
  intro w gs e q n hi
  simp only [Option.map_eq_some_iff] at e
  obtain ⟨⟨w',gs'⟩,e,h1⟩:=e
  simp only [Prod.mk.injEq] at h1
  obtain ⟨_,rfl⟩:=h1
  cases q with
  | zero =>
   simp only [List.getElem?_cons_zero,Option.some.injEq,GA.full.injEq] at hi
   rw [← hi.1]; exact hs.2 hi.2
  | succ q=>exact ih e q n (by simpa using hi)
 | case8 sz _ ks i0 es cs hs ih =>
  intro w gs e q n hi
  simp only [Option.map_eq_some_iff] at e
  obtain ⟨⟨w',gs'⟩,e,h1⟩:=e
  simp only [Prod.mk.injEq] at h1
  obtain ⟨_,rfl⟩:=h1
  cases q with
  | zero=>simp at hi
  | succ q=>exact ih e q n (by simpa using hi)
 | case5=>intro w gs e; simp at e
 | case7=>intro w gs e; simp at e
 | case9=>intro w gs e; simp at e
 | case10=>intro w gs e; simp at e
 | case2 ks c cs ih =>
  intro w gs e q n hi
  simp only [Option.map_eq_some_iff] at e
  obtain ⟨⟨w',gs'⟩,e,h1⟩:=e
  simp only [Prod.mk.injEq] at h1
  obtain ⟨_,rfl⟩:=h1
  exact ih e q n hi
 | case3 _ ks cs ih =>
  intro w gs e q n hi
  simp only [Option.map_eq_some_iff] at e
  obtain ⟨⟨w',gs'⟩,e,h1⟩:=e
  simp only [Prod.mk.injEq] at h1
  obtain ⟨_,rfl⟩:=h1
  exact ih e q n hi
 | case4 _ ks b' o cs hlo ih =>
  intro w gs e q n hi
  simp only [Option.map_eq_some_iff] at e
  obtain ⟨⟨w',gs'⟩,e,h1⟩:=e
  simp only [Prod.mk.injEq] at h1
  obtain ⟨_,rfl⟩:=h1
  exact ih e q n hi
theorem aDi {m : Hp} : ∀ {ks : List AK} {args words : List V} {ls : List Nat} {gs : List GA},iS m ks args = some (words,ls,gs) → ∀ (q n : Nat),gs[q]? = some (.full n 1) → n = 0
 | [],[],words,ls,gs,e=>by
  simp only [iS,Option.some.injEq,Prod.mk.injEq] at e
  obtain ⟨_,rfl,rfl⟩:=e
  intro q n hi; simp at hi
 | .v::ks,a::as,words,ls,gs,e=>by
  simp only [iS,Option.map_eq_some_iff] at e
  obtain ⟨⟨w',ls',gs'⟩,e,h1⟩:=e
  simp only [Prod.mk.injEq] at h1
  obtain ⟨_,rfl,rfl⟩:=h1
  exact aDi (ks:=ks) e
 | .b off cks::ks,a::as,words,ls,gs,e=>by
  cases a
  case ptr l o =>
    simp only [iS] at e
    split at e
    ·split at e
     ·split at e
      ·rename_i w mF q h1 h2
       simp only [Option.some.injEq,Prod.mk.injEq] at e
       obtain ⟨_,rfl,rfl⟩:=e
       intro p n hi
       rw [List.getElem?_append] at hi
       split at hi
       ·exact aKc (uA h1).1 _ _ hi
       ·exact aDi (words:=q.1) (ls:=q.2.1) (gs:=q.2.2) h2 _ _ hi
      ·simp at e
     ·simp at e
    ·simp at e
  all_goals simp [iS] at e
 | [],_::_,_,_,_,e=>by simp [iS] at e
 | .v::_,[],_,_,_,e=>by simp [iS] at e
 | .b _ _::_,[],_,_,_,e=>by simp [iS] at e
theorem aHl {m1 : Hp} : ∀ {kss : List (List CK)} {b : Nat} {outs : List V} {gs : List GA},vV m1 b kss = some (outs,gs) → ∀ (q n : Nat),gs[q]? = some (.full n 1) → n = 0
 | [],b,outs,gs,e=>by
  simp only [vV,Option.some.injEq,Prod.mk.injEq] at e
  obtain ⟨rfl,rfl⟩:=e
  intro q n hi; simp at hi
 | cks::kss,b,outs,gs,e=>by
  simp only [vV] at e
  split at e
  ·split at e
   ·rename_i w mF q h1 h2
    simp only [Option.some.injEq,Prod.mk.injEq] at e
    obtain ⟨rfl,rfl⟩:=e
    intro p n hi
    rw [List.getElem?_append] at hi
    split at hi
    ·exact aKc (uA h1).1 _ _ hi
    ·exact aHl (outs:=q.1) (gs:=q.2) h2 _ _ hi
   ·simp at e
  ·simp at e
theorem a7o {m : Hp} : ∀ {ks : List AK} {args words : List V} {ls : List Nat} {gs : List GA},iS m ks args = some (words,ls,gs) → (∀ (q i : Nat),gs[q]? = some (.own i) → ∃ n sz,m.T[i]? = some (n,sz) ∧ 0 < sz) ∧ ls.length = (gT ks).length
 | [],[],words,ls,gs,e=>by
  simp only [iS,Option.some.injEq,Prod.mk.injEq] at e
  obtain ⟨_,rfl,rfl⟩:=e
  exact ⟨fun q i hi=>by simp at hi,rfl⟩
 | .v::ks,a::as,words,ls,gs,e=>by
  simp only [iS,Option.map_eq_some_iff] at e
  obtain ⟨⟨w',ls',gs'⟩,e,h1⟩:=e
  simp only [Prod.mk.injEq] at h1
  obtain ⟨_,rfl,rfl⟩:=h1
  exact a7o (ks:=ks) e
 | .b off cks::ks,a::as,words,ls,gs,e=>by
  cases a
  case ptr l o =>
    simp only [iS] at e
    split at e
    ·split at e
     ·split at e
      ·rename_i w mF q h1 h2
       simp only [Option.some.injEq,Prod.mk.injEq] at e
       obtain ⟨_,rfl,rfl⟩:=e
       obtain ⟨i1,i2⟩:=a7o (words:=q.1) (ls:=q.2.1) (gs:=q.2.2) h2
       refine ⟨fun p i hi=>?_,by simp [gT,i2]⟩
       rw [List.getElem?_append] at hi
       split at hi
       ·exact aKb (uA h1).1 _ _ hi
       ·exact i1 _ _ hi
      ·simp at e
     ·simp at e
    ·simp at e
  all_goals simp [iS] at e
 | [],_::_,_,_,_,e=>by simp [iS] at e
 | .v::_,[],_,_,_,e=>by simp [iS] at e
 | .b _ _::_,[],_,_,_,e=>by simp [iS] at e
theorem aGg {m : Hp} {κ : Ctx} {h : Heap} : ∀ {ks : List AK} {args words : List V} {ls : List Nat} {gs : List GA} {xs : List Value},iS m ks args = some (words,ls,gs) → Reps κ h args xs → ∀ (j l : Nat),ls[j]? = some l → ∃ blk,κ.box l = some blk
 | [],[],words,ls,gs,xs,e,r=>by
  simp only [iS,Option.some.injEq,Prod.mk.injEq] at e
  obtain ⟨_,rfl,rfl⟩:=e
  intro j l hj; simp at hj
 | .v::ks,a::as,words,ls,gs,xs,e,r=>by
  simp only [iS,Option.map_eq_some_iff] at e
  obtain ⟨⟨w',ls',gs'⟩,e,h1⟩:=e
  simp only [Prod.mk.injEq] at h1
  obtain ⟨_,rfl,rfl⟩:=h1
  obtain ⟨x,xs',rfl,rx,r'⟩:=r.inv_cons
  exact aGg (ks:=ks) e r'
 | .b off cks::ks,a::as,words,ls,gs,xs,e,r=>by
  cases a
  case ptr l o =>
    simp only [iS] at e
    split at e
    ·split at e
     ·split at e
      ·rename_i w mF q h1 h2
       simp only [Option.some.injEq,Prod.mk.injEq] at e
       obtain ⟨_,rfl,rfl⟩:=e
       obtain ⟨x,xs',rfl,rx,r'⟩:=r.inv_cons
       intro j l' hj
       cases j with
       | zero =>
        simp only [List.getElem?_cons_zero,Option.some.injEq] at hj
        subst hj
        obtain ⟨blk,hblk,_⟩:=rep_ptr rx
        exact ⟨blk,hblk⟩
       | succ j=>exact aGg (words:=q.1) (ls:=q.2.1) (gs:=q.2.2) h2 r' j l' (by simpa using hj)
      ·simp at e
     ·simp at e
    ·simp at e
  all_goals simp [iS] at e
 | [],_::_,_,_,_,_,e,_=>by simp [iS] at e
 | .v::_,[],_,_,_,_,e,_=>by simp [iS] at e
 | .b _ _::_,[],_,_,_,_,e,_=>by simp [iS] at e
theorem aYx (k:Mem κ h m) {ks:List AK} {args words:List V} {ls:List Nat} {gs:List GA} (e:iS m ks args=some (words,ls,gs)) (h1:a5h ls) (h2:a9x gs):wH κ ls gs where
 nb:=h1
 ng:=h2
 fu:=aDi e
 ex p i hi:=by
  obtain ⟨n,sz,h3,h4⟩:=(a7o e).1 p i hi
  rw [← k.2.2,List.getElem?_map,Option.map_eq_some_iff] at h3
  obtain ⟨L,hL,hLt⟩:=h3
  refine ⟨L,hL,fun hk=>?_⟩
  unfold cY.told at hLt
  rw [if_pos hk] at hLt
  simp only [Prod.mk.injEq] at hLt
  omega
theorem aGh (k:Mem κ h m) {LS:List Nat} {GS:List GA} : ∀ {ks:List AK} {args words:List V} {ls:List Nat} {gs:List GA} {b q:Nat} {xs:List Value},iS m ks args=some (words,ls,gs)→aJ words=true →
  (∀ (i l : Nat),ls[i]? = some l → LS[b + i]? = some l) → (∀ (i : Nat) g,gs[i]? = some g → GS[q + i]? = some g) → Reps κ h args xs →
  Reps (part κ LS GS) h (iD b q ks words).1 xs∧(iD b q ks words).2.1.length=ls.length∧(iD b q ks words).2.2=gs.map (fun g=>(GA.aN κ g).told) ∧
  ∀ (j l blk : Nat) c,ls[j]? = some l → κ.box l = some blk → (iD b q ks words).2.1[j]? = some c → ∃ o,h[blk]? = some o ∧ ORep (part κ LS GS) h c o
 | [],[],words,ls,gs,b,q,xs,e,hc,hl,hg,r=>by
  simp only [iS,Option.some.injEq,Prod.mk.injEq] at e
  obtain ⟨rfl,rfl,rfl⟩:=e
  obtain rfl:=r.inv_nil
  exact ⟨Reps.nil,rfl,rfl,fun j l blk c h1=>by simp at h1⟩
 | .v::ks,a::as,words,ls,gs,b,q,xs,e,hc,hl,hg,r=>by
  simp only [iS,Option.map_eq_some_iff] at e
  obtain ⟨⟨w',ls',gs'⟩,e,h1⟩:=e
  simp only [Prod.mk.injEq] at h1
  obtain ⟨rfl,rfl,rfl⟩:=h1
  simp only [aJ,Bool.and_eq_true] at hc
  obtain ⟨x,xs',rfl,rx,r'⟩:=r.inv_cons
  obtain ⟨h2,h3,h4,h5⟩:=aGh k e hc.2 hl hg r'
  exact ⟨Reps.cons (aEn (κ:=κ) (κ':=part κ LS GS) (fun _=>Nat.le_refl _) rx hc.1) h2,h3,h4,h5⟩
 | .b off cks::ks,a::as,words,ls,gs,b,q,xs,e,hc,hl,hg,r=>by
  cases a
  case ptr l o =>
    simp only [iS] at e
    split at e
    ·rename_i ho
     subst ho
     split at e
     ·rename_i e0 cs hcs
      split at e
      ·rename_i w mF qq h1 h2
       obtain ⟨h1,hty⟩:=uA h1
       obtain ⟨ws',ls',gs'⟩:=qq
       simp only [Option.some.injEq,Prod.mk.injEq] at e
       obtain ⟨rfl,rfl,rfl⟩:=e
       simp only [aJ,Bool.and_eq_true,V.bR] at hc
       obtain ⟨x,xs',rfl,rx,r'⟩:=r.inv_cons
       have hlen:∀ {xs0:List Value},Reps κ h cs xs0→Reps (part κ LS GS) h (gQ b q cks w).1 xs0∧(gQ b q cks w).2=mF.map fun g=>(GA.aN κ g).told:=fun r0 =>
        wX (κp:=part κ LS GS) (l:=l) (b:=b) k.2.2 (fun _=>Nat.le_refl _) (fun blk hbl=>by
         have:=hl 0 l rfl
         rw [Nat.add_zero] at this
         simp only [part,this]
         exact hbl) h1 hc.1 (fun i g hi=>by
         have:=hg i g (by rw [List.getElem?_append_left (List.getElem?_eq_some_iff.1 hi).1]; exact hi)
         simp only [part,List.getElem?_map,this]; rfl) r0
       obtain ⟨blk,hblk,hx⟩:=rep_ptr rx
       obtain ⟨ob,hob,xs0,E,hoe,hr0,hone⟩:=k.2.1.2 l blk (.cells e0 cs) hblk hcs
       obtain ⟨g1,g2⟩:=hlen hr0
       have gl:(gQ b q cks w).2.length=mF.length:=by rw [g2,List.length_map]
       obtain ⟨h3,h4,h5,h6⟩:=aGh (LS:=LS) (GS:=GS) (b:=b+1) (q:=q+(gQ b q cks w).2.length) k h2 hc.2
        (fun i l hi=>by rw [show b+1+i=b+(i+1) by omega]; exact hl (i+1) l (by simpa using hi))
        (fun i g hi=>by
         rw [gl,show q+mF.length+i=q+(mF.length+i) by omega]
         refine hg (mF.length+i) g ?_
         rw [List.getElem?_append_right (by omega),show mF.length+i - mF.length=i by omega]; exact hi) r'
       refine ⟨Reps.cons ?_ h3,by simp only [iD,List.length_cons,h4],by simp only [iD]; rw [h5,g2,List.map_append],fun j l' blk' c hj hb hcj=>?_⟩
       ·rw [hx]
        refine .ptr b o blk ?_
        have:=hl 0 l rfl
        rw [Nat.add_zero] at this
        simp only [part,this]
        exact hblk
       ·cases j with
        | zero =>
         simp only [List.getElem?_cons_zero,Option.some.injEq] at hj
         subst hj
         simp only [iD,List.getElem?_cons_zero,Option.some.injEq] at hcj
         subst hcj
         rw [hblk] at hb
         simp only [Option.some.injEq] at hb
         subst hb
         exact ⟨ob,hob,xs0,E,hoe,g1,hone.1,fun t ht=>hone.2 t (aKa hty ht)⟩
        | succ j =>
         simp only [List.getElem?_cons_succ] at hj
         simp only [iD,List.getElem?_cons_succ] at hcj
         exact h6 j l' blk' c hj hb hcj
      ·simp at e
     ·simp at e
    ·simp at e
  all_goals simp [iS] at e
 | [],_::_,_,_,_,_,_,_,e,_,_,_,_=>by simp [iS] at e
 | .v::_,[],_,_,_,_,_,_,e,_,_,_,_=>by simp [iS] at e
 | .b _ _::_,[],_,_,_,_,_,_,e,_,_,_,_=>by simp [iS] at e
theorem aHm {m1 : Hp} : ∀ {kss : List (List CK)} {b : Nat} {outs : List V} {gs : List GA},vV m1 b kss = some (outs,gs) → (∀ (q i : Nat),gs[q]? = some (.own i) → ∃ n sz,m1.T[i]? = some (n,sz) ∧ 0 < sz) ∧ outs.length = kss.length
 | [],b,outs,gs,e=>by
  simp only [vV,Option.some.injEq,Prod.mk.injEq] at e
  obtain ⟨rfl,rfl⟩:=e
  exact ⟨fun q i hi=>by simp at hi,rfl⟩
 | cks::kss,b,outs,gs,e=>by
  simp only [vV] at e
  split at e
  ·split at e
   ·rename_i w mF q h1 h2
    simp only [Option.some.injEq,Prod.mk.injEq] at e
    obtain ⟨rfl,rfl⟩:=e
    obtain ⟨i1,i2⟩:=aHm (outs:=q.1) (gs:=q.2) h2
    refine ⟨fun p i hi=>?_,by simp [i2]⟩
    rw [List.getElem?_append] at hi
    split at hi
    ·exact aKb (uA h1).1 _ _ hi
    ·exact i1 _ _ hi
   ·simp at e
  ·simp at e
theorem aNt (k1:Mem κ1 h1 m1) (hw:∀ b,κ1.hw b≤κ'.hw b):∀ {kss:List (List CK)} {b q:Nat} {outs:List V} {gos:List GA} {ls:List Nat} {H:List LO},vV m1 b kss=some (outs,gos)→ls.length=kss.length→aJ outs=true →
  (∀ (i : Nat) g,gos[i]? = some g → κ'.aN[q + i]? = some (GA.aN κ1 g)) → a5h ls → (∀ (j l blk : Nat),ls[j]? = some l → κ1.box (b + j) = some blk → κ'.box l = some blk) →
  (mJ q kss ls outs H).2 = gos.map (fun g=>(GA.aN κ1 g).told) ∧ (mJ q kss ls outs H).1.length = H.length ∧ (∀ l : Nat,(∀ i : Nat,ls[i]? ≠ some l) → (mJ q kss ls outs H).1[l]? = H[l]?) ∧
  ∀ (j l blk : Nat) c,ls[j]? = some l → κ1.box (b + j) = some blk → (mJ q kss ls outs H).1[l]? = some c → ∃ o,h1[blk]? = some o ∧ ORep κ' h1 c o
 | [],b,q,outs,gos,ls,H,e,hl,hc,hg,hd,hbx=>by
  simp only [vV,Option.some.injEq,Prod.mk.injEq] at e
  obtain ⟨rfl,rfl⟩:=e
  obtain rfl:=List.eq_nil_of_length_eq_zero hl
  exact ⟨rfl,rfl,fun _ _=>rfl,fun j l blk c h1=>by simp at h1⟩
 | cks::kss,b,q,outs,gos,[],H,e,hl,hc,hg,hd,hbx=>by simp at hl
 | cks::kss,b,q,outs,gos,l::ls,H,e,hl,hc,hg,hd,hbx=>by
  simp only [vV] at e
  split at e
  ·rename_i e0 cs hcs
   split at e
   ·rename_i w mF qq h2 h3
    obtain ⟨h2,hty⟩:=uA h2
    obtain ⟨ws',gs'⟩:=qq
    simp only [Option.some.injEq,Prod.mk.injEq] at e
    obtain ⟨rfl,rfl⟩:=e
    simp only [aJ,Bool.and_eq_true,V.bR] at hc
    have hlen:∀ {xs0:List Value},Reps κ1 h1 cs xs0→Reps κ' h1 (gQ l q cks w).1 xs0∧(gQ l q cks w).2=mF.map fun g=>(GA.aN κ1 g).told:=fun r0 =>
     wX (l:=b) (b:=l) k1.2.2 hw (fun blk hbl=>hbx 0 l blk rfl (by rw [Nat.add_zero]; exact hbl)) h2 hc.1 (fun i g hi=>hg i g (by rw [List.getElem?_append_left (List.getElem?_eq_some_iff.1 hi).1]; exact hi)) r0
    have told:(gQ l q cks w).2=mF.map fun g=>(GA.aN κ1 g).told:=aU2 k1.2.2 h2
    have gl:(gQ l q cks w).2.length=mF.length:=by rw [told,List.length_map]
    have hd':a5h ls:=fun i j n h4 h5=>by
     have:=hd (i+1) (j+1) n (by simpa using h4) (by simpa using h5)
     omega
    have hn : ∀ i : Nat,ls[i]? ≠ some l:=fun i hi=>by
     have:=hd 0 (i+1) l rfl (by simpa using hi)
     omega
    obtain ⟨h4,h5,h6,h7⟩:=aNt (H:=H.set l (.cells (tyK cks) (gQ l q cks w).1)) (b:=b+1) (q:=q+(gQ l q cks w).2.length) k1 hw h3 (by simpa using hl) hc.2
     (fun i g hi=>by
      rw [gl,show q+mF.length+i=q+(mF.length+i) by omega]
      refine hg (mF.length+i) g ?_
      rw [List.getElem?_append_right (by omega),show mF.length+i - mF.length=i by omega]; exact hi) hd' (fun j l' blk hj hbj=>hbx (j+1) l' blk (by simpa using hj) (by rw [show b+(j+1)=b+1+j by omega]; exact hbj))
    refine ⟨by simp only [mJ]; rw [h4,told,List.map_append],by simp only [mJ,h5,List.length_set],fun l' hl'=>?_,fun j l' blk c hj hb hcj=>?_⟩
    ·simp only [mJ]
     rw [h6 l' fun i hi=>hl' (i+1) (by simpa using hi),List.getElem?_set_ne (fun e=>hl' 0 (by simp [e]))]
    ·cases j with
     | zero =>
      simp only [List.getElem?_cons_zero,Option.some.injEq] at hj
      subst hj
      simp only [mJ] at hcj
      rw [h6 l hn] at hcj
      have hlt:l < H.length:=by have:=(List.getElem?_eq_some_iff.1 hcj).1; simpa using this
      rw [List.getElem?_set_self hlt] at hcj
      simp only [Option.some.injEq] at hcj
      subst hcj
      obtain ⟨ob,hob,xs0,E,hoe,hr0,hone⟩:=k1.2.1.2 b blk (.cells e0 cs) hb hcs
      exact ⟨ob,hob,xs0,E,hoe,(hlen hr0).1,hone.1,fun t ht=>hone.2 t (aKa hty ht)⟩
     | succ j =>
      simp only [List.getElem?_cons_succ] at hj
      simp only [mJ] at hcj
      exact h7 j l' blk c hj (by rw [show b+1+j=b+(j+1) by omega]; exact hb) hcj
   ·simp at e
  ·simp at e
theorem aGi {κ:Ctx} {h:Heap} : ∀ {gr:List GK} {args vs:List V} {xs:List Value},Reps κ h args xs→nU gr args=some vs →
  ∃ ys:List Value,Reps κ h vs ys∧∀ (κ':Ctx) (h':Heap) (vs':List V),Reps κ' h' vs' ys→Reps κ' h' (unA gr vs') xs
 | [],args,vs,xs,r,e=>by
  simp only [nU,Option.some.injEq] at e
  subst e
  exact ⟨xs,r,fun _ _ _ r'=>r'⟩
 | .one::gs,[],vs,xs,r,e=>by simp [nU] at e
 | .one::gs,a::args,vs,xs,r,e=>by
  simp only [nU,Option.map_eq_some_iff] at e
  obtain ⟨vs0,e,rfl⟩:=e
  obtain ⟨x,xs',rfl,rx,r'⟩:=r.inv_cons
  obtain ⟨ys,h1,h2⟩:=aGi r' e
  refine ⟨x::ys,Reps.cons rx h1,fun κ' h' vs' r0=>?_⟩
  have h3:=(r0.take 1).append (h2 κ' h' _ (r0.drop 1))
  exact h3
 | .lR f n::gs,[],vs,xs,r,e=>by simp [nU] at e
 | .lR f n::gs,a::args,vs,xs,r,e=>by
  cases a
  case func f' cs =>
   simp only [nU] at e
   split at e
   ·rename_i hc
    obtain ⟨rfl,hn⟩:=hc
    simp only [Option.map_eq_some_iff] at e
    obtain ⟨vs0,e,rfl⟩:=e
    obtain ⟨x,xs',rfl,rx,r'⟩:=r.inv_cons
    obtain ⟨ys,h1,h2⟩:=aGi r' e
    cases rx with
    | func _ _ zs hl hr =>
     have rz:Reps κ h cs zs:=⟨hl,hr⟩
     refine ⟨zs++ys,rz.append h1,fun κ' h' vs' r0=>?_⟩
     have ht:=r0.take n
     have hd:=r0.drop n
     have hz:zs.length=n:=by rw [← hn]; exact rz.1
     rw [← hz,List.take_left,hz] at ht
     rw [← hz,List.drop_left,hz] at hd
     exact Reps.cons (.func _ _ _ ht.1 ht.2) (h2 κ' h' _ hd)
   ·simp at e
  all_goals simp [nU] at e
theorem aU3 {P:Program} {f:FuncId} {sg:gY} {words rs args:List V} {ls:List Nat} {gs:List GA} {m:Hp} (e:(nU sg.gr args).bind (iS m sg.as)=some (words,ls,gs)) (h1:a5h ls) (h2:a9x gs) (hw:aJ words=true) (hr:aJ rs=true)
  (hp:(pack (rs.take sg.bF)).plain=true) (hF:Callee P f sg words rs) :
  sO P f args m (pack (rs.take sg.bF)) ⟨(mJ m.T.length (eN sg.as) ls (rs.drop sg.bF) m.H).1,xV gs m.T++(mJ m.T.length (eN sg.as) ls (rs.drop sg.bF) m.H).2⟩:=by
 intro κ w xs k ra
 obtain ⟨fargs,hfl,e⟩:=Option.bind_eq_some_iff.1 e
 obtain ⟨ys,rf1,rf2⟩:=aGi ra hfl
 have p:=aYx k e h1 h2
 obtain ⟨a1,a2,a3,a4⟩:=aGh (LS:=ls) (GS:=gs) (b:=0) (q:=0) k e hw (fun i l h=>by rw [Nat.zero_add]; exact h) (fun i g h=>by rw [Nat.zero_add]; exact h) rf1
 have a1:=rf2 _ _ _ a1
 have km:Mem (part κ ls gs) w.heap ⟨(iD 0 0 sg.as words).2.1,(iD 0 0 sg.as words).2.2⟩:=by
  have:=aUv (gs:=gs) k p a2 (fun b l blk c hl hb hc=>a4 b l blk c hl hb hc)
  rw [a3]
  simpa [part,List.map_map,Function.comp_def] using this
 refine (hF (part κ ls gs) w xs km a1).mono fun e0 w' ⟨x,κ1,m1,he,hx,hv,gos,hend,hdist⟩=>?_
 obtain ⟨o1,o2⟩:=aHm hend
 have q:OutOk κ1 gos:=⟨hdist,fun p i hi=>by
  obtain ⟨n,sz,h3,_⟩:=o1 p i hi
  rw [← hx.mem.2.2,List.getElem?_map,Option.map_eq_some_iff] at h3
  obtain ⟨L,hL,_⟩:=h3
  exact ⟨L,hL⟩,aHl hend⟩
 have hkl:κ.aN.length=m.T.length:=by rw [← k.2.2,List.length_map]
 have hlen:=(a7o e).2.trans (aRy sg.as).symm
 have hcr:aJ (rs.drop sg.bF)=true:=jF.2 fun v hv=>jF.1 hr v (List.mem_of_mem_drop hv)
 obtain ⟨b1,b2,b3,b4⟩:=aNt (κ':=back κ κ1 gs gos) (H:=m.H) (b:=0) (q:=m.T.length) hx.mem (fun b=>Nat.le_refl _) hend hlen hcr (fun i g hi=>by
  simp only [back]
  rw [List.getElem?_append_right (by simp; omega)]
  simp only [List.length_mapIdx,hkl,Nat.add_sub_cancel_left,List.getElem?_map,hi]
  rfl) h1 (fun j l blk hj hbj=>by
   rw [Nat.zero_add] at hbj
   obtain ⟨blk',hb'⟩:=aGg e rf1 j l hj
   have h2:κ1.box j=some blk':=hx.le.box j blk' (by simp only [part,hj]; exact hb')
   rw [hbj] at h2
   simp only [Option.some.injEq] at h2
   subst h2
   exact hb')
 refine ⟨x,back κ κ1 gs gos,he,⟨aGc p hx.le q,?_,by simp only [b2]; exact Nat.le_refl _,fun l _ hb=>hb,hx.os,hx.out⟩,a03 (κ:=κ1) (κ':=back κ κ1 gs gos) (fun b=>Nat.le_refl _) hv hp⟩
 refine back_mem k p hx.le hx.mem q b2 (fun l hl=>b3 l hl) (fun b l blk c hl hb hc=>b4 b l blk c hl ?_ hc) (by rw [b1])
 rw [Nat.zero_add]
 refine hx.le.box b blk ?_
 simp only [part,hl]
 exact hb
end
end Go.Fbs

/- From code to the small language. -/
namespace Go.Fbs
inductive TD where
 | bool | int (k:IntKind) | str
 | sl (e:TypeId)
 | st (fs:List (Nat×TypeId))
 | arr (n:Nat) (e:TypeId)
 | other
 deriving Inhabited
structure TI where
 t:TypeId
 d:TD
 sz:Nat
 agg:Bool
 by_:Nat
 z:Option (List V)
 eq:Bool
 deriving Inhabited
def aEo:List TI→TypeId→Option TI
 | [],_=>none
 | i::r,t=>bif Nat.beq i.t t then some i else aEo r t
def assoc {α:Type} : List (Nat×α)→Nat→Option α
 | [],_=>none
 | (j,x)::r,i=>bif Nat.beq j i then some x else assoc r i
structure TT where
 ts:List TI
 sg:b3j
 dyn:List Nat
def cK (tt:TT) (t:TypeId):Option TI:=aEo tt.ts t
def a0v (tt:TT) (e:FuncId):Option (FuncId×gY):=bif Nat.ble wW e then assoc tt.sg e else none
def isE (tt:TT) (f:FuncId):Bool:=tt.sg.any fun q=>Nat.beq q.2.1 f
def aDj (P:Program) (t:TypeId):TD→Prop
 | .bool=>P.underlying t=some .bool
 | .int k=>P.underlying t=some (.int k)
 | .str=>P.underlying t=some .string
 | .sl e=>P.underlying t=some (.slice e)
 | .st fs => ∃ a : Array Field, P.underlying t = some (.struct a) ∧ a.toList.map (fun f => (f.offset, f.type)) = fs ∧ a.toList.all (fun f => f.name != "_") = true
 | .arr n e=>P.underlying t=some (.array n e)
 | .other=>True
structure bG (P:Program) (i:TI):Prop where
 d:aDj P i.t i.d
 sz:szT P i.t=some i.sz
 agg:aggT P i.t=some i.agg
 by_:bytesT P i.t=some i.by_
 z:∀ z,i.z=some z→∃ v,zeroT P i.t=some v∧v.cells=z∧(i.agg=true→v = .agg z)∧(i.agg=false→z=[v])
 eq:i.eq=true→P.stoodInHeld i.t=false∧P.eqGuardType P.depth i.t=false
def a6c (tt:TT) (f:TypeId→Option (List Nat)):Nat→List (Nat×TypeId)→Option (List Nat)
 | _,[]=>some []
 | n,(off,t)::r =>
  match cK tt t,f t with
  | some ti,some q=>bif Nat.beq off n && Nat.blt 0 ti.sz then (a6c tt f (n+ti.sz) r).map (q ++ ·) else none
  | _,_=>none
def leaves (tt:TT):Nat→TypeId→Option (List Nat)
 | 0,_=>none
 | d+1,t =>
  match cK tt t with
  | some ti =>
   match ti.d with
   | .bool=>bif Nat.beq ti.sz 1 && !ti.agg then some [0] else none
   | .int _=>bif Nat.beq ti.sz 1 && !ti.agg then some [1] else none
   | .str=>bif Nat.beq ti.sz 1 && !ti.agg then some [2] else none
   | .st fs =>
    bif ti.eq && ti.agg then
     match a6c tt (leaves tt d) 0 fs with
     | some q=>bif Nat.beq q.length ti.sz then some q else none
     | none=>none
    else none
   | _=>none
  | none=>none
abbrev Gd:=Option (A×Bool)
inductive SV where
 | val (a:A)
 | kA (a:A) (g:Gd)
 | grow (k sz:Nat) (a:A)
 | kB
 | elem (a:A) (n off:Nat) (g:Gd)
 | ptr (b off:Nat) (g:Gd)
 | pix (b off n:Nat) (i:A) (g:Gd)
 | stv (a:A) (nl:List Nat)
 | lR (f:Nat) (caps:List (Nat×Nat))
 | self (t b:Nat) (a:A)
 deriving Inhabited
structure SS where
 bM:List (Nat×SV)
 boxes:List (Option (List SV))
 known:List (Nat×Nat)
 cD:List Nat
 xY:List Nat
 nv:Nat
 nk:Nat
 dep:Nat
 own:Nat
 deriving Inhabited
def SS.look (S:SS) (t:Nat):Option SV:=assoc S.bM t
def a90:A:=.k (.sl .ro [])
def sQ:SV:=.val (.k .undef)
def SV.a? : SV → Option A
 | .val a=>some a
 | .grow _ _ a=>some a
 | .kB=>some a90
 | .stv a _=>some a
 | _=>none
def a2y:V→SV
 | .sl .full []=>.kB
 | v=>.val (.k v.aI)
def SS.fT (S:SS):Operand→Option SV
 | .tmp t=>S.look t
 | .const v=>(V.ofC v).map a2y
 | .func f=>some (.val (.k (.func f [])))
 | .global _=>none
def SS.sR (S:SS) (x:Operand):Option A:=(S.fT x).bind SV.a?
def SS.b3k (S:SS):List Operand→Option (List A)
 | []=>some []
 | x::xs =>
  match S.sR x,S.b3k xs with
  | some a,some as=>some (a::as)
  | _,_=>none
def SS.b4z (S:SS):Option Operand→Option (Option A)
 | none=>some none
 | some x=>(S.sR x).map some
def sameV:V→V→Bool
 | .bool a,.bool b=>a == b
 | .int k a,.int k' b=>decide (k=k') && decide (a=b)
 | .str a,.str b=>decide (a=b)
 | .nilp,.nilp=>true
 | .sl .ro [],.sl .ro []=>true
 | _,_=>false
def A.same:A→A→Bool
 | .v i,.v j=>Nat.beq i j
 | .c i j,.c i' j'=>Nat.beq i i' && Nat.beq j j'
 | .k x,.k y=>sameV x y
 | _,_=>false
def Gd.same:Gd→Gd→Bool
 | none,none=>true
 | some (a,b),some (a',b')=>a.same a' && (b == b')
 | _,_=>false
def aBo:List (Nat×Nat)→List (Nat×Nat)→Bool
 | [],[]=>true
 | (a,b)::r,(a',b')::r'=>Nat.beq a a' && Nat.beq b b' && aBo r r'
 | _,_=>false
def SV.same:SV→SV→Bool
 | .kB,.kB=>true
 | .elem a n off g,.elem a' n' off' g'=>a.same a' && Nat.beq n n' && Nat.beq off off' && g.same g'
 | .ptr b off g,.ptr b' off' g'=>Nat.beq b b' && Nat.beq off off' && g.same g'
 | .pix b off n i g,.pix b' off' n' i' g'=>Nat.beq b b' && Nat.beq off off' && Nat.beq n n' && i.same i' && g.same g'
 | .lR f l,.lR f' l'=>Nat.beq f f' && aBo l l'
 | .self t b a,.self t' b' a'=>Nat.beq t t' && Nat.beq b b' && a.same a'
 | _,_=>false
def SV.ag (g:Gd):SV→Option A
 | .kA a g'=>bif g'.same g then some a else none
 | s=>s.a?
def SS.gZ (S:SS) (g:Gd) (x:Operand):Option A:=(S.fT x).bind (SV.ag g)
def SS.kZ (S:SS) (g:Gd):List Operand→Option (List A)
 | []=>some []
 | x::xs =>
  match S.gZ g x,S.kZ g xs with
  | some a,some as=>some (a::as)
  | _,_=>none
def SS.a4j (S:SS) (g:Gd):Option Operand→Option (Option A)
 | none=>some none
 | some x=>(S.gZ g x).map some
def SV.pk (g side:Gd) (s:SV):Option A :=
 match s.ag g with
 | some a=>some a
 | none=>s.ag side
def SS.a7p (S:SS) (g side:Gd) (x:Operand):Option A:=(S.fT x).bind (SV.pk g side)
def SV.fits (s:Option SV) (t:SV):Bool :=
 match s,t with
 | some s,.val a=>(match s.a? with | some a'=>a'.same a | none=>false)
 | some s,t=>s.same t
 | none,_=>false
def A.below (n:Nat):A→Bool
 | .v i=>Nat.blt i n
 | .c i _=>Nat.blt i n
 | .k _=>true
def Gd.below (n:Nat):Gd→Bool
 | none=>true
 | some (a,_)=>a.below n
def SV.below (n:Nat):SV→Bool
 | .val a=>a.below n
 | .kA a g=>a.below n && g.below n
 | .grow _ _ a=>a.below n
 | .kB=>true
 | .elem a _ _ g=>a.below n && g.below n
 | .ptr _ _ g=>g.below n
 | .pix _ _ _ i g=>i.below n && g.below n
 | .stv a _=>a.below n
 | .lR _ _=>true
 | .self _ _ a=>a.below n
def SS.jP (S:SS) (a:A) (n:Nat):Bool :=
 match a with
 | .v i=>(match assoc S.known i with | some m=>Nat.beq m n | none=>false)
 | .c i j=>Nat.beq n 0 && (match assoc S.known i with | some m=>Nat.blt j m | none=>false)
 | .k x=>Nat.beq n 0 && sc x
def cellsOf (i:Nat):Nat→Nat→List A
 | 0,_=>[]
 | n+1,j=>.c i j::cellsOf i n (j+1)
def aGj (n:Nat):Option Nat:=bif Nat.beq n 0 then none else some n
def pV:E→Option Nat
 | .fG _ | .lenL _ | .bin .. | .eqB .. | .eqA .. | .un .. | .mm .. | .kF .. | .sP _ | .mN _ | .slS .. | .slL .. | .aPb .. | .lit .. | .make .. | .app .. | .aJ6 .. | .fn .. | .aPd _ | .aPe _ | .inb .. | .nth .. | .flip ..=>some 0
 | .aPc g n _ _=>bif g then aGj n else some 0
 | .part g n _ _=>bif g then aGj n else some 0
 | .chk n _=>aGj n
 | .agg l=>aGj l.length
 | _=>none
abbrev OL:=Option L
def hasN (l:List Nat) (t:Nat):Bool:=l.any (Nat.beq t)
def SS.isB (S:SS):A→Bool
 | .v i=>hasN S.cD i
 | .k x=>rI x
 | _=>false
def aBp:BinOp→Bool
 | .eql | .neq | .lss | .leq | .gtr | .geq=>true
 | _=>false
def a7q (S:SS):E→Bool
 | .bin op _ _=>aBp op
 | .eqB .. | .eqA .. | .un .not _=>true
 | .pick _ a b=>S.isB a && S.isB b
 | _=>false
def SS.j8 (S:SS) (nv:Nat) (kn:List (Nat×Nat)) (bl:List Nat×List Nat):SS:={ S with nv:=nv,known:=kn,cD:=bl.1,xY:=bl.2 }
def SS.wY (S:SS):A→List Nat
 | .v i=>bif hasN S.cD i then S.cD else i::S.cD
 | _=>S.cD
def SS.sure (S:SS):A→Bool
 | .v i=>!hasN S.xY i
 | .c i _=>!hasN S.xY i
 | .k _=>true
def emit (g:Gd) (e:E) (S:SS) (k:A→SS→OL):OL :=
 (k (.v S.nv) (S.j8 (S.nv+1)
  (match g,pV e with
   | none,some n=>(S.nv,n)::S.known
   | _,_=>S.known)
  (bif a7q S e then S.nv::S.cD else S.cD,match g with | none=>S.xY | some _=>S.nv::S.xY))).map (L.bind e g)
def pY (g:Gd) (e:E) (S:SS) (k:SV→SS→OL):OL:=emit g e S fun a S=>k (.val a) S
def iJ (g:Gd) (as:List A) (e:E) (S:SS) (k:SV→SS→OL):OL :=
 match g with
 | none=>pY none e S k
 | some q=>bif as.all S.sure then emit none e S fun a S=>k (.kA a (some q)) S else pY (some q) e S k
def aPh (g:Gd) (op:BinOp) (a b:A) (S:SS) (k:SV→SS→OL):OL :=
 match op with
 | .quo | .rem | .shl | .shr=>pY g (.bin op a b) S k
 | _=>iJ g [a,b] (.bin op a b) S k
def xZ (g:Gd) (n:Nat) (a:A) (S:SS) (k:List A→SS→OL):OL :=
 bif Nat.beq n 0 then none else
 match a with
 | .v i=>bif S.jP (.v i) n then k (cellsOf i n 0) S else emit g (.chk n a) S fun _ S'=>k (cellsOf S.nv n 0) S'
 | a=>emit g (.chk n a) S fun _ S'=>k (cellsOf S.nv n 0) S'
def a92 (g:Gd) (a:A) (S:SS) (k:A→SS→OL):OL :=
 bif S.jP a 0 then k a S else emit g (.aPe a) S k
def putCells {α:Type} (cs:List α) (off:Nat) (new:List α):List α:=cs.take off++new++cs.drop (off+new.length)
def a06 (tt:TT) (g:Gd) (place:Nat→Option (Nat×TypeId)):List (Nat×Operand)→List A→SS→(List A→SS→OL)→OL
 | [],cs,S,k=>k cs S
 | (i,x)::r,cs,S,k =>
  match place i,S.gZ g x with
  | some (off,t),some a =>
   match cK tt t with
   | some ti =>
    bif Nat.ble (off+ti.sz) cs.length then
     bif ti.agg then xZ g ti.sz a S fun l S'=>a06 tt g place r (putCells cs off l) S' k
     else bif Nat.beq ti.sz 1 then a92 g a S fun a' S'=>a06 tt g place r (putCells cs off [a']) S' k else none
    else none
   | none=>none
  | _,_=>none
def a6d:Nat→List (Nat×Operand)→Bool
 | _,[]=>true
 | n,(i,_)::r=>Nat.beq i n && a6d (n+1) r
def aBq:List SV→Option (List A)
 | []=>some []
 | s::r =>
  match s.a?,aBq r with
  | some a,some as=>some (a::as)
  | _,_=>none
def aNu:List A→Option Nat
 | .c i 0::_=>some i
 | _=>none
def zW (i:Nat):Nat→List A→Bool
 | _,[]=>true
 | j,.c i' j'::r=>Nat.beq i i' && Nat.beq j j' && zW i (j+1) r
 | _,_=>false
def iO (k:Nat):SV→SV
 | .grow k' sz a=>bif Nat.beq k k' then .val a else .grow k' sz a
 | s=>s
def SS.iO (S:SS) (k:Nat):SS :=
 {S with bM:=S.bM.map (fun p=>(p.1,Fbs.iO k p.2)),boxes:=S.boxes.map (Option.map (List.map (Fbs.iO k))) }
def aEp (ti:TI) (g:Gd) (cells:List SV) (off:Nat) (S:SS) (k:SV→SS→OL):OL :=
 bif ti.agg then
  bif Nat.ble (off+ti.sz) cells.length then
  match aBq ((cells.drop off).take ti.sz) with
  | some as =>
   match g,aNu as with
   | none,some i=>bif zW i 0 as && S.jP (.v i) ti.sz && Nat.beq as.length ti.sz then k (.val (.v i)) S else iJ g as (.agg as) S k
   | _,_=>iJ g as (.agg as) S k
  | none=>none
  else none
 else
  match cells[off]? with
  | some s =>
   match g with
   | none=>k s S
   | some _=>(match s.a? with | some a=>k (.kA a g) S | none=>none)
  | none=>none
def jG (have_:Gd) (op:Gd):Bool :=
 match have_ with
 | none=>true
 | some _=>have_.same op
def a3i (ks:List CK):Bool:=ks.all fun k=>match k with | .self t=>a0u ks (some t) | _=>true
def a4k (t b:Nat):SV→Option A
 | .self t' b' a=>bif Nat.beq t' t && Nat.beq b' b then some a else none
 | _=>none
def cellsIn (b:Nat):List CK→List SV→Option (List A×List Nat)
 | [],[]=>some ([],[])
 | .pl::ks,s::ss =>
  match s.a?,cellsIn b ks ss with
  | some a,some q=>some (a::q.1,q.2)
  | _,_=>none
 | .self t::ks,s::ss =>
  match a4k t b s,cellsIn b ks ss with
  | some a,some q=>some (a::q.1,q.2)
  | _,_=>none
 | .gr sz _::ks,s::ss =>
  match s,cellsIn b ks ss with
  | .grow k sz' a,some q=>bif Nat.beq sz' sz && Nat.blt 0 sz then some (a::q.1,k::q.2) else none
  | .kB,some q=>bif Nat.blt 0 sz then some (a90::q.1,q.2) else none
  | _,_=>none
 | _,_=>none
inductive AI where
 | w (a:A)
 | b (b:Nat) (as:List A) (ks:List CK)
 deriving Inhabited
inductive Ob where
 | op (x:Operand)
 | bx (b:Nat)
def SS.obj (S:SS):Ob→Option SV
 | .op x=>S.fT x
 | .bx b=>some (.ptr b 0 none)
def uB (S:SS):List AK→List Ob→Option (List AI×List Nat)
 | [],[]=>some ([],[])
 | .v::ks,.op x::xs =>
  match S.sR x,uB S ks xs with
  | some a,some q=>some (.w a::q.1,q.2)
  | _,_=>none
 | .b off cks::ks,x::xs =>
  match S.obj x with
  | some (.ptr b o none) =>
   bif Nat.beq o off && a3i (cks.map CK.out) then
    match S.boxes[b]? with
    | some (some cells) =>
     match cellsIn b cks cells,uB S ks xs with
     | some (as,ids),some q=>some (.b b as (cks.map CK.out)::q.1,ids++q.2)
     | _,_=>none
    | _=>none
   else none
  | _=>none
 | _,_=>none
def jT:List AI→List Nat
 | []=>[]
 | .w _::r=>jT r
 | .b b _ _::r=>b::jT r
def sT (l:List Nat) (t:Nat):Bool:=l.any (Nat.beq t)
def uV:List Nat→Bool
 | []=>true
 | n::r=>!sT r n && uV r
def aEq:List AI→SS→(List A→SS→OL)→OL
 | [],S,k=>k [] S
 | .w a::r,S,k=>aEq r S fun l S'=>k (a::l) S'
 | .b _ as _::r,S,k=>emit none (.agg as) S fun y S'=>aEq r S' fun l S''=>k (y::l) S''
def SS.nZ (S:SS):List Nat→SS
 | []=>S
 | q::r=>(S.iO q).nZ r
def SS.forget (S:SS):List Nat→SS
 | []=>S
 | b::r=>({ S with boxes:=S.boxes.set b none } : SS).forget r
def cN (b z:Nat):Nat→Nat→List CK→List SV
 | _,_,[]=>[]
 | j,q,.pl::ks=>.val (.c z j)::cN b z (j+1) q ks
 | j,q,.self t::ks=>.self t b (.c z j)::cN b z (j+1) q ks
 | j,q,.gr sz _::ks=>.grow q sz (.c z j)::cN b z (j+1) (q+1) ks
def pQ:List CK→Nat
 | []=>0
 | .pl::ks=>pQ ks
 | .self _::ks=>pQ ks
 | .gr _ _::ks=>pQ ks+1
def aEr (y:A):Nat→List AI→SS→(SS→OL)→OL
 | _,[],S,k=>k S
 | i,.w _::r,S,k=>aEr y i r S k
 | i,.b b _ ks::r,S,k=>emit none (.ext y i) S fun z S=>emit none (.chk ks.length z) S fun _ S' =>
   aEr y (i+1) r { S' with boxes:=S'.boxes.set b (some (cN b S.nv 0 S'.nk ks)),nk:=S'.nk+pQ ks } k
def aU4 (S:SS) (x:Ob):Option (Nat×List SV) :=
 match S.obj x with
 | some (.ptr b o none) =>
  match S.boxes[b]? with
  | some (some cells)=>some (o,cells)
  | _=>none
 | _=>none
def aKd:V→Bool
 | .sl _ _=>true
 | _=>false
def uW:CK→SV→Option Bool
 | .pl,_=>some true
 | .self _,.self ..=>some true
 | .self _,_=>none
 | .gr _ _,.grow ..=>some true
 | .gr _ _,.kB=>some true
 | .gr _ _,.val (.k v)=>bif aKd v then none else some false
 | .gr _ _,_=>none
def uC:List CK→List SV→Option Bool
 | [],[]=>some true
 | k::ks,s::ss =>
  match uC ks ss with
  | some true=>uW k s
  | some false=>some false
  | none=>none
 | _,_=>some false
def a2c (S:SS):List AK→List Ob→Option Bool
 | [],[]=>some true
 | .v::ks,_::xs=>a2c S ks xs
 | .b off cks::ks,x::xs =>
  match aU4 S x,a2c S ks xs with
  | some q,some r=>bif Nat.beq q.1 off && r then uC cks q.2 else some false
  | _,_=>none
 | _,_=>some false
def aEs:V→Bool
 | .func _ []=>true
 | _=>false
def zI (S:SS):List GK→List Ob→Option (Option (List Ob))
 | [],xs=>some (some xs)
 | .one::gs,x::xs=>(zI S gs xs).map fun o=>o.map (x :: ·)
 | .lR f n::gs,.op x::xs =>
  match S.fT x with
  | some (.lR f' caps)=>bif Nat.beq f' f && Nat.beq caps.length n then (zI S gs xs).map fun o=>o.map ((caps.map fun q=>Ob.bx q.2) ++ ·) else some none
  | some (.val (.k v))=>bif aEs v && Nat.blt 0 n then some none else none
  | _=>none
 | .lR _ _::_,.bx _::_=>some none
 | .one::_,[]=>some none
 | .lR _ _::_,[]=>some none
def aU5 (S:SS) (sg:gY) (xs:List Ob):Option Bool :=
 match zI S sg.gr xs with
 | some (some ys)=>a2c S sg.as ys
 | some none=>some false
 | none=>none
def a0w (tt:TT) (S:SS) (f:FuncId) (xs:List Ob):List FuncId→Option (FuncId×gY)
 | []=>none
 | e::r =>
  match a0v tt e with
  | some q=>bif Nat.beq q.1 f then (match aU5 S q.2 xs with | some true=>some (e,q.2) | some false=>a0w tt S f xs r | none=>none) else a0w tt S f xs r
  | none=>a0w tt S f xs r
def aI5 (tt:TT) (f:FuncId) (xs:List Ob) (S:SS) (k:SV→SS→OL):OL :=
 match a0w tt S f xs (tt.sg.map (·.1)) with
 | some (e,sg) =>
  match (match zI S sg.gr xs with | some (some ys)=>uB S sg.as ys | _=>none) with
  | some (ais,ids) =>
   bif uV ids && uV (jT ais) then
    aEq ais S fun ws S=>emit none (.call e ws) S fun y S =>
     emit none (bif Nat.beq sg.bF 1 then .ext y 0 else .pre sg.bF y) ((S.nZ ids).forget (jT ais)) fun r S =>
      aEr y sg.bF ais S fun S=>k (.val r) S
   else none
  | none=>none
 | none=>none
def aPi (tt:TT) (fs:List (Nat×TypeId)) (parts:List (Nat×Operand)) (z:List V):List Nat :=
 (List.range z.length).filter fun j=>(match z[j]? with | some (.sl .full [])=>true | _=>false) &&
  parts.all fun q=>match fs[q.1]? with
   | some (off,t)=>(match cK tt t with | some ti=>Nat.blt j off || Nat.ble (off+ti.sz) j | none=>false)
   | none=>false
def aEt (y:A):List Nat→SV
 | []=>.val y
 | nl=>.stv y nl
def a4l (S:SS):List Operand→Option (List (Nat×Nat))
 | []=>some []
 | .tmp t::r =>
  match S.look t,a4l S r with
  | some (.ptr b 0 none),some l=>some ((t,b)::l)
  | _,_=>none
 | _=>none
def aPj:A→Bool
 | .k (.int _ (.ofNat 0))=>true
 | _=>false
def aGk (t b:Nat):List V→List SV
 | [.nilp,.sl .full []]=>[.self t b (.k (.bool false)),.kB]
 | z=>z.map a2y
def fW (tt:TT) (g:Gd) (op:Op) (S:SS) (k:SV→SS→OL):OL :=
 match op with
 | .move x | .assign x =>
  match S.fT x with
  | some s =>
   match g with
   | none=>k s S
   | some _=>(match s.ag g with | some a=>k (.kA a g) S | none=>(match s with | .ptr b off none=>k (.ptr b off g) S | _=>none))
  | none=>none
 | .pick c a b =>
  match S.gZ g c with
  | some c' =>
   match S.a7p g (some (c',true)) a,S.a7p g (some (c',false)) b with
   | some a',some b'=>iJ g [c',a',b'] (.pick c' a' b') S k
   | _,_=>none
  | none=>none
 | .load t x =>
  match S.fT x,cK tt t with
  | some (.ptr b off h),some ti =>
   bif jG h g then
    match S.boxes[b]? with
    | some (some cells)=>aEp ti g cells off S k
    | _=>none
   else none
  | some (.elem a n off h),some ti =>
   bif jG h g then
    bif Nat.beq n 0 then
     bif Nat.beq off 0 && !ti.agg then
      match g with
      | none=>k (.val a) S
      | some _=>k (.kA a g) S
     else none
    else bif ti.agg then
     bif Nat.beq off 0 && Nat.beq ti.sz n then
      match g with
      | none=>k (.val a) S
      | some _=>k (.kA a g) S
     else iJ g [a] (.part true ti.sz off a) S k
    else
     match g,a with
     | none,.v i=>bif S.jP (.v i) n && Nat.blt off n then k (.val (.c i off)) S else iJ g [a] (.part false 1 off a) S k
     | _,_=>iJ g [a] (.part false 1 off a) S k
   else none
  | some (.pix b off n i h),some ti =>
   bif jG h g && !ti.agg then
    match S.boxes[b]? with
    | some (some cells) =>
     match aBq ((cells.drop off).take n) with
     | some as=>pY g (.nth as i) S k
     | none=>none
    | _=>none
   else none
  | _,_=>none
 | .nilCheck x =>
  match S.fT x with
  | some (.ptr b off h)=>bif g.same h || h.same none && g.same none then k (.ptr b off h) S else none
  | some (.elem a n off h)=>bif g.same h || h.same none && g.same none then k (.elem a n off h) S else none
  | some s=>(match s.ag g with | some a=>pY g (.aPd a) S k | none=>none)
  | none=>none
 | .binOp op t x y _ =>
  match cK tt t,S.gZ g x,S.gZ g y with
  | some ti,some a,some b =>
   match ti.d with
   | .int _ | .str=>aPh g op a b S k
   | .bool=>bif ti.eq then (match op with | .eql=>iJ g [a,b] (.eqB false a b) S k | .neq=>iJ g [a,b] (.eqB true a b) S k | _=>none) else none
   | .st _=>bif ti.eq && ti.agg then (match leaves tt 20 t with | some qs=>(match op with | .eql=>iJ g [a,b] (.eqA qs false a b) S k | .neq=>iJ g [a,b] (.eqA qs true a b) S k | _=>none) | none=>none) else none
   | _=>none
  | _,_,_=>none
 | .unOp op _ x =>
  match S.gZ g x with
  | some a=>iJ g [a] (.un op a) S k
  | none=>none
 | .convert s d x =>
  match cK tt s,cK tt d,S.gZ g x with
  | some si,some di,some a =>
   match si.d,di.d with
   | .int _,.int q=>iJ g [a] (.kF q a) S k
   | .str,.str=>iJ g [a] (.sP a) S k
   | .sl e,.str=>(match cK tt e with | some ei=>(match ei.d with | .int .u8=>pY g (.mN a) S k | _=>none) | none=>none)
   | _,_=>none
  | _,_,_=>none
 | .slice t x lo hi none =>
  match cK tt t,S.gZ g x,S.a4j g lo,S.a4j g hi with
  | some ti,some a,some l,some h =>
   match ti.d with
   | .str=>pY g (.slS a l h) S k
   | .sl e=>(match cK tt e with | some ei=>bif Nat.blt 0 ei.sz then pY g (.slL ei.sz a l h) S k else none | none=>none)
   | _=>none
  | _,_,_,_=>none
 | .field t x f =>
  match cK tt t,S.gZ g x with
  | some ti,some a =>
   match ti.d with
   | .st fs =>
    match fs[f]? with
    | some (off,ft) =>
     match cK tt ft with
     | some fi =>
      bif fi.agg then iJ g [a] (.part true fi.sz off a) S k
      else bif Nat.beq fi.sz 1 then
       match g,a with
       | none,.v i=>bif S.jP (.v i) ti.sz && Nat.blt off ti.sz && Nat.blt 0 ti.sz then k (.val (.c i off)) S else iJ g [a] (.part false 1 off a) S k
       | _,_=>iJ g [a] (.part false 1 off a) S k
      else none
     | none=>none
    | none=>none
   | _=>none
  | _,_=>none
 | .fieldAddr t x f =>
  match cK tt t,S.fT x with
  | some ti,some s =>
   match ti.d with
   | .st fs =>
    match fs[f]? with
    | some (off,ft) =>
     match cK tt ft with
     | some fi =>
      bif Nat.blt 0 fi.sz then
       match s with
       | .ptr b o h=>bif jG h g then k (.ptr b (o+off) g) S else none
       | .elem a n o h=>bif jG h g && Nat.blt 0 n then k (.elem a n (o+off) g) S else none
       | _=>none
      else none
     | none=>none
    | none=>none
   | _=>none
  | _,_=>none
 | .indexAddr t x i =>
  match S.fT x with
  | some (.ptr b o h) =>
   match cK tt t,S.gZ g i with
   | some ti,some j =>
    match ti.d with
    | .arr n e =>
     match cK tt e with
     | some ei=>bif jG h g && Nat.blt 1 n && Nat.beq ei.sz 1 then emit g (.inb n j) S fun y S'=>k (.pix b o n y g) S' else none
     | none=>none
    | _=>none
   | _,_=>none
  | _ =>
  match cK tt t,S.gZ g x,S.gZ g i with
  | some ti,some a,some j =>
   match ti.d with
   | .sl e =>
    match cK tt e with
    | some ei=>bif Nat.blt 0 ei.sz && (ei.agg || Nat.beq ei.sz 1) then emit g (.aPc ei.agg ei.sz a j) S fun y S'=>k (.elem y (bif ei.agg then ei.sz else 0) 0 g) S' else none
    | none=>none
   | _=>none
  | _,_,_=>none
 | .index t x i =>
  match cK tt t,S.gZ g x,S.gZ g i with
  | some ti,some a,some j =>
   match ti.d with
   | .str=>pY g (.aPb a j) S k
   | .arr n e=>(match cK tt e with | some ei=>pY g (.aUx n ei.agg ei.sz a j) S k | none=>none)
   | _=>none
  | _,_,_=>none
 | .extract x i =>
  match S.gZ g x with
  | some a=>iJ g [a] (.ext a i) S k
  | none=>none
 | .build t parts =>
  match cK tt t with
  | some ti =>
   match ti.d,ti.z with
   | .st fs,some z=>bif fs.all (fun q=>(cK tt q.2).isSome) then a06 tt g (fun i=>fs[i]?) parts.toList (z.map fun v=>.k v.aI) S (fun cs S'=>match g with | none=>emit none (.agg cs) S' fun y S''=>k (aEt y (aPi tt fs parts.toList z)) S'' | some _=>iJ g cs (.agg cs) S' k) else none
   | .arr _ e,some z =>
    match cK tt e with
    | some ei=>a06 tt g (fun i=>some (i*ei.sz,e)) parts.toList (z.map fun v=>.k v.aI) S (fun cs S'=>iJ g cs (.agg cs) S' k)
    | none=>none
   | _,_=>none
  | none=>none
 | .buildSlice t len parts =>
  match cK tt t,S.kZ g (parts.toList.map (·.2)) with
  | some ti,some as =>
   match ti.d with
   | .sl e =>
    match cK tt e with
    | some ei =>
     match ei.z with
     | some z =>
      bif a6d 0 parts.toList && Nat.beq as.length len && Nat.blt 0 ei.sz && Nat.beq z.length ei.sz then
       emit g (.lit ei.sz as) S fun y S' =>
        match g with
        | none=>bif Nat.beq (kE e ei.sz) 1 && Nat.blt 0 len then k (.val y) S' else k (.grow S'.nk (kE e ei.sz) y) { S' with nk:=S'.nk+1 }
        | some _=>k (.val y) S'
      else none
     | none=>none
    | none=>none
   | _=>none
  | _,_=>none
 | .makeFunc (.func f) first caps =>
  match g,a4l S caps.toList with
  | none,some ((t,b)::l)=>bif first.isEmpty && isE tt f then k (.lR f ((t,b)::l)) S else none
  | _,_ =>
  match S.kZ g caps.toList with
  | some as=>bif first.isEmpty then pY g (.fn f as) S k else none
  | none=>none
 | .alloc t =>
  match g,cK tt t with
  | none,some ti =>
   match ti.z with
   | some z=>k (.ptr S.boxes.length 0 none) { S with boxes:=S.boxes++[some (aGk t S.boxes.length z)] }
   | none=>none
  | _,_=>none
 | .box t x =>
  match g,cK tt t,S.fT x with
  | none,some ti,some s =>
   bif ti.agg then
    match s with
    | .val a=>xZ none ti.sz a S fun l S'=>k (.ptr S'.boxes.length 0 none) { S' with boxes:=S'.boxes++[some (l.map .val)] }
    | .stv a nl=>xZ none ti.sz a S fun l S'=>k (.ptr S'.boxes.length 0 none) { S' with boxes:=S'.boxes++[some (l.zipIdx.map fun p=>bif hasN nl p.2 then .kB else .val p.1)] }
    | _=>none
   else
    match s with
    | .val a=>a92 none a S fun a' S'=>k (.ptr S'.boxes.length 0 none) { S' with boxes:=S'.boxes++[some [.val a']] }
    | .grow q sz a=>k (.ptr S.boxes.length 0 none) { S with boxes:=S.boxes++[some [.grow q sz a]] }
    | .kB=>k (.ptr S.boxes.length 0 none) { S with boxes:=S.boxes++[some [.kB]] }
    | _=>none
  | _,_,_=>none
 | .store t x y =>
  match g,cK tt t,S.fT x,S.fT y with
  | none,some ti,some (.ptr b off none),some s =>
   match S.boxes[b]? with
   | some (some cells) =>
    bif Nat.ble (off+ti.sz) cells.length then
     bif ti.agg then
      match s with
      | .val a=>xZ none ti.sz a S fun l S'=>k sQ { S' with boxes:=S'.boxes.set b (some (putCells cells off (l.map .val))) }
      | .stv a nl=>xZ none ti.sz a S fun l S'=>k sQ { S' with boxes:=S'.boxes.set b (some (putCells cells off (l.zipIdx.map fun p=>bif hasN nl p.2 then .kB else .val p.1))) }
      | _=>none
     else bif Nat.beq ti.sz 1 then
      match s with
      | .val a=>a92 none a S fun a' S'=>k sQ { S' with boxes:=S'.boxes.set b (some (putCells cells off [.val a'])) }
      | .grow q sz a=>k sQ { S with boxes:=S.boxes.set b (some (putCells cells off [.grow q sz a])) }
      | .kB=>k sQ { S with boxes:=S.boxes.set b (some (putCells cells off [.kB])) }
      | _=>none
     else none
    else none
   | _=>none
  | _,_,_,_=>none
 | .makeSlice t l c =>
  match g,cK tt t,S.sR l,S.sR c with
  | none,some ti,some a,some b =>
   match ti.d with
   | .sl e =>
    match cK tt e with
    | some ei =>
     match ei.z with
     | some z=>bif Nat.blt 0 ei.sz && Nat.beq z.length ei.sz && (ei.agg || Nat.beq ei.sz 1) then
       emit none (.make ei.sz (bif ei.agg then .agg (z.map V.aI) else (z.map V.aI).headD .undef) ei.by_ a b) S fun y S'=>bif Nat.beq (kE e ei.sz) 1 && !aPj a then k (.val y) S' else k (.grow S'.nk (kE e ei.sz) y) { S' with nk:=S'.nk+1 } else none
     | none=>none
    | none=>none
   | _=>none
  | _,_,_,_=>none
 | .call c =>
  match c.callee,c.argTypes.toList with
  | .builtin .len,[t] =>
   match cK tt t,S.kZ g c.args.toList with
   | some ti,some [a]=>(match ti.d with | .str=>iJ g [a] (.fG a) S k | .sl _=>iJ g [a] (.lenL a) S k | _=>none)
   | _,_=>none
  | .builtin .min,_=>(match S.kZ g c.args.toList with | some [a,b]=>iJ g [a,b] (.mm false a b) S k | _=>none)
  | .builtin .max,_=>(match S.kZ g c.args.toList with | some [a,b]=>iJ g [a,b] (.mm true a b) S k | _=>none)
  | .builtin .append,[t,u] =>
   match g,cK tt t,cK tt u,c.args.toList with
   | none,some ti,some ui,[x,y] =>
    match ti.d,S.fT x,S.sR y with
    | .sl e,some sx,some b =>
     match cK tt e with
     | some ei =>
      match ei.z with
      | some z =>
      bif Nat.blt 0 ei.sz && Nat.beq z.length ei.sz then
       let cd:=kE e ei.sz
       let go:=fun (e:E) (S:SS)=>emit none e S fun y S'=>k (.grow S'.nk cd y) { S' with nk:=S'.nk+1 }
       let with_:=fun (a:A) (S:SS) =>
        match ui.d with
        | .sl _=>go (.app ei.sz ei.by_ a b) S
        | .str=>bif Nat.beq ei.sz 1 then go (.aJ6 ei.by_ a b) S else none
        | _=>none
       match sx with
       | .grow q sz a=>bif Nat.beq sz cd then with_ a (S.iO q) else none
       | .kB=>with_ a90 S
       | _=>none
      else none
      | none=>none
     | none=>none
    | _,_,_=>none
   | _,_,_,_=>none
  | .value (.func f),_ =>
   bif isE tt f then (match g with | none=>aI5 tt f (c.args.toList.map .op) S k | some _=>none)
   else (match S.kZ g c.args.toList with | some as=>bif Nat.blt f wW then pY g (.call f as) S k else none | none=>none)
  | .value (.tmp t),_ =>
   bif hasN tt.dyn t then
    match g,S.look t with
    | none,some (.lR f caps)=>bif isE tt f then aI5 tt f (c.args.toList.map .op++caps.map fun q=>.bx q.2) S k else none
    | _,_=>none
   else (match S.gZ g (.tmp t),S.kZ g c.args.toList with | some a,some as=>pY g (.aEl a as) S k | _,_=>none)
  | .value x,_=>(match S.gZ g x,S.kZ g c.args.toList with | some a,some as=>pY g (.aEl a as) S k | _,_=>none)
  | _,_=>none
 | _=>none
def SS.put (N:Nat) (S:SS) (d:Option Tmp) (s:SV):Option SS :=
 match d with
 | none=>some S
 | some d=>bif Nat.blt d N then some { S with bM:=(d,s)::S.bM.filter (fun p=>!Nat.beq p.1 d) } else none
def a6e (S:SS) (g:Gd):Op→List Operand
 | .pick c a b =>
  match S.gZ g c with
  | some c'=>c::((bif (S.a7p g (some (c',true)) a).isSome then [] else [a])++(bif (S.a7p g (some (c',false)) b).isSome then [] else [b]))
  | none=>[c,a,b]
 | o=>o.operands.toList
def vW (g:Gd):List Operand→SS→(SS→OL)→OL
 | [],S,k=>k S
 | .tmp t::r,S,k =>
  match S.look t with
  | some (.kA a g')=>bif g'.same g then vW g r S k else emit g' (.id a) S fun y S'=>vW g r { S' with bM:=(t,.val y)::S'.bM.filter (fun p=>!Nat.beq p.1 t) } k
  | _=>vW g r S k
 | _::r,S,k=>vW g r S k
def aRz (ops:List Oper) (S:SS) (o:Oper) (k:Gd→SS→OL):OL :=
 match o.guard with
 | none=>k none S
 | some (j,want) =>
  match (ops[j]?).bind (·.dst) with
  | some d=>vW none [.tmp d] S fun S =>
   match S.look d with
   | some s =>
    match s.a? with
    | some a=>bif S.isB a then k (some (a,want)) S else emit none (.aUy a) S fun _ S'=>k (some (a,want)) { S' with cD:=S'.wY a }
    | none=>none
   | none=>none
  | none=>none
def SV.unG (g:Gd):SV→SV
 | .kA a g'=>bif g'.same g then .val a else .kA a g'
 | .ptr b off g'=>bif g'.same g then .ptr b off none else .ptr b off g'
 | s=>s
def SS.unG (S:SS) (g:Gd):SS:={ S with bM:=S.bM.map fun p=>(p.1,p.2.unG g) }
def isSplit (tt:TT):Op→Bool
 | .call c=>(match c.callee with | .value (.func f)=>isE tt f | .value (.tmp t)=>hasN tt.dyn t | _=>false)
 | .store ..=>true
 | _=>false
def aKe:List (A×Bool)→A→Option Bool
 | [],_=>none
 | (x,b)::r,a=>bif x.same a then some b else aKe r a
def aPk:A→Option Bool
 | .k (.bool b)=>some b
 | _=>none
def knB (kn:List (A×Bool)) (a:A):Option Bool :=
 match aPk a with
 | some b=>some b
 | none=>aKe kn a
def knU (kn:List (A×Bool)) (a:A) (want:Bool):Option Bool :=
 match a with
 | .k .undef=>some (!want)
 | a=>knB kn a
def yA (kn:List (A×Bool)) (S:SS) (op:Op):Op :=
 match op with
 | .pick c a b =>
  match S.sR c with
  | some c' =>
   match knB kn c' with
   | some true=>bif (S.fT b).isSome then .move a else .pick c a b
   | some false=>bif (S.fT a).isSome then .move b else .pick c a b
   | none=>.pick c a b
  | none=>.pick c a b
 | op=>op
def vX (tt:TT) (N:Nat) (ops:List Oper):List (A×Bool)→List Oper→SS→(SS→OL)→OL
 | _,[],S,k=>k S
 | kn,o::rest,S,k =>
  aRz ops S o fun g S =>
   match g with
   | some (a,want) =>
    match knU kn a want with
    | some b =>
     bif b == want then vW none (a6e S none (yA kn S o.op)) S fun S1=>fW tt none (yA kn S o.op) S1 fun s S'=>match S'.put N o.dst s with | some S''=>vX tt N ops kn rest S'' k | none=>none
     else match S.put N o.dst sQ with | some S'=>vX tt N ops kn rest S' k | none=>none
    | none =>
     bif isSplit tt o.op then
      match fW tt none o.op (S.unG (some (a,want))) (fun s S'=>match S'.put N o.dst s with | some S''=>vX tt N ops ((a,want)::kn) rest S'' k | none=>none),(match S.put N o.dst sQ with | some S'=>vX tt N ops ((a,!want)::kn) rest S' k | none=>none) with
      | some x,some y=>some (.ite a (bif want then x else y) (bif want then y else x))
      | _,_=>none
     else vW (some (a,want)) (a6e S (some (a,want)) o.op) S fun S=>fW tt (some (a,want)) o.op S fun s S'=>match S'.put N o.dst s with | some S''=>vX tt N ops kn rest S'' k | none=>none
   | none=>vW none (a6e S none (yA kn S o.op)) S fun S1=>fW tt none (yA kn S o.op) S1 fun s S'=>match S'.put N o.dst s with | some S''=>vX tt N ops kn rest S'' k | none=>none
def aKf (tt:TT) (N:Nat) (ops rest:List Oper) (S:SS) (k:SS→OL):OL:=vX tt N ops [] rest S k
inductive Loc where
 | s (t:Nat)
 | c (b j:Nat)
 deriving Inhabited
inductive LK where
 | val (n:Option Nat)
 | grow (sz:Nat)
 | self (t b:Nat)
 deriving Inhabited
inductive OK where
 | loop (r:Nat) | block (id:Nat) | cond (t r:Nat)
 deriving Inhabited
abbrev Vars:=List (Loc×LK)
def OK.same:OK→OK→Bool
 | .loop a,.loop b=>Nat.beq a b
 | .block a,.block b=>Nat.beq a b
 | .cond a q,.cond b r=>Nat.beq a b && Nat.beq q r
 | _,_=>false
def aI6:List (OK×Vars)→OK→Option Vars
 | [],_=>none
 | (j,v)::r,i=>bif j.same i then some v else aI6 r i
def wI:Code→Option Nat
 | .region id _ _=>some id
 | .seq a b=>(match wI a with | some r=>some r | none=>wI b)
 | .cond _ a b=>(match wI a with | some r=>some r | none=>wI b)
 | .block _ b=>wI b
 | .loop b=>wI b
 | .scope b=>wI b
 | _=>none
def b2i (a b:Code):Nat:=match wI a with | some r=>r | none=>(match wI b with | some r=>r | none=>0)
def wZ:Code→List Nat
 | .region _ ops _=>ops.toList.filterMap (·.dst)
 | .seq a b=>wZ a++wZ b
 | .cond _ a b=>wZ a++wZ b
 | .block _ b=>wZ b
 | .loop b=>wZ b
 | .scope b=>wZ b
 | _=>[]
def tA (S:SS) (i:Nat):LK→SV
 | .val _=>.val (.v (S.nv+i))
 | .grow sz=>.grow (S.nk+i) sz (.v (S.nv+i))
 | .self t b=>.self t b (.v (S.nv+i))
def rJ (S:SS):Nat→Vars→List (Nat×SV)
 | _,[]=>[]
 | i,(.s t,q)::r=>(t,tA S i q)::rJ S (i+1) r
 | i,(.c _ _,_)::r=>rJ S (i+1) r
def kG (S:SS):Nat→Vars→List (Option (List SV))→List (Option (List SV))
 | _,[],bs=>bs
 | i,(.s _,_)::r,bs=>kG S (i+1) r bs
 | i,(.c b j,q)::r,bs =>
  kG S (i + 1) r (match bs[b]? with
   | some (some cells)=>bs.set b (some (cells.set j (tA S i q)))
   | _=>bs)
def lK (S:SS):Nat→Vars→List (Nat×Nat)
 | _,[]=>[]
 | i,(_,.val (some n))::r=>(S.nv+i,n)::lK S (i+1) r
 | i,_::r=>lK S (i+1) r
def a3j:Vars→List Nat
 | []=>[]
 | (.s t,_)::r=>t::a3j r
 | _::r=>a3j r
def rK:Vars→List (Nat×Nat)
 | []=>[]
 | (.c b j,_)::r=>(b,j)::rK r
 | _::r=>rK r
def aBr:SV→SV
 | .grow _ _ a=>.val a
 | .stv a _=>.val a
 | s=>s
def SV.inb (n:Nat):SV→Bool
 | .ptr b _ _=>Nat.blt b n
 | .pix b _ _ _ _=>Nat.blt b n
 | .kA _ _=>false
 | .lR _ caps=>caps.all fun q=>Nat.blt q.2 n
 | .self _ b _=>Nat.blt b n
 | _=>true
def SS.keeps (S:SS) (s:SV):Bool:=s.below S.nv && s.inb S.boxes.length
def kH (S:SS) (ds:List Nat) (vars:Vars):SS :=
 let vs:=a3j vars
 {bM:=rJ S 0 vars++((S.bM.filter fun p=>!hasN ds p.1 && !hasN vs p.1 && S.keeps p.2).map fun p=>(p.1,aBr p.2))
  boxes:=kG S 0 vars (S.boxes.map fun b=>match b with
   | some cells=>if cells.all S.keeps then some (cells.map aBr) else none
   | none=>none)
  known:=lK S 0 vars++(S.known.filter fun p=>Nat.blt p.1 S.nv)
  cD:=S.cD.filter fun i=>Nat.blt i S.nv
  xY:=S.xY
  nv:=S.nv+vars.length
  nk:=S.nk+vars.length
  dep:=S.dep
  own:=S.own }
def SS.at_ (S:SS):Loc→Option SV
 | .s t=>S.look t
 | .c b j =>
  match S.boxes[b]? with
  | some (some cells)=>cells[j]?
  | _=>none
def SS.aR0 (S:SS):Option Nat→A→Bool
 | none,_=>true
 | some n,a=>S.jP a n
def aKg (b:Nat):Loc→Bool
 | .c b' _=>Nat.beq b' b
 | .s _=>false
def aEu (S:SS):Vars→Option (List A×List Nat)
 | []=>some ([],[])
 | (l,q)::r =>
  match S.at_ l,aEu S r with
  | some s,some (as,ids) =>
   match q,s with
   | .val n,s =>
    match s.a? with
    | some a=>bif S.aR0 n a then some (a::as,ids) else none
    | none=>none
   | .grow sz,.grow k sz' a=>bif Nat.beq sz sz' && !hasN ids k then some (a::as,k::ids) else none
   | .grow _,.kB=>some (a90::as,ids)
   | .self t b,s=>bif aKg b l then (match a4k t b s with | some a=>some (a::as,ids) | none=>none) else none
   | _,_=>none
  | _,_=>none
def x7 (vc:List (Nat×Nat)) (b:Nat):Nat→List SV→List SV→Bool
 | _,[],[]=>true
 | j,s::r,t::q=>(vc.any (fun p=>Nat.beq p.1 b && Nat.beq p.2 j) || SV.fits (some s) t) && x7 vc b (j+1) r q
 | _,_,_=>false
def pG (vc:List (Nat×Nat)):Nat→List (Option (List SV))→List (Option (List SV))→Bool
 | _,_,[]=>true
 | b,_::r,none::q=>pG vc (b+1) r q
 | b,some c::r,some d::q=>x7 vc b 0 c d && pG vc (b+1) r q
 | _,_,_=>false
def aEv (S H:SS) (vars:Vars):Option (List A) :=
 match aEu S vars with
 | some (as,_) =>
  bif H.bM.all (fun p=>hasN (a3j vars) p.1 || SV.fits (S.look p.1) p.2) && pG (rK vars) 0 S.boxes H.boxes && (Nat.beq S.own H.own && Nat.ble H.own H.boxes.length) then some as else none
 | none=>none
def aU6:List GK→Bool
 | []=>true
 | _=>false
def aPl (tt:TT) (f:FuncId):Bool:=tt.sg.all fun q=>!(Nat.beq q.2.1 f) || aU6 q.2.2.gr
def CK0 (tt:TT):bZ:=⟨isE tt,fun _ _=>none,noE,hasN tt.dyn,aPl tt⟩
def aPm (tt:TT) (ops:List Oper):Nat→Nat
 | 0=>0
 | n+1=>bif drawOk ops (n+1) && (ops.take (n+1)).all (fun o=>lH (CK0 tt) o.op || (mM o.op && o.guard.isNone)) then n+1 else aPm tt ops n
def slX (tt:TT) (t:TypeId):Bool:=match cK tt t with | some ti=>(match ti.d with | .sl _=>true | _=>false) | none=>false
def SV.a4m:SV→Option (Option Nat)
 | .ptr b _ _=>some (some b)
 | .pix b _ _ _ _=>some (some b)
 | .elem ..=>some none
 | _=>none
def SS.apart (S:SS):Rt→Rt→Bool
 | .tm t,.tm t' =>
  match (S.look t).bind SV.a4m,(S.look t').bind SV.a4m with
  | some (some b),some (some b')=>!Nat.beq b b'
  | some none,some _=>true
  | _,_=>false
 | .tm t,.nw _=>((S.look t).bind SV.a4m).isSome
 | .nw _,.tm t=>((S.look t).bind SV.a4m).isSome
 | .nw i,.nw j=>!Nat.beq i j
 | _,_=>true
abbrev KX:=SS→OL
def qE (o:Oper):Option (Nat×Operand) :=
 match o.guard,o.dst,o.op with
 | none,some d,.move x=>some (d,x)
 | none,some d,.assign x=>some (d,x)
 | _,_,_=>none
def aU7 (o:Oper):Option (Nat×TypeId×Operand×Operand) :=
 match o.guard,o.dst,o.op with
 | none,some d,.makeSlice t l c=>some (d,t,l,c)
 | _,_,_=>none
def aKh (o:Oper):Option (Nat×Operand×TypeId) :=
 match o.guard,o.dst,o.op with
 | none,some d,.call ⟨.builtin .len,args,ts⟩ =>
  (match args.toList,ts.toList with
  | [x],[t]=>some (d,x,t)
  | _,_=>none)
 | _,_,_=>none
def a7r (o:Oper):Option (Nat×BinOp×Operand×Operand) :=
 match o.guard,o.dst,o.op with
 | none,some d,.binOp op _ x y _=>some (d,op,x,y)
 | _,_,_=>none
def aKi (o:Oper):Option (Nat×TypeId×Operand×Operand) :=
 match o.guard,o.dst,o.op with
 | none,some d,.indexAddr t x i=>some (d,t,x,i)
 | _,_,_=>none
def aGl (o:Oper):Option (TypeId×Operand×Operand) :=
 match o.guard,o.dst,o.op with
 | none,none,.store t x v=>some (t,x,v)
 | _,_,_=>none
def jQ (x:Operand) (t:Nat):Bool :=
 match x with
 | .tmp s=>Nat.beq s t
 | _=>false
def isZ (x:Operand) (n:Nat):Bool :=
 match x with
 | .const (.int .i64 (.ofNat m))=>Nat.beq m n
 | _=>false
def aPn:BinOp→Bool
 | .lss=>true
 | _=>false
def isAdd:BinOp→Bool
 | .add=>true
 | _=>false
def aI7 (x:Operand):Option Nat :=
 match x with
 | .const (.int .u8 (.ofNat c))=>some c
 | _=>none
def fCv (o:Oper):Option (Nat×TypeId×TypeId×Operand) :=
 match o.guard,o.dst,o.op with
 | none,some d,.convert src dst x=>some (d,src,dst,x)
 | _,_,_=>none
def fLd (o:Oper):Option (Nat×TypeId×Operand) :=
 match o.guard,o.dst,o.op with
 | none,some d,.load t x=>some (d,t,x)
 | _,_,_=>none
def fZ (x:Operand):Option Nat :=
 match x with
 | .const (.int .i64 (.ofNat m))=>some m
 | _=>none
def fOp:BinOp→Nat
 | .gtr=>1
 | .and=>2
 | .rem=>3
 | .xor=>4
 | _=>0
def aPo (D:List Nat) (x:Operand):Bool :=
 match x with
 | .tmp s=>!D.any (Nat.beq s)
 | .const _=>true
 | _=>false
structure FJ where
 s:Operand
 i:Operand
 c:Operand
 m1:Nat
 m2:Nat
 ts:TypeId
 tb:TypeId
 tl:TypeId
 tw:TypeId
 tr:TypeId
 b:Nat
 D:List Nat
def aPp (N m:Nat) (o1 o2 o3 o4 o5 o6 o7 o8 o9 oA oB oC oD oE oF oG oH oI oJ oK oL oM:Oper):Option FJ:=do
 let v1 ← qE o1
 let v2 ← fCv o2
 let v3 ← qE o3
 let v4 ← qE o4
 let v5 ← aKh o5
 let v6 ← a7r o6
 let v7 ← qE o7
 let v8 ← qE o8
 let v9 ← a7r o9
 let vA ← qE oA
 let vB ← aKh oB
 let vC ← a7r oC
 let vD ← aKi oD
 let vE ← fLd oE
 let vF ← qE oF
 let vG ← a7r oG
 let vH ← a7r oH
 let vI ← aKi oI
 let vJ ← aGl oJ
 let vK ← qE oK
 let vL ← fCv oL
 let vM ← qE oM
 let m0 ← fZ v6.2.2.2
 let m1 ← fZ v9.2.2.2
 let m2 ← aI7 vG.2.2.2
 let D:=[v1.1,v2.1,v3.1,v4.1,v5.1,v6.1,v7.1,v8.1,v9.1,vA.1,vB.1,vC.1,vD.1,vE.1,vF.1,vG.1,vH.1,vI.1,vK.1,vL.1,vM.1]
 bif (jQ v2.2.2.2 v1.1 && jQ v3.2 v2.1 && jQ v4.2 v3.1 && jQ v5.2.1 v4.1 && Nat.beq v5.2.2 v2.2.2.1 && Nat.beq (fOp v6.2.1) 1 && jQ v6.2.2.1 v5.1 && Nat.beq m0 0 && Nat.beq v6.1 m) &&
  (jQ v7.2 v3.1 && Nat.beq (fOp v9.2.1) 2 && jQ v9.2.2.1 v8.1 && jQ vA.2 v3.1 && jQ vB.2.1 vA.1 && Nat.beq vB.2.2 v2.2.2.1 && Nat.beq (fOp vC.2.1) 3 && jQ vC.2.2.1 v9.1 && jQ vC.2.2.2 vB.1) &&
  (jQ vD.2.2.1 v7.1 && jQ vD.2.2.2 vC.1 && Nat.beq vD.2.1 v2.2.2.1 && jQ vE.2.2 vD.1 && Nat.beq (fOp vG.2.1) 2 && jQ vG.2.2.1 vF.1 && Nat.beq (fOp vH.2.1) 4 && jQ vH.2.2.1 vE.1 && jQ vH.2.2.2 vG.1) &&
  (jQ vI.2.2.1 v7.1 && jQ vI.2.2.2 vC.1 && Nat.beq vI.2.1 v2.2.2.1 && jQ vJ.2.1 vI.1 && jQ vJ.2.2 vH.1 && jQ vK.2 v3.1 && jQ vL.2.2.2 vK.1 && Nat.beq vL.2.1 v2.2.2.1 && jQ vM.2 vL.1) &&
  (aPo D v8.2 && aPo D vF.2 && D.all (fun d=>Nat.blt d N) && uV D) then some ⟨v1.2,v8.2,vF.2,m1,m2,v2.2.1,v2.2.2.1,vE.2.1,vJ.1,vL.2.2.1,vM.1,D⟩ else none
def a7s (N:Nat):Code→Code→Option FJ
 | .region _ r1 false,.seq (.seq (.region _ r2 false) (.cond (.tmp m) (.region _ r3 false) .skip)) (.region _ r4 false) =>
  match r1.toList,r2.toList,r3.toList,r4.toList with
  | [o1,o2,o3],[o4,o5,o6],[o7,o8,o9,oA,oB,oC,oD,oE,oF,oG,oH,oI,oJ],[oK,oL,oM]=>aPp N m o1 o2 o3 o4 o5 o6 o7 o8 o9 oA oB oC oD oE oF oG oH oI oJ oK oL oM
  | _,_,_,_=>none
 | _,_=>none
def aI8:TD→Bool
 | .str=>true
 | _=>false
def aPq:TD→Bool
 | .int .u8=>true
 | _=>false
def aI9 (tt:TT) (f:FJ):Bool :=
 match cK tt f.ts,cK tt f.tb,cK tt f.tl,cK tt f.tw,cK tt f.tr with
 | some ts,some tb,some tl,some tw,some tr =>
  match tb.d with
  | .sl e =>
   match cK tt e with
   | some te=>aI8 ts.d && aPq te.d && Nat.beq te.sz 1 && aPq tl.d && Nat.beq tl.sz 1 && !tl.agg && Nat.beq tw.sz 1 && aI8 tr.d
   | none=>false
  | _=>false
 | _,_,_,_,_=>false
def aXk (tt:TT) (N:Nat) (S:SS) (a b:Code):Option (FJ×A×A×A) :=
 match a7s N a b with
 | some f =>
  match S.sR f.s,S.sR f.i,S.sR f.c with
  | some s,some i,some c=>bif aI9 tt f then some (f,s,i,c) else none
  | _,_,_=>none
 | none=>none
def aPr (f:FJ) (S:SS) (y:A):SS:={ S with bM:=(f.b,.val y)::S.bM.filter (fun p=>!hasN f.D p.1) }
def a7t (H:SS) (dep:Nat) (vars:Vars):KX:=fun S=>(aEv S H vars).map (L.jmp (S.dep - 1 - dep))
def aDk:List (Nat×KX)→Nat→Option KX
 | [],_=>none
 | (j,k)::r,i=>bif Nat.beq j i then some k else aDk r i
def jY (tt:TT) (N:Nat) (orc:List (OK×Vars)):Code→SS→List (Nat×KX)→KX→KX→OL
 | .skip,S,_,k,_=>k S
 | .label _,S,_,k,_=>k S
 | .region _ ops d,S,_,k,_ =>
  bif d then (bif (let n:=aPm tt ops.toList ops.toList.length; drawOk ops.toList n && (ops.toList.take n).all (fun o=>lH (CK0 tt) o.op || (mM o.op && o.guard.isNone))) then aKf tt N ops.toList ops.toList S k else bif zV (CK0 tt) (slX tt) S.apart ops.toList then aKf tt N ops.toList ops.toList S k else none)
  else aKf tt N ops.toList ops.toList S k
 | .seq a b,S,xs,k,r =>
  match aXk tt N S a b with
  | some (f,s,i,c)=>emit none (.flip f.m1 f.m2 s i c) S fun y S'=>k (aPr f S' y)
  | none=>jY tt N orc a S xs (fun S'=>jY tt N orc b S' xs k r) r
 | .cond c a b,S,xs,k,r =>
  match S.sR c with
  | some q =>
   match aPk q with
   | some true=>jY tt N orc a S xs k r
   | some false=>jY tt N orc b S xs k r
   | none =>
   match (match c with | .tmp t=>aI6 orc (.cond t (b2i a b)) | _=>none) with
   | none =>
    let S1:={ S with cD:=S.wY q }
    match jY tt N orc a S1 xs k r,jY tt N orc b S1 xs k r with
    | some x,some y=>some (.ite q x y)
    | _,_=>none
   | some vars =>
    let H:=kH S (wZ a++wZ b) vars
    let S1:={ S with dep:=S.dep+1,cD:=S.wY q }
    match k H,jY tt N orc a S1 xs (a7t H S.dep vars) r,jY tt N orc b S1 xs (a7t H S.dep vars) r with
    | some z,some x,some y=>some (.join vars.length (.ite q x y) z)
    | _,_,_=>none
  | none=>none
 | .block id c,S,xs,k,r =>
  match aI6 orc (.block id) with
  | none=>jY tt N orc c S ((id,k)::xs) k r
  | some vars =>
   let H:=kH S (wZ c) vars
   match k H,jY tt N orc c { S with dep:=S.dep+1 } ((id,a7t H S.dep vars)::xs) (a7t H S.dep vars) r with
   | some z,some x=>some (.join vars.length x z)
   | _,_=>none
 | .loop c,S,xs,_,r =>
  match (wI c).bind (fun q=>aI6 orc (.loop q)) with
  | some vars =>
   let H:=kH S (wZ c) vars
   match aEv S H vars,jY tt N orc c { H with dep:=S.dep+1 } xs (a7t H S.dep vars) r with
   | some init,some x=>some (.loop init x)
   | _,_=>none
  | none=>none
 | .exit id,S,xs,_,_ =>
  match aDk xs id with
  | some k=>k S
  | none=>none
 | .ret,S,_,_,r=>r S
 | _,_,_,_,_=>none
def a1o (tt:TT):List ResultVar→List A→SS→OL
 | [],[a],_=>some (.ret a)
 | [],as,_=>some (.aUz as)
 | .tmp t::r,as,S =>
  match (S.look t).bind SV.a? with
  | some a=>a1o tt r (as++[a]) S
  | none=>none
 | .cell t ty::r,as,S =>
  match S.look t,cK tt ty with
  | some (.ptr b off none),some ti =>
   match S.boxes[b]? with
   | some (some cells)=>aEp ti none cells off S fun s S'=>match s.a? with | some a=>a1o tt r (as ++ [a]) S' | none=>none
   | _=>none
  | _,_=>none
def zX:Nat→Nat→List (Nat×SV)
 | _,0=>[]
 | i,n+1=>(i,.val (.v i))::zX (i+1) n
structure FI where
 ks:Operand
 ty:TypeId
 ety:TypeId
 c:Nat
 b:Nat
 D:List Nat
def aPs (N out out' m:Nat) (o1 o2 o3 o4 o5 o6 o7 o8 o9 oA oB oC oD oE oF:Oper):Option FI:=do
 let v1 ← qE o1
 let v2 ← aU7 o2
 let v3 ← qE o3
 let v4 ← qE o4
 let v5 ← aKh o5
 let v6 ← qE o6
 let v7 ← a7r o7
 let v8 ← qE o8
 let v9 ← qE o9
 let vA ← qE oA
 let vB ← qE oB
 let vC ← aKi oC
 let vD ← aGl oD
 let vE ← a7r oE
 let vF ← qE oF
 let c ← aI7 vD.2.2
 let D:=[v1.1,v2.1,v3.1,v4.1,v5.1,v6.1,v7.1,v8.1,v9.1,vA.1,vB.1,vC.1,vE.1]
 bif jQ v2.2.2.1 v1.1 && jQ v2.2.2.2 v1.1 && jQ v3.2 v2.1 && jQ v4.2 v3.1 && jQ v5.2.1 v4.1 && Nat.beq v5.2.2 v2.2.1 && isZ v6.2 0 &&
  Nat.beq v7.1 m && aPn v7.2.1 && jQ v7.2.2.1 v6.1 && jQ v7.2.2.2 v5.1 && jQ v8.2 v6.1 && jQ v9.2 v8.1 && jQ vA.2 v3.1 && jQ vB.2 v9.1 &&
  jQ vC.2.2.1 vA.1 && jQ vC.2.2.2 vB.1 && Nat.beq vC.2.1 v2.2.1 && jQ vD.2.1 vC.1 && isAdd vE.2.1 && jQ vE.2.2.1 v6.1 && isZ vE.2.2.2 1 && jQ vF.2 vE.1 && Nat.beq vF.1 v6.1 &&
  Nat.beq out out' && D.all (fun d=>Nat.blt d N) && uV D then some ⟨v1.2,v2.2.1,vD.1,c,v3.1,D⟩ else none
def a4n (N:Nat):Code→Code→Option (FI×Code)
 | .region _ mk false,.seq (.seq (.region _ pre false) (.block out (.loop (.seq (.region _ tst false) (.seq (.cond (.tmp m) .skip (.exit out')) (.seq (.block _ (.seq (.region _ asg false) (.region _ st false))) (.region _ stp false))))))) rest =>
  match mk.toList,pre.toList,tst.toList,asg.toList,st.toList,stp.toList with
  | [o1,o2,o3],[o4,o5,o6],[o7],[o8,o9],[oA,oB,oC,oD],[oE,oF]=>(aPs N out out' m o1 o2 o3 o4 o5 o6 o7 o8 o9 oA oB oC oD oE oF).map fun f=>(f,rest)
  | _,_,_,_,_,_=>none
 | _,_=>none
def aXl (tt:TT) (N:Nat) (S:SS) (a b:Code):Option (FI×A×Nat) :=
 match a4n N a b with
 | some (f,_) =>
  match S.sR f.ks,cK tt f.ty,cK tt f.ety with
  | some x,some ti,some si =>
   match ti.d with
   | .sl e =>
    match cK tt e with
    | some ei =>
     match ei.z with
     | some [_]=>bif Nat.beq ei.sz 1 && !ei.agg && Nat.beq si.sz 1 then some (f,x,ei.by_) else none
     | _=>none
    | none=>none
   | _=>none
  | _,_,_=>none
 | none=>none
def a2d (tt:TT) (N:Nat) (orc:List (OK×Vars)):Bool→Code→SS→KX→KX→OL
 | sk,.seq a b,S,k,r =>
  bif sk then a2d tt N orc false b S k r else
  match aXl tt N S a b with
  | some (f,x,q)=>emit none (.make 1 (.int .u8 f.c) q x x) S fun y S'=>a2d tt N orc true b { S' with bM:=(f.b,.val y)::S'.bM.filter (fun p=>!hasN f.D p.1) } k r
  | none=>jY tt N orc a S [] (fun S'=>a2d tt N orc false b S' k r) r
 | sk,c,S,k,r=>bif sk then none else jY tt N orc c S [] k r
def b3l (tt:TT) (N:Nat) (orc:List (OK×Vars)) (rs:List ResultVar) (nargs:Nat) (c:Code):OL :=
 let S:SS:=⟨zX 0 nargs,[],[],[],[],nargs,0,0,0⟩
 a2d tt N orc false c S (a1o tt rs []) (a1o tt rs [])
def fH:Nat→Nat→List AK→List (Nat×SV)
 | _,_,[]=>[]
 | i,b,.v::r=>(i,.val (.v i))::fH (i+1) b r
 | i,b,.b off _::r=>(i,.ptr b off none)::fH (i+1) (b+1) r
def lL:Nat→Nat→Nat→List AK→List (Option (List SV))
 | _,_,_,[]=>[]
 | b,i,q,.v::r=>lL b (i+1) q r
 | b,i,q,.b _ ks::r=>some (cN b i 0 q ks)::lL (b+1) (i+1) (q+pQ ks) r
def rL:Nat→List AK→List (Nat×Nat)
 | _,[]=>[]
 | i,.v::r=>rL (i+1) r
 | i,.b _ ks::r=>(i,ks.length)::rL (i+1) r
def a3k:List (List CK)→Nat
 | []=>0
 | ks::r=>pQ ks+a3k r
def a2z:List AK→Bool
 | []=>true
 | .v::r=>a2z r
 | .b _ ks::r=>Nat.blt 0 ks.length && a3i ks && a2z r
def aKj:Nat→List (List CK)→List Nat→List A→SS→OL
 | _,[],_,as,_=>some (.aUz as)
 | b,ks::r,ids,as,S =>
  match S.boxes[b]? with
  | some (some cells) =>
   match cellsIn b ks cells with
   | some (ws,is)=>bif uV is && is.all (fun i=>!sT ids i) then emit none (.agg ws) S fun y S'=>aKj (b+1) r (is++ids) (as++[y]) S' else none
   | none=>none
  | _=>none
def a2e (tt:TT) (kss:List (List CK)):List ResultVar→List A→SS→OL
 | [],as,S=>bif Nat.beq S.own kss.length then aKj 0 kss [] as S else none
 | .tmp t::r,as,S =>
  match (S.look t).bind SV.a? with
  | some a=>a2e tt kss r (as++[a]) S
  | none=>none
 | .cell t ty::r,as,S =>
  match S.look t,cK tt ty with
  | some (.ptr b off none),some ti =>
   match S.boxes[b]? with
   | some (some cells)=>aEp ti none cells off S fun s S'=>match s.a? with | some a=>a2e tt kss r (as ++ [a]) S' | none=>none
   | _=>none
  | _,_=>none
def a94:List SV→Option (List (Nat×Nat))
 | []=>some []
 | .ptr b 0 none::r=>(a94 r).map ((0,b) :: ·)
 | _::_=>none
def a4o:List GK→List SV→Option (List SV)
 | [],l=>some l
 | .one::gs,s::l=>(a4o gs l).map (s :: ·)
 | .one::_,[]=>none
 | .lR f n::gs,l =>
  match a94 (l.take n),a4o gs (l.drop n) with
  | some bs,some r=>bif Nat.ble n l.length then some (.lR f bs::r) else none
  | _,_=>none
def aEw:Nat→List SV→List (Nat×SV)
 | _,[]=>[]
 | i,s::l=>(i,s)::aEw (i+1) l
def aEx (sg:gY):List (Nat×SV) :=
 match sg.gr with
 | []=>fH 0 0 sg.as
 | _::_=>(match a4o sg.gr ((fH 0 0 sg.as).map (·.2)) with | some l=>aEw 0 l | none=>[])
def aDl:List GK→Nat→Bool
 | [],_=>true
 | .one::r,k=>Nat.blt 0 k && aDl r (k - 1)
 | .lR _ n::r,k=>Nat.blt 0 n && Nat.ble n k && aDl r (k - n)
def aXm (tt:TT) (N:Nat) (orc:List (OK×Vars)) (rs:List ResultVar) (sg:gY) (c:Code):OL :=
 bif a2z sg.as then
  let S:SS:=⟨aEx sg,lL 0 0 0 sg.as,rL 0 sg.as,[],[],sg.as.length,a3k (gT sg.as),0,(gT sg.as).length⟩
  jY tt N orc c S [] (a2e tt (eN sg.as) rs []) (a2e tt (eN sg.as) rs [])
 else none
end Go.Fbs

/- The words answer what the operations do. -/
namespace Go.Fbs
def kI:Nat→V→Prop
 | 0,v=>sc v=true
 | n+1,v=>∃ cs,v = .agg cs∧cs.length=n+1∧cs.all sc=true
section
variable {x y i w:V}
theorem b0j (h:fG x.aI=some w):∃ v,fG x=some v∧v.aI=w:=by
 cases x <;> simp [V.aI,fG] at h ⊢; subst h; rfl
theorem b0k (h:lenL x.aI=some w):∃ v,lenL x=some v∧v.aI=w:=by
 cases x <;> simp [V.aI,lenL,bP] at h ⊢; subst h; rfl
theorem jA {k:IntKind} {n:Int} (h:x.aI = .int k n):x = .int k n:=by cases x <;> simp_all [V.aI]
theorem l9 {b:Bool} (h:x.aI = .bool b):x = .bool b:=by cases x <;> simp_all [V.aI]
theorem xH {s:List UInt8} (h:x.aI = .str s):x = .str s:=by cases x <;> simp_all [V.aI]
theorem aR3 (h:x.aI = .undef):x = .undef:=by cases x <;> simp_all [V.aI]
theorem a95 {g:Tag} {es:List V} (h:x.aI = .sl g es):∃ g' es',x = .sl g' es'∧es=es'.map V.aI:=by
 cases x <;> simp [V.aI,bP] at h; exact ⟨_,_,rfl,h.2.symm⟩
theorem a6g {cs:List V} (h:x.aI = .agg cs):∃ cs',x = .agg cs'∧cs=cs'.map V.aI:=by
 cases x <;> simp [V.aI,bP] at h; exact ⟨_,rfl,h.symm⟩
theorem aYy {cs:List V} (h:x.aI = .tup cs):∃ cs',x = .tup cs'∧cs=cs'.map V.aI:=by
 cases x <;> simp [V.aI,bP] at h; exact ⟨_,rfl,h.symm⟩
theorem aKk {f:Nat} {cs:List V} (h:x.aI = .func f cs):∃ cs',x = .func f cs'∧cs=cs'.map V.aI:=by
 cases x <;> simp [V.aI,bP] at h; exact ⟨_,by rw [h.1],h.2.symm⟩
theorem aR4 {op:BinOp} {k:IntKind} {a b:Int} {v:V} (h:intBin op k a b=some v):v.aI=v∧sc v=true:=by
 cases op <;> simp only [intBin] at h <;> (try split at h) <;> simp at h <;> subst h <;> exact ⟨rfl,rfl⟩
theorem aR5 {op:BinOp} {a b:List UInt8} {v:V} (h:strBin op a b=some v):v.aI=v∧sc v=true:=by
 cases op <;> simp only [strBin] at h <;> (try split at h) <;> simp at h <;> subst h <;> exact ⟨rfl,rfl⟩
theorem aCo {op:BinOp} {k:IntKind} {a b:Int} {v:V} (h:wT op k a b=some v):v.aI=v∧sc v=true:=by
 unfold wT at h
 split at h
 ·simp at h
 ·cases op <;> simp at h <;> subst h <;> exact ⟨rfl,rfl⟩
theorem aNw {op:BinOp} {v:V} (h:aC op x y=some v):v.aI=v∧sc v=true:=by
 unfold aC at h
 split at h
 ·split at h
  ·exact aCo h
  ·exact aCo h
  ·split at h
   ·exact aR4 h
   ·simp at h
 ·exact aR5 h
 ·simp at h
theorem b2j {P:Program} {op:BinOp} {t:TypeId} (h:aC op x.aI y.aI=some w):∃ v,binV P op t x y=some v∧v.aI=w:=by
 have hw:=(aNw h).1
 refine ⟨w,?_,hw⟩
 unfold aC at h
 split at h
 ·rename_i k a k' b h1 h2
  rw [jA h1,jA h2]
  cases op <;> exact h
 ·rename_i a b h1 h2
  rw [xH h1,xH h2]
  exact h
 ·simp at h
theorem aXn {P:Program} {t:TypeId} {neg:Bool} (hu:P.underlying t=some .bool) (he:P.eqGuardType P.depth t=false) (h:aDf neg x.aI y.aI=some w):∃ v,binV P (if neg then .neq else .eql) t x y=some v∧v.aI=w:=by
 unfold aDf at h
 split at h
 ·rename_i a b h1 h2
  simp only [Option.some.injEq] at h
  subst h
  rw [l9 h1,l9 h2]
  cases neg <;> simp [binV,he,tY,hu,V.aI]
 ·simp at h
theorem aYz {q:Nat} {r:Bool} (h:eqS q x.aI y.aI=some r):eqS q x y=some r:=by
 unfold eqS at h
 split at h
 ·rename_i h1 h2; rw [l9 h1,l9 h2]; exact h
 ·rename_i h1 h2; rw [jA h1,jA h2]; exact h
 ·rename_i h1 h2; rw [xH h1,xH h2]; exact h
 ·simp at h
theorem aCp:∀ {qs:List Nat} {xs ys:List V} {r:Bool},fB qs (xs.map V.aI) (ys.map V.aI)=some r→fB qs xs ys=some r
 | [],[],[],r,h=>h
 | q::qs,x::xs,y::ys,r,h=>by
  simp only [List.map_cons,fB] at h ⊢
  split at h
  ·rename_i a b h1 h2
   rw [aYz h1,aCp h2]; exact h
  ·simp at h
 | [],_::_,_,_,h=>by simp [fB] at h
 | [],[],_::_,_,h=>by simp [fB] at h
 | _::_,[],_,_,h=>by simp [fB] at h
 | _::_,_::_,[],_,h=>by simp [fB] at h
theorem a0x:∀ {qs:List Nat} {xs ys:List V} {r:Bool},fB qs xs ys=some r→xs.length=qs.length∧ys.length=qs.length
 | [],[],[],r,h=>⟨rfl,rfl⟩
 | q::qs,x::xs,y::ys,r,h=>by
  simp only [fB] at h
  split at h
  ·rename_i a b h1 h2
   have:=a0x h2
   simp [this]
  ·simp at h
 | [],_::_,_,_,h=>by simp [fB] at h
 | [],[],_::_,_,h=>by simp [fB] at h
 | _::_,[],_,_,h=>by simp [fB] at h
 | _::_,_::_,[],_,h=>by simp [fB] at h
theorem a6h:∀ {qs qs':List Nat} {xs ys:List V} {r:Bool},fB (qs++qs') xs ys=some r →
  ∃ a b,fB qs (xs.take qs.length) (ys.take qs.length)=some a∧fB qs' (xs.drop qs.length) (ys.drop qs.length)=some b∧r=(a && b)
 | [],qs',xs,ys,r,h=>⟨true,r,by simp [fB],h,by simp⟩
 | q::qs,qs',x::xs,y::ys,r,h=>by
  simp only [List.cons_append,fB] at h
  split at h
  ·rename_i a b h1 h2
   simp only [Option.some.injEq] at h
   obtain ⟨a',b',h3,h4,rfl⟩:=a6h h2
   refine ⟨a && a',b',by simp [fB,h1,h3],by simpa using h4,by rw [← h,Bool.and_assoc]⟩
  ·simp at h
 | _::_,_,[],_,_,h=>by simp [fB] at h
 | _::_,_,_::_,[],_,h=>by simp [fB] at h
end
section
variable {P:Program} {tt:TT} (hT:∀ t ti,cK tt t=some ti→bG P ti∧ti.t=t)
include hT
omit hT in
theorem aPt {d:Nat} {t:TypeId} {ti:TI} {qs:List Nat} (h1:cK tt t=some ti) (h2:leaves tt d t=some qs) (h3:ti.agg=false):qs.length=1:=by
 cases d with
 | zero=>simp [leaves] at h2
 | succ d =>
  unfold leaves at h2
  rw [h1] at h2
  simp only [h3,Bool.and_false,Bool.not_false,Bool.and_true,cond_false] at h2
  split at h2 <;> (try (simp at h2; done))
  all_goals (cases hb:Nat.beq ti.sz 1 <;> rw [hb] at h2 <;> simp at h2; subst h2; rfl)
theorem aEy {d:Nat} (ih:∀ t ti qs,cK tt t=some ti→leaves tt d t=some qs→qs.length=ti.sz∧∀ (X Y:List V) (r:Bool),fB qs X Y=some r→tY P d t (if ti.agg then .agg X else X.headD .undef) (if ti.agg then .agg Y else Y.headD .undef)=some r)
  (i1:∀ t ti qs,cK tt t=some ti→leaves tt d t=some qs→ti.agg=false→qs.length=1) :
  ∀ (fs : List Field) (n : Nat) (qs : List Nat), a6c tt (leaves tt d) n (fs.map fun f => (f.offset, f.type)) = some qs → fs.all (fun f => f.name != "_") = true → ∀ (xs ys : List V) (r : Bool),
   fB qs (xs.drop n) (ys.drop n)=some r→aDb P (tY P d) xs ys fs=some r
 | [],n,qs,h,_,xs,ys,r,he=>by
  simp only [List.map_nil,a6c,Option.some.injEq] at h
  subst h
  have:=a0x he
  rw [List.eq_nil_of_length_eq_zero this.1,List.eq_nil_of_length_eq_zero this.2] at he
  simp only [fB,Option.some.injEq] at he
  subst he
  rfl
 | f::fs,n,qs,h,hn,xs,ys,r,he=>by
  simp only [List.map_cons,a6c] at h
  split at h
  ·rename_i ti q1 hti hq1
   cases hc:(Nat.beq f.offset n && Nat.blt 0 ti.sz) with
   | false=>simp [hc] at h
   | true =>
    rw [hc] at h
    simp only [cond_true,Option.map_eq_some_iff] at h
    obtain ⟨q2,h,rfl⟩:=h
    simp only [Bool.and_eq_true] at hc
    have ho:=Nat.eq_of_beq_eq_true hc.1
    have hpos:0 < ti.sz:=Nat.le_of_ble_eq_true hc.2
    simp only [List.all_cons,Bool.and_eq_true] at hn
    obtain ⟨hl,h0⟩:=ih f.type ti q1 hti hq1
    have hlen:=a0x he
    obtain ⟨a,b,h1,h2,rfl⟩:=a6h he
    rw [hl,List.drop_drop,List.drop_drop] at h2
    have h3:=aEy ih i1 fs (n+ti.sz) q2 h hn.2 xs ys b h2
    rw [hl] at h1
    have h4:=h0 _ _ a h1
    obtain ⟨tok,htt⟩:=hT f.type ti hti
    have hp:∀ zs:List V,(zs.drop n).length=(q1++q2).length→a0r P f.type zs f.offset=some (if ti.agg then .agg ((zs.drop n).take ti.sz) else ((zs.drop n).take ti.sz).headD .undef):=by
     intro zs hz
     simp only [List.length_drop,List.length_append,hl] at hz
     unfold a0r
     have hag:=tok.agg; have hsz:=tok.sz
     rw [htt] at hag hsz
     rw [hag,hsz,ho]
     cases hg:ti.agg with
     | true =>
      simp only [if_true]
      rw [if_pos (by omega)]
     | false =>
      have h1:ti.sz=1:=by rw [← hl]; exact i1 f.type ti q1 hti hq1 hg
      simp only [h1]
      have:n < zs.length:=by omega
      rw [List.getElem?_eq_getElem this,List.drop_eq_getElem_cons this]
      rfl
    simp only [aDb]
    have hne : (f.name = "_") = False := by
     have:=hn.1
     simp only [bne_iff_ne,ne_eq] at this
     exact eq_false this
    simp only [hne,if_false,hp xs hlen.1,hp ys hlen.2,h4]
    cases a <;> simp [h3]
  ·simp at h
theorem aNx:∀ (d:Nat) (t:TypeId) (ti:TI) (qs:List Nat),cK tt t=some ti→leaves tt d t=some qs→qs.length=ti.sz∧∀ (X Y:List V) (r:Bool),fB qs X Y=some r →
  tY P d t (if ti.agg then .agg X else X.headD .undef) (if ti.agg then .agg Y else Y.headD .undef)=some r
 | 0,t,ti,qs,hti,hf=>by simp [leaves] at hf
 | d+1,t,ti,qs,hti,hf=>by
  obtain ⟨tok,htt⟩:=hT t ti hti
  have hdd:=tok.d
  rw [htt] at hdd
  simp only [leaves,hti] at hf
  have key:∀ q:Nat,(bif Nat.beq ti.sz 1 && !ti.agg then some [q] else none)=some qs→ti.sz=1∧ti.agg=false∧qs=[q]:=by
   intro q h
   cases hc:(Nat.beq ti.sz 1 && !ti.agg) with
   | false=>simp [hc] at h
   | true =>
    rw [hc] at h
    simp only [cond_true,Option.some.injEq] at h
    simp only [Bool.and_eq_true,Bool.not_eq_true'] at hc
    exact ⟨Nat.eq_of_beq_eq_true hc.1,hc.2,h.symm⟩
  have one:∀ {q:Nat} {X Y:List V} {r:Bool},fB [q] X Y=some r→∃ x y,X=[x]∧Y=[y]∧eqS q x y=some r:=by
   intro q X Y r h
   have:=a0x h
   obtain ⟨x,rfl⟩:=List.length_eq_one_iff.1 this.1
   obtain ⟨y,rfl⟩:=List.length_eq_one_iff.1 this.2
   refine ⟨x,y,rfl,rfl,?_⟩
   simp only [fB] at h
   cases hq:eqS q x y <;> simp [hq] at h
   rw [h]
  cases hd:ti.d with
  | bool =>
   rw [hd] at hf hdd
   simp only [aDj] at hdd
   obtain ⟨h1,h2,rfl⟩:=key 0 hf
   refine ⟨h1.symm,fun X Y r he=>?_⟩
   obtain ⟨x,y,rfl,rfl,hs⟩:=one he
   simp only [h2,tY,hdd]
   clear one key tok hf hdd hd he
   cases x <;> cases y <;> simp [eqS] at hs ⊢ <;> exact hs
  | int k =>
   rw [hd] at hf hdd
   simp only [aDj] at hdd
   obtain ⟨h1,h2,rfl⟩:=key 1 hf
   refine ⟨h1.symm,fun X Y r he=>?_⟩
   obtain ⟨x,y,rfl,rfl,hs⟩:=one he
   simp only [h2,tY,hdd]
   clear one key tok hf hdd hd he
   cases x <;> cases y <;> simp [eqS] at hs ⊢ <;> exact hs
  | str =>
   rw [hd] at hf hdd
   simp only [aDj] at hdd
   obtain ⟨h1,h2,rfl⟩:=key 2 hf
   refine ⟨h1.symm,fun X Y r he=>?_⟩
   obtain ⟨x,y,rfl,rfl,hs⟩:=one he
   simp only [h2,tY,hdd]
   clear one key tok hf hdd hd he
   cases x <;> cases y <;> simp [eqS] at hs ⊢ <;> exact hs
  | st fs =>
   rw [hd] at hf hdd
   obtain ⟨a,hu,hfs,hbl⟩:=hdd
   cases hc:(ti.eq && ti.agg) with
   | false=>simp [hc] at hf
   | true =>
    simp only [hc,cond_true] at hf
    simp only [Bool.and_eq_true] at hc
    split at hf
    ·rename_i q hq
     cases hl:Nat.beq q.length ti.sz with
     | false=>simp [hl] at hf
     | true =>
      simp only [hl,cond_true,Option.some.injEq] at hf
      subst hf
      refine ⟨Nat.eq_of_beq_eq_true hl,fun X Y r he=>?_⟩
      have hst:=(tok.eq hc.1).1
      rw [htt] at hst
      simp only [hc.2,if_true,tY,hu,hst,Bool.false_eq_true,if_false]
      rw [← hfs] at hq
      refine aEy hT (fun t ti qs h1 h2=>aNx d t ti qs h1 h2) (fun t ti qs h1 h2 h3=>?_) a.toList 0 q hq hbl X Y r (by simpa using he)
      exact aPt h1 h2 h3
    ·simp at hf
  | _=>rw [hd] at hf; simp at hf
end
end Go.Fbs

/- The words answer what the operations do: one by one. -/
namespace Go.Fbs
section
variable {x y i w:V}
theorem b3m {op:UnOp} (h:unV op x.aI=some w):∃ v,unV op x=some v∧v.aI=w:=by
 unfold unV at h
 split at h
 ·rename_i h1
  rw [jA h1]
  simp only [Option.some.injEq] at h
  subst h
  exact ⟨_,rfl,rfl⟩
 ·rename_i h1
  rw [l9 h1]
  simp only [Option.some.injEq] at h
  subst h
  exact ⟨_,rfl,rfl⟩
 ·simp at h
theorem aY0 {k:IntKind} (h:kF k x.aI=some w):∃ v,kF k x=some v∧v.aI=w:=by
 unfold kF at h
 split at h
 ·rename_i h1
  rw [jA h1]
  simp only [Option.some.injEq] at h
  subst h
  exact ⟨_,rfl,rfl⟩
 ·simp at h
theorem aU8 (h:sP x.aI=some w):∃ v,sP x=some v∧v.aI=w:=by
 unfold sP at h
 split at h
 ·rename_i h1
  rw [xH h1]
  simp only [Option.some.injEq] at h
  subst h
  exact ⟨_,rfl,rfl⟩
 ·simp at h
theorem aCq:∀ {es:List V} {bs:List UInt8},(es.map V.aI).mapM (fun (v:V)=>match v with | .int .u8 n=>some (UInt8.ofNat n.toNat) | _=>none)=some bs →
  es.mapM (fun (v:V)=>match v with | .int .u8 n=>some (UInt8.ofNat n.toNat) | _=>none)=some bs
 | [],bs,h=>h
 | e::es,bs,h=>by
  simp only [List.map_cons,List.mapM_cons,Option.bind_eq_bind,Option.bind_eq_some_iff] at h ⊢
  obtain ⟨b,h1,bs',h2,h3⟩:=h
  refine ⟨b,?_,bs',aCq h2,h3⟩
  split at h1
  ·rename_i h4; rw [jA h4]; exact h1
  ·simp at h1
theorem aU9 (h:mN x.aI=some w):∃ v,mN x=some v∧v.aI=w:=by
 unfold mN at h
 split at h
 ·rename_i g es h1
  obtain ⟨g',es',rfl,rfl⟩:=a95 h1
  simp only [Option.map_eq_some_iff] at h
  obtain ⟨bs,h2,rfl⟩:=h
  exact ⟨.str bs,congrArg (Option.map V.str) (aCq h2),rfl⟩
 ·simp at h
theorem a4p {x:Option V} {d t n:Nat} (h:iE (x.map V.aI) d t=some n):iE x d t=some n:=by
 cases x with
 | none=>exact h
 | some v =>
  simp only [Option.map_some,iE] at h
  split at h
  ·rename_i h1; simp at h1
  ·rename_i h1
   simp only [Option.some.injEq] at h1
   rw [jA h1]; exact h
  ·simp at h
theorem b2k {lo hi:Option V} (h:cO x.aI (lo.map V.aI) (hi.map V.aI)=some w):∃ v,cO x lo hi=some v∧v.aI=w:=by
 unfold cO at h
 split at h
 ·rename_i s h1
  rw [xH h1]
  split at h
  ·rename_i hh h2
   split at h
   ·rename_i l h3
    simp only [Option.some.injEq] at h
    subst h
    exact ⟨_,by simp only [cO,a4p h2,a4p h3]; rfl,rfl⟩
   ·simp at h
  ·simp at h
 ·simp at h
theorem a5i (es:List V) (n:Nat):(es.map V.aI).all (fun e=>e.cells.length == n)=es.all (fun e=>e.cells.length == n):=by
 rw [List.all_map]; congr 1; funext v; simp only [Function.comp_def,nY]
theorem b2l {n:Nat} {lo hi:Option V} (h:aDg n x.aI (lo.map V.aI) (hi.map V.aI)=some w):∃ v,aEk n x lo hi=some v∧v.aI=w:=by
 unfold aDg at h
 split at h
 ·rename_i g es h1
  obtain ⟨g',es,rfl,rfl⟩:=a95 h1
  rw [List.length_map] at h
  split at h
  ·rename_i hh h2
   split at h
   ·rename_i l h3
    rw [a5i] at h
    split at h
    ·rename_i h4
     simp only [Option.some.injEq] at h
     subst h
     refine ⟨_,by simp only [aEk,a4p h2,a4p h3]; exact if_pos h4,?_⟩
     simp [V.aI,bP,List.map_take,List.map_drop]
    ·simp at h
   ·simp at h
  ·simp at h
 ·simp at h
theorem b0l (h:cV x.aI i.aI=some w):∃ v,cV x i=some v∧v.aI=w:=by
 unfold cV at h
 split at h
 ·rename_i s k n h1 h2
  rw [xH h1,jA h2]
  split at h
  ·rename_i hn
   simp only [Option.map_eq_some_iff] at h
   obtain ⟨b,h3,rfl⟩:=h
   exact ⟨_,by simp only [cV]; rw [if_pos hn,h3]; rfl,rfl⟩
  ·simp at h
 ·simp at h
theorem aGm {g:Bool} {n off:Nat} {cs:List V} (h:nI g n (cs.map V.aI) off=some w):∃ v,nI g n cs off=some v∧v.aI=w:=by
 unfold nI at h ⊢
 cases g with
 | true =>
  simp only [if_true,List.length_map] at h ⊢
  split at h
  ·rename_i hl
   simp only [Option.some.injEq] at h
   subst h
   refine ⟨_,if_pos hl,?_⟩
   simp [V.aI,bP,List.map_take,List.map_drop]
  ·simp at h
 | false =>
  simp only [Bool.false_eq_true,if_false,List.getElem?_map,Option.map_eq_some_iff] at h ⊢
  exact h
theorem b0m {len n:Nat} {g:Bool} (h:a3f len g n x.aI i.aI=some w):∃ v,a3f len g n x i=some v∧v.aI=w:=by
 unfold a3f at h
 split at h
 ·rename_i cs k m h1 h2
  obtain ⟨cs,rfl,rfl⟩:=a6g h1
  rw [jA h2]
  split at h
  ·rename_i hn
   obtain ⟨v,h3,h4⟩:=aGm h
   exact ⟨v,by simp only [a3f]; rw [if_pos hn,h3],h4⟩
  ·simp at h
 ·simp at h
theorem uD {n:Nat} {v u:V} (h:aP n v=some u):u=v∧∃ cs,v = .agg cs∧cs.length=n∧cs.all sc=true:=by
 unfold aP at h
 split at h
 ·split at h
  ·rename_i hc
   simp only [Option.some.injEq] at h
   exact ⟨h.symm,_,rfl,hc.1,hc.2⟩
  ·simp at h
 ·simp at h
theorem oT {v u:V} (h:iI v=some u):u=v∧sc v=true:=by
 unfold iI at h
 split at h
 ·rename_i hs
  simp only [Option.some.injEq] at h
  exact ⟨h.symm,hs⟩
 ·simp at h
theorem aR6 {g:Bool} {n off:Nat} (h:aI0 g n off x.aI=some w):∃ cs v,x = .agg cs∧nI g n cs off=some v∧v.aI=w∧(if g then aP n w=some w else sc w=true):=by
 unfold aI0 at h
 split at h
 ·rename_i cs h1
  obtain ⟨cs,rfl,rfl⟩:=a6g h1
  cases g with
  | true =>
   simp only [if_true] at h ⊢
   split at h
   ·rename_i hl
    obtain ⟨rfl,cs',h2,h3⟩:=uD h
    obtain ⟨v,h4,h5⟩:=aGm (g:=true) (n:=n) (off:=off) (cs:=cs) (w:=.agg ((cs.map V.aI).drop off |>.take n)) (by unfold nI; simp only [if_true]; rw [if_pos hl])
    exact ⟨cs,v,rfl,h4,h5,h⟩
   ·simp at h
  | false =>
   simp only [Bool.false_eq_true,if_false] at h ⊢
   split at h
   ·rename_i c hc
    obtain ⟨rfl,h2⟩:=oT h
    obtain ⟨v,h4,h5⟩:=aGm (g:=false) (n:=n) (off:=off) (cs:=cs) (w:=w) (by unfold nI; simp only [Bool.false_eq_true,if_false]; exact hc)
    exact ⟨cs,v,rfl,h4,h5,h2⟩
   ·simp at h
 ·simp at h
theorem uX {n:Nat} (hn:0 < n) {v:V} (h:aP n v=some v):kI n v:=by
 obtain ⟨_,cs,h1,h2,h3⟩:=uD h
 cases n with
 | zero=>omega
 | succ n=>exact ⟨cs,h1,h2,h3⟩
theorem b0n {g:Bool} {n:Nat} (h:gS g n x.aI i.aI=some w) (hn:0 < n) (h1:g=false→n=1):∃ cs,xS n x i=some (.ro cs)∧cs.map V.aI=w.cells∧kI (if g then n else 0) w:=by
 unfold gS at h
 split at h
 ·rename_i t es k m h2 h3
  obtain ⟨t,es,rfl,rfl⟩:=a95 h2
  rw [jA h3]
  split at h
  ·rename_i hm
   rw [List.getElem?_map] at h
   cases he : es[m.toNat]? with
   | none=>simp [he] at h
   | some e =>
    simp only [he,Option.map_some] at h
    have hlen:e.cells.length=n∧w=e.aI∧kI (if g then n else 0) w:=by
     cases g with
     | true =>
      simp only [if_true] at h ⊢
      obtain ⟨rfl,cs,h4,h5,h6⟩:=uD h
      refine ⟨?_,rfl,uX hn h⟩
      rw [← nY,h4]; exact h5
     | false =>
      simp only [Bool.false_eq_true,if_false] at h ⊢
      obtain ⟨rfl,h4⟩:=oT h
      refine ⟨?_,rfl,h4⟩
      rw [← nY,a3h h4,h1 rfl]; rfl
    obtain ⟨h4,rfl,h5⟩:=hlen
    refine ⟨e.cells,?_,(a05 e).symm,h5⟩
    simp only [xS]
    rw [if_pos hm,he]
    simp [h4]
  ·simp at h
 ·simp at h
theorem b2m {j:Nat} (h:extractV x.aI j=some w):∃ v,extractV x j=some v∧v.aI=w:=by
 unfold extractV at h
 split at h
 ·rename_i vs h1
  obtain ⟨vs,rfl,rfl⟩:=aYy h1
  simp only [List.getElem?_map,Option.map_eq_some_iff] at h
  exact h
 ·simp at h
theorem b0o {P:Program} {g:Bool} {ts:List TypeId} (h:mmK g x.aI y.aI=some w):∃ v,rG P (if g then .max else .min) ts [x,y]=some v∧v.aI=w:=by
 unfold mmK at h
 split at h
 ·rename_i k a k' b h1 h2
  rw [jA h1,jA h2]
  simp only [Option.some.injEq] at h
  subst h
  cases g <;> exact ⟨_,rfl,rfl⟩
 ·simp at h
theorem b0p (h:aI2 x.aI=some w):∃ v,nilV x=some v∧v.aI=w:=by
 unfold aI2 at h
 split at h
 ·rename_i f cs h1
  obtain ⟨cs,rfl,rfl⟩:=aKk h1
  simp only [Option.some.injEq] at h
  exact ⟨_,rfl,by rw [← h]; simp [V.aI,bP]⟩
 ·simp at h
def aVa (m:Hp) (v:V):Option (Nat×List V) :=
 match v with
 | .ptr l o =>
  match m.H[l]? with
  | some (.cells _ cs)=>some (o,cs)
  | _=>none
 | _=>none
def isSelf:V→Bool
 | .nilp=>true
 | .ptr _ _=>true
 | _=>false
def kT:List CK→List V→Bool
 | [],[]=>true
 | .pl::ks,_::ss=>kT ks ss
 | .self _::ks,s::ss=>kT ks ss && isSelf s
 | .gr _ _::ks,s::ss=>kT ks ss && aKd s
 | _,_=>false
def a2f (m:Hp):List AK→List V→Bool
 | [],[]=>true
 | .v::ks,_::xs=>a2f m ks xs
 | .b off cks::ks,x::xs=>(match aVa m x with | some q=>(Nat.beq q.1 off && a2f m ks xs) && kT cks q.2 | none=>false)
 | _,_=>false
def aEz (m:Hp) (sg:gY) (xs:List V):Bool :=
 match nU sg.gr xs with
 | some ys=>a2f m sg.as ys
 | none=>false
def findD (tt:TT) (m:Hp) (f:FuncId) (xs:List V):List FuncId→Option (FuncId×gY)
 | []=>none
 | e::r =>
  match a0v tt e with
  | some q=>bif Nat.beq q.1 f && aEz m q.2 xs then some (e,q.2) else findD tt m f xs r
  | none=>findD tt m f xs r
noncomputable def a7u (tt:TT) (p:PT):ET:=fun f args m =>
 match findD tt m f args (tt.sg.map (·.1)) with
 | some (e,sg)=>aGf sg (p e) args m
 | none=>none
theorem yB {tt:TT} {m:Hp} {f:FuncId} {xs:List V} {e:FuncId} {sg:gY} : ∀ {l:List FuncId},findD tt m f xs l=some (e,sg)→a0v tt e=some (f,sg)
 | [],h=>by simp [findD] at h
 | e'::r,h=>by
  simp only [findD] at h
  split at h
  ·rename_i q hq
   cases hc:(Nat.beq q.1 f && aEz m q.2 xs) with
   | true =>
    rw [hc] at h
    simp only [cond_true,Option.some.injEq,Prod.mk.injEq] at h
    obtain ⟨rfl,rfl⟩:=h
    simp only [Bool.and_eq_true] at hc
    rw [hq,← Nat.eq_of_beq_eq_true hc.1]
   | false=>rw [hc] at h; exact yB h
  ·exact yB h
noncomputable abbrev CE (tt:TT) (p:PT):bZ:=⟨isE tt,fun f a=>bif Nat.blt f wW then p f (a.map V.aI) else none,a7u tt p,hasN tt.dyn,aPl tt⟩
theorem aY1 {tt:TT} {p:PT} {l:List V} (h:aEm p x.aI (l.map V.aI)=some w):∃ v,aD7 (CE tt p) x l=some v∧v=w:=by
 unfold aEm at h
 split at h
 ·rename_i f cs h1
  obtain ⟨cs,rfl,rfl⟩:=aKk h1
  refine ⟨w,?_,rfl⟩
  simp only [aD7]
  rw [List.map_append]; exact h
 ·simp at h
end
def fX (ρ:Nat→V):Gd→Prop
 | none=>True
 | some (a,b)=>a.den ρ = .bool b
def cR (ρ:Nat→V) (gk:Nat→Option Nat) (gb:List Nat) (T:List (Nat×Nat)):SV→V→Prop
 | .val a,v=>v.aI=a.den ρ
 | .kA a g,v=>(fX ρ g→v.aI=a.den ρ)∧(¬ fX ρ g→v = .undef)
 | .grow k sz a,v=>∃ es,a.den ρ = .sl .ro (es.map V.aI) ∧ ((v = .sl .full es ∧ (sz = 1 → es.length = 0)) ∨ ∃ i,gk k = some i ∧ v = .sl (.own i) es ∧ T[i]? = some (es.length,sz))
 | .kB,v=>v = .sl .full []
 | .elem a n off g,v=>(fX ρ g→∃ cs:List V,v = .ro (cs.drop off)∧cs.map V.aI=(a.den ρ).cells∧kI n (a.den ρ))∧(¬ fX ρ g→v = .undef)
 | .ptr b off g,v=>(fX ρ g → ∃ l : Nat,gb[b]? = some l ∧ v = .ptr l off) ∧ (¬ fX ρ g → v = .undef)
 | .pix b off n i g,v=>(fX ρ g → ∃ (l : Nat) (q : IntKind) (z : Nat),gb[b]? = some l ∧ i.den ρ = .int q z ∧ z < n ∧ v = .ptr l (off + z)) ∧ (¬ fX ρ g → v = .undef)
 | .stv a nl,v=>v.aI = a.den ρ ∧ ∃ cs,v = .agg cs ∧ ∀ j ∈ nl,cs[j]? = some (.sl .full [])
 | .self _ b a,v=>∃ l : Nat,gb[b]? = some l ∧ ((a.den ρ = .bool false ∧ v = .nilp) ∨ (a.den ρ = .bool true ∧ v = .ptr l 0))
 | .lR f caps,v=>∃ cs,v = .func f cs ∧ cs.length = caps.length ∧ ∀ (i : Nat) q c,caps[i]? = some q → cs[i]? = some c → ∃ l,gb[q.2]? = some l ∧ c = .ptr l 0
def Cells (ρ:Nat→V) (gk:Nat→Option Nat) (gb:List Nat) (T:List (Nat×Nat)) (nv:Nat) (cells:List SV) (cs:List V):Prop :=
 cells.length = cs.length ∧ ∀ (j : Nat) s c,cells[j]? = some s → cs[j]? = some c → cR ρ gk gb T s c ∧ s.below nv = true
def STy (cells : List SV) (e : Option Nat) : Prop:=∀ (j t b : Nat) a,cells[j]? = some (.self t b a) → e = some t
def HAt (m : Hp) (l : Nat) (cells : List SV) (cs : List V) : Prop:=∃ e,m.H[l]? = some (.cells e cs) ∧ STy cells e
structure aK (N:Nat) (gk:Nat→Option Nat) (gb:List Nat) (S:SS) (ρ:Nat→V) (env:Env) (m:Hp):Prop where
 n:env.n=N
 bM:∀ t s,S.look t=some s→t < N∧cR ρ gk gb m.T s (env.f t)∧s.below S.nv=true
 boxes : ∀ (b : Nat) cells,S.boxes[b]? = some (some cells) → ∃ (l : Nat) (cs : List V),gb[b]? = some l ∧ HAt m l cells cs ∧ Cells ρ gk gb m.T S.nv cells cs
 jC:gb.length=S.boxes.length
 lA : ∀ (b b' l : Nat),gb[b]? = some l → gb[b']? = some l → b = b'
 blt:∀ l ∈ gb,l < m.H.length
 iV:∀ k k' i,gk k=some i→gk k'=some i→k=k'
 pR:∀ k i,gk k=some i→k < S.nk∧i < m.T.length
 known:∀ i n,assoc S.known i=some n→i < S.nv∧kI n (ρ i)
 cD:∀ i ∈ S.cD,i < S.nv∧rI (ρ i)=true
 own : ∀ b,b < S.own → gb[b]? = some b
def aS (ρ ρ':Nat→V) (n:Nat):Prop:=∀ i,i < n→ρ' i=ρ i
theorem aS.refl (ρ:Nat→V) (n:Nat):aS ρ ρ n:=fun _ _=>rfl
theorem aS.trans {ρ ρ' ρ'':Nat→V} {n n':Nat} (h:aS ρ ρ' n) (h':aS ρ' ρ'' n') (hn:n≤n'):aS ρ ρ'' n:=fun i hi=>(h' i (by omega)).trans (h i hi)
theorem bI (ρ:Nat→V) (n:Nat) (y:V):aS ρ (ext ρ n y) n:=by
 intro i hi
 unfold ext
 have:Nat.beq i n=false:=by
  cases h:Nat.beq i n with
  | false=>rfl
  | true=>have:=Nat.eq_of_beq_eq_true h; omega
 rw [this]; rfl
theorem iP (ρ:Nat→V) (n:Nat) (y:V):ext ρ n y n=y:=by simp [ext]
theorem gH {i n:Nat} (h:Nat.blt i n=true):i < n:=Nat.le_of_ble_eq_true h
theorem fY {ρ ρ':Nat→V} {n:Nat} (h:aS ρ ρ' n) {a:A} (ha:a.below n=true):a.den ρ'=a.den ρ:=by
 cases a with
 | v i=>exact h i (gH ha)
 | k x=>rfl
 | c i j=>show aA (ρ' i) j=aA (ρ i) j; rw [h i (gH ha)]
theorem oU {ρ ρ':Nat→V} {n:Nat} (h:aS ρ ρ' n) {g:Gd} (hg:g.below n=true):fX ρ' g↔fX ρ g:=by
 cases g with
 | none=>exact Iff.rfl
 | some q=>obtain ⟨a,b⟩:=q; simp only [fX]; rw [fY h hg]
theorem cR.agree {ρ ρ':Nat→V} {n:Nat} (h:aS ρ ρ' n) {gk:Nat→Option Nat} {gb:List Nat} {T:List (Nat×Nat)} {s:SV} {v:V} (hs:s.below n=true) (r:cR ρ gk gb T s v):cR ρ' gk gb T s v:=by
 cases s with
 | val a=>simp only [cR]; rw [fY h hs]; exact r
 | kA a g =>
  simp only [SV.below,Bool.and_eq_true] at hs
  simp only [cR]; rw [fY h hs.1,oU h hs.2]; exact r
 | grow k sz a=>simp only [cR]; rw [fY h hs]; exact r
 | kB=>exact r
 | elem a m off g =>
  simp only [SV.below,Bool.and_eq_true] at hs
  simp only [cR]; rw [fY h hs.1,oU h hs.2]; exact r
 | ptr b off g=>simp only [cR]; rw [oU h hs]; exact r
 | pix b off n i g =>
  simp only [SV.below,Bool.and_eq_true] at hs
  simp only [cR]; rw [fY h hs.1,oU h hs.2]; exact r
 | stv a nl=>exact ⟨by rw [fY h hs]; exact r.1,r.2⟩
 | lR f caps=>exact r
 | self t b a=>simp only [cR]; rw [fY h hs]; exact r
theorem A.bN {a:A} {n n':Nat} (h:a.below n=true) (hn:n≤n'):a.below n'=true:=by
 cases a with
 | v i=>exact Nat.ble_eq_true_of_le (Nat.le_trans (gH h) hn)
 | k x=>rfl
 | c i j=>exact Nat.ble_eq_true_of_le (Nat.le_trans (gH h) hn)
theorem Gd.bN {g:Gd} {n n':Nat} (h:Gd.below n g=true) (hn:n≤n'):Gd.below n' g=true:=by
 cases g with
 | none=>rfl
 | some q=>exact A.bN (a:=q.1) h hn
theorem SV.bN {s:SV} {n n':Nat} (h:s.below n=true) (hn:n≤n'):s.below n'=true:=by
 cases s with
 | val a=>exact A.bN (a:=a) h hn
 | kA a g =>
  simp only [SV.below,Bool.and_eq_true] at h ⊢
  exact ⟨A.bN h.1 hn,Gd.bN h.2 hn⟩
 | grow k sz a=>exact A.bN (a:=a) h hn
 | kB=>rfl
 | elem a m off g =>
  simp only [SV.below,Bool.and_eq_true] at h ⊢
  exact ⟨A.bN h.1 hn,Gd.bN h.2 hn⟩
 | ptr b off g=>exact Gd.bN (g:=g) h hn
 | pix b off m i g =>
  simp only [SV.below,Bool.and_eq_true] at h ⊢
  exact ⟨A.bN h.1 hn,Gd.bN h.2 hn⟩
 | stv a nl=>exact A.bN (a:=a) h hn
 | lR f caps=>rfl
 | self t b a=>exact A.bN (a:=a) h hn
theorem Cells.agree {ρ ρ':Nat→V} {n n':Nat} (h:aS ρ ρ' n) (hn:n≤n') {gk:Nat→Option Nat} {gb:List Nat} {T:List (Nat×Nat)} {cells:List SV} {cs:List V} (r:Cells ρ gk gb T n cells cs):Cells ρ' gk gb T n' cells cs :=
 ⟨r.1,fun j s c h1 h2=>let ⟨h3,h4⟩:=r.2 j s c h1 h2; ⟨h3.agree h h4,SV.bN h4 hn⟩⟩
theorem aK.more {N:Nat} {gk:Nat→Option Nat} {gb:List Nat} {S:SS} {ρ ρ':Nat→V} {env:Env} {m:Hp} (c:aK N gk gb S ρ env m) (h:aS ρ ρ' S.nv) {nv:Nat} (hn:S.nv≤nv) {kn:List (Nat×Nat)}
  (hk:∀ i n,assoc kn i=some n→i < nv∧kI n (ρ' i)) {bl:List Nat×List Nat} (hl:∀ i ∈ bl.1,i < nv∧rI (ρ' i)=true):aK N gk gb (S.j8 nv kn bl) ρ' env m where
 n:=c.n
 bM t s hs:=let ⟨h1,h2,h3⟩:=c.bM t s hs; ⟨h1,h2.agree h h3,SV.bN h3 hn⟩
 boxes b cells hb:=let ⟨l,cs,h0,h1,h2⟩:=c.boxes b cells hb; ⟨l,cs,h0,h1,h2.agree h hn⟩
 jC:=c.jC
 lA:=c.lA
 blt:=c.blt
 iV:=c.iV
 pR:=c.pR
 known:=hk
 cD:=hl
 own:=c.own
section
variable {N:Nat} {gk:Nat→Option Nat} {gb:List Nat} {S:SS} {ρ:Nat→V} {env:Env} {m:Hp}
theorem rM {T : List (Nat × Nat)} {s : SV} {v : V} {a : A} (r : cR ρ gk gb T s v) (h : s.a? = some a) : v.aI = a.den ρ:=by
 cases s <;> simp [SV.a?] at h
 ·subst h; exact r
 ·subst h
  obtain ⟨es,h1,h2⟩:=r
  rw [h1]
  rcases h2 with ⟨rfl,_⟩ | ⟨i,_,rfl,_⟩ <;> simp [V.aI,bP]
 ·subst h
  have:v = .sl .full []:=r
  rw [this]; rfl
 ·subst h; exact r.1
theorem a2g {t b:Nat} {s:SV} {a:A} (h:a4k t b s=some a):s = .self t b a:=by
 unfold a4k at h
 split at h
 ·rename_i t' b' a'
  cases hc:(Nat.beq t' t && Nat.beq b' b) with
  | false=>rw [hc] at h; simp at h
  | true =>
   rw [hc] at h
   simp only [cond_true,Option.some.injEq] at h
   simp only [Bool.and_eq_true] at hc
   rw [h,Nat.eq_of_beq_eq_true hc.1,Nat.eq_of_beq_eq_true hc.2]
 ·simp at h
theorem aKl {T : List (Nat × Nat)} {t b l : Nat} {s : SV} {a : A} {v : V} (h : a4k t b s = some a) (hb : gb[b]? = some l) (r : cR ρ gk gb T s v) :
  (a.den ρ = .bool false∧v = .nilp)∨(a.den ρ = .bool true∧v = .ptr l 0):=by
 obtain ⟨rfl⟩:=a2g h
 obtain ⟨l',h1,h2⟩:=r
 rw [hb] at h1
 simp only [Option.some.injEq] at h1
 subst h1
 exact h2
theorem aPu {t b:Nat} {s:SV} {a:A} {n:Nat} (hb:s.below n=true) (h:a4k t b s=some a):a.below n=true:=by
 obtain ⟨rfl⟩:=a2g h
 exact hb
theorem uY {s : SV} {a : A} {n : Nat} (hb : s.below n = true) (h : s.a? = some a) : a.below n = true:=by
 cases s <;> simp [SV.a?] at h <;> subst h <;> first | exact hb | rfl
theorem a2h (v:V):(∀ T,cR ρ gk gb T (a2y v) v)∧∀ n,(a2y v).below n=true:=by
 unfold a2y
 split
 ·exact ⟨fun _=>rfl,fun _=>rfl⟩
 ·exact ⟨fun _=>rfl,fun _=>rfl⟩
theorem aK.fT (c:aK N gk gb S ρ env m) {x:Operand} {s:SV} (h:S.fT x=some s):∃ v,Fbs.ev env x=some v∧cR ρ gk gb m.T s v∧s.below S.nv=true:=by
 cases x with
 | tmp t =>
  obtain ⟨h1,h2,h3⟩:=c.bM t s h
  refine ⟨env.f t,?_,h2,h3⟩
  simp only [Fbs.ev,Env.get]
  rw [if_pos (by rw [c.n]; exact h1)]
 | const v =>
  simp only [SS.fT,Option.map_eq_some_iff] at h
  obtain ⟨u,h1,rfl⟩:=h
  exact ⟨u,h1,(a2h (ρ:=ρ) (gk:=gk) (gb:=gb) u).1 _,(a2h (ρ:=ρ) (gk:=gk) (gb:=gb) u).2 _⟩
 | func f =>
  simp only [SS.fT,Option.some.injEq] at h
  subst h
  exact ⟨_,rfl,rfl,rfl⟩
 | global g=>simp [SS.fT] at h
theorem aK.sR (c:aK N gk gb S ρ env m) {x:Operand} {a:A} (h:S.sR x=some a):∃ v,Fbs.ev env x=some v∧v.aI=a.den ρ∧a.below S.nv=true:=by
 simp only [SS.sR,Option.bind_eq_some_iff] at h
 obtain ⟨s,h1,h2⟩:=h
 obtain ⟨v,h3,h4,h5⟩:=c.fT h1
 exact ⟨v,h3,rM h4 h2,uY h5 h2⟩
theorem a96 {T:List (Nat×Nat)} {s:SV} {v:V} {a:A} {g:Gd} (hsame:∀ a b:Gd,Gd.same a b=true→a=b) (r:cR ρ gk gb T s v) (h:s.ag g=some a):fX ρ g→v.aI=a.den ρ:=by
 cases s with
 | kA a' g' =>
  simp only [SV.ag] at h
  cases hg:Gd.same g' g with
  | false=>rw [hg] at h; simp at h
  | true =>
   rw [hg] at h
   simp only [cond_true,Option.some.injEq] at h
   subst h
   rw [← hsame g' g hg]; exact r.1
 | _=>exact fun _=>rM r h
theorem a7v {s:SV} {a:A} {g:Gd} {n:Nat} (hb:s.below n=true) (h:s.ag g=some a):a.below n=true:=by
 cases s with
 | kA a' g' =>
  simp only [SV.ag] at h
  simp only [SV.below,Bool.and_eq_true] at hb
  cases hg:Gd.same g' g with
  | false=>rw [hg] at h; simp at h
  | true=>rw [hg] at h; simp only [cond_true,Option.some.injEq] at h; subst h; exact hb.1
 | _=>exact uY hb h
theorem aPv {x y:V} (h:sameV x y=true):x=y:=by
 unfold sameV at h
 split at h <;> simp_all
theorem A.dZ {a b:A} (h:a.same b=true):a=b:=by
 unfold A.same at h
 split at h
 ·rw [Nat.eq_of_beq_eq_true h]
 ·simp only [Bool.and_eq_true] at h
  rw [Nat.eq_of_beq_eq_true h.1,Nat.eq_of_beq_eq_true h.2]
 ·rw [aPv h]
 ·simp at h
theorem Gd.dZ {a b:Gd} (h:Gd.same a b=true):a=b:=by
 unfold Gd.same at h
 split at h
 ·rfl
 ·simp only [Bool.and_eq_true,beq_iff_eq] at h
  rw [A.dZ h.1,h.2]
 ·simp at h
theorem aK.gZ (c:aK N gk gb S ρ env m) {g:Gd} {x:Operand} {a:A} (h:S.gZ g x=some a):∃ v,Fbs.ev env x=some v∧(fX ρ g→v.aI=a.den ρ)∧a.below S.nv=true:=by
 simp only [SS.gZ,Option.bind_eq_some_iff] at h
 obtain ⟨s,h1,h2⟩:=h
 obtain ⟨v,h3,h4,h5⟩:=c.fT h1
 exact ⟨v,h3,a96 (fun _ _=>Gd.dZ) h4 h2,a7v h5 h2⟩
theorem aK.kZ (c:aK N gk gb S ρ env m) {g:Gd} : ∀ {xs:List Operand} {as:List A},S.kZ g xs=some as→∃ vs,Fbs.evs env xs=some vs∧(fX ρ g→vs.map V.aI=as.map (A.den ρ))∧as.all (A.below S.nv)=true∧vs.length=as.length
 | [],as,h=>by simp [SS.kZ] at h; subst h; exact ⟨[],rfl,fun _=>rfl,rfl,rfl⟩
 | x::xs,as,h=>by
  simp only [SS.kZ] at h
  split at h
  ·rename_i a as' h1 h2
   simp only [Option.some.injEq] at h
   subst h
   obtain ⟨v,h3,h4,h5⟩:=c.gZ h1
   obtain ⟨vs,h6,h7,h8,h9⟩:=c.kZ h2
   exact ⟨v::vs,by simp only [Fbs.evs,h3,h6],fun hon=>by simp [h4 hon,h7 hon],by simp only [List.all_cons,h5,h8]; rfl,by simp [h9]⟩
  ·simp at h
theorem aK.a4j (c:aK N gk gb S ρ env m) {g:Gd} {x:Option Operand} {a:Option A} (h:S.a4j g x=some a):∃ v,optEv env x=some v∧(fX ρ g→v.map V.aI=a.map (A.den ρ))∧(∀ b,a=some b→b.below S.nv=true):=by
 cases x with
 | none=>simp [SS.a4j] at h; subst h; exact ⟨none,rfl,fun _=>rfl,fun _ h=>by simp at h⟩
 | some x =>
  simp only [SS.a4j,Option.map_eq_some_iff] at h
  obtain ⟨a,h1,rfl⟩:=h
  obtain ⟨v,h3,h4,h5⟩:=c.gZ h1
  exact ⟨some v,by simp [optEv,h3],fun hon=>by simp [h4 hon],fun b hb=>by simp at hb; subst hb; exact h5⟩
theorem aK.a7p (c:aK N gk gb S ρ env m) {g side:Gd} {x:Operand} {a:A} (h:S.a7p g side x=some a):∃ v,Fbs.ev env x=some v∧(fX ρ g→fX ρ side→v.aI=a.den ρ)∧a.below S.nv=true:=by
 simp only [SS.a7p,Option.bind_eq_some_iff] at h
 obtain ⟨s,h1,h2⟩:=h
 obtain ⟨v,h3,h4,h5⟩:=c.fT h1
 unfold SV.pk at h2
 split at h2
 ·rename_i a' ha
  simp only [Option.some.injEq] at h2
  subst h2
  exact ⟨v,h3,fun hg _=>a96 (fun _ _=>Gd.dZ) h4 ha hg,a7v h5 ha⟩
 ·exact ⟨v,h3,fun _ hs=>a96 (fun _ _=>Gd.dZ) h4 h2 hs,a7v h5 h2⟩
theorem aK.jP (c:aK N gk gb S ρ env m) {a:A} {n:Nat} (h:S.jP a n=true):kI n (a.den ρ):=by
 cases a with
 | v i =>
  simp only [SS.jP] at h
  split at h
  ·rename_i q hq
   have:=Nat.eq_of_beq_eq_true h
   subst this
   exact (c.known i q hq).2
  ·simp at h
 | c i j =>
  simp only [SS.jP,Bool.and_eq_true] at h
  obtain ⟨h0,h⟩:=h
  have:=Nat.eq_of_beq_eq_true h0
  subst this
  split at h
  ·rename_i q hq
   have hj:=gH h
   have:=(c.known i q hq).2
   cases q with
   | zero=>omega
   | succ q =>
    obtain ⟨cs,h1,h2,h3⟩:=this
    show sc (aA (ρ i) j)=true
    rw [h1]
    simp only [aA,V.cells]
    rw [List.getD_eq_getElem?_getD,List.getElem?_eq_getElem (by omega)]
    exact List.all_eq_true.1 h3 _ (List.getElem_mem _)
  ·simp at h
 | k x =>
  simp only [SS.jP,Bool.and_eq_true] at h
  have:=Nat.eq_of_beq_eq_true h.1
  subst this
  exact h.2
theorem aKm {l:List Nat} {i:Nat} (h:hasN l i=true):i ∈ l:=by
 unfold hasN at h
 rw [List.any_eq_true] at h
 obtain ⟨j,h1,h2⟩:=h
 rw [Nat.eq_of_beq_eq_true h2]; exact h1
theorem aK.isB (c:aK N gk gb S ρ env m) {a:A} (h:S.isB a=true):rI (a.den ρ)=true:=by
 cases a with
 | v i=>exact (c.cD i (aKm h)).2
 | k x=>exact h
 | c i j=>simp [SS.isB] at h
theorem aK.wY (c:aK N gk gb S ρ env m) {a:A} (ha:a.below S.nv=true) (h:rI (a.den ρ)=true):∀ i ∈ S.wY a,i < S.nv∧rI (ρ i)=true:=by
 cases a with
 | v i =>
  intro j hj
  simp only [SS.wY] at hj
  cases hb:hasN S.cD i with
  | true=>rw [hb] at hj; exact c.cD j hj
  | false =>
   rw [hb] at hj
   simp only [cond_false,List.mem_cons] at hj
   rcases hj with rfl | hj
   ·exact ⟨gH ha,h⟩
   ·exact c.cD j hj
 | k x=>exact c.cD
 | c i j=>exact c.cD
theorem aK.a7w (c:aK N gk gb S ρ env m) {i n:Nat} (h:S.jP (.v i) n=true):i < S.nv:=by
 simp only [SS.jP] at h
 split at h
 ·rename_i q hq; exact (c.known i q hq).1
 ·simp at h
end
end Go.Fbs

/- A word is spoken: what is known behind it. -/
namespace Go.Fbs
def hJ (ρ:Nat→V) (g:Gd) (o:Option V):Option V :=
 match g with
 | none=>o
 | some (a,b)=>b7 (a.den ρ) b o
theorem aVb (p:PT) (ρ:Nat→V) (e:E) (g:Gd):aXg p ρ e g=hJ ρ g (e.ev p ρ):=by
 cases g <;> rfl
theorem aMs {x:V} {b:Bool} {o:Option V} {y:V} (h:b7 x b o=some y):(x = .bool b∧o=some y)∨(x ≠ .bool b∧y = .undef∧∀ o':Option V,b7 x b o'=some .undef):=by
 unfold b7 at h
 cases x with
 | bool t =>
  simp only at h
  by_cases ht:t=b
  ·subst ht; simp at h; exact .inl ⟨rfl,h⟩
  ·have:(t == b)=false:=by simpa using ht
   rw [this] at h
   simp at h
   exact .inr ⟨by simp [ht],h.symm,fun o'=>by simp [b7,ht]⟩
 | undef=>simp at h; exact .inr ⟨by simp,h.symm,fun _=>rfl⟩
 | _=>simp at h
theorem tB {ρ:Nat→V} {g:Gd} {o:Option V} {y:V} (h:hJ ρ g o=some y):(fX ρ g∧o=some y)∨(¬ fX ρ g∧y = .undef∧∀ o',hJ ρ g o'=some .undef):=by
 cases g with
 | none=>exact .inl ⟨trivial,h⟩
 | some q =>
  obtain ⟨a,b⟩:=q
  rcases aMs h with ⟨h1,h2⟩ | ⟨h1,h2,h3⟩
  ·exact .inl ⟨h1,h2⟩
  ·exact .inr ⟨h1,h2,h3⟩
theorem n8 {ρ:Nat→V} {g:Gd} (h:fX ρ g) (o:Option V):hJ ρ g o=o:=by
 cases g with
 | none=>rfl
 | some q =>
  obtain ⟨a,b⟩:=q
  simp only [fX] at h
  simp [hJ,h,b7]
theorem a4q {n k:Nat} (h:aGj n=some k):k=n∧0 < n:=by
 unfold aGj at h
 cases hb:Nat.beq n 0 with
 | true=>rw [hb] at h; simp at h
 | false =>
  rw [hb] at h
  simp at h
  refine ⟨h.symm,Nat.pos_of_ne_zero fun e=>?_⟩
  subst e; simp at hb
theorem aY2 {p:PT} {ρ:Nat→V} {e:E} {y:V} {n:Nat} (h:e.ev p ρ=some y) (hk:pV e=some n):kI n y:=by
 have s0:∀ {o:Option V},o=some y→some 0=some n→(∀ z,o=some z→sc z=true)→kI n y:=fun ho h0 hs=>by
  simp only [Option.some.injEq] at h0; subst h0; exact hs _ ho
 cases e with
 | id a=>simp [pV] at hk
 | pre n a=>simp [pV] at hk
 | flip m1 m2 s i c =>
  simp only [E.ev] at h
  refine s0 h hk fun z hz=>?_
  unfold uU at hz
  split at hz
  ·split at hz
   ·split at hz
    ·simp only [Option.some.injEq] at hz; subst hz; rfl
    ·simp only [Option.map_eq_some_iff] at hz; obtain ⟨_,_,rfl⟩:=hz; rfl
   ·simp at hz
  ·simp at hz
 | fG a=>simp only [E.ev] at h; exact s0 h hk fun z hz=>by unfold fG at hz; split at hz <;> simp at hz; subst hz; rfl
 | lenL a=>simp only [E.ev] at h; exact s0 h hk fun z hz=>by unfold lenL at hz; split at hz <;> simp at hz; subst hz; rfl
 | bin op a b=>simp only [E.ev] at h; exact s0 h hk fun z hz=>(aNw hz).2
 | eqB q a b=>simp only [E.ev] at h; exact s0 h hk fun z hz=>by unfold aDf at hz; split at hz <;> simp at hz; subst hz; rfl
 | eqA q g a b =>
  simp only [E.ev] at h
  refine s0 h hk fun z hz=>?_
  unfold aJ9 at hz
  split at hz
  ·simp only [Option.map_eq_some_iff] at hz; obtain ⟨_,_,rfl⟩:=hz; rfl
  ·simp at hz
 | un op a =>
  simp only [E.ev] at h
  refine s0 h hk fun z hz=>?_
  unfold unV at hz
  split at hz <;> simp at hz <;> subst hz <;> rfl
 | mm g a b=>simp only [E.ev] at h; exact s0 h hk fun z hz=>by unfold mmK at hz; split at hz <;> simp at hz; subst hz; rfl
 | kF q a=>simp only [E.ev] at h; exact s0 h hk fun z hz=>by unfold kF at hz; split at hz <;> simp at hz; subst hz; rfl
 | sP a=>simp only [E.ev] at h; exact s0 h hk fun z hz=>by unfold sP at hz; split at hz <;> simp at hz; subst hz; rfl
 | mN a =>
  simp only [E.ev] at h
  refine s0 h hk fun z hz=>?_
  unfold mN at hz
  split at hz
  ·simp only [Option.map_eq_some_iff] at hz; obtain ⟨_,_,rfl⟩:=hz; rfl
  ·simp at hz
 | slS a lo hi =>
  simp only [E.ev] at h
  refine s0 h hk fun z hz=>?_
  unfold cO at hz
  split at hz <;> (try (simp at hz; done))
  split at hz <;> (try (simp at hz; done))
  split at hz <;> simp at hz; subst hz; rfl
 | slL q a lo hi =>
  simp only [E.ev] at h
  refine s0 h hk fun z hz=>?_
  unfold aDg at hz
  split at hz <;> (try (simp at hz; done))
  split at hz <;> (try (simp at hz; done))
  split at hz <;> (try (simp at hz; done))
  split at hz <;> simp at hz; subst hz; rfl
 | aPb a i =>
  simp only [E.ev] at h
  refine s0 h hk fun z hz=>?_
  unfold cV at hz
  split at hz <;> (try (simp at hz; done))
  split at hz <;> (try (simp at hz; done))
  simp only [Option.map_eq_some_iff] at hz; obtain ⟨_,_,rfl⟩:=hz; rfl
 | aPc g q a i =>
  simp only [E.ev] at h
  unfold gS at h
  split at h <;> (try (simp at h; done))
  split at h <;> (try (simp at h; done))
  split at h <;> (try (simp at h; done))
  cases g with
  | true =>
   simp only [pV,cond_true] at hk
   obtain ⟨rfl,hp⟩:=a4q hk
   simp only [if_true] at h
   have:=(uD h).1
   subst this
   exact uX hp h
  | false =>
   simp only [pV,cond_false,Option.some.injEq] at hk
   subst hk
   simp only [Bool.false_eq_true,if_false] at h
   obtain ⟨rfl,h2⟩:=oT h
   exact h2
 | aUx len g q a i=>simp [pV] at hk
 | inb q i =>
  simp only [E.ev] at h
  refine s0 h hk fun z hz=>?_
  unfold aU0 at hz
  split at hz <;> (try (simp at hz; done))
  split at hz <;> simp at hz; subst hz; rfl
 | nth l i =>
  simp only [E.ev] at h
  refine s0 h hk fun z hz=>?_
  unfold aU1 at hz
  split at hz <;> (try (simp at hz; done))
  split at hz <;> (try (simp at hz; done))
  split at hz <;> (try (simp at hz; done))
  exact (oT hz).1 ▸ (oT hz).2
 | part g q off a =>
  simp only [E.ev] at h
  unfold aI0 at h
  split at h <;> (try (simp at h; done))
  cases g with
  | true =>
   simp only [pV,cond_true] at hk
   obtain ⟨rfl,hp⟩:=a4q hk
   simp only [if_true] at h
   split at h <;> (try (simp at h; done))
   have:=(uD h).1
   subst this
   exact uX hp h
  | false =>
   simp only [pV,cond_false,Option.some.injEq] at hk
   subst hk
   simp only [Bool.false_eq_true,if_false] at h
   split at h <;> (try (simp at h; done))
   obtain ⟨rfl,h2⟩:=oT h
   exact h2
 | agg l =>
  simp only [pV] at hk
  obtain ⟨rfl,hp⟩:=a4q hk
  simp only [E.ev,aD] at h
  split at h
  ·rename_i hs
   simp only [Option.some.injEq] at h
   subst h
   cases hl:l.length with
   | zero=>omega
   | succ q=>exact ⟨_,rfl,by rw [List.length_map,hl],hs⟩
  ·simp at h
 | lit q l=>simp only [E.ev] at h; exact s0 h hk fun z hz=>by unfold kV at hz; split at hz <;> simp at hz; subst hz; rfl
 | make q z b l c =>
  simp only [E.ev] at h
  refine s0 h hk fun z hz=>?_
  unfold aI1 at hz
  split at hz <;> (try (simp at hz; done))
  split at hz <;> simp at hz; subst hz; rfl
 | app q b x y =>
  simp only [E.ev] at h
  refine s0 h hk fun z hz=>?_
  unfold appK at hz
  split at hz <;> (try (simp at hz; done))
  split at hz <;> simp at hz; subst hz; rfl
 | aJ6 b x y =>
  simp only [E.ev] at h
  refine s0 h hk fun z hz=>?_
  unfold aPf at hz
  split at hz <;> (try (simp at hz; done))
  unfold appK at hz
  split at hz <;> (try (simp at hz; done))
  split at hz <;> simp at hz; subst hz; rfl
 | call f l=>simp [pV] at hk
 | aEl f l=>simp [pV] at hk
 | fn f l=>simp only [E.ev] at h; exact s0 h hk fun z hz=>by simp at hz; subst hz; rfl
 | aPd a=>simp only [E.ev] at h; exact s0 h hk fun z hz=>by unfold aI2 at hz; split at hz <;> simp at hz; subst hz; rfl
 | ext a i=>simp [pV] at hk
 | pick c a b=>simp [pV] at hk
 | chk q a =>
  simp only [pV] at hk
  obtain ⟨rfl,hp⟩:=a4q hk
  have:=(uD h).1
  subst this
  exact uX hp h
 | aPe a=>simp only [E.ev] at h; exact s0 h hk fun z hz=>by obtain ⟨rfl,h2⟩:=oT hz; exact h2
 | aUy a=>simp [pV] at hk
section
variable {p:PT} {Q:V→Prop} {ks:List (List V→Prop)} {N:Nat} {gk:Nat→Option Nat} {gb:List Nat} {S:SS} {ρ:Nat→V} {env:Env} {m:Hp}
theorem aPw {op:BinOp} {k:IntKind} {a b:Int} {v:V} (h:intBin op k a b=some v) (hc:aBp op=true):rI v=true:=by
 cases op <;> simp [aBp] at hc <;> simp [intBin] at h <;> subst h <;> rfl
theorem aPx {op:BinOp} {a b:List UInt8} {v:V} (h:strBin op a b=some v) (hc:aBp op=true):rI v=true:=by
 cases op <;> simp [aBp] at hc <;> simp [strBin] at h <;> subst h <;> rfl
theorem aY3 (c:aK N gk gb S ρ env m) {e:E} {y:V} (h:e.ev p ρ=some y) (hb:a7q S e=true):rI y=true:=by
 cases e with
 | bin op a b =>
  simp only [a7q] at hb
  simp only [E.ev] at h
  unfold aC at h
  split at h
  ·cases op <;> simp only [aBp,Bool.false_eq_true] at hb <;> (simp only at h; split at h) <;> first | exact aPw h rfl | (simp at h)
  ·exact aPx h hb
  ·simp at h
 | eqB q a b=>simp only [E.ev] at h; unfold aDf at h; split at h <;> simp at h; subst h; rfl
 | eqA q g a b =>
  simp only [E.ev] at h; unfold aJ9 at h
  split at h
  ·simp only [Option.map_eq_some_iff] at h; obtain ⟨_,_,rfl⟩:=h; rfl
  ·simp at h
 | un op a =>
  cases op <;> simp [a7q] at hb
  simp only [E.ev] at h; unfold unV at h
  split at h <;> simp_all <;> subst h <;> rfl
 | pick q a b =>
  simp only [a7q,Bool.and_eq_true] at hb
  simp only [E.ev] at h; unfold pickV at h
  split at h
  ·rename_i t _
   simp only [Option.some.injEq] at h
   subst h
   cases t
   ·exact c.isB hb.2
   ·exact c.isB hb.1
  ·simp at h
 | _=>simp [a7q] at hb
theorem iT (c:aK N gk gb S ρ env m) {g:Gd} {e:E} {k:A→SS→OL} {L:L} (h:emit g e S k=some L) (hw:L.wp p Q S.nv ρ ks) :
  ∃ y L' kn bl,hJ ρ g (e.ev p ρ)=some y∧k (.v S.nv) (S.j8 (S.nv+1) kn bl)=some L'∧L'.wp p Q (S.nv+1) (ext ρ S.nv y) ks∧aK N gk gb (S.j8 (S.nv+1) kn bl) (ext ρ S.nv y) env m:=by
 simp only [emit,Option.map_eq_some_iff] at h
 obtain ⟨L',h1,rfl⟩:=h
 simp only [L.wp,aVb] at hw
 cases hy:hJ ρ g (e.ev p ρ) with
 | none=>rw [hy] at hw; exact hw.elim
 | some y =>
  rw [hy] at hw
  refine ⟨y,L',_,_,rfl,h1,hw,?_⟩
  refine c.more (bI ρ S.nv y) (Nat.le_succ _) ?_ ?_
  rotate_left
  ·have old:∀ i ∈ S.cD,i < S.nv+1∧rI (ext ρ S.nv y i)=true:=fun i hi=>by
    obtain ⟨h2,h3⟩:=c.cD i hi
    exact ⟨by omega,by rw [bI ρ S.nv y i h2]; exact h3⟩
   intro i hi
   cases hbe:a7q S e with
   | false=>rw [hbe] at hi; exact old i hi
   | true =>
    rw [hbe] at hi
    simp only [cond_true,List.mem_cons] at hi
    rcases hi with rfl | hi
    ·refine ⟨by omega,?_⟩
     rw [iP]
     rcases tB hy with ⟨_,h5⟩ | ⟨_,rfl,_⟩
     ·exact aY3 c h5 hbe
     ·rfl
    ·exact old i hi
  have old:∀ i n,assoc S.known i=some n→i < S.nv+1∧kI n (ext ρ S.nv y i):=fun i n hi=>by
   obtain ⟨h2,h3⟩:=c.known i n hi
   exact ⟨by omega,by rw [bI ρ S.nv y i h2]; exact h3⟩
  intro i n hi
  split at hi
  ·rename_i q hk
   simp only [assoc] at hi
   by_cases hb:Nat.beq S.nv i=true
   ·rw [hb] at hi
    simp only [cond_true,Option.some.injEq] at hi
    subst hi
    have:=Nat.eq_of_beq_eq_true hb
    subst this
    exact ⟨by omega,by rw [iP]; exact aY2 hy hk⟩
   ·have hb':Nat.beq S.nv i=false:=by
     cases hc:Nat.beq S.nv i with
     | false=>rfl
     | true=>exact absurd hc hb
    rw [hb'] at hi
    exact old i n hi
  ·exact old i n hi
def Fin (p:PT) (Q:V→Prop) (ks:List (List V→Prop)) (N:Nat) (ρ:Nat→V) (S:SS) (env:Env) (k:SV→SS→OL) (o:V→Hp→Prop):Prop :=
 ∃ v m' s S' ρ' L' gk' gb',o v m'∧k s S'=some L'∧L'.wp p Q S'.nv ρ' ks∧aK N gk' gb' S' ρ' env m'∧cR ρ' gk' gb' m'.T s v∧s.below S'.nv=true∧aS ρ ρ' S.nv∧S.nv≤S'.nv∧S'.dep=S.dep
theorem Fin.step {S1:SS} {ρ1:Nat→V} {k:SV→SS→OL} {o:V→Hp→Prop} (h:Fin p Q ks N ρ1 S1 env k o) (ha:aS ρ ρ1 S.nv) (hn:S.nv≤S1.nv) (hd:S1.dep=S.dep):Fin p Q ks N ρ S env k o:=by
 obtain ⟨v,m',s,S',ρ',L',gk',gb',h1,h2,h3,h4,h5,h6,h7,h8,h9⟩:=h
 exact ⟨v,m',s,S',ρ',L',gk',gb',h1,h2,h3,h4,h5,h6,ha.trans h7 hn,Nat.le_trans hn h8,h9.trans hd⟩
theorem Fin.mono {k:SV→SS→OL} {o o':V→Hp→Prop} (h:Fin p Q ks N ρ S env k o) (ho:∀ v m,o v m→o' v m):Fin p Q ks N ρ S env k o':=by
 obtain ⟨v,m',s,S',ρ',L',gk',gb',h1,h2⟩:=h
 exact ⟨v,m',s,S',ρ',L',gk',gb',ho _ _ h1,h2⟩
theorem lS (c:aK N gk gb S ρ env m) {k:SV→SS→OL} {L:L} {s:SV} {v:V} {o:V→Hp→Prop} (h:k s S=some L) (hw:L.wp p Q S.nv ρ ks) (ho:o v m) (hr:cR ρ gk gb m.T s v) (hb:s.below S.nv=true):Fin p Q ks N ρ S env k o :=
 ⟨v,m,s,S,ρ,L,gk,gb,ho,h,hw,c,hr,hb,aS.refl _ _,Nat.le_refl _,rfl⟩
theorem jU (n:Nat):A.below (n+1) (.v n)=true:=Nat.ble_eq_true_of_le (Nat.le_refl _)
theorem lB (c:aK N gk gb S ρ env m) {g:Gd} {e:E} {k:SV→SS→OL} {L:L} {o:Option V} (h:pY g e S k=some L) (hw:L.wp p Q S.nv ρ ks)
  (hq:fX ρ g→∀ w,e.ev p ρ=some w→∃ v,o=some v∧v.aI=w):Fin p Q ks N ρ S env k (fun v m'=>m'=m∧hJ ρ g o=some v):=by
 obtain ⟨y,L',kn,bl,h1,h2,h3,h4⟩:=iT c h hw
 have:∃ v,hJ ρ g o=some v∧v.aI=y:=by
  rcases tB h1 with ⟨hon,h5⟩ | ⟨hoff,rfl,h6⟩
  ·obtain ⟨v,h7,h8⟩:=hq hon y h5
   exact ⟨v,by rw [n8 hon]; exact h7,h8⟩
  ·exact ⟨.undef,h6 o,rfl⟩
 obtain ⟨v,h5,h6⟩:=this
 refine ⟨v,m,_,_,_,L',gk,gb,⟨rfl,h5⟩,h2,h3,h4,?_,jU _,bI _ _ _,Nat.le_succ _,rfl⟩
 show v.aI=ext ρ S.nv y S.nv
 rw [iP]; exact h6
theorem aMt (i n : Nat) : ∀ (j q : Nat),q < n → (cellsOf i n j)[q]? = some (.c i (j + q)):=by
 induction n with
 | zero=>intro j q h; omega
 | succ n ih =>
  intro j q h
  cases q with
  | zero=>rfl
  | succ q=>simp only [cellsOf,List.getElem?_cons_succ]; rw [ih (j+1) q (by omega)]; congr 2; omega
theorem a5j (i n:Nat):∀ j,(cellsOf i n j).length=n:=by
 induction n with
 | zero=>intro j; rfl
 | succ n ih=>intro j; simp [cellsOf,ih]
theorem a5k (ρ:Nat→V) {i n:Nat} {cs:List V} (h:(ρ i).cells=cs) (hl:cs.length=n):(cellsOf i n 0).map (A.den ρ)=cs:=by
 apply List.ext_getElem?
 intro q
 by_cases hq:q < n
 ·rw [List.getElem?_map,aMt i n 0 q hq,List.getElem?_eq_getElem (by omega)]
  simp only [Option.map_some,A.den,aA,Nat.zero_add,h]
  rw [List.getD_eq_getElem?_getD,List.getElem?_eq_getElem (by omega)]; rfl
 ·rw [List.getElem?_eq_none (by simp [a5j]; omega),List.getElem?_eq_none (by omega)]
theorem a89 {i n nv:Nat} (h:i < nv):∀ j,(cellsOf i n j).all (A.below nv)=true:=by
 induction n with
 | zero=>intro j; rfl
 | succ n ih=>intro j; simp only [cellsOf,List.all_cons,ih,Bool.and_true]; exact Nat.ble_eq_true_of_le h
theorem rN {n:Nat} {v:V} (hn:0 < n) (h:kI n v):∃ cs,v = .agg cs∧cs.length=n∧cs.all sc=true:=by
 cases n with
 | zero=>omega
 | succ n=>exact h
theorem aHn (c:aK N gk gb S ρ env m) {g:Gd} {n:Nat} {a:A} {k:List A→SS→OL} {L:L} (h:xZ g n a S k=some L) (hw:L.wp p Q S.nv ρ ks) :
  ∃ i nv kn bl ρ' L',k (cellsOf i n 0) (S.j8 nv kn bl)=some L'∧L'.wp p Q nv ρ' ks∧aK N gk gb (S.j8 nv kn bl) ρ' env m∧0 < n∧i < nv∧S.nv≤nv∧aS ρ ρ' S.nv∧(fX ρ g→ρ' i=a.den ρ∧kI n (ρ' i)):=by
 unfold xZ at h
 cases hn0:Nat.beq n 0 with
 | true=>rw [hn0] at h; simp at h
 | false =>
  rw [hn0] at h
  simp only [cond_false] at h
  have hn:0 < n:=Nat.pos_of_ne_zero fun e=>by subst e; simp at hn0
  have viaChk:∀ {L:Go.Fbs.L} (_:L.wp p Q S.nv ρ ks),emit g (.chk n a) S (fun _ S'=>k (cellsOf S.nv n 0) S')=some L→∃ i nv kn bl ρ' L',k (cellsOf i n 0) (S.j8 nv kn bl)=some L'∧L'.wp p Q nv ρ' ks∧aK N gk gb (S.j8 nv kn bl) ρ' env m∧0 < n∧i < nv∧S.nv≤nv∧aS ρ ρ' S.nv∧(fX ρ g→ρ' i=a.den ρ∧kI n (ρ' i)):=by
   intro L hw he
   obtain ⟨y,L',kn,bl,h1,h2,h3,h4⟩:=iT c he hw
   refine ⟨S.nv,S.nv+1,kn,bl,_,L',h2,h3,h4,hn,Nat.lt_succ_self _,Nat.le_succ _,bI _ _ _,fun hon=>?_⟩
   rw [n8 hon] at h1
   rw [iP]
   simp only [E.ev] at h1
   have:=(uD h1).1
   subst this
   exact ⟨rfl,uX hn h1⟩
  split at h
  ·rename_i i
   cases hk:S.jP (.v i) n with
   | true =>
    rw [hk] at h
    simp only [cond_true] at h
    exact ⟨i,S.nv,S.known,(S.cD,S.xY),ρ,L,h,hw,c,hn,c.a7w hk,Nat.le_refl _,aS.refl _ _,fun _=>⟨rfl,c.jP hk⟩⟩
   | false =>
    rw [hk] at h
    exact viaChk hw h
  ·exact viaChk hw h
theorem a97 (c:aK N gk gb S ρ env m) {g:Gd} {a:A} (hab:a.below S.nv=true) {k:A→SS→OL} {L:L} (h:a92 g a S k=some L) (hw:L.wp p Q S.nv ρ ks) :
  ∃ a' nv kn bl ρ' L',k a' (S.j8 nv kn bl)=some L'∧L'.wp p Q nv ρ' ks∧aK N gk gb (S.j8 nv kn bl) ρ' env m∧a'.below nv=true∧S.nv≤nv∧aS ρ ρ' S.nv∧(fX ρ g→a'.den ρ'=a.den ρ∧sc (a.den ρ)=true):=by
 unfold a92 at h
 cases hk:S.jP a 0 with
 | true =>
  rw [hk] at h
  simp only [cond_true] at h
  exact ⟨a,S.nv,S.known,(S.cD,S.xY),ρ,L,h,hw,c,hab,Nat.le_refl _,aS.refl _ _,fun _=>⟨rfl,c.jP hk⟩⟩
 | false =>
  rw [hk] at h
  simp only [cond_false] at h
  obtain ⟨y,L',kn,bl,h1,h2,h3,h4⟩:=iT c h hw
  refine ⟨.v S.nv,S.nv+1,kn,bl,_,L',h2,h3,h4,jU _,Nat.le_succ _,bI _ _ _,fun hon=>?_⟩
  rw [n8 hon] at h1
  simp only [E.ev] at h1
  obtain ⟨rfl,h5⟩:=oT h1
  exact ⟨iP _ _ _,h5⟩
end
end Go.Fbs

/- Operations that leave the memory as it is. -/
namespace Go.Fbs
def oV (S:SS) (ρ:Nat→V) (g:Gd):Prop:=Gd.below S.nv g=true∧∀ a b,g=some (a,b)→rI (a.den ρ)=true
theorem a2i {S:SS} {ρ:Nat→V} {g:Gd} (hg:oV S ρ g) (h:¬ fX ρ g) (o:Option V):hJ ρ g o=some .undef:=by
 cases g with
 | none=>exact absurd trivial h
 | some q =>
  obtain ⟨a,b⟩:=q
  have:=hg.2 a b rfl
  simp only [fX] at h
  simp only [hJ]
  cases hd:a.den ρ with
  | bool t =>
   rw [hd] at h
   simp only [b7]
   have:(t == b)=false:=by
    cases t <;> cases b <;> simp_all
   rw [this]; rfl
  | undef=>rfl
  | _=>rw [hd] at this; simp [rI] at this
theorem oV.more {S:SS} {ρ ρ':Nat→V} {g:Gd} (hg:oV S ρ g) {nv:Nat} (hn:S.nv≤nv) (ha:aS ρ ρ' S.nv) {kn:List (Nat×Nat)} {bl:List Nat×List Nat} : oV (S.j8 nv kn bl) ρ' g :=
 ⟨Gd.bN hg.1 hn,fun a b h=>by
  have hb:a.below S.nv=true:=by have:=hg.1; rw [h] at this; exact this
  rw [fY ha hb]; exact hg.2 a b h⟩
section
variable {P:Program} {tt:TT} (hT:∀ t ti,cK tt t=some ti→bG P ti∧ti.t=t)
variable {p:PT} {Q:V→Prop} {ks:List (List V→Prop)} {N:Nat} {gk:Nat→Option Nat} {gb:List Nat} {S:SS} {ρ:Nat→V} {env:Env} {m:Hp}
abbrev QO (P:Program) (tt:TT) (p:PT) (ρ:Nat→V) (g:Gd) (env:Env) (m:Hp) (op:Op):V→Hp→Prop:=fun v m'=>m'=m∧hJ ρ g (aY P (CE tt p) env m.H op)=some v
theorem a6i (c:aK N gk gb S ρ env m) {g:Gd} {k:SV→SS→OL} {L:L} {o:Option V} {s:SV} {v:V} {a:A}
  (h:(match g with | none=>k s S | some _=>k (.kA a g) S)=some L) (hg:oV S ρ g) (hw:L.wp p Q S.nv ρ ks) (ho:fX ρ g→o=some v) (hr:g=none→cR ρ gk gb m.T s v) (hb:s.below S.nv=true) (hab:a.below S.nv=true) (ha:fX ρ g→v.aI=a.den ρ) :
  Fin p Q ks N ρ S env k (fun v m'=>m'=m∧hJ ρ g o=some v):=by
 cases g with
 | none=>exact lS c h hw ⟨rfl,ho trivial⟩ (hr rfl) hb
 | some q =>
  have hbel:SV.below S.nv (.kA a (some q))=true:=by simp only [SV.below,hab,Bool.true_and]; exact hg.1
  by_cases hon:fX ρ (some q)
  ·exact lS c h hw ⟨rfl,by rw [n8 hon]; exact ho hon⟩ ⟨fun _=>ha hon,fun h=>absurd hon h⟩ hbel
  ·exact lS c h hw ⟨rfl,a2i hg hon o⟩ ⟨fun h=>absurd h hon,fun _=>rfl⟩ hbel
theorem gR (c:aK N gk gb S ρ env m) {g:Gd} {as:List A} {e:E} {k:SV→SS→OL} {L:L} {o:Option V} (h:iJ g as e S k=some L) (hg:oV S ρ g) (hw:L.wp p Q S.nv ρ ks)
  (hq:fX ρ g→∀ w,e.ev p ρ=some w→∃ v,o=some v∧v.aI=w):Fin p Q ks N ρ S env k (fun v m'=>m'=m∧hJ ρ g o=some v):=by
 cases g with
 | none=>exact lB c h hw hq
 | some q =>
  simp only [iJ] at h
  cases hs:as.all S.sure with
  | false=>rw [hs] at h; exact lB c h hw hq
  | true =>
   rw [hs] at h
   simp only [cond_true] at h
   obtain ⟨y,L',kn,bl,h1,h2,h3,h4⟩:=iT c h hw
   have hgi:fX (ext ρ S.nv y) (some q)↔fX ρ (some q):=oU (bI _ _ _) hg.1
   have hbel:SV.below (S.nv+1) (.kA (.v S.nv) (some q))=true:=by
    simp only [SV.below,Bool.and_eq_true]
    exact ⟨jU _,Gd.bN hg.1 (Nat.le_succ _)⟩
   by_cases hon:fX ρ (some q)
   ·obtain ⟨v,h5,h6⟩:=hq hon y h1
    exact ⟨v,m,_,_,_,L',gk,gb,⟨rfl,by rw [n8 hon]; exact h5⟩,h2,h3,h4,⟨fun _=>by show v.aI=ext ρ S.nv y S.nv; rw [iP]; exact h6,fun h=>absurd (hgi.2 hon) h⟩,hbel,bI _ _ _,Nat.le_succ _,rfl⟩
   ·exact ⟨.undef,m,_,_,_,L',gk,gb,⟨rfl,a2i hg hon o⟩,h2,h3,h4,⟨fun h=>absurd (hgi.1 h) hon,fun _=>rfl⟩,hbel,bI _ _ _,Nat.le_succ _,rfl⟩
theorem aR7 (c:aK N gk gb S ρ env m) {g:Gd} {x:Operand} {k:SV→SS→OL} {L:L}
  (h:(match S.fT x with | some s=>(match g with | none=>k s S | some _=>(match s.ag g with | some a=>k (.kA a g) S | none=>(match s with | .ptr b off none=>k (.ptr b off g) S | _=>none))) | none=>none)=some L) (hg:oV S ρ g) (hw:L.wp p Q S.nv ρ ks) :
  Fin p Q ks N ρ S env k (fun v m'=>m'=m∧hJ ρ g (Fbs.ev env x)=some v):=by
 split at h
 ·rename_i s hs
  obtain ⟨v,h1,h2,h3⟩:=c.fT hs
  cases g with
  | none=>exact lS c h hw ⟨rfl,h1⟩ h2 h3
  | some q =>
   simp only at h
   split at h
   ·rename_i a ha
    exact a6i c (s:=s) h hg hw (fun _=>h1) (fun h=>by simp at h) h3 (a7v h3 ha) (a96 (fun _ _=>Gd.dZ) h2 ha)
   ·split at h
    ·rename_i b off hno
     obtain ⟨l,h4,rfl⟩:=h2.1 trivial
     by_cases hon:fX ρ (some q)
     ·exact ⟨.ptr l off,m,_,S,ρ,L,gk,gb,⟨rfl,by rw [n8 hon]; exact h1⟩,h,hw,c,⟨fun _=>⟨l,h4,rfl⟩,fun hn=>absurd hon hn⟩,hg.1,aS.refl _ _,Nat.le_refl _,rfl⟩
     ·exact ⟨.undef,m,_,S,ρ,L,gk,gb,⟨rfl,a2i hg hon _⟩,h,hw,c,⟨fun h=>absurd h hon,fun _=>rfl⟩,hg.1,aS.refl _ _,Nat.le_refl _,rfl⟩
    ·simp at h
 ·simp at h
theorem b0q (c:aK N gk gb S ρ env m) {g:Gd} (hg:oV S ρ g) {x y z:Operand} {k:SV→SS→OL} {L:L}
  (h:fW tt g (.pick x y z) S k=some L) (hw:L.wp p Q S.nv ρ ks) :
  Fin p Q ks N ρ S env k (QO P tt p ρ g env m (.pick x y z)):=by
 simp only [fW] at h
 split at h
 ·rename_i a1 e1
  split at h
  ·rename_i a2 a3 e2 e3
   obtain ⟨v1,h1,h1',_⟩:=c.gZ e1
   obtain ⟨v2,h2,h2',_⟩:=c.a7p e2
   obtain ⟨v3,h3,h3',_⟩:=c.a7p e3
   refine gR c h hg hw fun hon w hw'=>?_
   simp only [E.ev] at hw'
   simp only [aY,h1,h2,h3]
   unfold pickV at hw'
   split at hw'
   ·rename_i t ht
    simp only [Option.some.injEq] at hw'
    have hv1:v1 = .bool t:=l9 (by rw [h1' hon]; exact ht)
    subst hv1
    refine ⟨_,rfl,?_⟩
    cases t with
    | true=>simp only [if_true] at hw' ⊢; rw [← hw']; exact h2' hon ht
    | false=>simp only [Bool.false_eq_true,if_false] at hw' ⊢; rw [← hw']; exact h3' hon ht
   ·simp at hw'
  ·simp at h
 ·simp at h
theorem aKn {T : List (Nat × Nat)} : ∀ {l : List SV} {as : List A} {cs : List V},aBq l = some as → l.length = cs.length → (∀ (j : Nat) s v,l[j]? = some s → cs[j]? = some v → cR ρ gk gb T s v) → cs.map V.aI = as.map (A.den ρ)
 | [],as,cs,h,hl,_=>by
  simp [aBq] at h; subst h
  cases cs with
  | nil=>rfl
  | cons=>simp at hl
 | s::l,as,cs,h,hl,hr=>by
  simp only [aBq] at h
  split at h
  ·rename_i a as' h1 h2
   simp only [Option.some.injEq] at h
   subst h
   cases cs with
   | nil=>simp at hl
   | cons v cs =>
    simp only [List.map_cons]
    rw [rM (hr 0 s v rfl rfl) h1,aKn h2 (by simpa using hl) (fun j s v h3 h4=>hr (j+1) s v (by simpa using h3) (by simpa using h4))]
  ·simp at h
theorem a98 {i:Nat} : ∀ (as:List A) (j:Nat),zW i j as=true→as=cellsOf i as.length j
 | [],j,_=>rfl
 | .c i' j'::r,j,h=>by
  simp only [zW,Bool.and_eq_true] at h
  have h1:=Nat.eq_of_beq_eq_true h.1.1
  have h2:=Nat.eq_of_beq_eq_true h.1.2
  subst h1; subst h2
  simp only [List.length_cons,cellsOf]
  rw [← a98 r (j+1) h.2]
 | .v _::r,j,h=>by simp [zW] at h
 | .k _::r,j,h=>by simp [zW] at h
theorem aDm (c:aK N gk gb S ρ env m) {t:TypeId} {ti:TI} (tok:bG P ti) (htt:ti.t=t) {g:Gd} (hgk:oV S ρ g) {cells:List SV} {cs:List V} (hc:Cells ρ gk gb m.T S.nv cells cs) {off:Nat} {k:SV→SS→OL} {L:L} {o:Option V}
  (h:aEp ti g cells off S k=some L) (hw:L.wp p Q S.nv ρ ks) (ho:fX ρ g→o=loadT P t (cs.drop off)):Fin p Q ks N ρ S env k (fun v m'=>m'=m∧hJ ρ g o=some v):=by
 have hag:=tok.agg; have hsz:=tok.sz
 rw [htt] at hag hsz
 have hload:loadT P t (cs.drop off)=nH ti.agg ti.sz (cs.drop off):=aGb hag hsz _
 rw [hload] at ho
 unfold aEp at h
 cases hg:ti.agg with
 | true =>
  rw [hg] at h ho
  simp only [cond_true] at h
  cases hle:Nat.ble (off+ti.sz) cells.length with
  | false=>rw [hle] at h; simp at h
  | true =>
   rw [hle] at h
   simp only [cond_true] at h
   have hle':=Nat.le_of_ble_eq_true hle
   split at h
   ·rename_i as has
    have hlen:((cells.drop off).take ti.sz).length=((cs.drop off).take ti.sz).length:=by simp [hc.1]
    have hden:=aKn (ρ:=ρ) (gk:=gk) (gb:=gb) (T:=m.T) has hlen (fun j s v h1 h2=>by
     rw [List.getElem?_take] at h1 h2
     split at h1
     ·rename_i hj
      rw [if_pos hj] at h2
      rw [List.getElem?_drop] at h1 h2
      exact (hc.2 _ s v h1 h2).1
     ·simp at h1)
    have hval:nH true ti.sz (cs.drop off)=some (.agg ((cs.drop off).take ti.sz)):=by
     unfold nH
     rw [if_pos rfl,if_pos (by rw [List.length_drop,← hc.1]; omega)]
    have viaAgg:∀ {L:Go.Fbs.L},L.wp p Q S.nv ρ ks→iJ g as (.agg as) S k=some L→Fin p Q ks N ρ S env k (fun v m'=>m'=m∧hJ ρ g o=some v):=fun hw he=>by
     refine gR c he hgk hw fun hon w hw'=>⟨_,(ho hon).trans hval,?_⟩
     simp only [E.ev,aD] at hw'
     split at hw'
     ·simp only [Option.some.injEq] at hw'
      rw [← hw']
      simp only [V.aI,bP]
      rw [hden]
     ·simp at hw'
    split at h
    ·rename_i i hi
     cases hwh:(zW i 0 as && S.jP (.v i) ti.sz && Nat.beq as.length ti.sz) with
     | false=>rw [hwh] at h; exact viaAgg hw h
     | true =>
      rw [hwh] at h
      simp only [cond_true] at h
      simp only [Bool.and_eq_true] at hwh
      have hl:=Nat.eq_of_beq_eq_true hwh.2
      have hk:=c.jP hwh.1.2
      have hpos:0 < ti.sz:=by
       rw [← hl]
       cases as with
       | nil=>simp [aNu] at hi
       | cons=>simp
      obtain ⟨ds,hd1,hd2,hd3⟩:=rN hpos hk
      have has2:=a98 as 0 hwh.1.1
      refine lS c h hw ⟨rfl,(ho trivial).trans hval⟩ ?_ ?_
      ·show V.aI _=A.den ρ (.v i)
       rw [hd1]
       simp only [V.aI,bP]
       rw [hden,has2,hl,a5k ρ (cs:=ds) (by show (A.den ρ (.v i)).cells=ds; rw [hd1]; rfl) hd2]
      ·exact Nat.ble_eq_true_of_le (c.a7w hwh.1.2)
    ·exact viaAgg hw h
   ·simp at h
 | false =>
  rw [hg] at h ho
  simp only [cond_false] at h
  split at h
  ·rename_i s hs
   have hlt:off < cells.length:=(List.getElem?_eq_some_iff.1 hs).1
   obtain ⟨v,hv⟩ : ∃ v,cs[off]? = some v:=⟨cs[off]'(by rw [← hc.1]; exact hlt),List.getElem?_eq_getElem _⟩
   obtain ⟨h1,h2⟩:=hc.2 off s v hs hv
   have hval:nH false ti.sz (cs.drop off)=some v:=by
    unfold nH
    rw [if_neg (by simp),List.getElem?_drop]; exact hv
   cases g with
   | none=>exact lS c h hw ⟨rfl,(ho trivial).trans hval⟩ h1 h2
   | some q =>
    simp only at h
    split at h
    ·rename_i a ha
     exact a6i c (s:=s) h hgk hw (fun hon=>(ho hon).trans hval) (fun h=>by simp at h) h2 (uY h2 ha) (fun _=>rM h1 ha)
    ·simp at h
  ·simp at h
theorem qF {hv g:Gd} (h:jG hv g=true) (hon:fX ρ g):fX ρ hv:=by
 unfold jG at h
 cases hv with
 | none=>trivial
 | some q=>rw [Gd.dZ h]; exact hon
theorem aMu {v:V} (h:kI 0 v):sc v=true:=h
include hT in
theorem b0r (c:aK N gk gb S ρ env m) {g:Gd} (hgk:oV S ρ g) {t:TypeId} {x:Operand} {k:SV→SS→OL} {L:L} (h:fW tt g (.load t x) S k=some L) (hw:L.wp p Q S.nv ρ ks) :
  Fin p Q ks N ρ S env k (QO P tt p ρ g env m (.load t x)):=by
 simp only [fW] at h
 split at h
 ·rename_i b off hv ti hx hti
  obtain ⟨tok,htt⟩:=hT t ti hti
  obtain ⟨v,h1,h2,h3⟩:=c.fT hx
  cases hf:jG hv g with
  | false=>rw [hf] at h; simp at h
  | true =>
   rw [hf] at h
   simp only [cond_true] at h
   split at h
   ·rename_i cells hb
    obtain ⟨l,cs,h0,⟨e9,h4,_⟩,h5⟩:=c.boxes b cells hb
    refine aDm c tok htt hgk h5 h hw fun hon=>?_
    obtain ⟨l',hl,hv'⟩:=h2.1 (qF hf hon)
    rw [h0] at hl
    simp only [Option.some.injEq] at hl
    subst hl
    simp only [aY,ev1,h1,hv',loadV,h4]
   ·simp at h
 ·rename_i a n off hv ti hx hti
  obtain ⟨tok,htt⟩:=hT t ti hti
  have hag:=tok.agg; have hsz:=tok.sz
  rw [htt] at hag hsz
  obtain ⟨v,h1,h2,h3⟩:=c.fT hx
  have hbel:a.below S.nv=true:=by simp only [SV.below,Bool.and_eq_true] at h3; exact h3.1
  cases hf:jG hv g with
  | false=>rw [hf] at h; simp at h
  | true =>
   rw [hf] at h
   simp only [cond_true] at h
   have hev:fX ρ g→∃ cs:List V,cs.map V.aI=(a.den ρ).cells∧kI n (a.den ρ)∧aY P (CE tt p) env m.H (.load t x)=nH ti.agg ti.sz (cs.drop off):=fun hon=>by
    obtain ⟨cs,h4,h5,h6⟩:=h2.1 (qF hf hon)
    refine ⟨cs,h5,h6,?_⟩
    simp only [aY,ev1,h1,h4,loadV]
    exact aGb hag hsz _
   have part:∀ {pg:Bool} {pn:Nat} {L:Go.Fbs.L},L.wp p Q S.nv ρ ks→0 < n→ti.agg=pg→(pg=true→pn=ti.sz)→iJ g [a] (.part pg pn off a) S k=some L→Fin p Q ks N ρ S env k (QO P tt p ρ g env m (.load t x)):=by
    intro pg pn L hw hn hpg hpn he
    refine gR c he hgk hw fun hon w hw'=>?_
    obtain ⟨cs,h5,h6,h7⟩:=hev hon
    rw [h7,hpg]
    obtain ⟨ds,hd1,hd2,hd3⟩:=rN hn h6
    simp only [E.ev] at hw'
    have:a.den ρ=(V.agg cs).aI:=by rw [hd1]; simp only [V.aI,bP,h5,hd1]; rfl
    rw [this] at hw'
    obtain ⟨cs',v',e1,e2,e3,_⟩:=aR6 hw'
    simp only [V.agg.injEq] at e1
    subst e1
    refine ⟨v',?_,e3⟩
    rw [← e2]
    cases pg with
    | true=>simp only [nH,nI,if_true,hpn rfl,List.length_drop]; split <;> split <;> first | rfl | (exfalso; rename_i q1 q2; simp [nI,hpn rfl] at e2; omega)
    | false=>simp only [nH,nI,Bool.false_eq_true,if_false,List.getElem?_drop]; rfl
   cases hn0:Nat.beq n 0 with
   | true =>
    have hn:n=0:=Nat.eq_of_beq_eq_true hn0
    subst hn
    rw [hn0] at h
    simp only [cond_true] at h
    cases hcond:(Nat.beq off 0 && !ti.agg) with
    | false=>rw [hcond] at h; simp at h
    | true =>
     rw [hcond] at h
     simp only [cond_true] at h
     simp only [Bool.and_eq_true,Bool.not_eq_true'] at hcond
     have ho:=Nat.eq_of_beq_eq_true hcond.1
     subst ho
     by_cases hon:fX ρ g
     ·obtain ⟨cs,h5,h6,h7⟩:=hev hon
      have hs:=aMu h6
      rw [a3h hs] at h5
      obtain ⟨u,rfl⟩:∃ u,cs=[u]:=by
       have:=congrArg List.length h5
       simp only [List.length_map,List.length_singleton] at this
       exact List.length_eq_one_iff.1 this
      simp only [List.map_cons,List.map_nil,List.cons.injEq,and_true] at h5
      have h8:aY P (CE tt p) env m.H (.load t x)=some u:=by rw [h7,hcond.2]; rfl
      exact a6i c (s:=.val a) (v:=u) h hgk hw (fun _=>h8) (fun _=>h5) hbel hbel (fun _=>h5)
     ·cases g with
      | none=>exact absurd trivial hon
      | some q=>exact a6i c (v:=.undef) (s:=.val a) h hgk hw (fun hon'=>absurd hon' hon) (fun h=>by simp at h) hbel hbel (fun hon'=>absurd hon' hon)
   | false =>
    have hn:0 < n:=Nat.pos_of_ne_zero fun e=>by subst e; simp at hn0
    rw [hn0] at h
    simp only [cond_false] at h
    cases hg:ti.agg with
    | true =>
     rw [hg] at h
     simp only [cond_true] at h
     cases hcond:(Nat.beq off 0 && Nat.beq ti.sz n) with
     | false =>
      rw [hcond] at h
      exact part hw hn hg (fun _=>rfl) h
     | true =>
      rw [hcond] at h
      simp only [cond_true] at h
      simp only [Bool.and_eq_true] at hcond
      have ho:=Nat.eq_of_beq_eq_true hcond.1
      have hz:=Nat.eq_of_beq_eq_true hcond.2
      subst ho
      by_cases hon:fX ρ g
      ·obtain ⟨cs,h5,h6,h7⟩:=hev hon
       obtain ⟨ds,hd1,hd2,hd3⟩:=rN hn h6
       have hl:cs.length=n:=by rw [← hd2]; have:=congrArg List.length h5; rw [hd1] at this; simpa [V.cells] using this
       have h8:aY P (CE tt p) env m.H (.load t x)=some (.agg cs):=by
        rw [h7,hg]
        simp only [List.drop_zero,nH,if_true]
        rw [if_pos (by omega),List.take_of_length_le (by omega)]
       have h9:(V.agg cs).aI=a.den ρ:=by simp only [V.aI,bP,h5]; rw [hd1]; rfl
       exact a6i c (s:=.val a) (v:=.agg cs) h hgk hw (fun _=>h8) (fun _=>h9) hbel hbel (fun _=>h9)
      ·cases g with
       | none=>exact absurd trivial hon
       | some q=>exact a6i c (v:=.undef) (s:=.val a) h hgk hw (fun hon'=>absurd hon' hon) (fun h=>by simp at h) hbel hbel (fun hon'=>absurd hon' hon)
    | false =>
     rw [hg] at h
     simp only [cond_false] at h
     split at h
     ·rename_i i
      cases hcond:(S.jP (.v i) n && Nat.blt off n) with
      | false=>rw [hcond] at h; exact part hw hn hg (by simp) h
      | true =>
       rw [hcond] at h
       simp only [cond_true] at h
       simp only [Bool.and_eq_true] at hcond
       obtain ⟨cs,h5,h6,h7⟩:=hev trivial
       obtain ⟨ds,hd1,hd2,hd3⟩:=rN hn h6
       have hl:cs.length=n:=by rw [← hd2]; have:=congrArg List.length h5; rw [hd1] at this; simpa [V.cells] using this
       have hlt:=gH hcond.2
       refine lS c h hw ⟨rfl,show aY P (CE tt p) env m.H (.load t x)=some (cs[off]'(by omega)) from ?_⟩ ?_ ?_
       ·rw [h7,hg]
        simp only [nH,Bool.false_eq_true,if_false,List.getElem?_drop]
        exact List.getElem?_eq_getElem _
       ·show V.aI _=aA (A.den ρ (.v i)) off
        unfold aA
        rw [← h5,List.getD_eq_getElem?_getD,List.getElem?_map,List.getElem?_eq_getElem (by omega)]
        rfl
       ·exact Nat.ble_eq_true_of_le (c.a7w hcond.1)
     ·exact part hw hn hg (by simp) h
 ·rename_i b off n i hv ti hx hti
  obtain ⟨tok,htt⟩:=hT t ti hti
  have hag:=tok.agg; have hsz:=tok.sz
  rw [htt] at hag hsz
  obtain ⟨v,h1,h2,h3⟩:=c.fT hx
  cases hf:(jG hv g && !ti.agg) with
  | false=>rw [hf] at h; simp at h
  | true =>
   rw [hf] at h
   simp only [cond_true] at h
   simp only [Bool.and_eq_true,Bool.not_eq_true'] at hf
   split at h
   ·rename_i cells hb
    split at h
    ·rename_i as has
     obtain ⟨l,cs,h0,⟨e9,h4,_⟩,h5⟩:=c.boxes b cells hb
     refine lB c h hw fun hon w hw'=>?_
     obtain ⟨l',q,z,e1,e2,e3,e4⟩:=h2.1 (qF hf.1 hon)
     rw [h0] at e1
     simp only [Option.some.injEq] at e1
     subst e1
     have hev:aY P (CE tt p) env m.H (.load t x)=cs[off+z]?:=by
      simp only [aY,ev1,h1,e4,loadV,h4]
      rw [aGb hag hsz,hf.2]
      simp only [nH,Bool.false_eq_true,if_false,List.getElem?_drop,Nat.add_zero]
     have hcs:((cs.drop off).take n).map V.aI=as.map (A.den ρ):=aKn has (by simp [h5.1]) fun j s u g1 g2=>by
      rw [List.getElem?_take] at g1 g2
      split at g1
      ·rw [if_pos (by assumption)] at g2
       rw [List.getElem?_drop] at g1 g2
       exact (h5.2 _ s u g1 g2).1
      ·simp at g1
     simp only [E.ev,e2,← hcs] at hw'
     unfold aU1 at hw'
     simp only at hw'
     rw [if_pos (by omega)] at hw'
     split at hw'
     ·rename_i u hu
      obtain ⟨rfl,_⟩:=oT hw'
      simp only [Int.toNat_natCast,List.getElem?_map,Option.map_eq_some_iff] at hu
      obtain ⟨u0,g1,g2⟩:=hu
      rw [List.getElem?_take,if_pos e3,List.getElem?_drop] at g1
      exact ⟨u0,by rw [hev]; exact g1,g2⟩
     ·simp at hw'
    ·simp at h
   ·simp at h
 ·simp at h
end
end Go.Fbs

/- The other operations that leave the memory as it is. -/
namespace Go.Fbs
section
variable {P:Program} {tt:TT} (hT:∀ t ti,cK tt t=some ti→bG P ti∧ti.t=t)
variable {p:PT} {Q:V→Prop} {ks:List (List V→Prop)} {N:Nat} {gk:Nat→Option Nat} {gb:List Nat} {S:SS} {ρ:Nat→V} {env:Env} {m:Hp}
theorem a7x (c:aK N gk gb S ρ env m) {g:Gd} (hg:oV S ρ g) {k:SV→SS→OL} {L:L} {o:Option V} {s:SV} (h:k s S=some L) (hw:L.wp p Q S.nv ρ ks) (hb:s.below S.nv=true)
  (hon:fX ρ g→∃ v,o=some v∧cR ρ gk gb m.T s v) (hoff:¬ fX ρ g→cR ρ gk gb m.T s .undef):Fin p Q ks N ρ S env k (fun v m'=>m'=m∧hJ ρ g o=some v):=by
 by_cases ho:fX ρ g
 ·obtain ⟨v,h1,h2⟩:=hon ho
  exact lS c h hw ⟨rfl,by rw [n8 ho]; exact h1⟩ h2 hb
 ·exact lS c h hw ⟨rfl,a2i hg ho o⟩ (hoff ho) hb
theorem aPy (c:aK N gk gb S ρ env m) {g:Gd} (hg:oV S ρ g) {x:Operand} {k:SV→SS→OL} {L:L} (h:fW tt g (.nilCheck x) S k=some L) (hw:L.wp p Q S.nv ρ ks) :
  Fin p Q ks N ρ S env k (QO P tt p ρ g env m (.nilCheck x)):=by
 simp only [fW] at h
 have cnd:∀ {hv:Gd},(g.same hv || hv.same none && g.same none)=true→g=hv:=fun {hv} e=>by
  simp only [Bool.or_eq_true,Bool.and_eq_true] at e
  rcases e with e | ⟨e1,e2⟩
  ·exact Gd.dZ e
  ·rw [Gd.dZ e1,Gd.dZ e2]
 split at h
 ·rename_i b off hv hx
  obtain ⟨v,h1,h2,h3⟩:=c.fT hx
  cases hc:(g.same hv || hv.same none && g.same none) with
  | false=>rw [hc] at h; simp at h
  | true =>
   rw [hc] at h
   have:=cnd hc
   subst this
   refine a7x c hg h hw h3 (fun ho=>⟨v,?_,h2⟩) (fun ho=>?_)
   ·obtain ⟨l,_,h4⟩:=h2.1 ho
    simp only [aY,ev1,h1,h4,nilV]
   ·rw [h2.2 ho] at h2; exact h2
 ·rename_i a n off hv hx
  obtain ⟨v,h1,h2,h3⟩:=c.fT hx
  cases hc:(g.same hv || hv.same none && g.same none) with
  | false=>rw [hc] at h; simp at h
  | true =>
   rw [hc] at h
   have:=cnd hc
   subst this
   refine a7x c hg h hw h3 (fun ho=>⟨v,?_,h2⟩) (fun ho=>?_)
   ·obtain ⟨cs,h4,_⟩:=h2.1 ho
    simp only [aY,ev1,h1,h4,nilV]
   ·rw [h2.2 ho] at h2; exact h2
 ·rename_i s hx
  split at h
  ·rename_i a ha
   obtain ⟨v,h1,h2,h3⟩:=c.fT hx
   refine lB c h hw fun hon w hw'=>?_
   simp only [E.ev,← a96 (fun _ _=>Gd.dZ) h2 ha hon] at hw'
   simp only [aY,ev1,h1]
   exact b0p hw'
  ·simp at h
 ·simp at h
include hT in
theorem aY4 (c:aK N gk gb S ρ env m) {g:Gd} (hgk:oV S ρ g) {op:BinOp} {t u:TypeId} {x y:Operand} {k:SV→SS→OL} {L:L} (h:fW tt g (.binOp op t x y u) S k=some L) (hw:L.wp p Q S.nv ρ ks) :
  Fin p Q ks N ρ S env k (QO P tt p ρ g env m (.binOp op t x y u)):=by
 simp only [fW] at h
 split at h
 ·rename_i ti a b hti ha hb
  obtain ⟨tok,htt⟩:=hT t ti hti
  obtain ⟨v1,h1,h1',_⟩:=c.gZ ha
  obtain ⟨v2,h2,h2',_⟩:=c.gZ hb
  have hdd:=tok.d
  have hee:=tok.eq
  rw [htt] at hdd hee
  have hev:aY P (CE tt p) env m.H (.binOp op t x y u)=binV P op t v1 v2:=by simp only [aY,ev2,h1,h2]
  have cor:fX ρ g→∀ w,(E.bin op a b).ev p ρ=some w→∃ v,aY P (CE tt p) env m.H (.binOp op t x y u)=some v∧v.aI=w:=fun hon w hw'=>by
   simp only [E.ev,← h1' hon,← h2' hon] at hw'
   rw [hev]; exact b2j hw'
  have int:∀ {L:Go.Fbs.L},L.wp p Q S.nv ρ ks→aPh g op a b S k=some L→Fin p Q ks N ρ S env k (QO P tt p ρ g env m (.binOp op t x y u)):=fun hw he=>by
   unfold aPh at he
   cases op <;> first | exact lB c he hw cor | exact gR c he hgk hw cor
  split at h
  ·exact int hw h
  ·exact int hw h
  ·rename_i hd
   rw [hd] at hdd
   cases he:ti.eq with
   | false=>rw [he] at h; simp at h
   | true =>
    rw [he] at h
    simp only [cond_true] at h
    have hgd:=(hee he).2
    split at h
    ·refine gR c h hgk hw fun hon w hw'=>?_
     simp only [E.ev,← h1' hon,← h2' hon] at hw'
     rw [hev]; exact aXn (neg:=false) hdd hgd hw'
    ·refine gR c h hgk hw fun hon w hw'=>?_
     simp only [E.ev,← h1' hon,← h2' hon] at hw'
     rw [hev]; exact aXn (neg:=true) hdd hgd hw'
    ·simp at h
  ·rename_i fs hd
   cases he:(ti.eq && ti.agg) with
   | false=>rw [he] at h; simp at h
   | true =>
    rw [he] at h
    simp only [cond_true] at h
    simp only [Bool.and_eq_true] at he
    have hgd:=(hee he.1).2
    split at h
    ·rename_i qs hqs
     have key:∀ (neg:Bool) (w:V),aJ9 qs neg v1.aI v2.aI=some w→∃ v,binV P (if neg then .neq else .eql) t v1 v2=some v∧v.aI=w:=by
      intro neg w hw'
      unfold aJ9 at hw'
      split at hw'
      ·rename_i xs ys e1 e2
       obtain ⟨xs,rfl,rfl⟩:=a6g e1
       obtain ⟨ys,rfl,rfl⟩:=a6g e2
       simp only [Option.map_eq_some_iff] at hw'
       obtain ⟨r,e3,rfl⟩:=hw'
       have e4:=(aNx hT 20 t ti qs hti hqs).2 xs ys r (aCp e3)
       simp only [he.2,if_true] at e4
       cases neg <;> simp [binV,hgd,e4,V.aI]
      ·simp at hw'
     split at h
     ·refine gR c h hgk hw fun hon w hw'=>?_
      simp only [E.ev,← h1' hon,← h2' hon] at hw'
      rw [hev]; exact key false w hw'
     ·refine gR c h hgk hw fun hon w hw'=>?_
      simp only [E.ev,← h1' hon,← h2' hon] at hw'
      rw [hev]; exact key true w hw'
     ·simp at h
    ·simp at h
  ·simp at h
 ·simp at h
theorem b0s (c:aK N gk gb S ρ env m) {g:Gd} (hgk:oV S ρ g) {op:UnOp} {t:TypeId} {x:Operand} {k:SV→SS→OL} {L:L} (h:fW tt g (.unOp op t x) S k=some L) (hw:L.wp p Q S.nv ρ ks) :
  Fin p Q ks N ρ S env k (QO P tt p ρ g env m (.unOp op t x)):=by
 simp only [fW] at h
 split at h
 ·rename_i a ha
  obtain ⟨v1,h1,h1',_⟩:=c.gZ ha
  refine gR c h hgk hw fun hon w hw'=>?_
  simp only [E.ev,← h1' hon] at hw'
  simp only [aY,ev1,h1]
  exact b3m hw'
 ·simp at h
include hT in
theorem aR8 (c:aK N gk gb S ρ env m) {g:Gd} (hgk:oV S ρ g) {s d:TypeId} {x:Operand} {k:SV→SS→OL} {L:L} (h:fW tt g (.convert s d x) S k=some L) (hw:L.wp p Q S.nv ρ ks) :
  Fin p Q ks N ρ S env k (QO P tt p ρ g env m (.convert s d x)):=by
 simp only [fW] at h
 split at h
 ·rename_i si di a hsi hdi ha
  obtain ⟨stok,hst⟩:=hT s si hsi
  obtain ⟨dtok,hdt⟩:=hT d di hdi
  obtain ⟨v1,h1,h1',_⟩:=c.gZ ha
  have hs:=stok.d
  have hd:=dtok.d
  rw [hst] at hs
  rw [hdt] at hd
  have hev:aY P (CE tt p) env m.H (.convert s d x)=a1y P s d v1:=by simp only [aY,ev1,h1]
  split at h
  ·rename_i q1 q2 e1 e2
   rw [e1] at hs; rw [e2] at hd
   refine gR c h hgk hw fun hon w hw'=>?_
   simp only [E.ev,← h1' hon] at hw'
   rw [hev,aYu hs hd]; exact aY0 hw'
  ·rename_i e1 e2
   rw [e1] at hs; rw [e2] at hd
   refine gR c h hgk hw fun hon w hw'=>?_
   simp only [E.ev,← h1' hon] at hw'
   rw [hev,aUq hs hd]; exact aU8 hw'
  ·rename_i e e1 e2
   rw [e1] at hs; rw [e2] at hd
   split at h
   ·rename_i ei hei
    split at h
    ·rename_i e3
     obtain ⟨etok,het⟩:=hT e ei hei
     have he:=etok.d
     rw [het,e3] at he
     refine lB c h hw fun hon w hw'=>?_
     simp only [E.ev,← h1' hon] at hw'
     rw [hev,aUr hs he hd]; exact aU9 hw'
    ·simp at h
   ·simp at h
  ·simp at h
 ·simp at h
include hT in
theorem aY5 (c:aK N gk gb S ρ env m) {g:Gd} {t:TypeId} {x:Operand} {lo hi:Option Operand} {k:SV→SS→OL} {L:L} (h:fW tt g (.slice t x lo hi none) S k=some L) (hw:L.wp p Q S.nv ρ ks) :
  Fin p Q ks N ρ S env k (QO P tt p ρ g env m (.slice t x lo hi none)):=by
 simp only [fW] at h
 split at h
 ·rename_i ti a l hh hti ha hl hhi
  obtain ⟨tok,htt⟩:=hT t ti hti
  obtain ⟨v1,h1,h1',_⟩:=c.gZ ha
  obtain ⟨v2,h2,h2',_⟩:=c.a4j hl
  obtain ⟨v3,h3,h3',_⟩:=c.a4j hhi
  have hd:=tok.d
  rw [htt] at hd
  have hev:aY P (CE tt p) env m.H (.slice t x lo hi none)=sliceV P t v1 v2 v3:=by simp only [aY,h1,h2,h3]
  split at h
  ·rename_i e1
   rw [e1] at hd
   refine lB c h hw fun hon w hw'=>?_
   simp only [E.ev,← h1' hon,← h2' hon,← h3' hon] at hw'
   rw [hev,aUm hd]; exact b2k hw'
  ·rename_i e e1
   rw [e1] at hd
   split at h
   ·rename_i ei hei
    obtain ⟨etok,het⟩:=hT e ei hei
    have hz:=etok.sz
    rw [het] at hz
    cases hp:Nat.blt 0 ei.sz with
    | false=>rw [hp] at h; simp at h
    | true =>
     rw [hp] at h
     refine lB c h hw fun hon w hw'=>?_
     simp only [E.ev,← h1' hon,← h2' hon,← h3' hon] at hw'
     rw [hev,aUn hd hz (gH hp)]; exact b2l hw'
   ·simp at h
  ·simp at h
 ·simp at h
include hT in
theorem aNy {t : TypeId} {ti : TI} (hti : cK tt t = some ti) {fs : List (Nat × TypeId)} (hd : ti.d = .st fs) {f off : Nat} {ft : TypeId} (hf : fs[f]? = some (off,ft)) :
  ∃ (a : Array Field) (fd : Field),P.underlying t = some (.struct a) ∧ a[f]? = some fd ∧ fd.offset = off ∧ fd.type = ft:=by
 obtain ⟨tok,htt⟩:=hT t ti hti
 have hdd:=tok.d
 rw [htt,hd] at hdd
 obtain ⟨a,h1,h2,_⟩:=hdd
 rw [← h2,List.getElem?_map,Option.map_eq_some_iff] at hf
 obtain ⟨fd,h3,h4⟩:=hf
 simp only [Prod.mk.injEq] at h4
 exact ⟨a,fd,h1,by rw [← Array.getElem?_toList]; exact h3,h4.1,h4.2⟩
include hT in
theorem aY6 (c:aK N gk gb S ρ env m) {g:Gd} (hgk:oV S ρ g) {t:TypeId} {x:Operand} {f:Nat} {k:SV→SS→OL} {L:L} (h:fW tt g (.field t x f) S k=some L) (hw:L.wp p Q S.nv ρ ks) :
  Fin p Q ks N ρ S env k (QO P tt p ρ g env m (.field t x f)):=by
 simp only [fW] at h
 split at h
 ·rename_i ti a hti ha
  obtain ⟨v1,h1,h1',hbel⟩:=c.gZ ha
  split at h
  ·rename_i fs hd
   split at h
   ·rename_i off ft hf
    split at h
    ·rename_i fi hfi
     obtain ⟨A',fd,hu,hfd,ho,hft⟩:=aNy hT hti hd hf
     obtain ⟨ftok,hftt⟩:=hT ft fi hfi
     have hag:=ftok.agg; have hsz:=ftok.sz
     rw [hftt] at hag hsz
     have hev:aY P (CE tt p) env m.H (.field t x f)=a9u fi.agg fi.sz off v1:=by
      simp only [aY,ev1,h1]
      exact aYt hu hfd (by rw [hft]; exact hag) (by rw [hft]; exact hsz) ho v1
     have part:∀ {pg:Bool} {pn:Nat} {L:Go.Fbs.L},L.wp p Q S.nv ρ ks→fi.agg=pg→(pg=true→pn=fi.sz)→iJ g [a] (.part pg pn off a) S k=some L→Fin p Q ks N ρ S env k (QO P tt p ρ g env m (.field t x f)):=by
      intro pg pn L hw hpg hpn he
      refine gR c he hgk hw fun hon w hw'=>?_
      simp only [E.ev,← h1' hon] at hw'
      obtain ⟨cs,v',e1,e2,e3,_⟩:=aR6 hw'
      refine ⟨v',?_,e3⟩
      rw [hev,e1,hpg]
      simp only [a9u]
      cases pg with
      | true=>rw [← hpn rfl]; exact e2
      | false=>simp only [nI,Bool.false_eq_true,if_false] at e2 ⊢; exact e2
     cases hg:fi.agg with
     | true=>rw [hg] at h; exact part hw hg (fun _=>rfl) h
     | false =>
      rw [hg] at h
      simp only [cond_false] at h
      cases hz1:Nat.beq fi.sz 1 with
      | false=>rw [hz1] at h; simp at h
      | true =>
       rw [hz1] at h
       simp only [cond_true] at h
       split at h
       ·rename_i i
        cases hc:(S.jP (.v i) ti.sz && Nat.blt off ti.sz && Nat.blt 0 ti.sz) with
        | false=>rw [hc] at h; exact part hw hg (by simp) h
        | true =>
         rw [hc] at h
         simp only [cond_true] at h
         simp only [Bool.and_eq_true] at hc
         obtain ⟨ds,hd1,hd2,hd3⟩:=rN (gH hc.2) (c.jP hc.1.1)
         have hlt:=gH hc.1.2
         replace h1':=h1' trivial
         rw [hd1] at h1'
         obtain ⟨cs,rfl,rfl⟩:=a6g h1'
         rw [List.length_map] at hd2
         refine lS c h hw ⟨rfl,show aY P (CE tt p) env m.H (.field t x f)=some (cs[off]'(by omega)) from ?_⟩ ?_ ?_
         ·rw [hev,hg]
          simp only [a9u,nI,Bool.false_eq_true,if_false]
          exact List.getElem?_eq_getElem _
         ·show V.aI _=aA (A.den ρ (.v i)) off
          rw [hd1]
          simp only [aA,V.cells]
          rw [List.getD_eq_getElem?_getD,List.getElem?_map,List.getElem?_eq_getElem (by omega)]
          rfl
         ·exact Nat.ble_eq_true_of_le (c.a7w hc.1.1)
       ·exact part hw hg (by simp) h
    ·simp at h
   ·simp at h
  ·simp at h
 ·simp at h
include hT in
theorem aMv (c:aK N gk gb S ρ env m) {g:Gd} (hgk:oV S ρ g) {t:TypeId} {x:Operand} {f:Nat} {k:SV→SS→OL} {L:L} (h:fW tt g (.fieldAddr t x f) S k=some L) (hw:L.wp p Q S.nv ρ ks) :
  Fin p Q ks N ρ S env k (QO P tt p ρ g env m (.fieldAddr t x f)):=by
 simp only [fW] at h
 split at h
 ·rename_i ti s hti hs
  obtain ⟨v1,h1,h2,hbel⟩:=c.fT hs
  split at h
  ·rename_i fs hd
   split at h
   ·rename_i off ft hf
    split at h
    ·rename_i fi hfi
     obtain ⟨A',fd,hu,hfd,ho,hft⟩:=aNy hT hti hd hf
     obtain ⟨ftok,hftt⟩:=hT ft fi hfi
     have hsz:=ftok.sz
     rw [hftt] at hsz
     cases hp:Nat.blt 0 fi.sz with
     | false=>rw [hp] at h; simp at h
     | true =>
      rw [hp] at h
      simp only [cond_true] at h
      obtain ⟨q,hq⟩:∃ q,fi.sz=q+1:=⟨fi.sz - 1,by have:=gH hp; omega⟩
      have hev:aY P (CE tt p) env m.H (.fieldAddr t x f)=a7i off v1:=by
       simp only [aY,ev1,h1]
       exact aMn hu hfd (by rw [hft,hsz,hq]) ho v1
      split at h
      ·rename_i b o hv
       cases hgf:jG hv g with
       | false=>rw [hgf] at h; simp at h
       | true =>
        rw [hgf] at h
        refine a7x c hgk h hw hgk.1 (fun hon=>?_) (fun hoff=>⟨fun h=>absurd h hoff,fun _=>rfl⟩)
        obtain ⟨l,hl,hv'⟩:=h2.1 (qF hgf hon)
        rw [hev,hv']
        exact ⟨_,rfl,fun _=>⟨l,hl,rfl⟩,fun h=>absurd hon h⟩
      ·rename_i a n o hv
       cases hgf:(jG hv g && Nat.blt 0 n) with
       | false=>rw [hgf] at h; simp at h
       | true =>
        rw [hgf] at h
        simp only [Bool.and_eq_true] at hgf
        refine a7x c hgk h hw ?_ (fun hon=>?_) (fun hoff=>⟨fun h=>absurd h hoff,fun _=>rfl⟩)
        ·simp only [SV.below,Bool.and_eq_true] at hbel ⊢
         exact ⟨hbel.1,hgk.1⟩
        ·obtain ⟨cs,h3,h4,h5⟩:=h2.1 (qF hgf.1 hon)
         rw [hev,h3]
         exact ⟨_,rfl,fun _=>⟨cs,by simp,h4,h5⟩,fun h=>absurd hon h⟩
      ·simp at h
    ·simp at h
   ·simp at h
  ·simp at h
 ·simp at h
include hT in
theorem aMw (c:aK N gk gb S ρ env m) {g:Gd} (hgk:oV S ρ g) {t:TypeId} {x i:Operand} {k:SV→SS→OL} {L:L} (h:fW tt g (.indexAddr t x i) S k=some L) (hw:L.wp p Q S.nv ρ ks) :
  Fin p Q ks N ρ S env k (QO P tt p ρ g env m (.indexAddr t x i)):=by
 simp only [fW] at h
 split at h
 ·rename_i b o hv hx
  obtain ⟨v1,h1,h1',h1b⟩:=c.fT hx
  split at h
  ·rename_i ti j hti hj
   obtain ⟨tok,htt⟩:=hT t ti hti
   obtain ⟨v2,h2,h2',_⟩:=c.gZ hj
   have hd:=tok.d
   rw [htt] at hd
   split at h
   ·rename_i n e e1
    rw [e1] at hd
    split at h
    ·rename_i ei hei
     obtain ⟨etok,het⟩:=hT e ei hei
     have hz:=etok.sz
     rw [het] at hz
     cases hp:(jG hv g && Nat.blt 1 n && Nat.beq ei.sz 1) with
     | false=>rw [hp] at h; simp at h
     | true =>
      rw [hp] at h
      simp only [cond_true] at h
      simp only [Bool.and_eq_true] at hp
      have hn1:=gH hp.1.2
      have hs1:=Nat.eq_of_beq_eq_true hp.2
      have hev:aY P (CE tt p) env m.H (.indexAddr t x i)=a2a n ei.sz v1 v2:=by
       simp only [aY,ev2,h1,h2]
       exact aJv hd hz v1 v2
      obtain ⟨y,L',kn,bl,e2,e3,e4,e5⟩:=iT c h hw
      have hbel:SV.below (S.nv+1) (.pix b o n (.v S.nv) g)=true:=by
       simp only [SV.below,Bool.and_eq_true]
       exact ⟨jU _,Gd.bN hgk.1 (Nat.le_succ _)⟩
      have hgi:fX (ext ρ S.nv y) g↔fX ρ g:=oU (bI _ _ _) hgk.1
      rcases tB e2 with ⟨hon,e6⟩ | ⟨hoff,rfl,e6⟩
      ·simp only [E.ev,← h2' hon] at e6
       obtain ⟨l,hl,hv1⟩:=h1'.1 (qF hp.1.1 hon)
       unfold aU0 at e6
       split at e6
       ·rename_i q z hq
        split at e6
        ·rename_i hzn
         simp only [Option.some.injEq] at e6
         have hv2:=jA hq
         refine ⟨.ptr l (o+z.toNat),m,_,_,_,L',gk,gb,⟨rfl,?_⟩,e3,e4,e5,⟨fun _=>⟨l,q,z.toNat,hl,?_,by omega,rfl⟩,fun h=>absurd (hgi.2 hon) h⟩,hbel,bI _ _ _,Nat.le_succ _,rfl⟩
         ·rw [n8 hon,hev,hv1,hv2]
          simp only [a2a,hs1,Nat.mul_one]
          rw [if_pos ⟨hzn.1,hzn.2,hn1⟩]
         ·show ext ρ S.nv y S.nv=_
          rw [iP,← e6]
          congr 1; omega
        ·simp at e6
       ·simp at e6
      ·exact ⟨.undef,m,_,_,_,L',gk,gb,⟨rfl,e6 _⟩,e3,e4,e5,⟨fun h=>absurd (hgi.1 h) hoff,fun _=>rfl⟩,hbel,bI _ _ _,Nat.le_succ _,rfl⟩
    ·simp at h
   ·simp at h
  ·simp at h
 ·split at h
  ·rename_i ti a j hti ha hj
   obtain ⟨tok,htt⟩:=hT t ti hti
   obtain ⟨v1,h1,h1',_⟩:=c.gZ ha
   obtain ⟨v2,h2,h2',_⟩:=c.gZ hj
   have hd:=tok.d
   rw [htt] at hd
   split at h
   ·rename_i e e1
    rw [e1] at hd
    split at h
    ·rename_i ei hei
     obtain ⟨etok,het⟩:=hT e ei hei
     have hz:=etok.sz
     rw [het] at hz
     cases hp:(Nat.blt 0 ei.sz && (ei.agg || Nat.beq ei.sz 1)) with
     | false=>rw [hp] at h; simp at h
     | true =>
      rw [hp] at h
      simp only [cond_true] at h
      simp only [Bool.and_eq_true,Bool.or_eq_true] at hp
      have hpos:=gH hp.1
      obtain ⟨q,hq⟩:∃ q,ei.sz=q+1:=⟨ei.sz - 1,by omega⟩
      have hev:aY P (CE tt p) env m.H (.indexAddr t x i)=xS ei.sz v1 v2:=by
       simp only [aY,ev2,h1,h2,hq]
       exact aJu hd (by rw [hz,hq]) v1 v2
      obtain ⟨y,L',kn,bl,e2,e3,e4,e5⟩:=iT c h hw
      have hbel:SV.below (S.nv+1) (.elem (.v S.nv) (bif ei.agg then ei.sz else 0) 0 g)=true:=by
       simp only [SV.below,Bool.and_eq_true]
       exact ⟨jU _,Gd.bN hgk.1 (Nat.le_succ _)⟩
      have hgi:fX (ext ρ S.nv y) g↔fX ρ g:=oU (bI _ _ _) hgk.1
      rcases tB e2 with ⟨hon,e6⟩ | ⟨hoff,rfl,e6⟩
      ·simp only [E.ev,← h1' hon,← h2' hon] at e6
       obtain ⟨cs,e7,e8,e9⟩:=b0n e6 hpos (fun hg=>by
        rcases hp.2 with h | h
        ·rw [hg] at h; simp at h
        ·exact Nat.eq_of_beq_eq_true h)
       refine ⟨.ro cs,m,_,_,_,L',gk,gb,⟨rfl,?_⟩,e3,e4,e5,⟨fun _=>⟨cs,rfl,?_,?_⟩,fun h=>absurd (hgi.2 hon) h⟩,hbel,bI _ _ _,Nat.le_succ _,rfl⟩
       ·rw [n8 hon,hev]; exact e7
       ·show _=(ext ρ S.nv y S.nv).cells; rw [iP]; exact e8
       ·show kI _ (ext ρ S.nv y S.nv); rw [iP]
        cases hg:ei.agg <;> rw [hg] at e9 <;> exact e9
      ·exact ⟨.undef,m,_,_,_,L',gk,gb,⟨rfl,e6 _⟩,e3,e4,e5,⟨fun h=>absurd (hgi.1 h) hoff,fun _=>rfl⟩,hbel,bI _ _ _,Nat.le_succ _,rfl⟩
    ·simp at h
   ·simp at h
  ·simp at h
include hT in
theorem aY7 (c:aK N gk gb S ρ env m) {g:Gd} {t:TypeId} {x i:Operand} {k:SV→SS→OL} {L:L} (h:fW tt g (.index t x i) S k=some L) (hw:L.wp p Q S.nv ρ ks) :
  Fin p Q ks N ρ S env k (QO P tt p ρ g env m (.index t x i)):=by
 simp only [fW] at h
 split at h
 ·rename_i ti a j hti ha hj
  obtain ⟨tok,htt⟩:=hT t ti hti
  obtain ⟨v1,h1,h1',_⟩:=c.gZ ha
  obtain ⟨v2,h2,h2',_⟩:=c.gZ hj
  have hd:=tok.d
  rw [htt] at hd
  have hev:aY P (CE tt p) env m.H (.index t x i)=indexV P t v1 v2:=by simp only [aY,ev2,h1,h2]
  split at h
  ·rename_i e1
   rw [e1] at hd
   refine lB c h hw fun hon w hw'=>?_
   simp only [E.ev,← h1' hon,← h2' hon] at hw'
   rw [hev,aUo hd]; exact b0l hw'
  ·rename_i n e e1
   rw [e1] at hd
   split at h
   ·rename_i ei hei
    obtain ⟨etok,het⟩:=hT e ei hei
    have hz:=etok.sz; have hag:=etok.agg
    rw [het] at hz hag
    refine lB c h hw fun hon w hw'=>?_
    simp only [E.ev,← h1' hon,← h2' hon] at hw'
    rw [hev,aUp hd hag hz]; exact b0m hw'
   ·simp at h
  ·simp at h
 ·simp at h
theorem aR9 (c:aK N gk gb S ρ env m) {g:Gd} (hgk:oV S ρ g) {x:Operand} {i:Nat} {k:SV→SS→OL} {L:L} (h:fW tt g (.extract x i) S k=some L) (hw:L.wp p Q S.nv ρ ks) :
  Fin p Q ks N ρ S env k (QO P tt p ρ g env m (.extract x i)):=by
 simp only [fW] at h
 split at h
 ·rename_i a ha
  obtain ⟨v1,h1,h1',_⟩:=c.gZ ha
  refine gR c h hgk hw fun hon w hw'=>?_
  simp only [E.ev,← h1' hon] at hw'
  simp only [aY,ev1,h1]
  exact b2m hw'
 ·simp at h
theorem aKo (c : aK N gk gb S ρ env m) : ∀ {xs : List Operand} {l : List (Nat × Nat)},a4l S xs = some l → xs = l.map (fun q=>Operand.tmp q.1) ∧ ∃ cs,Fbs.evs env xs = some cs ∧ cs.length = l.length ∧ ∀ (i : Nat) q v,l[i]? = some q → cs[i]? = some v → ∃ l',gb[q.2]? = some l' ∧ v = .ptr l' 0
 | [],l,h=>by
  simp only [a4l,Option.some.injEq] at h
  subst h
  exact ⟨rfl,[],rfl,rfl,fun i q v hq _=>by simp at hq⟩
 | .tmp t::r,l,h=>by
  simp only [a4l] at h
  split at h
  ·rename_i b l' h1 h2
   simp only [Option.some.injEq] at h
   subst h
   obtain ⟨e0,cs,e1,e2,e3⟩:=aKo c h2
   obtain ⟨g1,g2,_⟩:=c.bM t _ h1
   obtain ⟨a,g3,g4⟩:=g2.1 trivial
   have hev:Fbs.ev env (.tmp t)=some (.ptr a 0):=by
    simp only [Fbs.ev,Env.get]
    rw [if_pos (by rw [c.n]; exact g1),g4]
   refine ⟨by simp [← e0],.ptr a 0::cs,by simp only [Fbs.evs,hev,e1],by simp [e2],fun i q v hq hv=>?_⟩
   cases i with
   | zero =>
    simp only [List.getElem?_cons_zero,Option.some.injEq] at hq hv
    subst hq hv
    exact ⟨a,g3,rfl⟩
   | succ i=>exact e3 i q v (by simpa using hq) (by simpa using hv)
  ·simp at h
 | .const _::_,_,h=>by simp [a4l] at h
 | .func _::_,_,h=>by simp [a4l] at h
 | .global _::_,_,h=>by simp [a4l] at h
theorem aPz (c:aK N gk gb S ρ env m) {g:Gd} {fn:Fn} {first caps:Array Operand} {k:SV→SS→OL} {L:L} (h:fW tt g (.makeFunc fn first caps) S k=some L) (hw:L.wp p Q S.nv ρ ks) :
  Fin p Q ks N ρ S env k (QO P tt p ρ g env m (.makeFunc fn first caps)):=by
 cases fn with
 | func f =>
  simp only [fW] at h
  split at h
  ·rename_i t b l hcap
   cases hf:(first.isEmpty && isE tt f) with
   | false=>rw [hf] at h; simp at h
   | true =>
    rw [hf] at h
    simp only [cond_true] at h
    simp only [Bool.and_eq_true] at hf
    obtain ⟨_,cs,e1,e2,e3⟩:=aKo c hcap
    have hfirst:first = #[]:=by simpa using hf.1
    refine lS (v:=.func f cs) c h hw ⟨rfl,?_⟩ ⟨cs,rfl,e2,e3⟩ rfl
    show aY P (CE tt p) env m.H (.makeFunc (.func f) first caps)=_
    simp only [aY,e1,hfirst,if_true]
  split at h
  ·rename_i as has
   obtain ⟨vs,h1,h2,_⟩:=c.kZ has
   cases hf:first.isEmpty with
   | false=>rw [hf] at h; simp at h
   | true =>
    rw [hf] at h
    refine lB c h hw fun hon w hw'=>⟨.func f vs,?_,?_⟩
    ·have:first = #[]:=by simpa using hf
     simp only [aY,h1,this,if_true]
    ·simp only [E.ev,Option.some.injEq] at hw'
     rw [← hw',← h2 hon]; simp [V.aI,bP]
  ·simp at h
 | _=>simp [fW] at h
end
end Go.Fbs

/- Structs,slices written out,calls. -/
namespace Go.Fbs
section
variable {P:Program} {tt:TT} (hT:∀ t ti,cK tt t=some ti→bG P ti∧ti.t=t)
variable {p:PT} {Q:V→Prop} {ks:List (List V→Prop)} {N:Nat} {gk:Nat→Option Nat} {gb:List Nat} {S:SS} {ρ:Nat→V} {env:Env} {m:Hp}
theorem a99 {α:Type} {cs new:List α} {off:Nat} (h:off+new.length≤cs.length):(putCells cs off new).length=cs.length:=by
 simp [putCells]; omega
theorem aAa {α β:Type} (f:α→β) (cs new:List α) (off:Nat):(putCells cs off new).map f=putCells (cs.map f) off (new.map f):=by
 simp [putCells,List.map_take,List.map_drop]
theorem aIt {cs new:List A} {off nv:Nat} (h1:cs.all (A.below nv)=true) (h2:new.all (A.below nv)=true):(putCells cs off new).all (A.below nv)=true:=by
 rw [List.all_eq_true] at *
 intro a ha
 simp only [putCells,List.mem_append] at ha
 rcases ha with (ha | ha) | ha
 ·exact h1 a (List.mem_of_mem_take ha)
 ·exact h2 a ha
 ·exact h1 a (List.mem_of_mem_drop ha)
theorem qG {l:List A} {n n':Nat} (h:l.all (A.below n)=true) (hn:n≤n'):l.all (A.below n')=true:=by
 rw [List.all_eq_true] at *
 exact fun a ha=>A.bN (h a ha) hn
theorem oN {ρ':Nat→V} {n:Nat} (h:aS ρ ρ' n):∀ {l:List A},l.all (A.below n)=true→l.map (A.den ρ')=l.map (A.den ρ)
 | [],_=>rfl
 | a::l,hl=>by
  simp only [List.all_cons,Bool.and_eq_true] at hl
  simp only [List.map_cons]
  rw [fY h hl.1,oN h hl.2]
theorem aAb {g:Gd} {place:Nat→Option (Nat×TypeId)} {place':Nat→Option (Nat×Nat)} (hpl:∀ i off t ti,place i=some (off,t)→cK tt t=some ti→place' i=some (off,ti.sz)) :
  ∀ {parts:List (Nat×Operand)} {S:SS} {ρ:Nat→V} {cs:List A} {k:List A→SS→OL} {L:L} (c:aK N gk gb S ρ env m) (hgk:oV S ρ g) (hcs:cs.all (A.below S.nv)=true) {zs:List V} (hz:fX ρ g→zs.map V.aI=cs.map (A.den ρ))
   (h:a06 tt g place parts cs S k=some L) (hw:L.wp p Q S.nv ρ ks),
   ∃ cs' nv kn bl ρ' L',k cs' (S.j8 nv kn bl)=some L'∧L'.wp p Q nv ρ' ks∧aK N gk gb (S.j8 nv kn bl) ρ' env m∧S.nv≤nv∧aS ρ ρ' S.nv ∧
    (fX ρ g→∃ ps zs',lO env parts=some ps∧nC ps=true∧fillV place' zs ps=some zs'∧zs'.map V.aI=cs'.map (A.den ρ'))
 | [],S,ρ,cs,k,L,c,hgk,hcs,zs,hz,h,hw=>⟨cs,S.nv,S.known,(S.cD,S.xY),ρ,L,h,hw,c,Nat.le_refl _,aS.refl _ _,fun hon=>⟨[],zs,rfl,rfl,rfl,hz hon⟩⟩
 | (i,x)::r,S,ρ,cs,k,L,c,hgk,hcs,zs,hz,h,hw=>by
  simp only [a06] at h
  split at h
  ·rename_i off t a hp ha
   split at h
   ·rename_i ti hti
    obtain ⟨v,h1,h1',hab⟩:=c.gZ ha
    have hpl':=hpl i off t ti hp hti
    cases hle:Nat.ble (off+ti.sz) cs.length with
    | false=>rw [hle] at h; simp at h
    | true =>
     rw [hle] at h
     simp only [cond_true] at h
     have hle':=Nat.le_of_ble_eq_true hle
     have go:∀ {new:List A} {nv1:Nat} {kn1:List (Nat×Nat)} {bl1:List Nat×List Nat} {ρ1:Nat→V} {L1:Go.Fbs.L},a06 tt g place r (putCells cs off new) (S.j8 nv1 kn1 bl1) k=some L1→L1.wp p Q nv1 ρ1 ks→aK N gk gb (S.j8 nv1 kn1 bl1) ρ1 env m→S.nv≤nv1→aS ρ ρ1 S.nv →
       new.all (A.below nv1)=true→(fX ρ g→v.cells.map V.aI=new.map (A.den ρ1)∧v.cells.length=ti.sz∧v.ok1=true) →
       ∃ cs' nv kn bl ρ' L',k cs' (S.j8 nv kn bl)=some L'∧L'.wp p Q nv ρ' ks∧aK N gk gb (S.j8 nv kn bl) ρ' env m∧S.nv≤nv∧aS ρ ρ' S.nv ∧
        (fX ρ g→∃ ps zs',lO env ((i,x)::r)=some ps∧nC ps=true∧fillV place' zs ps=some zs'∧zs'.map V.aI=cs'.map (A.den ρ')):=by
      intro new nv1 kn1 bl1 ρ1 L1 k1 k2 k3 k6 k7 hnew hval
      have hon1:fX ρ1 g↔fX ρ g:=oU k7 hgk.1
      obtain ⟨cs',nv,kn,bl,ρ',L',q1,q2,q3,q4,q5,q6⟩:=aAb hpl k3 (hgk.more k6 k7) (cs:=putCells cs off new) (zs:=putCells zs off v.cells)
       (aIt (qG hcs k6) hnew) (fun ho=>by
        have ho:=hon1.1 ho
        rw [aAa,aAa,hz ho,(hval ho).1,oN k7 hcs]) k1 k2
      refine ⟨cs',nv,kn,bl,ρ',L',q1,q2,q3,Nat.le_trans k6 q4,k7.trans q5 k6,fun hon=>?_⟩
      obtain ⟨ps,zs',p1,p2,p3,p4⟩:=q6 (hon1.2 hon)
      obtain ⟨v1,v2,v3⟩:=hval hon
      have hzl:zs.length=cs.length:=by have:=congrArg List.length (hz hon); simpa using this
      refine ⟨(i,v)::ps,zs',by simp only [lO,h1,p1],by simp only [nC,List.all_cons,v3,Bool.true_and]; exact p2,?_,p4⟩
      simp only [fillV,hpl']
      have:(v.cells.length≠ti.sz || off+v.cells.length > zs.length)=false:=by simp [v2]; omega
      rw [if_neg (by rw [this]; simp)]; exact p3
     cases hag:ti.agg with
     | true =>
      rw [hag] at h
      simp only [cond_true] at h
      obtain ⟨j,nv1,kn1,bl1,ρ1,L1,k1,k2,k3,k4,k5,k6,k7,k8⟩:=aHn c h hw
      have hcl:(cellsOf j ti.sz 0).length=ti.sz:=a5j _ _ _
      refine go k1 k2 k3 k6 k7 (a89 k5 0) fun hon=>?_
      obtain ⟨e1,e2⟩:=k8 hon
      obtain ⟨ds,d1,d2,d3⟩:=rN k4 e2
      have hvc:v.cells.map V.aI=(cellsOf j ti.sz 0).map (A.den ρ1):=by
       rw [a5k ρ1 (cs:=ds) (by rw [d1]; rfl) d2,← a05,h1' hon,← e1,d1]; rfl
      exact ⟨hvc,by have:=congrArg List.length hvc; simpa [hcl] using this,by rw [← aGd,h1' hon,← e1,d1]; rfl⟩
     | false =>
      rw [hag] at h
      simp only [cond_false] at h
      cases hz1:Nat.beq ti.sz 1 with
      | false=>rw [hz1] at h; simp at h
      | true =>
       rw [hz1] at h
       simp only [cond_true] at h
       obtain ⟨a',nv1,kn1,bl1,ρ1,L1,k1,k2,k3,k5,k6,k7,k8⟩:=a97 c hab h hw
       refine go k1 k2 k3 k6 k7 (by simp [k5]) fun hon=>?_
       obtain ⟨e1,e2⟩:=k8 hon
       have hsv:sc v=true:=by rw [← aJ3,h1' hon]; exact e2
       rw [a3h hsv]
       exact ⟨by simp [h1' hon,e1],by rw [Nat.eq_of_beq_eq_true hz1]; rfl,aJ2 hsv⟩
   ·simp at h
  ·simp at h
include hT in
theorem aP0 {fs : List Field} {fs' : List (Nat × TypeId)} (hf : fs.map (fun f=>(f.offset,f.type)) = fs') (hall : ∀ q ∈ fs',∃ ti,cK tt q.2 = some ti) : ∃ ps,zP P fs = some ps ∧ ∀ (i off : Nat) t ti,fs'[i]? = some (off,t) → cK tt t = some ti → ps[i]? = some (off,ti.sz):=by
 induction fs generalizing fs' with
 | nil=>subst hf; exact ⟨[],rfl,fun i off t ti h=>by simp at h⟩
 | cons f fs ih =>
  subst hf
  obtain ⟨ps,h1,h2⟩:=ih rfl (fun q hq=>hall q (by simp only [List.map_cons]; exact List.mem_cons_of_mem _ hq))
  obtain ⟨ti,hti⟩:=hall (f.offset,f.type) (by simp)
  obtain ⟨tok,htt⟩:=hT f.type ti hti
  have hsz:=tok.sz
  rw [htt] at hsz
  refine ⟨(f.offset,ti.sz)::ps,by simp only [zP,hsz,h1],fun i off t ti' h3 h4=>?_⟩
  cases i with
  | zero =>
   simp only [List.map_cons,List.getElem?_cons_zero,Option.some.injEq,Prod.mk.injEq] at h3
   obtain ⟨rfl,rfl⟩:=h3
   rw [hti] at h4
   simp only [Option.some.injEq] at h4
   subst h4; rfl
  | succ i =>
   simp only [List.map_cons,List.getElem?_cons_succ] at h3
   exact h2 i off t ti' h3 h4
theorem aHo (z:List V):(z.map fun v=>A.k v.aI).map (A.den ρ)=z.map V.aI:=by simp [List.map_map,Function.comp_def,A.den]
theorem aCr (z:List V) (n:Nat):(z.map fun v=>A.k v.aI).all (A.below n)=true:=by simp [List.all_map,Function.comp_def,A.below]
theorem a4r {l:List V} {w:V} (h:aD l=some w):w = .agg l∧l.all sc=true:=by
 unfold aD at h
 split at h
 ·rename_i hs
  simp only [Option.some.injEq] at h
  exact ⟨h.symm,hs⟩
 ·simp at h
theorem aE1 {place : Nat → Option (Nat × Nat)} {j : Nat} : ∀ {ps : List (Nat × V)} {zs zs' : List V},fillV place zs ps = some zs' → (∀ q ∈ ps,∀ off sz,place q.1 = some (off,sz) → j < off ∨ off + sz ≤ j) → zs'[j]? = zs[j]?
 | [],zs,zs',h,_=>by simp only [fillV,Option.some.injEq] at h; rw [h]
 | (i,v)::r,zs,zs',h,hk=>by
  simp only [fillV] at h
  split at h
  ·simp at h
  ·rename_i off size hp
   split at h
   ·simp at h
   ·rename_i hc
    have hc:v.cells.length=size∧¬ off+v.cells.length > zs.length:=by simpa using hc
    rw [aE1 h fun q hq=>hk q (by simp [hq])]
    rcases hk (i,v) (by simp) off size hp with h1 | h1
    ·rw [List.append_assoc,List.getElem?_append_left (by simp; omega),List.getElem?_take,if_pos h1]
    ·rw [List.getElem?_append_right (by simp; omega),List.getElem?_drop]
     congr 1; simp; omega
theorem aCs {env:Env} : ∀ {parts:List (Nat×Operand)} {ps:List (Nat×V)},lO env parts=some ps→∀ q ∈ ps,∃ x,(q.1,x) ∈ parts
 | [],ps,h,q,hq=>by simp only [lO,Option.some.injEq] at h; subst h; simp at hq
 | (i,x)::r,ps,h,q,hq=>by
  simp only [lO] at h
  split at h
  ·rename_i v vs h1 h2
   simp only [Option.some.injEq] at h
   subst h
   rcases List.mem_cons.1 hq with rfl | hq
   ·exact ⟨x,by simp⟩
   ·obtain ⟨y,hy⟩:=aCs h2 q hq
    exact ⟨y,by simp [hy]⟩
  ·simp at h
include hT in
theorem aY8 (c:aK N gk gb S ρ env m) {g:Gd} (hgk:oV S ρ g) {t:TypeId} {parts:Array (Nat×Operand)} {k:SV→SS→OL} {L:L} (h:fW tt g (.build t parts) S k=some L) (hw:L.wp p Q S.nv ρ ks) :
  Fin p Q ks N ρ S env k (QO P tt p ρ g env m (.build t parts)):=by
 simp only [fW] at h
 split at h
 ·rename_i ti hti
  obtain ⟨tok,htt⟩:=hT t ti hti
  have hd:=tok.d
  rw [htt] at hd
  have fin:∀ {pl:Nat→Option (Nat×TypeId)} {pl':Nat→Option (Nat×Nat)} {z:List V} {L:Go.Fbs.L},ti.z=some z→(∀ i off t ti,pl i=some (off,t)→cK tt t=some ti→pl' i=some (off,ti.sz)) →
    (∀ ps,nC ps=true→a56 P t ps=(fillV pl' z ps).map V.agg)→L.wp p Q S.nv ρ ks→a06 tt g pl parts.toList (z.map fun v=>.k v.aI) S (fun cs S'=>iJ g cs (.agg cs) S' k)=some L→Fin p Q ks N ρ S env k (QO P tt p ρ g env m (.build t parts)):=by
   intro pl pl' z L hz hpl hb hw h
   obtain ⟨cs',nv,kn,bl,ρ',L',q1,q2,q3,q4,q5,q6⟩:=aAb hpl c hgk (aCr z _) (zs:=z) (fun _=>(aHo z).symm) h hw
   have hon1:fX ρ' g↔fX ρ g:=oU q5 hgk.1
   have hgo:∀ o:Option V,hJ ρ' g o=hJ ρ g o:=fun o=>by
    cases g with
    | none=>rfl
    | some q =>
     obtain ⟨a,b⟩:=q
     simp only [hJ]
     rw [fY q5 (show a.below S.nv=true from hgk.1)]
   refine Fin.step (Fin.mono (gR q3 (o:=aY P (CE tt p) env m.H (.build t parts)) q1 (hgk.more q4 q5) q2 fun hon w hw'=>?_) fun v m' ⟨e1,e2⟩=>⟨e1,by rw [← hgo]; exact e2⟩) q5 q4 rfl
   obtain ⟨ps,zs',p1,p2,p3,p4⟩:=q6 (hon1.1 hon)
   simp only [E.ev] at hw'
   obtain ⟨rfl,_⟩:=a4r hw'
   refine ⟨.agg zs',?_,?_⟩
   ·simp only [aY,p1]
    rw [hb ps p2,p3]; rfl
   ·simp only [V.aI,bP,p4]
  split at h
  ·rename_i fs z hdd hz
   rw [hdd] at hd
   obtain ⟨a,hu,hfs,_⟩:=hd
   obtain ⟨zv,hz1,hz2,_⟩:=tok.z z hz
   rw [htt] at hz1
   cases hall:fs.all (fun q=>(cK tt q.2).isSome) with
   | false=>rw [hall] at h; simp at h
   | true =>
    rw [hall] at h
    simp only [cond_true] at h
    obtain ⟨ps,hp1,hp2⟩:=aP0 hT (fs:=a.toList) hfs (fun q hq=>Option.isSome_iff_exists.1 (List.all_eq_true.1 hall q hq))
    have hb:∀ ps',nC ps'=true→a56 P t ps'=(fillV (fun i=>ps[i]?) z ps').map V.agg:=fun ps' hok=>by
     unfold a56 buildV
     rw [if_pos hok]
     simp only [hu,hz1,hp1,hz2]
    cases g with
    | some q=>exact fin (pl':=fun i=>ps[i]?) hz hp2 hb hw h
    | none =>
     obtain ⟨cs',nv,kn,bl,ρ',L',q1,q2,q3,q4,q5,q6⟩:=aAb (place':=fun i=>ps[i]?) hp2 c hgk (aCr z _) (zs:=z) (fun _=>(aHo z).symm) h hw
     obtain ⟨y,L2,kn2,bl2,r1,r2,r3,r4⟩:=iT q3 q1 q2
     obtain ⟨pv,zs',p1,p2,p3,p4⟩:=q6 trivial
     have r1:aD (cs'.map (A.den ρ'))=some y:=r1
     obtain ⟨rfl,_⟩:=a4r r1
     have hev:aY P (CE tt p) env m.H (.build t parts)=some (.agg zs'):=by
      simp only [aY,p1]
      rw [hb pv p2,p3]; rfl
     have her:(V.agg zs').aI = .agg (cs'.map (A.den ρ')):=by simp only [V.aI,bP,p4]
     have hrel:cR (ext ρ' nv (.agg (cs'.map (A.den ρ')))) gk gb m.T (aEt (.v nv) (aPi tt fs parts.toList z)) (.agg zs'):=by
      have h0:(V.agg zs').aI=A.den (ext ρ' nv (.agg (cs'.map (A.den ρ')))) (.v nv):=by
       show _=ext ρ' nv _ nv
       rw [iP]; exact her
      unfold aEt
      split
      ·exact h0
      ·refine ⟨h0,zs',rfl,fun j hj=>?_⟩
       unfold aPi at hj
       rw [List.mem_filter] at hj
       obtain ⟨_,hj⟩:=hj
       simp only [Bool.and_eq_true] at hj
       obtain ⟨hj1,hj2⟩:=hj
       rw [aE1 (j:=j) p3 fun q hq off sz hpl=>?_]
       ·split at hj1
        ·rename_i hzj; exact hzj
        ·simp at hj1
       ·obtain ⟨x,hx⟩:=aCs p1 q hq
        have h5:=List.all_eq_true.1 hj2 _ hx
        simp only at h5
        split at h5
        ·rename_i off' t' hfq
         split at h5
         ·rename_i ti' hti'
          have h6:=hp2 q.1 off' t' ti' hfq hti'
          have hpl : ps[q.1]? = some (off,sz):=hpl
          rw [hpl] at h6
          simp only [Option.some.injEq,Prod.mk.injEq] at h6
          obtain ⟨rfl,rfl⟩:=h6
          simp only [Bool.or_eq_true] at h5
          rcases h5 with h5 | h5
          ·exact .inl (gH h5)
          ·exact .inr (Nat.le_of_ble_eq_true h5)
         ·simp at h5
        ·simp at h5
     refine Fin.step ⟨.agg zs',m,aEt (.v nv) (aPi tt fs parts.toList z),_,ext ρ' nv (.agg (cs'.map (A.den ρ'))),L2,gk,gb,⟨rfl,hev⟩,r2,r3,r4,hrel,?_,bI _ _ _,Nat.le_succ _,rfl⟩ q5 q4 rfl
     unfold aEt
     split <;> exact jU _
  ·rename_i n e z hdd hz
   rw [hdd] at hd
   obtain ⟨zv,hz1,hz2,_⟩:=tok.z z hz
   rw [htt] at hz1
   split at h
   ·rename_i ei hei
    obtain ⟨etok,het⟩:=hT e ei hei
    have hsz:=etok.sz
    rw [het] at hsz
    refine fin (pl':=fun i=>some (i*ei.sz,ei.sz)) hz (fun i off t ti h1 h2=>?_) (fun ps' hok=>?_) hw h
    ·simp only [Option.some.injEq,Prod.mk.injEq] at h1
     obtain ⟨rfl,rfl⟩:=h1
     rw [hei] at h2
     simp only [Option.some.injEq] at h2
     subst h2; rfl
    ·unfold a56 buildV
     rw [if_pos hok]
     have hu:P.underlying t=some (.array n e):=hd
     simp only [hu,hz1,hsz,hz2]
   ·simp at h
  ·simp at h
 ·simp at h
theorem aCt:∀ {parts:List (Nat×Operand)} {n:Nat} {vs:List V},a6d n parts=true→Fbs.evs env (parts.map (·.2))=some vs→∃ ps,lO env parts=some ps∧sN n ps=some vs∧ps.map (·.2)=vs
 | [],n,vs,_,h=>by simp [Fbs.evs] at h; subst h; exact ⟨[],rfl,rfl,rfl⟩
 | (i,x)::r,n,vs,ho,h=>by
  simp only [a6d,Bool.and_eq_true] at ho
  have hi:=Nat.eq_of_beq_eq_true ho.1
  subst hi
  simp only [List.map_cons,Fbs.evs] at h
  split at h
  ·rename_i v vs' h1 h2
   simp only [Option.some.injEq] at h
   subst h
   obtain ⟨ps,e1,e2,e3⟩:=aCt ho.2 h2
   exact ⟨(i,v)::ps,by simp only [lO,h1,e1],by simp only [sN,if_true,e2]; rfl,by simp [e3]⟩
  ·simp at h
theorem aSa {n:Nat} {vs:List V} {w:V} (h:kV n (vs.map V.aI)=some w):w = .sl .ro (vs.map V.aI)∧vs.length*n≤1000000∧vs.all (fun e=>e.cells.length == n)=true∧vs.all V.ok1=true:=by
 unfold kV at h
 split at h
 ·rename_i hc
  simp only [Option.some.injEq] at h
  obtain ⟨h1,h2⟩:=hc
  rw [List.length_map] at h1
  rw [List.all_map] at h2
  refine ⟨h.symm,h1,?_,?_⟩
  ·rw [List.all_eq_true] at h2 ⊢
   intro e he
   have:=h2 e he
   simp only [Function.comp_def,nY,Bool.and_eq_true] at this
   exact this.1
  ·rw [List.all_eq_true] at h2 ⊢
   intro e he
   have:=h2 e he
   simp only [Function.comp_def,aGd,Bool.and_eq_true] at this
   exact this.2
 ·simp at h
theorem aK.aVc (c:aK N gk gb S ρ env m):aK N gk gb { S with nk:=S.nk+1 } ρ env m :=
 ⟨c.n,c.bM,c.boxes,c.jC,c.lA,c.blt,c.iV,fun k i h=>let ⟨h1,h2⟩:=c.pR k i h; ⟨Nat.lt_succ_of_lt h1,h2⟩,c.known,c.cD,c.own⟩
include hT in
theorem aKp (c:aK N gk gb S ρ env m) {g:Gd} (hgk:oV S ρ g) {t:TypeId} {len:Nat} {parts:Array (Nat×Operand)} {k:SV→SS→OL} {L:L} (h:fW tt g (.buildSlice t len parts) S k=some L) (hw:L.wp p Q S.nv ρ ks) :
  Fin p Q ks N ρ S env k (QO P tt p ρ g env m (.buildSlice t len parts)):=by
 simp only [fW] at h
 split at h
 ·rename_i ti as hti has
  obtain ⟨tok,htt⟩:=hT t ti hti
  have hd:=tok.d
  rw [htt] at hd
  obtain ⟨vs,h1,h2,_,h2l⟩:=c.kZ has
  split at h
  ·rename_i e hdd
   rw [hdd] at hd
   have hu:P.underlying t=some (.slice e):=hd
   split at h
   ·rename_i ei hei
    obtain ⟨etok,het⟩:=hT e ei hei
    have hsz:=etok.sz
    rw [het] at hsz
    split at h
    ·rename_i z hz
     obtain ⟨zv,hz1,hz2,_⟩:=etok.z z hz
     rw [het] at hz1
     cases hc:(a6d 0 parts.toList && Nat.beq as.length len && Nat.blt 0 ei.sz && Nat.beq z.length ei.sz) with
     | false=>rw [hc] at h; simp at h
     | true =>
      rw [hc] at h
      simp only [cond_true] at h
      simp only [Bool.and_eq_true] at hc
      have hlen:=Nat.eq_of_beq_eq_true hc.1.1.2
      have hpos:=gH hc.1.2
      have hzl:=Nat.eq_of_beq_eq_true hc.2
      obtain ⟨ps,p1,p2,p3⟩:=aCt hc.1.1.1 h1
      have hvl:vs.length=len:=by omega
      have hev:fX ρ g→∀ w,kV ei.sz (as.map (A.den ρ))=some w→aY P (CE tt p) env m.H (.buildSlice t len parts)=some (.sl .full (vs.map V.er))∧w = .sl .ro (vs.map V.aI):=by
       intro hon w hw'
       rw [← h2 hon] at hw'
       obtain ⟨e1,e2,e3,e4⟩:=aSa hw'
       refine ⟨?_,e1⟩
       simp only [aY,p1]
       have hok:nC ps=true:=by
        unfold nC
        rw [← p3,List.all_map] at e4
        exact e4
       rw [aJt hu hsz hz1 (by rw [hz2]; exact hzl) hpos len ps]
       unfold a5f
       rw [if_pos hok,p2]
       simp only
       rw [if_pos ⟨hvl,by rw [← hvl]; exact e2,e3⟩]
      obtain ⟨y,L',kn,bl,e2,e3,e4,e5⟩:=iT c h hw
      cases g with
      | none =>
       simp only at e3
       obtain ⟨h6,h7⟩:=hev trivial y e2
       have hden:ext ρ S.nv y S.nv = .sl .ro ((vs.map V.er).map V.aI):=by
        rw [iP,h7,List.map_map]
        congr 2
        funext v; exact (aRx v).symm
       cases hz:(Nat.beq (kE e ei.sz) 1 && Nat.blt 0 len) with
       | true =>
        rw [hz] at e3
        refine ⟨.sl .full (vs.map V.er),m,_,_,_,L',gk,gb,⟨rfl,h6⟩,e3,e4,e5,?_,jU _,bI _ _ _,Nat.le_succ _,rfl⟩
        show V.aI _=ext ρ S.nv y S.nv
        rw [hden]
        simp only [V.aI,bP]
       | false =>
        rw [hz] at e3
        refine ⟨.sl .full (vs.map V.er),m,_,_,_,L',gk,gb,⟨rfl,h6⟩,e3,e4,e5.aVc,⟨vs.map V.er,hden,.inl ⟨rfl,fun h1=>?_⟩⟩,jU _,bI _ _ _,Nat.le_succ _,rfl⟩
        rw [h1] at hz
        simp only [Nat.beq_refl,Bool.true_and] at hz
        rw [List.length_map,hvl]
        rcases Nat.eq_zero_or_pos len with h | h
        ·exact h
        ·rw [show Nat.blt 0 len=true from Nat.ble_eq_true_of_le h] at hz; simp at hz
      | some q =>
       simp only at e3
       rcases tB e2 with ⟨hon,e6⟩ | ⟨hoff,rfl,e6⟩
       ·obtain ⟨h6,h7⟩:=hev hon y e6
        refine ⟨.sl .full (vs.map V.er),m,_,_,_,L',gk,gb,⟨rfl,by rw [n8 hon]; exact h6⟩,e3,e4,e5,?_,jU _,bI _ _ _,Nat.le_succ _,rfl⟩
        show V.aI _=ext ρ S.nv y S.nv
        rw [iP,h7]
        simp only [V.aI,bP,List.map_map]
        congr 2
        funext v; exact aRx v
       ·exact ⟨.undef,m,_,_,_,L',gk,gb,⟨rfl,e6 _⟩,e3,e4,e5,by show V.aI _=ext ρ S.nv .undef S.nv; rw [iP]; rfl,jU _,bI _ _ _,Nat.le_succ _,rfl⟩
    ·simp at h
   ·simp at h
  ·simp at h
 ·simp at h
end
end Go.Fbs

/- Calls; what makes boxes,writes,grows. -/
namespace Go.Fbs
def Canon (tt:TT) (p:PT):Prop:=∀ f args v,p f args=some v→v.aI=v∧∀ g sg,a0v tt f=some (g,sg)→b2h sg v
theorem cR.up {ρ : Nat → V} {gk gk' : Nat → Option Nat} {gb gb' : List Nat} {T T' : List (Nat × Nat)} (hk : ∀ k i,gk k = some i → gk' k = some i) (hb : ∀ (b l : Nat),gb[b]? = some l → gb'[b]? = some l)
  (hT : ∀ (k i : Nat) x,gk k = some i → T[i]? = some x → T'[i]? = some x) {s : SV} {v : V} (r : cR ρ gk gb T s v) : cR ρ gk' gb' T' s v:=by
 cases s with
 | val a=>exact r
 | kA a g=>exact r
 | grow k sz a =>
  obtain ⟨es,h1,h2⟩:=r
  refine ⟨es,h1,?_⟩
  rcases h2 with h2 | ⟨i,h3,h4,h5⟩
  ·exact .inl h2
  ·exact .inr ⟨i,hk k i h3,h4,hT k i _ h3 h5⟩
 | kB=>exact r
 | elem a n off g=>exact r
 | ptr b off g=>exact ⟨fun h=>let ⟨l,h1,h2⟩:=r.1 h; ⟨l,hb b l h1,h2⟩,r.2⟩
 | pix b off n i g=>exact ⟨fun h=>let ⟨l,q,z,h1,h2⟩:=r.1 h; ⟨l,q,z,hb b l h1,h2⟩,r.2⟩
 | stv a nl=>exact r
 | lR f caps=>exact let ⟨cs,h1,h2,h3⟩:=r; ⟨cs,h1,h2,fun i q c h4 h5=>let ⟨l,h6,h7⟩:=h3 i q c h4 h5; ⟨l,hb _ _ h6,h7⟩⟩
 | self b a=>exact let ⟨l,h1,h2⟩:=r; ⟨l,hb _ _ h1,h2⟩
theorem Cells.up {ρ : Nat → V} {gk gk' : Nat → Option Nat} {gb gb' : List Nat} {T T' : List (Nat × Nat)} {nv : Nat} (hk : ∀ k i,gk k = some i → gk' k = some i) (hb : ∀ (b l : Nat),gb[b]? = some l → gb'[b]? = some l)
  (hT : ∀ (k i : Nat) x,gk k = some i → T[i]? = some x → T'[i]? = some x) {cells : List SV} {cs : List V} (r : Cells ρ gk gb T nv cells cs) : Cells ρ gk' gb' T' nv cells cs :=
 ⟨r.1,fun j s c h1 h2=>let ⟨h3,h4⟩:=r.2 j s c h1 h2; ⟨h3.up hk hb hT,h4⟩⟩
section
variable {P:Program} {tt:TT} (hT:∀ t ti,cK tt t=some ti→bG P ti∧ti.t=t)
variable {p:PT} {Q:V→Prop} {ks:List (List V→Prop)} {N:Nat} {gk:Nat→Option Nat} {gb:List Nat} {S:SS} {ρ:Nat→V} {env:Env} {m:Hp}
theorem aK.aNz (c:aK N gk gb S ρ env m) {cells:List SV} {cs:List V} {e:Option Nat} (hty:STy cells e) (h:Cells ρ gk (gb++[m.H.length]) m.T S.nv cells cs) :
  aK N gk (gb++[m.H.length]) { S with boxes:=S.boxes++[some cells] } ρ env { m with H:=m.H++[.cells e cs] } ∧ cR ρ gk (gb++[m.H.length]) m.T (.ptr S.boxes.length 0 none) (.ptr m.H.length 0):=by
 have hb : ∀ (b l : Nat),gb[b]? = some l → (gb ++ [m.H.length])[b]? = some l:=fun b l h=>by
  rw [List.getElem?_append_left (List.getElem?_eq_some_iff.1 h).1]; exact h
 have hl : ∀ (b l : Nat),gb[b]? = some l → l < m.H.length:=fun b l h=>c.blt l (List.mem_of_getElem? h)
 refine ⟨⟨c.n,fun t s hs=>?_,fun b cs' hc=>?_,by simp [c.jC],fun b b' l h1 h2=>?_,fun l hl'=>?_,c.iV,c.pR,c.known,c.cD,fun b hb'=>hb b b (c.own b hb')⟩,fun _=>⟨m.H.length,?_,rfl⟩,fun h=>absurd trivial h⟩
 ·obtain ⟨h1,h2,h3⟩:=c.bM t s hs
  exact ⟨h1,h2.up (fun _ _ h=>h) hb (fun _ _ _ _ h=>h),h3⟩
 ·by_cases hlt:b < S.boxes.length
  ·rw [List.getElem?_append_left hlt] at hc
   obtain ⟨l,ds,h1,h2,h3⟩:=c.boxes b cs' hc
   refine ⟨l,ds,hb b l h1,?_,h3.up (fun _ _ h=>h) hb (fun _ _ _ _ h=>h)⟩
   obtain ⟨e1,h2,h4⟩:=h2
   refine ⟨e1,?_,h4⟩
   show (m.H ++ _)[l]? = _
   rw [List.getElem?_append_left (hl b l h1)]; exact h2
  ·have:b=S.boxes.length:=by
    have:=(List.getElem?_eq_some_iff.1 hc).1; simp at this; omega
   subst this
   rw [List.getElem?_append_right (Nat.le_refl _)] at hc
   simp at hc
   subst hc
   refine ⟨m.H.length,cs,?_,⟨e,?_,hty⟩,h⟩
   ·rw [← c.jC]; simp
   ·simp
 ·by_cases h3:b < gb.length
  ·rw [List.getElem?_append_left h3] at h1
   by_cases h4:b' < gb.length
   ·rw [List.getElem?_append_left h4] at h2
    exact c.lA b b' l h1 h2
   ·rw [List.getElem?_append_right (by omega)] at h2
    have:=hl b l h1
    have:b' - gb.length=0:=by have:=(List.getElem?_eq_some_iff.1 h2).1; simp at this; omega
    rw [this] at h2; simp at h2; omega
  ·rw [List.getElem?_append_right (by omega)] at h1
   have e1:b - gb.length=0:=by have:=(List.getElem?_eq_some_iff.1 h1).1; simp at this; omega
   rw [e1] at h1; simp at h1
   by_cases h4:b' < gb.length
   ·rw [List.getElem?_append_left h4] at h2
    have:=hl b' l h2; omega
   ·rw [List.getElem?_append_right (by omega)] at h2
    have e2:b' - gb.length=0:=by have:=(List.getElem?_eq_some_iff.1 h2).1; simp at this; omega
    omega
 ·simp only [List.mem_append,List.mem_singleton] at hl'
  simp only [List.length_append,List.length_singleton]
  rcases hl' with h | rfl
  ·have:=c.blt l h; omega
  ·omega
 ·rw [← c.jC]; simp
theorem aK.wE (c:aK N gk gb S ρ env m) {cells:List SV} {cs:List V} {e:Option Nat} (hty:STy cells e) (h:Cells ρ gk gb m.T S.nv cells cs) :
  aK N gk (gb++[m.H.length]) { S with boxes:=S.boxes++[some cells] } ρ env { m with H:=m.H++[.cells e cs] } ∧ cR ρ gk (gb++[m.H.length]) m.T (.ptr S.boxes.length 0 none) (.ptr m.H.length 0) :=
 c.aNz hty (h.up (fun _ _ h=>h) (fun b l h=>by rw [List.getElem?_append_left (List.getElem?_eq_some_iff.1 h).1]; exact h) (fun _ _ _ _ h=>h))
theorem aK.b0t (c : aK N gk gb S ρ env m) {b l : Nat} {cells : List SV} (hl : gb[b]? = some l) {cs : List V} {e : Option Nat} (hty : STy cells e) (h : Cells ρ gk gb m.T S.nv cells cs) :
  aK N gk gb { S with boxes:=S.boxes.set b (some cells) } ρ env { m with H:=m.H.set l (.cells e cs) }:=by
 have hlt : l < m.H.length:=c.blt l (List.mem_of_getElem? hl)
 refine ⟨c.n,c.bM,fun b' cs' hc=>?_,by simp [c.jC],c.lA,fun l' h'=>by simp only [List.length_set]; exact c.blt l' h',c.iV,c.pR,c.known,c.cD,c.own⟩
 by_cases hbb:b=b'
 ·subst hbb
  have hbl:b < S.boxes.length:=by rw [← c.jC]; exact (List.getElem?_eq_some_iff.1 hl).1
  rw [List.getElem?_set_self hbl] at hc
  simp only [Option.some.injEq] at hc
  subst hc
  exact ⟨l,cs,hl,⟨e,by show (m.H.set l _)[l]? = _; rw [List.getElem?_set_self hlt],hty⟩,h⟩
 ·rw [List.getElem?_set_ne hbb] at hc
  obtain ⟨l',ds,h1,h2,h3⟩:=c.boxes b' cs' hc
  refine ⟨l',ds,h1,?_,h3⟩
  have:l≠l':=fun e=>by subst e; exact hbb (c.lA b b' l hl h1)
  obtain ⟨e1,h2,h4⟩:=h2
  refine ⟨e1,?_,h4⟩
  show (m.H.set l _)[l']? = _
  rw [List.getElem?_set_ne this]; exact h2
abbrev LO' (P:Program) (tt:TT) (p:PT) (g:Gd) (env:Env) (m:Hp) (op:Op):V→Hp→Prop:=fun v m'=>g=none∧lH (CE tt p) op=false∧evalOp P (CE tt p) env m op=some (v,m')
theorem aKq {op:Op} {cs:List V} (hq:lH (CE tt p) op=false) (ha:mM op=true) (h:tQ P env op=some cs):evalOp P (CE tt p) env m op=some (.ptr m.H.length 0,{ m with H:=m.H++[.cells (zQ op) cs] }):=by
 unfold evalOp
 rw [if_neg (by rw [hq]; simp),if_pos ha,h]; rfl
theorem uE {op:Op} {v:V} {m':Hp} (hq:lH (CE tt p) op=false) (ha:mM op=false) (h:evalW P (CE tt p) env m op=some (v,m')):evalOp P (CE tt p) env m op=some (v,m'):=by
 unfold evalOp
 rw [if_neg (by rw [hq]; simp),if_neg (by rw [ha]; simp)]; exact h
theorem aY9 {T : List (Nat × Nat)} {nv t b l : Nat} {z : List V} (h : gb[b]? = some l) : Cells ρ gk gb T nv (aGk t b z) z:=by
 unfold aGk
 split
 ·refine ⟨rfl,fun j s v h1 h2=>?_⟩
  match j with
  | 0=>simp at h1 h2; subst h1; subst h2; exact ⟨⟨l,h,.inl ⟨rfl,rfl⟩⟩,rfl⟩
  | 1=>simp at h1 h2; subst h1; subst h2; exact ⟨rfl,rfl⟩
  | j+2=>simp at h1
 ·exact ⟨by simp,fun j s v h1 h2=>by
   rw [List.getElem?_map,h2] at h1
   simp only [Option.map_some,Option.some.injEq] at h1
   subst h1
   exact ⟨(a2h v).1 _,(a2h (ρ:=ρ) (gk:=gk) (gb:=gb) v).2 _⟩⟩
theorem aZa (t b:Nat) (z:List V):STy (aGk t b z) (some t):=by
 intro j t' b' a hj
 unfold aGk at hj
 split at hj
 ·match j with
  | 0=>simp at hj; rw [hj.1]
  | 1=>simp at hj
  | j+2=>simp at hj
 ·rw [List.getElem?_map,Option.map_eq_some_iff] at hj
  obtain ⟨v,_,hj⟩:=hj
  unfold a2y at hj
  split at hj <;> simp at hj
include hT in
theorem aZb (c:aK N gk gb S ρ env m) {g:Gd} {t:TypeId} {k:SV→SS→OL} {L:L} (h:fW tt g (.alloc t) S k=some L) (hw:L.wp p Q S.nv ρ ks):Fin p Q ks N ρ S env k (LO' P tt p g env m (.alloc t)):=by
 simp only [fW] at h
 split at h
 ·rename_i ti hti
  obtain ⟨tok,htt⟩:=hT t ti hti
  split at h
  ·rename_i z hz
   obtain ⟨zv,hz1,hz2,_⟩:=tok.z z hz
   rw [htt] at hz1
   have hcells:Cells ρ gk (gb++[m.H.length]) m.T S.nv (aGk t S.boxes.length z) z:=aY9 (l:=m.H.length) (by rw [← c.jC]; simp)
   obtain ⟨c',r'⟩:=c.aNz (aZa t S.boxes.length z) hcells
   exact ⟨_,_,_,_,ρ,L,gk,_,⟨rfl,rfl,aKq rfl rfl (by simp only [tQ,hz1,Option.map_some,hz2])⟩,h,hw,c',r',rfl,aS.refl _ _,Nat.le_refl _,rfl⟩
  ·simp at h
 ·simp at h
theorem aMx {T:List (Nat×Nat)} {nv:Nat} {as:List A} {cs:List V} (h:cs.map V.aI=as.map (A.den ρ)) (hb:as.all (A.below nv)=true):Cells ρ gk gb T nv (as.map .val) cs:=by
 refine ⟨by have:=congrArg List.length h; simpa using this.symm,fun j s v h1 h2=>?_⟩
 rw [List.getElem?_map,Option.map_eq_some_iff] at h1
 obtain ⟨a,h3,rfl⟩:=h1
 have e : (cs.map V.aI)[j]? = (as.map (A.den ρ))[j]?:=by rw [h]
 rw [List.getElem?_map,List.getElem?_map,h2,h3] at e
 simp only [Option.map_some,Option.some.injEq] at e
 exact ⟨e,List.all_eq_true.1 hb a (List.mem_of_getElem? h3)⟩
def aE2 (cells : List SV) : Prop:=∀ (j t b : Nat) a,cells[j]? ≠ some (.self t b a)
theorem aE2.sty {cells:List SV} (h:aE2 cells) (e:Option Nat):STy cells e:=fun j t b a hj=>absurd hj (h j t b a)
theorem aMy (l:List A):aE2 (l.map .val):=fun j t b a h=>by
 rw [List.getElem?_map,Option.map_eq_some_iff] at h
 obtain ⟨x,_,h⟩:=h
 simp at h
def a6j (ρ:Nat→V) (gk:Nat→Option Nat) (gb:List Nat) (T:List (Nat×Nat)) (nv:Nat) (n:Nat) (v:V) (cells:List SV):Prop:=Cells ρ gk gb T nv cells v.cells∧v.ok1=true∧v.cells.length=n∧aE2 cells
theorem qH {T:List (Nat×Nat)} {nv:Nat} {s:SV} {v:V} (hns:∀ t b a,s ≠ .self t b a) (h:v.cells=[v]) (ho:v.ok1=true) (r:cR ρ gk gb T s v) (hb:s.below nv=true):a6j ρ gk gb T nv 1 v [s]:=by
 refine ⟨⟨by rw [h]; rfl,fun j s' v' h1 h2=>?_⟩,ho,by rw [h]; rfl,fun j t b a hj=>by
  cases j with
  | zero=>simp at hj; exact hns t b a hj
  | succ j=>simp at hj⟩
 rw [h] at h2
 cases j with
 | zero=>simp at h1 h2; subst h1; subst h2; exact ⟨r,hb⟩
 | succ j=>simp at h1
theorem aAc (c:aK N gk gb S ρ env m) {n:Nat} {a:A} {v:V} (hv:v.aI=a.den ρ) {k:List A→SS→OL} {L:L} (h:xZ none n a S k=some L) (hw:L.wp p Q S.nv ρ ks) :
  ∃ l nv kn bl ρ' L',k l (S.j8 nv kn bl)=some L'∧L'.wp p Q nv ρ' ks∧aK N gk gb (S.j8 nv kn bl) ρ' env m∧S.nv≤nv∧aS ρ ρ' S.nv∧a6j ρ' gk gb m.T nv n v (l.map .val):=by
 obtain ⟨j,nv1,kn1,bl1,ρ1,L1,k1,k2,k3,k4,k5,k6,k7,k8⟩:=aHn c h hw
 obtain ⟨e1,e2⟩:=k8 trivial
 obtain ⟨ds,d1,d2,d3⟩:=rN k4 e2
 have hvc:v.cells.map V.aI=(cellsOf j n 0).map (A.den ρ1):=by
  rw [a5k ρ1 (cs:=ds) (by rw [d1]; rfl) d2,← a05,hv,← e1,d1]; rfl
 exact ⟨_,nv1,kn1,bl1,ρ1,L1,k1,k2,k3,k6,k7,aMx hvc (a89 k5 0),by rw [← aGd,hv,← e1,d1]; rfl,by have:=congrArg List.length hvc; simpa [a5j] using this,aMy _⟩
theorem aE3 (c : aK N gk gb S ρ env m) {n : Nat} {a : A} {v : V} {nl : List Nat} (hv : v.aI = a.den ρ) (hs : ∃ cs,v = .agg cs ∧ ∀ j ∈ nl,cs[j]? = some (.sl .full [])) {k : List A → SS → OL} {L : L} (h : xZ none n a S k = some L) (hw : L.wp p Q S.nv ρ ks) :
  ∃ l nv kn bl ρ' L',k l (S.j8 nv kn bl)=some L'∧L'.wp p Q nv ρ' ks∧aK N gk gb (S.j8 nv kn bl) ρ' env m∧S.nv≤nv∧aS ρ ρ' S.nv∧a6j ρ' gk gb m.T nv n v (l.zipIdx.map fun p=>bif hasN nl p.2 then .kB else .val p.1):=by
 obtain ⟨l,nv,kn,bl,ρ',L',q1,q2,q3,q4,q5,⟨q6,q7⟩,q8⟩:=aAc c hv h hw
 obtain ⟨cs,rfl,hcs⟩:=hs
 refine ⟨l,nv,kn,bl,ρ',L',q1,q2,q3,q4,q5,⟨by simpa using q6,fun j s x h1 h2=>?_⟩,q8.1,q8.2.1,fun j t b a hj=>?_⟩
 case refine_2 =>
  rw [List.getElem?_map,Option.map_eq_some_iff] at hj
  obtain ⟨x,_,hj⟩:=hj
  revert hj
  cases hasN nl x.2 <;> simp
 rw [List.getElem?_map,Option.map_eq_some_iff] at h1
 obtain ⟨⟨b,j'⟩,h3,rfl⟩:=h1
 rw [List.getElem?_zipIdx,Option.map_eq_some_iff] at h3
 obtain ⟨b',h4,h5⟩:=h3
 simp only [Nat.zero_add,Prod.mk.injEq] at h5
 obtain ⟨rfl,rfl⟩:=h5
 have h6:=q7 j (.val b') x (by rw [List.getElem?_map,h4]; rfl) h2
 simp only
 cases hn:hasN nl j with
 | false=>exact h6
 | true =>
  have hm:j ∈ nl:=aKm hn
  have:=hcs j hm
  have h2 : cs[j]? = some x:=h2
  rw [h2] at this
  exact ⟨Option.some.inj this,rfl⟩
theorem aKr {T:List (Nat×Nat)} {q sz:Nat} {a:A} {v:V} (r:cR ρ gk gb T (.grow q sz a) v):v.cells=[v]∧v.ok1=true:=by
 obtain ⟨es,_,h⟩:=r
 rcases h with ⟨rfl,_⟩ | ⟨i,_,rfl,_⟩ <;> exact ⟨rfl,rfl⟩
theorem b2n (c:aK N gk gb S ρ env m) {g:Gd} {t:TypeId} {x:Operand} {k:SV→SS→OL} {L:L} (h:fW tt g (.box t x) S k=some L) (hw:L.wp p Q S.nv ρ ks):Fin p Q ks N ρ S env k (LO' P tt p g env m (.box t x)):=by
 simp only [fW] at h
 split at h
 ·rename_i ti s hti hs
  obtain ⟨v,h1,h2,hbel⟩:=c.fT hs
  have fin:∀ {S1:SS} {ρ1:Nat→V} {L1:Go.Fbs.L} {cells:List SV} {n:Nat},k (.ptr S1.boxes.length 0 none) { S1 with boxes:=S1.boxes++[some cells] } = some L1→L1.wp p Q S1.nv ρ1 ks→aK N gk gb S1 ρ1 env m→a6j ρ1 gk gb m.T S1.nv n v cells →
    S.nv≤S1.nv→aS ρ ρ1 S.nv→S1.dep=S.dep→Fin p Q ks N ρ S env k (LO' P tt p none env m (.box t x)):=by
   intro S1 ρ1 L1 cells n hk hw c1 hc hn ha hd
   obtain ⟨c',r'⟩:=c1.wE (hc.2.2.2.sty (some t)) hc.1
   refine ⟨_,_,_,_,ρ1,L1,gk,_,⟨rfl,rfl,aKq rfl rfl ?_⟩,hk,hw,c',r',rfl,ha,hn,hd⟩
   simp only [tQ,h1]
   rw [if_pos hc.2.1]
  cases hag:ti.agg with
  | true =>
   rw [hag] at h
   simp only [cond_true] at h
   split at h
   ·rename_i a
    obtain ⟨l,nv,kn,bl,ρ',L',q1,q2,q3,q4,q5,q6⟩:=aAc c (v:=v) h2 h hw
    exact fin (S1:=S.j8 nv kn bl) q1 q2 q3 q6 q4 q5 rfl
   ·rename_i a nl
    obtain ⟨l,nv,kn,bl,ρ',L',q1,q2,q3,q4,q5,q6⟩:=aE3 c (v:=v) h2.1 h2.2 h hw
    exact fin (S1:=S.j8 nv kn bl) q1 q2 q3 q6 q4 q5 rfl
   ·simp at h
  | false =>
   rw [hag] at h
   simp only [cond_false] at h
   split at h
   ·rename_i a
    obtain ⟨a',nv,kn,bl,ρ',L',q1,q2,q3,q4,q5,q6,q7⟩:=a97 c hbel h hw
    obtain ⟨e1,e2⟩:=q7 trivial
    have h2':v.aI=a.den ρ:=h2
    have hsv:sc v=true:=by rw [← aJ3,h2']; exact e2
    exact fin (S1:=S.j8 nv kn bl) q1 q2 q3 (qH (by simp) (a3h hsv) (aJ2 hsv) (show v.aI=a'.den ρ' by rw [e1]; exact h2') q4) q5 q6 rfl
   ·have:=aKr h2
    exact fin h hw c (qH (by simp) this.1 this.2 h2 hbel) (Nat.le_refl _) (aS.refl _ _) rfl
   ·have h2':v = .sl .full []:=h2
    subst h2'
    exact fin h hw c (qH (by simp) rfl rfl h2 hbel) (Nat.le_refl _) (aS.refl _ _) rfl
   ·simp at h
 ·simp at h
theorem a3l {α : Type} {cs new : List α} {off j : Nat} (h : off + new.length ≤ cs.length) : (putCells cs off new)[j]? = if off ≤ j ∧ j < off + new.length then new[j - off]? else cs[j]?:=by
 unfold putCells
 by_cases h1:j < off
 ·rw [if_neg (by omega),List.append_assoc,List.getElem?_append_left (by simp; omega),List.getElem?_take,if_pos h1]
 ·by_cases h2:j < off+new.length
  ·rw [if_pos ⟨by omega,h2⟩,List.append_assoc,List.getElem?_append_right (by simp; omega),List.getElem?_append_left (by simp; omega)]
   congr 1; simp; omega
  ·rw [if_neg (by omega),List.getElem?_append_right (by simp; omega),List.getElem?_drop]
   congr 1; simp; omega
theorem Cells.put {T:List (Nat×Nat)} {nv:Nat} {cells new:List SV} {cs ns:List V} {off:Nat} (h:Cells ρ gk gb T nv cells cs) (h':Cells ρ gk gb T nv new ns) (hl:off+new.length≤cells.length) :
  Cells ρ gk gb T nv (putCells cells off new) (putCells cs off ns):=by
 have e1:=h.1; have e2:=h'.1
 refine ⟨by rw [a99 hl,a99 (by omega)]; exact h.1,fun j s v h1 h2=>?_⟩
 rw [a3l hl] at h1
 rw [a3l (by omega)] at h2
 by_cases hj:off≤j∧j < off+new.length
 ·rw [if_pos hj] at h1
  rw [if_pos (by omega)] at h2
  exact h'.2 _ s v h1 h2
 ·rw [if_neg hj] at h1
  rw [if_neg (by omega)] at h2
  exact h.2 j s v h1 h2
include hT in
theorem aZc (c:aK N gk gb S ρ env m) {g:Gd} {t:TypeId} {x y:Operand} {k:SV→SS→OL} {L:L} (h:fW tt g (.store t x y) S k=some L) (hw:L.wp p Q S.nv ρ ks):Fin p Q ks N ρ S env k (LO' P tt p g env m (.store t x y)):=by
 simp only [fW] at h
 split at h
 ·rename_i ti b off s hti hx hs
  obtain ⟨tok,htt⟩:=hT t ti hti
  have hsz:=tok.sz
  rw [htt] at hsz
  obtain ⟨u,h1,h2,_⟩:=c.fT hx
  obtain ⟨v,h3,h4,hbel⟩:=c.fT hs
  obtain ⟨l,hl,rfl⟩:=h2.1 trivial
  split at h
  ·rename_i cells hb
   cases hle:Nat.ble (off+ti.sz) cells.length with
   | false=>rw [hle] at h; simp at h
   | true =>
    rw [hle] at h
    simp only [cond_true] at h
    have hle':=Nat.le_of_ble_eq_true hle
    have fin:∀ {S1:SS} {ρ1:Nat→V} {L1:Go.Fbs.L} {new:List SV},k sQ { S1 with boxes:=S1.boxes.set b (some (putCells cells off new)) } = some L1→L1.wp p Q S1.nv ρ1 ks→aK N gk gb S1 ρ1 env m→a6j ρ1 gk gb m.T S1.nv ti.sz v new →
      S1.boxes=S.boxes→S.nv≤S1.nv→aS ρ ρ1 S.nv→S1.dep=S.dep→Fin p Q ks N ρ S env k (LO' P tt p none env m (.store t x y)):=by
     intro S1 ρ1 L1 new hk hw c1 hc hbx hn ha hd
     obtain ⟨l',cs,e1,⟨e9,e2,e8⟩,e3⟩:=c1.boxes b cells (by rw [hbx]; exact hb)
     rw [hl] at e1
     simp only [Option.some.injEq] at e1
     subst e1
     have hnl:new.length=ti.sz:=by rw [hc.1.1]; exact hc.2.2.1
     have hp:=e3.put (off:=off) hc.1 (by omega)
     have c':=c1.b0t hl (e:=e9) (fun j t b a hj=>by
      rw [a3l (by omega)] at hj
      split at hj
      ·exact absurd hj (hc.2.2.2 _ t b a)
      ·exact e8 j t b a hj) hp
     refine ⟨.undef,_,sQ,_,ρ1,L1,gk,gb,⟨rfl,rfl,uE rfl rfl ?_⟩,hk,hw,c',rfl,rfl,ha,hn,hd⟩
     simp only [evalW,h1,h3,storeV,hsz,e2]
     have:=e3.1
     rw [if_pos ⟨hc.2.1,hc.2.2.1,by omega⟩]
     rfl
    cases hag:ti.agg with
    | true =>
     rw [hag] at h
     simp only [cond_true] at h
     split at h
     ·rename_i a
      obtain ⟨as,nv,kn,bl,ρ',L',q1,q2,q3,q4,q5,q6⟩:=aAc c (v:=v) h4 h hw
      exact fin (S1:=S.j8 nv kn bl) q1 q2 q3 q6 rfl q4 q5 rfl
     ·rename_i a nl
      obtain ⟨as,nv,kn,bl,ρ',L',q1,q2,q3,q4,q5,q6⟩:=aE3 c (v:=v) h4.1 h4.2 h hw
      exact fin (S1:=S.j8 nv kn bl) q1 q2 q3 q6 rfl q4 q5 rfl
     ·simp at h
    | false =>
     rw [hag] at h
     simp only [cond_false] at h
     cases hz1:Nat.beq ti.sz 1 with
     | false=>rw [hz1] at h; simp at h
     | true =>
      rw [hz1] at h
      simp only [cond_true] at h
      have hone:=Nat.eq_of_beq_eq_true hz1
      rw [hone] at fin
      split at h
      ·rename_i a
       obtain ⟨a',nv,kn,bl,ρ',L',q1,q2,q3,q4,q5,q6,q7⟩:=a97 c hbel h hw
       obtain ⟨e1,e2⟩:=q7 trivial
       have h4':v.aI=a.den ρ:=h4
       have hsv:sc v=true:=by rw [← aJ3,h4']; exact e2
       exact fin (S1:=S.j8 nv kn bl) q1 q2 q3 (qH (by simp) (a3h hsv) (aJ2 hsv) (show v.aI=a'.den ρ' by rw [e1]; exact h4') q4) rfl q5 q6 rfl
      ·have:=aKr h4
       exact fin h hw c (qH (by simp) this.1 this.2 h4 hbel) rfl (Nat.le_refl _) (aS.refl _ _) rfl
      ·have h4':v = .sl .full []:=h4
       subst h4'
       exact fin h hw c (qH (by simp) rfl rfl h4 hbel) rfl (Nat.le_refl _) (aS.refl _ _) rfl
      ·simp at h
  ·simp at h
 ·simp at h
theorem aAd {q n:Nat} {s:SV} (h:s.below n=true):(Fbs.iO q s).below n=true:=by
 cases s with
 | grow k sz a=>simp only [Fbs.iO]; cases Nat.beq q k <;> exact h
 | _=>exact h
theorem cR.iO {T:List (Nat×Nat)} {q:Nat} {s:SV} {v:V} (r:cR ρ gk gb T s v):cR ρ (fun k=>if k=q then none else gk k) gb T (Fbs.iO q s) v:=by
 cases s with
 | grow k sz a =>
  simp only [Fbs.iO]
  cases hb:Nat.beq q k with
  | true=>exact rM r rfl
  | false =>
   have hne:¬ k=q:=fun e=>by subst e; simp at hb
   obtain ⟨es,h1,h2⟩:=r
   refine ⟨es,h1,?_⟩
   rcases h2 with h2 | ⟨i,h3,h4,h5⟩
   ·exact .inl h2
   ·exact .inr ⟨i,by show (if k=q then none else gk k)=some i; rw [if_neg hne]; exact h3,h4,h5⟩
 | _=>exact r
theorem aHp {α β:Type} (f:α→β):∀ (l:List (Nat×α)) (t:Nat),assoc (l.map fun p=>(p.1,f p.2)) t=(assoc l t).map f
 | [],t=>rfl
 | (j,x)::r,t=>by
  simp only [List.map_cons,assoc]
  cases Nat.beq j t with
  | true=>rfl
  | false=>exact aHp f r t
theorem aK.iO (c:aK N gk gb S ρ env m) (q:Nat):aK N (fun k=>if k=q then none else gk k) gb (S.iO q) ρ env m:=by
 refine ⟨c.n,fun t s hs=>?_,fun b cells hb=>?_,by simp [SS.iO,c.jC],c.lA,c.blt,fun k k' i h1 h2=>?_,fun k i h=>?_,c.known,c.cD,c.own⟩
 ·simp only [SS.look,SS.iO] at hs
  rw [aHp (Fbs.iO q),Option.map_eq_some_iff] at hs
  obtain ⟨s',h1,rfl⟩:=hs
  obtain ⟨h2,h3,h4⟩:=c.bM t s' h1
  exact ⟨h2,h3.iO,aAd h4⟩
 ·simp only [SS.iO,List.getElem?_map,Option.map_eq_some_iff] at hb
  obtain ⟨o,h1,h2⟩:=hb
  obtain ⟨cs',rfl,rfl⟩:=h2
  obtain ⟨l,cs,h3,⟨e9,h4,e8⟩,h5⟩:=c.boxes b cs' h1
  refine ⟨l,cs,h3,⟨e9,h4,fun j t b a hj=>by
   rw [List.getElem?_map,Option.map_eq_some_iff] at hj
   obtain ⟨s,h6,h7⟩:=hj
   refine e8 j t b a (h6.trans (congrArg some ?_))
   cases s <;> simp [Fbs.iO] at h7
   ·rename_i k _ _
    cases hq:Nat.beq q k <;> rw [hq] at h7 <;> simp at h7
   ·simp [h7]⟩,by rw [List.length_map]; exact h5.1,fun j s v h6 h7=>?_⟩
  rw [List.getElem?_map,Option.map_eq_some_iff] at h6
  obtain ⟨s',h8,rfl⟩:=h6
  obtain ⟨h9,h10⟩:=h5.2 j s' v h8 h7
  exact ⟨h9.iO,aAd h10⟩
 ·split at h1
  ·simp at h1
  ·split at h2
   ·simp at h2
   ·exact c.iV k k' i h1 h2
 ·split at h
  ·simp at h
  ·exact c.pR k i h
theorem aK.aP1 (c : aK N gk gb S ρ env m) {T' : List (Nat × Nat)} (hl : m.T.length ≤ T'.length) (h : ∀ (k i : Nat) x,gk k = some i → m.T[i]? = some x → T'[i]? = some x) : aK N gk gb S ρ env { m with T:=T' } :=
 ⟨c.n,fun t s hs=>let ⟨h1,h2,h3⟩:=c.bM t s hs; ⟨h1,h2.up (fun _ _ h=>h) (fun _ _ h=>h) h,h3⟩,fun b cells hb=>let ⟨l,cs,h1,h2,h3⟩:=c.boxes b cells hb; ⟨l,cs,h1,h2,h3.up (fun _ _ h=>h) (fun _ _ h=>h) h⟩,
  c.jC,c.lA,c.blt,c.iV,fun k i hk=>let ⟨h1,h2⟩:=c.pR k i hk; ⟨h1,Nat.lt_of_lt_of_le h2 hl⟩,c.known,c.cD,c.own⟩
theorem aK.aBs (c:aK N gk gb S ρ env m) {i:Nat} (hi:i < m.T.length) (hn:∀ k,gk k≠some i):aK N (fun k=>if k=S.nk then some i else gk k) gb { S with nk:=S.nk+1 } ρ env m:=by
 have up:∀ k j,gk k=some j→(if k=S.nk then some i else gk k)=some j:=fun k j h=>by
  rw [if_neg (by have:=(c.pR k j h).1; omega)]; exact h
 refine ⟨c.n,fun t s hs=>let ⟨h1,h2,h3⟩:=c.bM t s hs; ⟨h1,h2.up up (fun _ _ h=>h) (fun _ _ _ _ h=>h),h3⟩,fun b cells hb=>let ⟨l,cs,h1,h2,h3⟩:=c.boxes b cells hb; ⟨l,cs,h1,h2,h3.up up (fun _ _ h=>h) (fun _ _ _ _ h=>h)⟩,
  c.jC,c.lA,c.blt,fun k k' j h1 h2=>?_,fun k j h=>?_,c.known,c.cD,c.own⟩
 ·split at h1 <;> split at h2
  ·omega
  ·simp only [Option.some.injEq] at h1; subst h1; exact absurd h2 (hn k')
  ·simp only [Option.some.injEq] at h2; subst h2; exact absurd h1 (hn k)
  ·exact c.iV k k' j h1 h2
 ·split at h
  ·simp only [Option.some.injEq] at h; subst h; rename_i e; subst e; exact ⟨Nat.lt_succ_self _,hi⟩
  ·obtain ⟨h1,h2⟩:=c.pR k j h; exact ⟨Nat.lt_succ_of_lt h1,h2⟩
theorem aHq {n b:Nat} {x y w:V} (h:appK n b x.aI y.aI=some w):∃ g es g' ys,x = .sl g es∧y = .sl g' ys∧w = .sl .ro ((es++ys).map V.aI)∧(es.length+ys.length)*(b+1)≤70368744177664∧es.all (fun e=>e.cells.length == n)=true∧ys.all (fun e=>e.cells.length == n)=true:=by
 unfold appK at h
 split at h
 ·rename_i h1 h2
  obtain ⟨g,es,rfl,rfl⟩:=a95 h1
  obtain ⟨g',ys,rfl,rfl⟩:=a95 h2
  split at h
  ·rename_i hc
   rw [List.length_map,List.length_map,a5i,a5i] at hc
   simp only [Option.some.injEq] at h
   exact ⟨g,es,g',ys,rfl,rfl,by rw [← h,List.map_append],hc⟩
  ·simp at h
 ·simp at h
def SS.wR (S:SS):SV→SS
 | .grow q _ _=>S.iO q
 | _=>S
theorem aMz (c:aK N gk gb S ρ env m) {sx:SV} {x:V} (hx:cR ρ gk gb m.T sx x) {n cd b:Nat} {es ys:List V} {g0:Tag} (hxe:x = .sl g0 es)
  (hcase:(∃ q a,sx = .grow q cd a)∨sx = .kB) (hb:(es.length+ys.length)*(b+1)≤70368744177664) (h1:es.all (fun e=>e.cells.length == n)=true) (h2:ys.all (fun e=>e.cells.length == n)=true) :
  ∃ v m' gk',zT n cd b x ys m=some (v,m')∧m'.H=m.H ∧
   aK N gk' gb { (S.wR sx) with nk:=S.nk+1 } ρ env m' ∧
   (∀ (a:A) (ρ':Nat→V),a.den ρ' = .sl .ro ((es++ys).map V.aI)→cR ρ' gk' gb m'.T (.grow S.nk cd a) v):=by
 subst hxe
 obtain ⟨S0,hS0,gk0,c0,hgk0,hnk,hown⟩:∃ S0,S0=(S.wR sx)∧∃ gk0,aK N gk0 gb S0 ρ env m∧(∀ k i,gk0 k=some i→gk k=some i)∧S0.nk=S.nk∧(∀ i,g0 = .own i→∀ k,gk0 k≠some i):=by
  rcases hcase with ⟨q,a,rfl⟩ | rfl
  ·refine ⟨_,rfl,_,c.iO q,fun k i h=>?_,rfl,fun i hi k hk=>?_⟩
   ·split at h
    ·simp at h
    ·exact h
   ·obtain ⟨es',_,h3⟩:=hx
    rcases h3 with ⟨h3,_⟩ | ⟨i',h4,h5,_⟩
    ·simp only [V.sl.injEq] at h3; rw [h3.1] at hi; simp at hi
    ·simp only [V.sl.injEq] at h5
     rw [h5.1] at hi
     simp only [Tag.own.injEq] at hi
     subst hi
     split at hk
     ·simp at hk
     ·rename_i hne; exact hne (c.iV k q i' hk h4)
  ·refine ⟨_,rfl,gk,c,fun _ _ h=>h,rfl,fun i hi=>?_⟩
   have:V.sl g0 es = .sl .full []:=hx
   simp only [V.sl.injEq] at this
   rw [this.1] at hi; simp at hi
 have htag : (g0 = .full ∧ (cd = 1 → es.length = 0)) ∨ ∃ i,g0 = .own i ∧ m.T[i]? = some (es.length,cd):=by
  rcases hcase with ⟨q,a,rfl⟩ | rfl
  ·obtain ⟨es',_,h3⟩:=hx
   rcases h3 with ⟨h3,h9⟩ | ⟨i',h4,h5,h6⟩
   ·simp only [V.sl.injEq] at h3; exact .inl ⟨h3.1,h3.2 ▸ h9⟩
   ·simp only [V.sl.injEq] at h5; obtain ⟨rfl,rfl⟩:=h5; exact .inr ⟨i',rfl,h6⟩
  ·have:V.sl g0 es = .sl .full []:=hx
   simp only [V.sl.injEq] at this
   exact .inl ⟨this.1,fun _=>by rw [this.2]; rfl⟩
 rw [← hS0]
 unfold zT
 simp only
 rw [if_pos ⟨hb,h1,h2⟩]
 by_cases hy:ys=[]
 ·subst hy
  rw [if_pos rfl]
  rcases htag with ⟨rfl,h9⟩ | ⟨i,rfl,hi⟩
  ·refine ⟨_,_,gk0,rfl,rfl,hnk ▸ c0.aVc,fun a ρ' ha=>⟨es,by rw [ha]; simp,.inl ⟨rfl,h9⟩⟩⟩
  ·have hlt:i < m.T.length:=(List.getElem?_eq_some_iff.1 hi).1
   refine ⟨_,_,_,rfl,rfl,hnk ▸ c0.aBs hlt (hown i rfl),fun a ρ' ha=>⟨es,by rw [ha]; simp,.inr ⟨i,?_,rfl,hi⟩⟩⟩
   simp [hnk]
 ·rw [if_neg hy]
  rcases htag with ⟨rfl,h9⟩ | ⟨i,rfl,hi⟩
  ·simp only
   have c1:=c0.aP1 (T':=m.T++[(es.length+ys.length,cd)]) (by simp) (fun k i x hk hx=>by
    rw [List.getElem?_append_left (List.getElem?_eq_some_iff.1 hx).1]; exact hx)
   have c2:=c1.aBs (i:=m.T.length) (by simp) (fun k hk=>by have:=(c0.pR k _ hk).2; omega)
   refine ⟨_,_,_,rfl,rfl,hnk ▸ c2,fun a ρ' ha=>⟨es++ys,ha,.inr ⟨m.T.length,by simp [hnk],rfl,by simp⟩⟩⟩
  ·simp only [hi,if_true]
   have hlt:i < m.T.length:=(List.getElem?_eq_some_iff.1 hi).1
   have c1:=c0.aP1 (T':=m.T.set i (es.length+ys.length,cd)) (by simp) (fun k j x hk hx=>by
    rw [List.getElem?_set_ne (fun e=>by subst e; exact hown i rfl k hk)]; exact hx)
   have c2:=c1.aBs (i:=i) (by simpa using hlt) (hown i rfl)
   refine ⟨_,_,_,rfl,rfl,hnk ▸ c2,fun a ρ' ha=>⟨es++ys,ha,.inr ⟨i,by simp [hnk],rfl,by simp [hlt]⟩⟩⟩
end
end Go.Fbs

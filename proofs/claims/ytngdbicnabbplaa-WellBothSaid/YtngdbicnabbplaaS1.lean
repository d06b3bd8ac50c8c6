/- Common texts: values, words, what they answer; no statement of the seat. -/
import Derived.Test.YtngdbicnabbplaaS0
set_option linter.unusedSimpArgs false
set_option linter.unusedVariables false
set_option linter.unusedSectionVars false
/- A small language that code is told back in: what its words answer. -/
namespace Go.Fbs
mutual
def V.aF:V→V
 | .sl _ es=>.sl .ro (a2i es)
 | .agg cs=>.agg (a2i cs)
 | .ro cs=>.ro (a2i cs)
 | .func f cs=>.func f (a2i cs)
 | .aO vs=>.aO (a2i vs)
 | .bool b=>.bool b
 | .int k n=>.int k n
 | .str s=>.str s
 | .ptr l off=>.ptr l off
 | .gH=>.gH
 | .map l=>.map l
 | .slr l off n c=>.slr l off n c
 | .undef=>.undef
 | .any=>.any
def a2i:List V→List V
 | []=>[]
 | v::vs=>v.aF::a2i vs
end
theorem cI:∀ l:List V,a2i l=l.map V.aF
 | []=>by simp [a2i]
 | v::vs=>by simp [a2i,cI vs]
theorem a44 (v:V):v.aF.cells=v.cells.map V.aF:=by
 cases v <;> simp [V.aF,V.cells,cI]
theorem sY (v:V):v.aF.cells.length=v.cells.length:=by rw [a44,zsy]
theorem aOj (v:V):v.aF.mB=v.mB:=by cases v <;> simp [V.aF,V.mB]
theorem a7r (es:List V):flat (es.map V.aF)=(flat es).map V.aF:=by
 induction es with
 | nil=>rfl
 | cons e es ih=>simp only [flat,zsx,List.flatMap_cons,List.map_append] at ih ⊢; rw [ih,a44]
theorem aA4 {κ:Ctx} {h:cJ} {v:V} {x:Value} (r:aW κ h v x):aW κ h v.aF x:=by
 have get : ∀ {cs : List V} {xs : List Value},(∀ (i : Nat) c x,cs[i]? = some c → xs[i]? = some x → aW κ h c.aF x) → ∀ (i : Nat) c x,(a2i cs)[i]? = some c → xs[i]? = some x → aW κ h c x:=by
  intro cs xs ih i c x h1 h2
  rw [cI,zvz,zyy] at h1
  obtain ⟨c0,h3,rfl⟩:=h1
  exact ih i c0 x h3 h2
 induction r with
 | bool b=>exact .bool b
 | int k n=>exact .int k n
 | str s=>exact .str s
 | ptr i off b hb=>exact .ptr i off b hb
 | ro cs b off xs hx hl _ ih=>exact .ro _ b off xs hx (by rw [cI]; simpa using hl) (get ih)
 | gH=>exact .gH
 | slnil g hg=>exact .slnil .ro (by simp)
 | sl g es b off cap sz xs hx hu hl _ hc ht ih =>
  have e:(a2i es).length=es.length:=by rw [cI,zsy]
  simp only [V.aF]
  rw [← e]
  refine .sl .ro (a2i es) b off cap sz xs hx ?_ ?_ ?_ (by rw [e]; exact hc) trivial
  ·intro v hv
   rw [cI] at hv
   obtain ⟨v0,h1,rfl⟩:=List.mem_map.1 hv
   rw [sY]; exact hu v0 h1
  ·rw [cI,a7r,zsy]; exact hl
  ·intro i c x h1 h2
   rw [cI,a7r,zvz,zyy] at h1
   obtain ⟨c0,h3,rfl⟩:=h1
   exact ih i c0 x h3 h2
 | wM=>exact .wM
 | map i b hb=>exact .map i b hb
 | slr i off n c b cap hb hn hc=>exact .slr i off n c b cap hb hn hc
 | func f caps xs hl _ ih=>exact .func f _ xs (by rw [cI]; simpa using hl) (get ih)
 | agg cs xs hl ho _ ih=>exact .agg _ xs (by rw [cI]; simpa using hl) ho (get ih)
 | aO cs xs hl _ ih=>exact .aO _ xs (by rw [cI]; simpa using hl) (get ih)
 | undef=>exact .undef
 | any x=>exact .any x
theorem b7f {κ:Ctx} {h:cJ} {vs:List V} {xs:List Value} (r:aJ κ h vs xs):aJ κ h (vs.map V.aF) xs :=
 ⟨by rw [r.1,zsy],fun i c x h1 h2=>by
  rw [zvz,zyy] at h1
  obtain ⟨c0,h3,rfl⟩:=h1
  exact aA4 (r.2 i c0 x h3 h2)⟩
theorem aXy (v:V):v.er1.aF=v.aF:=by
 cases v with
 | sl g es=>cases g <;> simp [V.er1,V.aF]
 | _=>rfl
theorem b3s (v:V):v.er.aF=v.aF:=by
 have h:∀ cs:List V,(cs.map V.er1).map V.aF=cs.map V.aF:=fun cs=>by simp [List.map_map,Function.comp_def,aXy]
 cases v <;> simp [V.er,V.aF,cI,h,aXy]
def sc (v:V):Bool :=
 match v with
 | .undef | .any | .aO _ | .agg _=>false
 | _=>true
theorem a7s {v:V} (h:sc v=true):v.cells=[v]:=by cases v <;> simp_all [sc,V.cells]
theorem aS6 {v:V} (h:sc v=true):v.mB=true:=by cases v <;> simp_all [sc,V.mB]
theorem aS7 (v:V):sc v.aF=sc v:=by cases v <;> rfl
inductive A where
 | v (i:Nat)
 | k (x:V)
 | c (i j:Nat)
 deriving Inhabited
def aA (x:V) (j:Nat):V:=x.cells.getD j .undef
def A.den (ρ:Nat→V):A→V
 | .v i=>ρ i
 | .k x=>x
 | .c i j=>aA (ρ i) j
inductive E where
 | id (a:A)
 | nQ (a:A)
 | jA (a:A)
 | bin (op:BinOp) (a b:A)
 | eqB (neg:Bool) (a b:A)
 | eqA (qs:List Nat) (neg:Bool) (a b:A)
 | un (op:UnOp) (a:A)
 | mm (max:Bool) (a b:A)
 | xU (k:IntKind) (a:A)
 | wP (a:A)
 | wQ (a:A)
 | slS (a:A) (lo hi:Option A)
 | slL (n:Nat) (a:A) (lo hi:Option A)
 | aZ9 (a i:A)
 | b0a (g:Bool) (n:Nat) (a i:A)
 | b7g (len:Nat) (g:Bool) (n:Nat) (a i:A)
 | part (g:Bool) (n off:Nat) (a:A)
 | agg (l:List A)
 | lit (n:Nat) (l:List A)
 | make (n:Nat) (z:V) (fL:Nat) (l c:A)
 | app (n fL:Nat) (x y:A)
 | aTa (fL:Nat) (x y:A)
 | call (f:FuncId) (l:List A)
 | aL4 (f:A) (l:List A)
 | fn (f:FuncId) (l:List A)
 | b0b (a:A)
 | ext (a:A) (i:Nat)
 | pick (c a b:A)
 | chk (n:Nat) (a:A)
 | b0c (a:A)
 | aTc (a:A)
 | inb (n:Nat) (i:A)
 | nth (l:List A) (i:A)
 | pre (n:Nat) (a:A)
 | flip (m1 m2:Nat) (s i c:A)
 deriving Inhabited
inductive L where
 | bind (e:E) (g:Option (A×Bool)) (k:L)
 | ite (c:A) (t e:L)
 | ret (a:A)
 | b7h (l:List A)
 | join (m:Nat) (body k:L)
 | loop (init:List A) (body:L)
 | jmp (d:Nat) (l:List A)
 deriving Inhabited
def aD (op:BinOp) (x y:V):Option V :=
 match x,y with
 | .int k a,.int k' b =>
  match op with
  | .shl | .shr=>a03 op k a b
  | _=>if k=k' then fX op k a b else none
 | .str a,.str b=>a2a op a b
 | _,_=>none
def eqS (q:Nat) (x y:V):Option Bool :=
 match q,x,y with
 | 0,.bool a,.bool b=>some (a == b)
 | 1,.int k a,.int k' b=>if k=k' then some (a == b) else none
 | 2,.str a,.str b=>some (a == b)
 | _,_,_=>none
def fN:List Nat→List V→List V→Option Bool
 | [],[],[]=>some true
 | q::qs,x::xs,y::ys =>
  match eqS q x y,fN qs xs ys with
  | some a,some b=>some (a && b)
  | _,_=>none
 | _,_,_=>none
def aJ4 (neg:Bool) (x y:V):Option V :=
 match x,y with
 | .bool a,.bool b=>some (.bool ((a == b) != neg))
 | _,_=>none
def aFo (qs:List Nat) (neg:Bool) (x y:V):Option V :=
 match x,y with
 | .agg xs,.agg ys=>(fN qs xs ys).map fun b=>.bool (b != neg)
 | _,_=>none
def mmK (max:Bool) (x y:V):Option V :=
 match x,y with
 | .int k a,.int _ b=>some (.int k (if max then (if b > a then b else a) else (if b < a then b else a)))
 | _,_=>none
def b0d (n:Nat) (x:V) (lo hi:Option V):Option V :=
 match x with
 | .sl _ es =>
  match nO hi es.length es.length with
  | some h =>
   match nO lo 0 h with
   | some l=>if es.all (fun e=>e.cells.length == n)=true then some (.sl .ro ((es.take h).drop l)) else none
   | none=>none
  | none=>none
 | _=>none
def bF (n:Nat) (x:V):Option V :=
 match x with
 | .agg cs=>if cs.length=n∧cs.all sc=true then some (.agg cs) else none
 | _=>none
def kT (x:V):Option V:=if sc x then some x else none
def gX (g:Bool) (n:Nat) (x i:V):Option V :=
 match x,i with
 | .sl _ es,.int _ k =>
  if 0≤k then
   match es[k.toNat]? with
   | some e=>if g then bF n e else kT e
   | none=>none
  else none
 | _,_=>none
def uC (g:Bool) (n off:Nat) (x:V):Option V :=
 match x with
 | .agg cs =>
  if g then (if off+n≤cs.length then bF n (.agg ((cs.drop off).take n)) else none)
  else (match cs[off]? with | some c=>kT c | none=>none)
 | _=>none
def aG (l:List V):Option V:=if l.all sc then some (.agg l) else none
def lO (n:Nat) (l:List V):Option V :=
 if l.length*n≤1000000∧l.all (fun e=>e.cells.length == n && e.mB)=true then some (.sl .ro l) else none
def aRv (z:V) (fL:Nat) (l c:V):Option V :=
 match l,c with
 | .int _ n,.int _ k=>if 0≤n∧n≤k∧k≤9223372036854775807∧fL*k≤140737488355328 then some (.sl .ro (List.replicate n.toNat z)) else none
 | _,_=>none
def qP (n fL:Nat) (x y:V):Option V :=
 match x,y with
 | .sl _ es,.sl _ ys =>
  if (es.length+ys.length)*(fL+1)≤70368744177664∧es.all (fun e=>e.cells.length == n)=true∧ys.all (fun e=>e.cells.length == n)=true then some (.sl .ro (es++ys)) else none
 | _,_=>none
def b0e (fL:Nat) (x y:V):Option V :=
 match y with
 | .str s=>qP 1 fL x (.sl .ro (s.map fun b=>.int .u8 b.toNat))
 | _=>none
def a06:Nat:=1000000
def wR (p:PT) (f:V) (l:List V):Option V :=
 match f with
 | .func g caps=>bif Nat.blt g a06 then p g (l++caps) else none
 | _=>none
def iH (n:Nat) (x:V):Option V :=
 match x with
 | .aO vs=>some (.aO (vs.take n))
 | _=>none
def vU:V→Bool
 | .bool _ | .undef=>true
 | _=>false
def qG (x:V):Option V:=if vU x then some x else none
def b7i (n:Nat) (i:V):Option V :=
 match i with
 | .int k m=>if 0≤m∧m < n then some (.int k m) else none
 | _=>none
def b7j (l:List V) (i:V):Option V :=
 match i with
 | .int _ m =>
  if 0≤m then
   match l[m.toNat]? with
   | some x=>kT x
   | none=>none
  else none
 | _=>none
def b98 (m1 m2:Nat) (l:List UInt8) (n b:Int):Option (Nat×Int) :=
 match fX .and .i64 n m1 with
 | some (.int .i64 q) =>
  match fX .rem .i64 q l.length with
  | some (.int .i64 r) =>
   match l[r.toNat]?,fX .and .u8 b m2 with
   | some x,some (.int .u8 d) =>
    match fX .xor .u8 x.toNat d with
    | some (.int .u8 e)=>if 0≤r then some (r.toNat,e) else none
    | _=>none
   | _,_=>none
  | _=>none
 | _=>none
def a4p (m1 m2:Nat) (s i c:V):Option V :=
 match s,i,c with
 | .str l,.int .i64 n,.int .u8 b =>
  if l.length≤1000000000 then
   if l=[] then some (.str [])
   else (b98 m1 m2 l n b).map fun p=>.str (l.set p.1 (UInt8.ofNat p.2.toNat))
  else none
 | _,_,_=>none
def aRw (x:V):Option V :=
 match x with
 | .func f cs=>some (.func f cs)
 | _=>none
def E.ev (p:PT) (ρ:Nat→V):E→Option V
 | .id a=>some (a.den ρ)
 | .nQ a=>Fbs.nQ (a.den ρ)
 | .jA a=>Fbs.jA (a.den ρ)
 | .bin op a b=>aD op (a.den ρ) (b.den ρ)
 | .eqB n a b=>aJ4 n (a.den ρ) (b.den ρ)
 | .eqA n g a b=>aFo n g (a.den ρ) (b.den ρ)
 | .un op a=>unV op (a.den ρ)
 | .mm g a b=>mmK g (a.den ρ) (b.den ρ)
 | .xU k a=>Fbs.xU k (a.den ρ)
 | .wP a=>Fbs.wP (a.den ρ)
 | .wQ a=>Fbs.wQ (a.den ρ)
 | .slS a lo hi=>yD (a.den ρ) (lo.map (A.den ρ)) (hi.map (A.den ρ))
 | .slL n a lo hi=>b0d n (a.den ρ) (lo.map (A.den ρ)) (hi.map (A.den ρ))
 | .aZ9 a i=>kA (a.den ρ) (i.den ρ)
 | .b0a g n a i=>gX g n (a.den ρ) (i.den ρ)
 | .b7g len g n a i=>a7q len g n (a.den ρ) (i.den ρ)
 | .part g n off a=>uC g n off (a.den ρ)
 | .agg l=>aG (l.map (A.den ρ))
 | .lit n l=>lO n (l.map (A.den ρ))
 | .make _ z b l c=>aRv z b (l.den ρ) (c.den ρ)
 | .app n b x y=>qP n b (x.den ρ) (y.den ρ)
 | .aTa b x y=>b0e b (x.den ρ) (y.den ρ)
 | .call f l=>p f (l.map (A.den ρ))
 | .aL4 f l=>wR p (f.den ρ) (l.map (A.den ρ))
 | .fn f l=>some (.func f (l.map (A.den ρ)))
 | .b0b a=>aRw (a.den ρ)
 | .ext a i=>aC (a.den ρ) i
 | .pick c a b=>cH (c.den ρ) (a.den ρ) (b.den ρ)
 | .chk n a=>bF n (a.den ρ)
 | .b0c a=>kT (a.den ρ)
 | .aTc a=>qG (a.den ρ)
 | .inb n i=>b7i n (i.den ρ)
 | .nth l i=>b7j (l.map (A.den ρ)) (i.den ρ)
 | .pre n a=>iH n (a.den ρ)
 | .flip m1 m2 s i c=>a4p m1 m2 (s.den ρ) (i.den ρ) (c.den ρ)
def ext (ρ:Nat→V) (n:Nat) (y:V):Nat→V:=fun i=>bif Nat.beq i n then y else ρ i
def gv (vs:List V) (i:Nat):V:=vs.getD i .undef
def exts (ρ:Nat→V) (n:Nat) (vs:List V):Nat→V:=fun i=>bif Nat.ble n i then gv vs (i - n) else ρ i
def bP (c:V) (t e:Prop):Prop :=
 match c with
 | .bool b=>if b then t else e
 | _=>False
def b99 (p:PT) (ρ:Nat→V) (e:E):Option (A×Bool)→Option V
 | none=>e.ev p ρ
 | some (g,want)=>aQ (g.den ρ) want (e.ev p ρ)
def aH0 (F:(List V→Prop)→List V→Prop):Nat→List V→Prop
 | 0,_=>False
 | n+1,vs=>F (aH0 F n) vs
def qH (F:(List V→Prop)→List V→Prop) (vs:List V):Prop:=∃ n,aH0 F n vs
def qI (k:List V→Prop) (body:(List V→Prop)→Prop):Prop:=body k
def L.wp (p:PT) (Q:V→Prop):L→Nat→(Nat→V)→List (List V→Prop)→Prop
 | .bind e g k,n,ρ,ks=>opt (b99 p ρ e g) fun y=>k.wp p Q (n+1) (ext ρ n y) ks
 | .ite c t e,n,ρ,ks=>bP (c.den ρ) (t.wp p Q n ρ ks) (e.wp p Q n ρ ks)
 | .ret a,_,ρ,_=>Q (a.den ρ)
 | .b7h l,_,ρ,_=>Q (.aO (l.map (A.den ρ)))
 | .join m body k,n,ρ,ks=>qI (fun vs=>vs.length=m∧k.wp p Q (n+m) (exts ρ n vs) ks) fun r=>body.wp p Q n ρ (r::ks)
 | .loop init body,n,ρ,ks=>qH (fun r vs=>vs.length=init.length∧body.wp p Q (n+init.length) (exts ρ n vs) (r::ks)) (init.map (A.den ρ))
 | .jmp d l,_,ρ,ks =>
  match ks[d]? with
  | some k=>k (l.map (A.den ρ))
  | none=>False
theorem jC {F:(List V→Prop)→List V→Prop} {vs:List V} (I:List V→Prop) (μ:List V→Nat) (h0:I vs)
  (round:∀ (r:List V→Prop) (vs:List V),I vs→(∀ vs',I vs'→μ vs' < μ vs→r vs')→F r vs):qH F vs:=by
 have key:∀ n vs,μ vs < n→I vs→aH0 F n vs:=by
  intro n
  induction n with
  | zero=>intro vs h; omega
  | succ n ih=>exact fun vs h hI=>round _ vs hI fun vs' hI' hμ=>ih vs' (by omega) hI'
 exact ⟨_,key _ vs (Nat.lt_succ_self _) h0⟩
end Go.Fbs

/- Calls that are led to boxes: what goes in,what comes out. -/
namespace Go.Fbs
mutual
def V.bU:V→Bool
 | .ptr _ _=>false
 | .map (some _)=>false
 | .slr ..=>false
 | .sl .ro es=>aL es
 | .sl _ _=>false
 | .agg cs=>aL cs
 | .ro cs=>aL cs
 | .func _ cs=>aL cs
 | .aO vs=>aL vs
 | _=>true
def aL:List V→Bool
 | []=>true
 | v::vs=>v.bU && aL vs
end
theorem tG:∀ {vs:List V},aL vs=true↔∀ v ∈ vs,v.bU=true
 | []=>by simp [aL]
 | v::vs=>by simp [aL,tG (vs:=vs)]
mutual
theorem mP:∀ {v:V},v.bU=true→v.plain=true∧v.aF=v
 | .bool _,_=>⟨rfl,rfl⟩
 | .int _ _,_=>⟨rfl,rfl⟩
 | .str _,_=>⟨rfl,rfl⟩
 | .ptr _ _,h=>by simp [V.bU] at h
 | .ro cs,h=>by
  simp only [V.bU] at h
  have:=pK h
  exact ⟨this.1,by simp only [V.aF,this.2]⟩
 | .gH,_=>⟨rfl,rfl⟩
 | .sl .ro es,h=>by
  simp only [V.bU] at h
  have:=pK h
  exact ⟨this.1,by simp only [V.aF,this.2]⟩
 | .sl .full es,h=>by simp [V.bU] at h
 | .sl (.own i) es,h=>by simp [V.bU] at h
 | .map none,_=>⟨rfl,rfl⟩
 | .map (some _),h=>by simp [V.bU] at h
 | .slr ..,h=>by simp [V.bU] at h
 | .func _ cs,h=>by
  simp only [V.bU] at h
  have:=pK h
  exact ⟨this.1,by simp only [V.aF,this.2]⟩
 | .agg cs,h=>by
  simp only [V.bU] at h
  have:=pK h
  exact ⟨this.1,by simp only [V.aF,this.2]⟩
 | .aO cs,h=>by
  simp only [V.bU] at h
  have:=pK h
  exact ⟨this.1,by simp only [V.aF,this.2]⟩
 | .undef,_=>⟨rfl,rfl⟩
 | .any,_=>⟨rfl,rfl⟩
theorem pK:∀ {vs:List V},aL vs=true→qZ vs=true∧a2i vs=vs
 | [],_=>⟨rfl,rfl⟩
 | v::vs,h=>by
  simp only [aL,zxz] at h
  have h1:=mP h.1
  have h2:=pK h.2
  exact ⟨by simp only [qZ,h1.1,h2.1]; rfl,by simp only [a2i,h1.2,h2.2]⟩
end
def pack:List V→V
 | [a]=>a
 | l=>.aO l
inductive CK where
 | pl
 | self (t:Nat)
 | gr (sz:Nat) (done:Bool)
 deriving Inhabited
inductive AK where
 | v
 | b (off:Nat) (ks:List CK)
 deriving Inhabited
inductive GK where
 | one
 | kX (f:FuncId) (n:Nat)
 deriving Inhabited
structure iA where
 cL:Nat
 as:List AK
 gr:List GK
 deriving Inhabited
def sJ:List GK→List V→Option (List V)
 | [],vs=>some vs
 | .one::gs,v::vs=>(sJ gs vs).map (v :: ·)
 | .kX f n::gs,.func f' cs::vs=>if f'=f∧cs.length=n then (sJ gs vs).map (cs ++ ·) else none
 | _,_=>none
def unA:List GK→List V→List V
 | [],vs=>vs
 | .one::gs,vs=>vs.take 1++unA gs (vs.drop 1)
 | .kX f n::gs,vs=>.func f (vs.take n)::unA gs (vs.drop n)
abbrev bI8:=List (FuncId×(FuncId×iA))
def iB:List AK→List (List CK)
 | []=>[]
 | .v::r=>iB r
 | .b _ ks::r=>ks::iB r
def CK.out:CK→CK
 | .gr _ true=>.pl
 | k=>k
def gY (as:List AK):List (List CK):=(iB as).map (·.map CK.out)
theorem b3t (as:List AK):(gY as).length=(iB as).length:=zsy ..
def tyK:List CK→Option Nat
 | []=>none
 | .self t::_=>some t
 | _::r=>tyK r
def a6k (ks:List CK) (e:Option Nat):Bool :=
 match tyK ks with
 | none=>true
 | some t=>e == some t
theorem aTe {ks:List CK} {e:Option Nat} (h:a6k ks e=true) {t:Nat} (ht:tyK ks=some t):e=some t:=by
 unfold a6k at h
 rw [ht] at h
 simpa using h
def gT (l:Nat) (T:List (Nat×Nat)):List CK→List V→Option (List V×List GA)
 | [],[]=>some ([],[])
 | .pl::ks,c::cs=>(gT l T ks cs).map fun q=>(c.aF::q.1,q.2)
 | .self _::ks,.gH::cs=>(gT l T ks cs).map fun q=>(.bool false::q.1,q.2)
 | .self _::ks,.ptr b o::cs=>if b=l∧o=0 then (gT l T ks cs).map fun q=>(.bool true::q.1,q.2) else none
 | .gr sz _::ks,.sl .full es::cs=>if 0 < sz∧(sz=1→es.length=0) then (gT l T ks cs).map fun q=>(.sl .ro (es.map V.aF)::q.1,.full es.length sz::q.2) else none
 | .gr sz _ :: ks,.sl (.own i) es :: cs=>if 0 < sz ∧ T[i]? = some (es.length,sz) then (gT l T ks cs).map fun q=>(.sl .ro (es.map V.aF) :: q.1,.own i :: q.2) else none
 | _,_=>none
def aJ5 (e:Option Nat) (l:Nat) (T:List (Nat×Nat)) (ks:List CK) (cs:List V):Option (List V×List GA):=if a6k ks e=true then gT l T ks cs else none
theorem a1j {e:Option Nat} {l:Nat} {T:List (Nat×Nat)} {ks:List CK} {cs:List V} {q:List V×List GA} (h:aJ5 e l T ks cs=some q):gT l T ks cs=some q∧a6k ks e=true:=by
 unfold aJ5 at h
 split at h
 ·rename_i h1
  exact ⟨h,h1⟩
 ·simp at h
theorem aOk {e:Option Nat} {l:Nat} {T:List (Nat×Nat)} {ks:List CK} {cs:List V} {q:List V×List GA} (h:gT l T ks cs=some q) (h1:a6k ks e=true):aJ5 e l T ks cs=some q:=by
 unfold aJ5
 rw [if_pos h1]; exact h
def jD (m:Hp):List AK→List V→Option (List V×List Nat×List GA)
 | [],[]=>some ([],[],[])
 | .v::ks,a::as=>(jD m ks as).map fun q=>(a.aF::q.1,q.2)
 | .b off cks::ks,.ptr l o::as =>
  if o=off then
   match m.H[l]? with
   | some (.cells e cs) =>
    match aJ5 e l m.T cks cs,jD m ks as with
    | some (w,gs),some q=>some (.agg w::q.1,l::q.2.1,gs++q.2.2)
    | _,_=>none
   | _=>none
  else none
 | _,_=>none
def aRx (b:Nat):V→V
 | .bool true=>.ptr b 0
 | _=>.gH
def iV (b q:Nat):List CK→List V→List V×List (Nat×Nat)
 | .gr sz _::ks,.sl _ es::ws=>(.sl (.own q) es::(iV b (q+1) ks ws).1,(es.length,sz)::(iV b (q+1) ks ws).2)
 | .self _::ks,w::ws=>(aRx b w::(iV b q ks ws).1,(iV b q ks ws).2)
 | _::ks,w::ws=>(w::(iV b q ks ws).1,(iV b q ks ws).2)
 | _,_=>([],[])
def kM (b q:Nat):List AK→List V→List V×List LO×List (Nat×Nat)
 | .v::ks,w::ws=>(w::(kM b q ks ws).1,(kM b q ks ws).2)
 | .b off cks::ks,.agg cs::ws =>
  (.ptr b off::(kM (b+1) (q+(iV b q cks cs).2.length) ks ws).1,.cells (tyK cks) (iV b q cks cs).1::(kM (b+1) (q+(iV b q cks cs).2.length) ks ws).2.1,(iV b q cks cs).2++(kM (b+1) (q+(iV b q cks cs).2.length) ks ws).2.2)
 | _,_=>([],[],[])
def a2j (m:Hp):Nat→List (List CK)→Option (List V×List GA)
 | _,[]=>some ([],[])
 | b,cks::kss =>
  match m.H[b]? with
  | some (.cells e cs) =>
   match aJ5 e b m.T cks cs,a2j m (b+1) kss with
   | some (w,gs),some q=>some (.agg w::q.1,gs++q.2)
   | _,_=>none
  | _=>none
def pU:Nat→List (List CK)→List Nat→List V→List LO→List LO×List (Nat×Nat)
 | q,cks::kss,l::ls,.agg ws::outs,H =>
  ((pU (q+(iV l q cks ws).2.length) kss ls outs (H.set l (.cells (tyK cks) (iV l q cks ws).1))).1,(iV l q cks ws).2++(pU (q+(iV l q cks ws).2.length) kss ls outs (H.set l (.cells (tyK cks) (iV l q cks ws).1))).2)
 | _,_,_,_,H=>(H,[])
def mM:List CK→List V→Bool
 | [],[]=>true
 | .pl::ks,_::ws=>mM ks ws
 | .self _::ks,.bool _::ws=>mM ks ws
 | .gr _ _::ks,.sl .ro _::ws=>mM ks ws
 | _,_=>false
def iP:List (List CK)→List V→Bool
 | [],[]=>true
 | ks::kss,.agg ws::outs=>ws.all sc && mM ks ws && iP kss outs
 | _,_=>false
structure bF9 (sg:iA) (v:V):Prop where
 aO:∃ rs,v = .aO rs∧sg.cL≤rs.length∧iP (gY sg.as) (rs.drop sg.cL)=true
def a2k {α : Type} (f : Nat → α) (l : List α) : Prop:=∀ (i j n : Nat),l[i]? = some (f n) → l[j]? = some (f n) → i = j
def a7t (l:List Nat):Prop:=a2k (fun n=>n) l
def aCa (l:List GA):Prop:=a2k GA.own l
open Classical in
noncomputable def aOl (sg:iA) (F:List V→Option V) (args:List V) (m:Hp):Option (V×Hp) :=
 match (sJ sg.gr args).bind (jD m sg.as) with
 | some (words,ls,gs) =>
  if a7t ls∧aCa gs then
   match F words with
   | some (.aO rs)=>some (pack (rs.take sg.cL),⟨(pU m.T.length (gY sg.as) ls (rs.drop sg.cL) m.H).1,zD gs m.T++(pU m.T.length (gY sg.as) ls (rs.drop sg.cL) m.H).2⟩)
   | _=>none
  else none
 | none=>none
def aRy (m1:Hp) (kss:List (List CK)) (outs:List V):Prop:=∃ gs,a2j m1 0 kss=some (outs,gs)∧aCa gs
def Callee (P:Program) (f:FuncId) (sg:iA) (words rs:List V):Prop :=
 ∀ (κ:Ctx) (w:World) (xs:List Value),Mem κ w.heap ⟨(kM 0 0 sg.as words).2.1,(kM 0 0 sg.as words).2.2⟩→aJ κ w.heap (unA sg.gr (kM 0 0 sg.as words).1) xs →
  Calls P f ⟨xs⟩ w (fun e w'=>∃ x κ' m1,e = .returned x∧Ext κ w ⟨(kM 0 0 sg.as words).2.1,(kM 0 0 sg.as words).2.2⟩ κ' w' m1∧aW κ' w'.heap (pack (rs.take sg.cL)) x∧aRy m1 (gY sg.as) (rs.drop sg.cL))
section
variable {κ κ':Ctx} {h:cJ}
theorem aL5 (hw:∀ b,κ.hw b≤κ'.hw b) {v:V} {x:Value} (r:aW κ h v x) (hp:v.aF.bU=true):aW κ' h v.aF x :=
 a42 hw (aA4 r) (mP hp).1
theorem aPz (hw : ∀ b,κ.hw b ≤ κ'.hw b) {g : Tag} {es : List V} {x : Value} (r : aW κ h (.sl g es) x) (hes : aL (es.map V.aF) = true) {j : Nat} {L' : dX} (hj : κ'.aN[j]? = some L')
  (hg : (∃ i,g = .own i ∧ κ.aN[i]? = some L') ∨ (g = .full ∧ L'.kind = .full ∧ L'.n = es.length)) : aW κ' h (.sl (.own j) (es.map V.aF)) x:=by
 cases r with
 | slnil _ h0 =>
  refine .slnil _ fun q hq=>?_
  simp only [Tag.own.injEq] at hq
  subst hq
  refine ⟨L',hj,fun hk=>?_⟩
  rcases hg with ⟨i,rfl,hi⟩ | ⟨_,hk',_⟩
  ·obtain ⟨L,h1,h2⟩:=h0 i rfl
   rw [hi] at h1
   simp only [zzz] at h1
   subst h1
   exact h2 hk
  ·rw [hk'] at hk; simp at hk
 | sl _ _ b off cap sz xs hx hu hl hr hc ht =>
  have e:(es.map V.aF).length=es.length:=zsy ..
  rw [← e]
  refine .sl _ _ b off cap sz xs (fun i y hy=>let ⟨h1,h2⟩:=hx i y hy; ⟨zuz h1 (hw _),h2⟩) (fun v hv=>?_) (by rw [a7r,zsy]; exact hl) (fun i c x h1 h2=>?_) (by rw [e]; exact hc) ?_
  ·obtain ⟨v0,h1,rfl⟩:=List.mem_map.1 hv
   rw [sY]; exact hu v0 h1
  ·rw [a7r,zvz,zyy] at h1
   obtain ⟨c0,h3,rfl⟩:=h1
   have hp:c0.aF.plain=true:=by
    refine zC (pK hes).1 _ ?_
    rw [a7r]
    exact List.mem_map.2 ⟨c0,zyx h3,rfl⟩
   exact a42 hw (aA4 (hr i c0 x h3 h2)) hp
  ·rw [e]
   refine ⟨L',hj,?_⟩
   rcases hg with ⟨i,rfl,hi⟩ | ⟨rfl,hk,hn⟩
   ·obtain ⟨L,h1,h2⟩:=ht
    rw [hi] at h1
    simp only [zzz] at h1
    subst h1
    exact h2
   ·refine ⟨fun hr=>by rw [hk] at hr; simp at hr,fun _=>⟨by omega,fun _=>ht⟩⟩
end
section
variable {κ κp κ1 κ':Ctx} {h h1:cJ} {m m1:Hp}
theorem a07 {T:List (Nat×Nat)} {l b:Nat} (hT:κ.aN.map dX.told=T) (hw:∀ b,κ.hw b≤κp.hw b) (hb:∀ cG,κ.box l=some cG→κp.box b=some cG):∀ {cks:List CK} {cs w:List V} {gs:List GA} {q:Nat} {xs:List Value},gT l T cks cs=some (w,gs)→aL w=true →
  (∀ (i : Nat) g,gs[i]? = some g → κp.aN[q + i]? = some (GA.aN κ g)) → aJ κ h cs xs → aJ κp h (iV b q cks w).1 xs ∧ (iV b q cks w).2 = gs.map fun g=>(GA.aN κ g).told
 | [],[],w,gs,q,xs,e,hc,hg,r=>by
  simp only [gT,zzz,zvy] at e
  obtain ⟨rfl,rfl⟩:=e
  obtain rfl:=r.sX
  exact ⟨aJ.nil,rfl⟩
 | .pl::ks,c::cs,w,gs,q,xs,e,hc,hg,r=>by
  simp only [gT,zyy] at e
  obtain ⟨⟨w',gs'⟩,e,h1⟩:=e
  simp only [zvy] at h1
  obtain ⟨rfl,rfl⟩:=h1
  simp only [aL,zxz] at hc
  obtain ⟨x,xs',rfl,rx,r'⟩:=r.dP
  obtain ⟨h2,h3⟩:=a07 hT hw hb e hc.2 hg r'
  exact ⟨aJ.cons (aL5 hw rx hc.1) h2,h3⟩
 | .self _::ks,.gH::cs,w,gs,q,xs,e,hc,hg,r=>by
  simp only [gT,zyy] at e
  obtain ⟨⟨w',gs'⟩,e,h1⟩:=e
  simp only [zvy] at h1
  obtain ⟨rfl,rfl⟩:=h1
  simp only [aL,zxz] at hc
  obtain ⟨x,xs',rfl,rx,r'⟩:=r.dP
  obtain ⟨h2,h3⟩:=a07 hT hw hb e hc.2 hg r'
  refine ⟨aJ.cons (c:=aRx b (.bool false)) ?_ h2,h3⟩
  rw [vQ rx]; exact .gH
 | .self _::ks,.ptr l' o::cs,w,gs,q,xs,e,hc,hg,r=>by
  simp only [gT] at e
  split at e
  ·rename_i hlo
   obtain ⟨rfl,rfl⟩:=hlo
   simp only [zyy] at e
   obtain ⟨⟨w',gs'⟩,e,h1⟩:=e
   simp only [zvy] at h1
   obtain ⟨rfl,rfl⟩:=h1
   simp only [aL,zxz] at hc
   obtain ⟨x,xs',rfl,rx,r'⟩:=r.dP
   obtain ⟨h2,h3⟩:=a07 hT hw hb e hc.2 hg r'
   refine ⟨aJ.cons (c:=aRx b (.bool true)) ?_ h2,h3⟩
   obtain ⟨cG,hblk,hx⟩:=rW rx
   rw [hx]; exact .ptr b 0 cG (hb cG hblk)
  ·simp at e
 | .gr sz _::ks,.sl .full es::cs,w,gs,q,xs,e,hc,hg,r=>by
  simp only [gT] at e
  split at e
  ·rename_i hs
   simp only [zyy] at e
   obtain ⟨⟨w',gs'⟩,e,h1⟩:=e
   simp only [zvy] at h1
   obtain ⟨rfl,rfl⟩:=h1
   simp only [aL,zxz,V.bU] at hc
   obtain ⟨x,xs',rfl,rx,r'⟩:=r.dP
   obtain ⟨h2,h3⟩:=a07 (q:=q+1) hT hw hb e hc.2 (fun i g hi=>by rw [show q+1+i=q+(i+1) by omega]; exact hg (i+1) g (by simpa using hi)) r'
   have h0:=hg 0 _ rfl
   rw [Nat.add_zero] at h0
   refine ⟨aJ.cons (aPz hw rx hc.1 h0 (.inr ⟨rfl,rfl,rfl⟩)) h2,?_⟩
   simp only [iV,h3,zsx,zsy,aPx hs.1]
  ·simp at e
 | .gr sz _::ks,.sl (.own i0) es::cs,w,gs,q,xs,e,hc,hg,r=>by
  simp only [gT] at e
  split at e
  ·rename_i hsz
   simp only [zyy] at e
   obtain ⟨⟨w',gs'⟩,e,h1⟩:=e
   simp only [zvy] at h1
   obtain ⟨rfl,rfl⟩:=h1
   simp only [aL,zxz,V.bU] at hc
   obtain ⟨x,xs',rfl,rx,r'⟩:=r.dP
   obtain ⟨h2,h3⟩:=a07 (q:=q+1) hT hw hb e hc.2 (fun i g hi=>by rw [show q+1+i=q+(i+1) by omega]; exact hg (i+1) g (by simpa using hi)) r'
   have h0:=hg 0 _ rfl
   rw [Nat.add_zero] at h0
   have hti:=hsz.2
   rw [← hT,zvz,zyy] at hti
   obtain ⟨L,hL,hLt⟩:=hti
   have hga:GA.aN κ (.own i0)=L:=by simp [GA.aN,hL]
   rw [hga] at h0
   refine ⟨aJ.cons (aPz hw rx hc.1 h0 (.inl ⟨i0,rfl,hL⟩)) h2,?_⟩
   simp only [iV,h3,zsx,zsy,hga,hLt]
  ·simp at e
 | [],_::_,_,_,_,_,e,_,_,_=>by simp [gT] at e
 | .pl::_,[],_,_,_,_,e,_,_,_=>by simp [gT] at e
 | .self _::_,[],_,_,_,_,e,_,_,_=>by simp [gT] at e
 | .self _::_,.bool _::_,_,_,_,_,e,_,_,_=>by simp [gT] at e
 | .self _::_,.int _ _::_,_,_,_,_,e,_,_,_=>by simp [gT] at e
 | .self _::_,.str _::_,_,_,_,_,e,_,_,_=>by simp [gT] at e
 | .self _::_,.ro _::_,_,_,_,_,e,_,_,_=>by simp [gT] at e
 | .self _::_,.sl _ _::_,_,_,_,_,e,_,_,_=>by simp [gT] at e
 | .self _::_,.map _::_,_,_,_,_,e,_,_,_=>by simp [gT] at e
 | .self _::_,.slr .. :: _,_,_,_,_,e,_,_,_=>by simp [gT] at e
 | .self _::_,.func _ _::_,_,_,_,_,e,_,_,_=>by simp [gT] at e
 | .self _::_,.agg _::_,_,_,_,_,e,_,_,_=>by simp [gT] at e
 | .self _::_,.aO _::_,_,_,_,_,e,_,_,_=>by simp [gT] at e
 | .self _::_,.undef::_,_,_,_,_,e,_,_,_=>by simp [gT] at e
 | .self _::_,.any::_,_,_,_,_,e,_,_,_=>by simp [gT] at e
 | .gr _ _::_,[],_,_,_,_,e,_,_,_=>by simp [gT] at e
 | .gr _ _::_,.sl .ro _::_,_,_,_,_,e,_,_,_=>by simp [gT] at e
 | .gr _ _::_,.bool _::_,_,_,_,_,e,_,_,_=>by simp [gT] at e
 | .gr _ _::_,.int _ _::_,_,_,_,_,e,_,_,_=>by simp [gT] at e
 | .gr _ _::_,.str _::_,_,_,_,_,e,_,_,_=>by simp [gT] at e
 | .gr _ _::_,.ptr _ _::_,_,_,_,_,e,_,_,_=>by simp [gT] at e
 | .gr _ _::_,.ro _::_,_,_,_,_,e,_,_,_=>by simp [gT] at e
 | .gr _ _::_,.gH::_,_,_,_,_,e,_,_,_=>by simp [gT] at e
 | .gr _ _::_,.map _::_,_,_,_,_,e,_,_,_=>by simp [gT] at e
 | .gr _ _::_,.slr .. :: _,_,_,_,_,e,_,_,_=>by simp [gT] at e
 | .gr _ _::_,.func _ _::_,_,_,_,_,e,_,_,_=>by simp [gT] at e
 | .gr _ _::_,.agg _::_,_,_,_,_,e,_,_,_=>by simp [gT] at e
 | .gr _ _::_,.aO _::_,_,_,_,_,e,_,_,_=>by simp [gT] at e
 | .gr _ _::_,.undef::_,_,_,_,_,e,_,_,_=>by simp [gT] at e
 | .gr _ _::_,.any::_,_,_,_,_,e,_,_,_=>by simp [gT] at e
theorem b7k {T:List (Nat×Nat)} {l b:Nat} (hT:κ.aN.map dX.told=T):∀ {cks:List CK} {cs w:List V} {gs:List GA} {q:Nat},gT l T cks cs=some (w,gs)→(iV b q cks w).2=gs.map fun g=>(GA.aN κ g).told:=by
 intro cks cs
 fun_induction gT l T cks cs with
 | case1=>intro w gs q e; simp only [zzz,zvy] at e; obtain ⟨rfl,rfl⟩:=e; rfl
 | case2 ks c cs ih =>
  intro w gs q e
  simp only [zyy] at e
  obtain ⟨⟨w',gs'⟩,e,h1⟩:=e
  simp only [zvy] at h1
  obtain ⟨rfl,rfl⟩:=h1
  exact ih e
 | case3 _ ks cs ih =>
  intro w gs q e
  simp only [zyy] at e
  obtain ⟨⟨w',gs'⟩,e,h1⟩:=e
  simp only [zvy] at h1
  obtain ⟨rfl,rfl⟩:=h1
  exact ih e
 | case4 _ ks b' o cs hlo ih =>
  intro w gs q e
  simp only [zyy] at e
  obtain ⟨⟨w',gs'⟩,e,h1⟩:=e
  simp only [zvy] at h1
  obtain ⟨rfl,rfl⟩:=h1
  exact ih e
 | case5=>intro w gs q e; simp at e
 | case6 sz _ ks es cs hs ih =>
  intro w gs q e
  simp only [zyy] at e
  obtain ⟨⟨w',gs'⟩,e,h1⟩:=e
  simp only [zvy] at h1
  obtain ⟨rfl,rfl⟩:=h1
  simp only [iV,ih e,zsx,zsy,aPx hs.1]
 | case7=>intro w gs q e; simp at e
 | case8 sz _ ks i0 es cs hs ih =>
  intro w gs q e
  simp only [zyy] at e
  obtain ⟨⟨w',gs'⟩,e,h1⟩:=e
  simp only [zvy] at h1
  obtain ⟨rfl,rfl⟩:=h1
  have hti:=hs.2
  rw [← hT,zvz,zyy] at hti
  obtain ⟨L,hL,hLt⟩:=hti
  have hga:GA.aN κ (.own i0)=L:=by simp [GA.aN,hL]
  simp only [iV,ih e,zsx,zsy,hga,hLt]
 | case9=>intro w gs q e; simp at e
 | case10=>intro w gs q e; simp at e
theorem aTf {l : Nat} {T : List (Nat × Nat)} : ∀ {cks : List CK} {cs w : List V} {gs : List GA},gT l T cks cs = some (w,gs) → ∀ (q i : Nat),gs[q]? = some (.own i) → ∃ n sz,T[i]? = some (n,sz) ∧ 0 < sz:=by
 intro cks cs
 fun_induction gT l T cks cs with
 | case1=>intro w gs e q i hi; simp only [zzz,zvy] at e; obtain ⟨_,rfl⟩:=e; simp at hi
 | case2 ks c cs ih =>
  intro w gs e q i hi
  simp only [zyy] at e
  obtain ⟨⟨w',gs'⟩,e,h1⟩:=e
  simp only [zvy] at h1
  obtain ⟨_,rfl⟩:=h1
  exact ih e q i hi
 | case3 _ ks cs ih =>
  intro w gs e q i hi
  simp only [zyy] at e
  obtain ⟨⟨w',gs'⟩,e,h1⟩:=e
  simp only [zvy] at h1
  obtain ⟨_,rfl⟩:=h1
  exact ih e q i hi
 | case4 _ ks b' o cs hlo ih =>
  intro w gs e q i hi
  simp only [zyy] at e
  obtain ⟨⟨w',gs'⟩,e,h1⟩:=e
  simp only [zvy] at h1
  obtain ⟨_,rfl⟩:=h1
  exact ih e q i hi
 | case5=>intro w gs e; simp at e
 | case6 sz _ ks es cs hs ih =>
  intro w gs e q i hi
  simp only [zyy] at e
  obtain ⟨⟨w',gs'⟩,e,h1⟩:=e
  simp only [zvy] at h1
  obtain ⟨_,rfl⟩:=h1
  cases q with
  | zero=>simp at hi
  | succ q=>exact ih e q i (by simpa using hi)
 | case7=>intro w gs e; simp at e
 | case8 sz _ ks i0 es cs hs ih =>
  intro w gs e q i hi
  simp only [zyy] at e
  obtain ⟨⟨w',gs'⟩,e,h1⟩:=e
  simp only [zvy] at h1
  obtain ⟨_,rfl⟩:=h1
  cases q with
  | zero=>simp only [zux,zzz,GA.own.injEq] at hi; subst hi; exact ⟨_,_,hs.2,hs.1⟩
  | succ q=>exact ih e q i (by simpa using hi)
 | case9=>intro w gs e; simp at e
 | case10=>intro w gs e; simp at e
theorem aTg {l : Nat} {T : List (Nat × Nat)} : ∀ {cks : List CK} {cs w : List V} {gs : List GA},gT l T cks cs = some (w,gs) → ∀ (q n : Nat),gs[q]? = some (.full n 1) → n = 0:=by
 intro cks cs
 fun_induction gT l T cks cs with
 | case1 =>
  intro w gs e q n hi
  simp only [zzz,zvy] at e
  obtain ⟨_,rfl⟩:=e
  simp at hi
 | case6 sz _ ks es cs hs ih =>
  intro w gs e q n hi
  simp only [zyy] at e
  obtain ⟨⟨w',gs'⟩,e,h1⟩:=e
  simp only [zvy] at h1
  obtain ⟨_,rfl⟩:=h1
  cases q with
  | zero =>
   simp only [zux,zzz,GA.full.injEq] at hi
   rw [← hi.1]; exact hs.2 hi.2
  | succ q=>exact ih e q n (by simpa using hi)
 | case8 sz _ ks i0 es cs hs ih =>
  intro w gs e q n hi
  simp only [zyy] at e
  obtain ⟨⟨w',gs'⟩,e,h1⟩:=e
  simp only [zvy] at h1
  obtain ⟨_,rfl⟩:=h1
  cases q with
  | zero=>simp at hi
  | succ q=>exact ih e q n (by simpa using hi)
 | case5=>intro w gs e; simp at e
 | case7=>intro w gs e; simp at e
 | case9=>intro w gs e; simp at e
 | case10=>intro w gs e; simp at e
 | case2 ks c cs ih =>
  intro w gs e q n hi
  simp only [zyy] at e
  obtain ⟨⟨w',gs'⟩,e,h1⟩:=e
  simp only [zvy] at h1
  obtain ⟨_,rfl⟩:=h1
  exact ih e q n hi
 | case3 _ ks cs ih =>
  intro w gs e q n hi
  simp only [zyy] at e
  obtain ⟨⟨w',gs'⟩,e,h1⟩:=e
  simp only [zvy] at h1
  obtain ⟨_,rfl⟩:=h1
  exact ih e q n hi
 | case4 _ ks b' o cs hlo ih =>
  intro w gs e q n hi
  simp only [zyy] at e
  obtain ⟨⟨w',gs'⟩,e,h1⟩:=e
  simp only [zvy] at h1
  obtain ⟨_,rfl⟩:=h1
  exact ih e q n hi
theorem aJ6 {m : Hp} : ∀ {ks : List AK} {args words : List V} {ls : List Nat} {gs : List GA},jD m ks args = some (words,ls,gs) → ∀ (q n : Nat),gs[q]? = some (.full n 1) → n = 0
 | [],[],words,ls,gs,e=>by
  simp only [jD,zzz,zvy] at e
  obtain ⟨_,rfl,rfl⟩:=e
  intro q n hi; simp at hi
 | .v::ks,a::as,words,ls,gs,e=>by
  simp only [jD,zyy] at e
  obtain ⟨⟨w',ls',gs'⟩,e,h1⟩:=e
  simp only [zvy] at h1
  obtain ⟨_,rfl,rfl⟩:=h1
  exact aJ6 (ks:=ks) e
 | .b off cks::ks,a::as,words,ls,gs,e=>by
  cases a
  case ptr l o =>
    simp only [jD] at e
    split at e
    ·split at e
     ·split at e
      ·rename_i w gs1 q h1 h2
       simp only [zzz,zvy] at e
       obtain ⟨_,rfl,rfl⟩:=e
       intro p n hi
       rw [List.getElem?_append] at hi
       split at hi
       ·exact aTg (a1j h1).1 _ _ hi
       ·exact aJ6 (words:=q.1) (ls:=q.2.1) (gs:=q.2.2) h2 _ _ hi
      ·simp at e
     ·simp at e
    ·simp at e
  all_goals simp [jD] at e
 | [],_::_,_,_,_,e=>by simp [jD] at e
 | .v::_,[],_,_,_,e=>by simp [jD] at e
 | .b _ _::_,[],_,_,_,e=>by simp [jD] at e
theorem aP0 {m1 : Hp} : ∀ {kss : List (List CK)} {b : Nat} {outs : List V} {gs : List GA},a2j m1 b kss = some (outs,gs) → ∀ (q n : Nat),gs[q]? = some (.full n 1) → n = 0
 | [],b,outs,gs,e=>by
  simp only [a2j,zzz,zvy] at e
  obtain ⟨rfl,rfl⟩:=e
  intro q n hi; simp at hi
 | cks::kss,b,outs,gs,e=>by
  simp only [a2j] at e
  split at e
  ·split at e
   ·rename_i w gs1 q h1 h2
    simp only [zzz,zvy] at e
    obtain ⟨rfl,rfl⟩:=e
    intro p n hi
    rw [List.getElem?_append] at hi
    split at hi
    ·exact aTg (a1j h1).1 _ _ hi
    ·exact aP0 (outs:=q.1) (gs:=q.2) h2 _ _ hi
   ·simp at e
  ·simp at e
theorem aCb {m : Hp} : ∀ {ks : List AK} {args words : List V} {ls : List Nat} {gs : List GA},jD m ks args = some (words,ls,gs) → (∀ (q i : Nat),gs[q]? = some (.own i) → ∃ n sz,m.T[i]? = some (n,sz) ∧ 0 < sz) ∧ ls.length = (iB ks).length
 | [],[],words,ls,gs,e=>by
  simp only [jD,zzz,zvy] at e
  obtain ⟨_,rfl,rfl⟩:=e
  exact ⟨fun q i hi=>by simp at hi,rfl⟩
 | .v::ks,a::as,words,ls,gs,e=>by
  simp only [jD,zyy] at e
  obtain ⟨⟨w',ls',gs'⟩,e,h1⟩:=e
  simp only [zvy] at h1
  obtain ⟨_,rfl,rfl⟩:=h1
  exact aCb (ks:=ks) e
 | .b off cks::ks,a::as,words,ls,gs,e=>by
  cases a
  case ptr l o =>
    simp only [jD] at e
    split at e
    ·split at e
     ·split at e
      ·rename_i w gs1 q h1 h2
       simp only [zzz,zvy] at e
       obtain ⟨_,rfl,rfl⟩:=e
       obtain ⟨i1,i2⟩:=aCb (words:=q.1) (ls:=q.2.1) (gs:=q.2.2) h2
       refine ⟨fun p i hi=>?_,by simp [iB,i2]⟩
       rw [List.getElem?_append] at hi
       split at hi
       ·exact aTf (a1j h1).1 _ _ hi
       ·exact i1 _ _ hi
      ·simp at e
     ·simp at e
    ·simp at e
  all_goals simp [jD] at e
 | [],_::_,_,_,_,e=>by simp [jD] at e
 | .v::_,[],_,_,_,e=>by simp [jD] at e
 | .b _ _::_,[],_,_,_,e=>by simp [jD] at e
theorem aOm {m : Hp} {κ : Ctx} {h : cJ} : ∀ {ks : List AK} {args words : List V} {ls : List Nat} {gs : List GA} {xs : List Value},jD m ks args = some (words,ls,gs) → aJ κ h args xs → ∀ (j l : Nat),ls[j]? = some l → ∃ cG,κ.box l = some cG
 | [],[],words,ls,gs,xs,e,r=>by
  simp only [jD,zzz,zvy] at e
  obtain ⟨_,rfl,rfl⟩:=e
  intro j l hj; simp at hj
 | .v::ks,a::as,words,ls,gs,xs,e,r=>by
  simp only [jD,zyy] at e
  obtain ⟨⟨w',ls',gs'⟩,e,h1⟩:=e
  simp only [zvy] at h1
  obtain ⟨_,rfl,rfl⟩:=h1
  obtain ⟨x,xs',rfl,rx,r'⟩:=r.dP
  exact aOm (ks:=ks) e r'
 | .b off cks::ks,a::as,words,ls,gs,xs,e,r=>by
  cases a
  case ptr l o =>
    simp only [jD] at e
    split at e
    ·split at e
     ·split at e
      ·rename_i w gs1 q h1 h2
       simp only [zzz,zvy] at e
       obtain ⟨_,rfl,rfl⟩:=e
       obtain ⟨x,xs',rfl,rx,r'⟩:=r.dP
       intro j l' hj
       cases j with
       | zero =>
        simp only [zux,zzz] at hj
        subst hj
        obtain ⟨cG,hblk,_⟩:=rW rx
        exact ⟨cG,hblk⟩
       | succ j=>exact aOm (words:=q.1) (ls:=q.2.1) (gs:=q.2.2) h2 r' j l' (by simpa using hj)
      ·simp at e
     ·simp at e
    ·simp at e
  all_goals simp [jD] at e
 | [],_::_,_,_,_,_,e,_=>by simp [jD] at e
 | .v::_,[],_,_,_,_,e,_=>by simp [jD] at e
 | .b _ _::_,[],_,_,_,_,e,_=>by simp [jD] at e
theorem bBm (k:Mem κ h m) {ks:List AK} {args words:List V} {ls:List Nat} {gs:List GA} (e:jD m ks args=some (words,ls,gs)) (h1:a7t ls) (h2:aCa gs):a0l κ ls gs where
 nb:=h1
 ng:=h2
 fu:=aJ6 e
 ex p i hi:=by
  obtain ⟨n,sz,h3,h4⟩:=(aCb e).1 p i hi
  rw [← k.2.2,zvz,zyy] at h3
  obtain ⟨L,hL,hLt⟩:=h3
  refine ⟨L,hL,fun hk=>?_⟩
  unfold dX.told at hLt
  rw [if_pos hk] at hLt
  simp only [zvy] at hLt
  omega
theorem aOn (k:Mem κ h m) {LS:List Nat} {GS:List GA} : ∀ {ks:List AK} {args words:List V} {ls:List Nat} {gs:List GA} {b q:Nat} {xs:List Value},jD m ks args=some (words,ls,gs)→aL words=true →
  (∀ (i l : Nat),ls[i]? = some l → LS[b + i]? = some l) → (∀ (i : Nat) g,gs[i]? = some g → GS[q + i]? = some g) → aJ κ h args xs →
  aJ (part κ LS GS) h (kM b q ks words).1 xs∧(kM b q ks words).2.1.length=ls.length∧(kM b q ks words).2.2=gs.map (fun g=>(GA.aN κ g).told) ∧
  ∀ (j l cG : Nat) c,ls[j]? = some l → κ.box l = some cG → (kM b q ks words).2.1[j]? = some c → ∃ o,h[cG]? = some o ∧ a92 (part κ LS GS) h c o
 | [],[],words,ls,gs,b,q,xs,e,hc,hl,hg,r=>by
  simp only [jD,zzz,zvy] at e
  obtain ⟨rfl,rfl,rfl⟩:=e
  obtain rfl:=r.sX
  exact ⟨aJ.nil,rfl,rfl,fun j l cG c h1=>by simp at h1⟩
 | .v::ks,a::as,words,ls,gs,b,q,xs,e,hc,hl,hg,r=>by
  simp only [jD,zyy] at e
  obtain ⟨⟨w',ls',gs'⟩,e,h1⟩:=e
  simp only [zvy] at h1
  obtain ⟨rfl,rfl,rfl⟩:=h1
  simp only [aL,zxz] at hc
  obtain ⟨x,xs',rfl,rx,r'⟩:=r.dP
  obtain ⟨h2,h3,h4,h5⟩:=aOn k e hc.2 hl hg r'
  exact ⟨aJ.cons (aL5 (κ:=κ) (κ':=part κ LS GS) (fun _=>zxy _) rx hc.1) h2,h3,h4,h5⟩
 | .b off cks::ks,a::as,words,ls,gs,b,q,xs,e,hc,hl,hg,r=>by
  cases a
  case ptr l o =>
    simp only [jD] at e
    split at e
    ·rename_i ho
     subst ho
     split at e
     ·rename_i e0 cs hcs
      split at e
      ·rename_i w gs1 qq h1 h2
       obtain ⟨h1,hty⟩:=a1j h1
       obtain ⟨ws',ls',gs'⟩:=qq
       simp only [zzz,zvy] at e
       obtain ⟨rfl,rfl,rfl⟩:=e
       simp only [aL,zxz,V.bU] at hc
       obtain ⟨x,xs',rfl,rx,r'⟩:=r.dP
       have hlen:∀ {xs0:List Value},aJ κ h cs xs0→aJ (part κ LS GS) h (iV b q cks w).1 xs0∧(iV b q cks w).2=gs1.map fun g=>(GA.aN κ g).told:=fun r0 =>
        a07 (κp:=part κ LS GS) (l:=l) (b:=b) k.2.2 (fun _=>zxy _) (fun cG hbl=>by
         have:=hl 0 l rfl
         rw [Nat.add_zero] at this
         simp only [part,this]
         exact hbl) h1 hc.1 (fun i g hi=>by
         have:=hg i g (by rw [ztz (zzy.1 hi).1]; exact hi)
         simp only [part,zvz,this]; rfl) r0
       obtain ⟨cG,hblk,hx⟩:=rW rx
       obtain ⟨ob,hob,xs0,E,hoe,hr0,hone⟩:=k.2.1.2 l cG (.cells e0 cs) hblk hcs
       obtain ⟨g1,g2⟩:=hlen hr0
       have gl:(iV b q cks w).2.length=gs1.length:=by rw [g2,zsy]
       obtain ⟨h3,h4,h5,h6⟩:=aOn (LS:=LS) (GS:=GS) (b:=b+1) (q:=q+(iV b q cks w).2.length) k h2 hc.2
        (fun i l hi=>by rw [show b+1+i=b+(i+1) by omega]; exact hl (i+1) l (by simpa using hi))
        (fun i g hi=>by
         rw [gl,show q+gs1.length+i=q+(gs1.length+i) by omega]
         refine hg (gs1.length+i) g ?_
         rw [ztx (by omega),show gs1.length+i - gs1.length=i by omega]; exact hi) r'
       refine ⟨aJ.cons ?_ h3,by simp only [kM,zwx,h4],by simp only [kM]; rw [h5,g2,List.map_append],fun j l' blk' c hj hb hcj=>?_⟩
       ·rw [hx]
        refine .ptr b o cG ?_
        have:=hl 0 l rfl
        rw [Nat.add_zero] at this
        simp only [part,this]
        exact hblk
       ·cases j with
        | zero =>
         simp only [zux,zzz] at hj
         subst hj
         simp only [kM,zux,zzz] at hcj
         subst hcj
         rw [hblk] at hb
         simp only [zzz] at hb
         subst hb
         exact ⟨ob,hob,xs0,E,hoe,g1,hone.1,fun t ht=>hone.2 t (aTe hty ht)⟩
        | succ j =>
         simp only [zvx] at hj
         simp only [kM,zvx] at hcj
         exact h6 j l' blk' c hj hb hcj
      ·simp at e
     ·simp at e
    ·simp at e
  all_goals simp [jD] at e
 | [],_::_,_,_,_,_,_,_,e,_,_,_,_=>by simp [jD] at e
 | .v::_,[],_,_,_,_,_,_,e,_,_,_,_=>by simp [jD] at e
 | .b _ _::_,[],_,_,_,_,_,_,e,_,_,_,_=>by simp [jD] at e
theorem aP1 {m1 : Hp} : ∀ {kss : List (List CK)} {b : Nat} {outs : List V} {gs : List GA},a2j m1 b kss = some (outs,gs) → (∀ (q i : Nat),gs[q]? = some (.own i) → ∃ n sz,m1.T[i]? = some (n,sz) ∧ 0 < sz) ∧ outs.length = kss.length
 | [],b,outs,gs,e=>by
  simp only [a2j,zzz,zvy] at e
  obtain ⟨rfl,rfl⟩:=e
  exact ⟨fun q i hi=>by simp at hi,rfl⟩
 | cks::kss,b,outs,gs,e=>by
  simp only [a2j] at e
  split at e
  ·split at e
   ·rename_i w gs1 q h1 h2
    simp only [zzz,zvy] at e
    obtain ⟨rfl,rfl⟩:=e
    obtain ⟨i1,i2⟩:=aP1 (outs:=q.1) (gs:=q.2) h2
    refine ⟨fun p i hi=>?_,by simp [i2]⟩
    rw [List.getElem?_append] at hi
    split at hi
    ·exact aTf (a1j h1).1 _ _ hi
    ·exact i1 _ _ hi
   ·simp at e
  ·simp at e
theorem aXz (k1:Mem κ1 h1 m1) (hw:∀ b,κ1.hw b≤κ'.hw b):∀ {kss:List (List CK)} {b q:Nat} {outs:List V} {gos:List GA} {ls:List Nat} {H:List LO},a2j m1 b kss=some (outs,gos)→ls.length=kss.length→aL outs=true →
  (∀ (i : Nat) g,gos[i]? = some g → κ'.aN[q + i]? = some (GA.aN κ1 g)) → a7t ls → (∀ (j l cG : Nat),ls[j]? = some l → κ1.box (b + j) = some cG → κ'.box l = some cG) →
  (pU q kss ls outs H).2 = gos.map (fun g=>(GA.aN κ1 g).told) ∧ (pU q kss ls outs H).1.length = H.length ∧ (∀ l : Nat,(∀ i : Nat,ls[i]? ≠ some l) → (pU q kss ls outs H).1[l]? = H[l]?) ∧
  ∀ (j l cG : Nat) c,ls[j]? = some l → κ1.box (b + j) = some cG → (pU q kss ls outs H).1[l]? = some c → ∃ o,h1[cG]? = some o ∧ a92 κ' h1 c o
 | [],b,q,outs,gos,ls,H,e,hl,hc,hg,hd,hbx=>by
  simp only [a2j,zzz,zvy] at e
  obtain ⟨rfl,rfl⟩:=e
  obtain rfl:=List.eq_nil_of_length_eq_zero hl
  exact ⟨rfl,rfl,fun _ _=>rfl,fun j l cG c h1=>by simp at h1⟩
 | cks::kss,b,q,outs,gos,[],H,e,hl,hc,hg,hd,hbx=>by simp at hl
 | cks::kss,b,q,outs,gos,l::ls,H,e,hl,hc,hg,hd,hbx=>by
  simp only [a2j] at e
  split at e
  ·rename_i e0 cs hcs
   split at e
   ·rename_i w gs1 qq h2 h3
    obtain ⟨h2,hty⟩:=a1j h2
    obtain ⟨ws',gs'⟩:=qq
    simp only [zzz,zvy] at e
    obtain ⟨rfl,rfl⟩:=e
    simp only [aL,zxz,V.bU] at hc
    have hlen:∀ {xs0:List Value},aJ κ1 h1 cs xs0→aJ κ' h1 (iV l q cks w).1 xs0∧(iV l q cks w).2=gs1.map fun g=>(GA.aN κ1 g).told:=fun r0 =>
     a07 (l:=b) (b:=l) k1.2.2 hw (fun cG hbl=>hbx 0 l cG rfl (by rw [Nat.add_zero]; exact hbl)) h2 hc.1 (fun i g hi=>hg i g (by rw [ztz (zzy.1 hi).1]; exact hi)) r0
    have told:(iV l q cks w).2=gs1.map fun g=>(GA.aN κ1 g).told:=b7k k1.2.2 h2
    have gl:(iV l q cks w).2.length=gs1.length:=by rw [told,zsy]
    have hd':a7t ls:=fun i j n h4 h5=>by
     have:=hd (i+1) (j+1) n (by simpa using h4) (by simpa using h5)
     omega
    have hn : ∀ i : Nat,ls[i]? ≠ some l:=fun i hi=>by
     have:=hd 0 (i+1) l rfl (by simpa using hi)
     omega
    obtain ⟨h4,h5,h6,h7⟩:=aXz (H:=H.set l (.cells (tyK cks) (iV l q cks w).1)) (b:=b+1) (q:=q+(iV l q cks w).2.length) k1 hw h3 (by simpa using hl) hc.2
     (fun i g hi=>by
      rw [gl,show q+gs1.length+i=q+(gs1.length+i) by omega]
      refine hg (gs1.length+i) g ?_
      rw [ztx (by omega),show gs1.length+i - gs1.length=i by omega]; exact hi) hd' (fun j l' cG hj hbj=>hbx (j+1) l' cG (by simpa using hj) (by rw [show b+(j+1)=b+1+j by omega]; exact hbj))
    refine ⟨by simp only [pU]; rw [h4,told,List.map_append],by simp only [pU,h5,List.length_set],fun l' hl'=>?_,fun j l' cG c hj hb hcj=>?_⟩
    ·simp only [pU]
     rw [h6 l' fun i hi=>hl' (i+1) (by simpa using hi),List.getElem?_set_ne (fun e=>hl' 0 (by simp [e]))]
    ·cases j with
     | zero =>
      simp only [zux,zzz] at hj
      subst hj
      simp only [pU] at hcj
      rw [h6 l hn] at hcj
      have hlt:l < H.length:=by have:=(zzy.1 hcj).1; simpa using this
      rw [List.getElem?_set_self hlt] at hcj
      simp only [zzz] at hcj
      subst hcj
      obtain ⟨ob,hob,xs0,E,hoe,hr0,hone⟩:=k1.2.1.2 b cG (.cells e0 cs) hb hcs
      exact ⟨ob,hob,xs0,E,hoe,(hlen hr0).1,hone.1,fun t ht=>hone.2 t (aTe hty ht)⟩
     | succ j =>
      simp only [zvx] at hj
      simp only [pU] at hcj
      exact h7 j l' cG c hj (by rw [show b+1+j=b+(j+1) by omega]; exact hb) hcj
   ·simp at e
  ·simp at e
theorem aOo {κ:Ctx} {h:cJ} : ∀ {gr:List GK} {args vs:List V} {xs:List Value},aJ κ h args xs→sJ gr args=some vs →
  ∃ ys:List Value,aJ κ h vs ys∧∀ (κ':Ctx) (h':cJ) (vs':List V),aJ κ' h' vs' ys→aJ κ' h' (unA gr vs') xs
 | [],args,vs,xs,r,e=>by
  simp only [sJ,zzz] at e
  subst e
  exact ⟨xs,r,fun _ _ _ r'=>r'⟩
 | .one::gs,[],vs,xs,r,e=>by simp [sJ] at e
 | .one::gs,a::args,vs,xs,r,e=>by
  simp only [sJ,zyy] at e
  obtain ⟨vs0,e,rfl⟩:=e
  obtain ⟨x,xs',rfl,rx,r'⟩:=r.dP
  obtain ⟨ys,h1,h2⟩:=aOo r' e
  refine ⟨x::ys,aJ.cons rx h1,fun κ' h' vs' r0=>?_⟩
  have h3:=(r0.take 1).append (h2 κ' h' _ (r0.drop 1))
  exact h3
 | .kX f n::gs,[],vs,xs,r,e=>by simp [sJ] at e
 | .kX f n::gs,a::args,vs,xs,r,e=>by
  cases a
  case func f' cs =>
   simp only [sJ] at e
   split at e
   ·rename_i hc
    obtain ⟨rfl,hn⟩:=hc
    simp only [zyy] at e
    obtain ⟨vs0,e,rfl⟩:=e
    obtain ⟨x,xs',rfl,rx,r'⟩:=r.dP
    obtain ⟨ys,h1,h2⟩:=aOo r' e
    cases rx with
    | func _ _ zs hl hr =>
     have rz:aJ κ h cs zs:=⟨hl,hr⟩
     refine ⟨zs++ys,rz.append h1,fun κ' h' vs' r0=>?_⟩
     have ht:=r0.take n
     have hd:=r0.drop n
     have hz:zs.length=n:=by rw [← hn]; exact rz.1
     rw [← hz,List.take_left,hz] at ht
     rw [← hz,List.drop_left,hz] at hd
     exact aJ.cons (.func _ _ _ ht.1 ht.2) (h2 κ' h' _ hd)
   ·simp at e
  all_goals simp [sJ] at e
theorem aTh {P:Program} {f:FuncId} {sg:iA} {words rs args:List V} {ls:List Nat} {gs:List GA} {m:Hp} (e:(sJ sg.gr args).bind (jD m sg.as)=some (words,ls,gs)) (h1:a7t ls) (h2:aCa gs) (hw:aL words=true) (hr:aL rs=true)
  (hp:(pack (rs.take sg.cL)).plain=true) (hF:Callee P f sg words rs) :
  a0j P f args m (pack (rs.take sg.cL)) ⟨(pU m.T.length (gY sg.as) ls (rs.drop sg.cL) m.H).1,zD gs m.T++(pU m.T.length (gY sg.as) ls (rs.drop sg.cL) m.H).2⟩:=by
 intro κ w xs k ra
 obtain ⟨fargs,hfl,e⟩:=zwz.1 e
 obtain ⟨ys,rf1,rf2⟩:=aOo ra hfl
 have p:=bBm k e h1 h2
 obtain ⟨a1,a2,a3,a4⟩:=aOn (LS:=ls) (GS:=gs) (b:=0) (q:=0) k e hw (fun i l h=>by rw [Nat.zero_add]; exact h) (fun i g h=>by rw [Nat.zero_add]; exact h) rf1
 have a1:=rf2 _ _ _ a1
 have km:Mem (part κ ls gs) w.heap ⟨(kM 0 0 sg.as words).2.1,(kM 0 0 sg.as words).2.2⟩:=by
  have:=b7e (gs:=gs) k p a2 (fun b l cG c hl hb hc=>a4 b l cG c hl hb hc)
  rw [a3]
  simpa [part,List.map_map,Function.comp_def] using this
 refine (hF (part κ ls gs) w xs km a1).mono fun e0 w' ⟨x,κ1,m1,he,hx,hv,gos,hend,hdist⟩=>?_
 obtain ⟨o1,o2⟩:=aP1 hend
 have q:aRu κ1 gos:=⟨hdist,fun p i hi=>by
  obtain ⟨n,sz,h3,_⟩:=o1 p i hi
  rw [← hx.mem.2.2,zvz,zyy] at h3
  obtain ⟨L,hL,_⟩:=h3
  exact ⟨L,hL⟩,aP0 hend⟩
 have hkl:κ.aN.length=m.T.length:=by rw [← k.2.2,zsy]
 have hlen:=(aCb e).2.trans (b3t sg.as).symm
 have hcr:aL (rs.drop sg.cL)=true:=tG.2 fun v hv=>tG.1 hr v (List.mem_of_mem_drop hv)
 obtain ⟨b1,b2,b3,b4⟩:=aXz (κ':=back κ κ1 gs gos) (H:=m.H) (b:=0) (q:=m.T.length) hx.mem (fun b=>zxy _) hend hlen hcr (fun i g hi=>by
  simp only [back]
  rw [ztx (by simp; omega)]
  simp only [List.length_mapIdx,hkl,Nat.add_sub_cancel_left,zvz,hi]
  rfl) h1 (fun j l cG hj hbj=>by
   rw [Nat.zero_add] at hbj
   obtain ⟨blk',hb'⟩:=aOm e rf1 j l hj
   have h2:κ1.box j=some blk':=hx.le.box j blk' (by simp only [part,hj]; exact hb')
   rw [hbj] at h2
   simp only [zzz] at h2
   subst h2
   exact hb')
 refine ⟨x,back κ κ1 gs gos,he,⟨aOi p hx.le q,?_,by simp only [b2]; exact zxy _,fun l _ hb=>hb,hx.os,hx.out⟩,a42 (κ:=κ1) (κ':=back κ κ1 gs gos) (fun b=>zxy _) hv hp⟩
 refine back_mem k p hx.le hx.mem q b2 (fun l hl=>b3 l hl) (fun b l cG c hl hb hc=>b4 b l cG c hl ?_ hc) (by rw [b1])
 rw [Nat.zero_add]
 refine hx.le.box b cG ?_
 simp only [part,hl]
 exact hb
end
end Go.Fbs

/- From code to the small language. -/
namespace Go.Fbs
inductive TD where
 | bool | int (k:IntKind) | str
 | sl (e:TypeId)
 | st (fs:List (Nat×TypeId))
 | arr (n:Nat) (e:TypeId)
 | other
 deriving Inhabited
structure TI where
 t:TypeId
 d:TD
 sz:Nat
 agg:Bool
 fL:Nat
 z:Option (List V)
 eq:Bool
 deriving Inhabited
def aL6:List TI→TypeId→Option TI
 | [],_=>none
 | i::r,t=>bif Nat.beq i.t t then some i else aL6 r t
def assoc {α:Type} : List (Nat×α)→Nat→Option α
 | [],_=>none
 | (j,x)::r,i=>bif Nat.beq j i then some x else assoc r i
structure TT where
 ts:List TI
 sg:bI8
 dyn:List Nat
def TT.dy (tt:TT) (l:List Nat):TT:=⟨tt.ts,tt.sg,l⟩
def cU (tt:TT) (t:TypeId):Option TI:=aL6 tt.ts t
def a4q (tt:TT) (e:FuncId):Option (FuncId×iA):=bif Nat.ble a06 e then assoc tt.sg e else none
def isE (tt:TT) (f:FuncId):Bool:=tt.sg.any fun q=>Nat.beq q.2.1 f
def aJ7 (P:Program) (t:TypeId):TD→Prop
 | .bool=>P.underlying t=some .bool
 | .int k=>P.underlying t=some (.int k)
 | .str=>P.underlying t=some .string
 | .sl e=>P.underlying t=some (.slice e)
 | .st fs => ∃ a : Array Field, P.underlying t = some (.struct a) ∧ a.toList.map (fun f => (f.offset, f.type)) = fs ∧ a.toList.all (fun f => f.name != "_") = true
 | .arr n e=>P.underlying t=some (.array n e)
 | .other=>True
structure aV (P:Program) (i:TI):Prop where
 d:aJ7 P i.t i.d
 sz:iO P i.t=some i.sz
 agg:zW P i.t=some i.agg
 fL:qX P i.t=some i.fL
 z:∀ z,i.z=some z→∃ v,qF P i.t=some v∧v.cells=z∧(i.agg=true→v = .agg z)∧(i.agg=false→z=[v])
 eq:i.eq=true→P.stoodInHeld i.t=false∧P.eqGuardType P.depth i.t=false
def aA5 (tt:TT) (f:TypeId→Option (List Nat)):Nat→List (Nat×TypeId)→Option (List Nat)
 | _,[]=>some []
 | n,(off,t)::r =>
  match cU tt t,f t with
  | some ti,some q=>bif Nat.beq off n && Nat.blt 0 ti.sz then (aA5 tt f (n+ti.sz) r).map (q ++ ·) else none
  | _,_=>none
def leaves (tt:TT):Nat→TypeId→Option (List Nat)
 | 0,_=>none
 | d+1,t =>
  match cU tt t with
  | some ti =>
   match ti.d with
   | .bool=>bif Nat.beq ti.sz 1 && !ti.agg then some [0] else none
   | .int _=>bif Nat.beq ti.sz 1 && !ti.agg then some [1] else none
   | .str=>bif Nat.beq ti.sz 1 && !ti.agg then some [2] else none
   | .st fs =>
    bif ti.eq && ti.agg then
     match aA5 tt (leaves tt d) 0 fs with
     | some q=>bif Nat.beq q.length ti.sz then some q else none
     | none=>none
    else none
   | _=>none
  | none=>none
abbrev Gd:=Option (A×Bool)
inductive SV where
 | val (a:A)
 | nI (a:A) (g:Gd)
 | grow (k sz:Nat) (a:A)
 | nJ
 | elem (a:A) (n off:Nat) (g:Gd)
 | ptr (b off:Nat) (g:Gd)
 | pix (b off n:Nat) (i:A) (g:Gd)
 | stv (a:A) (nl:List Nat)
 | kX (f:Nat) (caps:List (Nat×Nat))
 | self (t b:Nat) (a:A)
 deriving Inhabited
structure SS where
 cE:List (Nat×SV)
 boxes:List (Option (List SV))
 known:List (Nat×Nat)
 cS:List Nat
 a2l:List Nat
 nv:Nat
 nk:Nat
 dep:Nat
 own:Nat
 deriving Inhabited
def SS.look (S:SS) (t:Nat):Option SV:=assoc S.cE t
def aFr:A:=.k (.sl .ro [])
def wS:SV:=.val (.k .undef)
def SV.a? : SV → Option A
 | .val a=>some a
 | .grow _ _ a=>some a
 | .nJ=>some aFr
 | .stv a _=>some a
 | _=>none
def a7c:V→SV
 | .sl .full []=>.nJ
 | v=>.val (.k v.aF)
def SS.gI (S:SS):Operand→Option SV
 | .tmp t=>S.look t
 | .const v=>(V.ofC v).map a7c
 | .func f=>some (.val (.k (.func f [])))
 | .global _=>none
def SS.wU (S:SS) (x:Operand):Option A:=(S.gI x).bind SV.a?
def SS.bI9 (S:SS):List Operand→Option (List A)
 | []=>some []
 | x::xs =>
  match S.wU x,S.bI9 xs with
  | some a,some as=>some (a::as)
  | _,_=>none
def SS.bKy (S:SS):Option Operand→Option (Option A)
 | none=>some none
 | some x=>(S.wU x).map some
def b0f:V→V→Bool
 | .bool a,.bool b=>a == b
 | .int k a,.int k' b=>decide (k=k') && decide (a=b)
 | .str a,.str b=>decide (a=b)
 | .gH,.gH=>true
 | .sl .ro [],.sl .ro []=>true
 | _,_=>false
def A.same:A→A→Bool
 | .v i,.v j=>Nat.beq i j
 | .c i j,.c i' j'=>Nat.beq i i' && Nat.beq j j'
 | .k x,.k y=>b0f x y
 | _,_=>false
def Gd.same:Gd→Gd→Bool
 | none,none=>true
 | some (a,b),some (a',b')=>a.same a' && (b == b')
 | _,_=>false
def aH1:List (Nat×Nat)→List (Nat×Nat)→Bool
 | [],[]=>true
 | (a,b)::r,(a',b')::r'=>Nat.beq a a' && Nat.beq b b' && aH1 r r'
 | _,_=>false
def SV.same:SV→SV→Bool
 | .nJ,.nJ=>true
 | .elem a n off g,.elem a' n' off' g'=>a.same a' && Nat.beq n n' && Nat.beq off off' && g.same g'
 | .ptr b off g,.ptr b' off' g'=>Nat.beq b b' && Nat.beq off off' && g.same g'
 | .pix b off n i g,.pix b' off' n' i' g'=>Nat.beq b b' && Nat.beq off off' && Nat.beq n n' && i.same i' && g.same g'
 | .kX f l,.kX f' l'=>Nat.beq f f' && aH1 l l'
 | .self t b a,.self t' b' a'=>Nat.beq t t' && Nat.beq b b' && a.same a'
 | _,_=>false
def SV.ag (g:Gd):SV→Option A
 | .nI a g'=>bif g'.same g then some a else none
 | s=>s.a?
def SS.jB (S:SS) (g:Gd) (x:Operand):Option A:=(S.gI x).bind (SV.ag g)
def SS.oR (S:SS) (g:Gd):List Operand→Option (List A)
 | []=>some []
 | x::xs =>
  match S.jB g x,S.oR g xs with
  | some a,some as=>some (a::as)
  | _,_=>none
def SS.a82 (S:SS) (g:Gd):Option Operand→Option (Option A)
 | none=>some none
 | some x=>(S.jB g x).map some
def SV.pk (g side:Gd) (s:SV):Option A :=
 match s.ag g with
 | some a=>some a
 | none=>s.ag side
def SS.aCc (S:SS) (g side:Gd) (x:Operand):Option A:=(S.gI x).bind (SV.pk g side)
def SV.fits (s:Option SV) (t:SV):Bool :=
 match s,t with
 | some s,.val a=>(match s.a? with | some a'=>a'.same a | none=>false)
 | some s,t=>s.same t
 | none,_=>false
def A.below (n:Nat):A→Bool
 | .v i=>Nat.blt i n
 | .c i _=>Nat.blt i n
 | .k _=>true
def Gd.below (n:Nat):Gd→Bool
 | none=>true
 | some (a,_)=>a.below n
def SV.below (n:Nat):SV→Bool
 | .val a=>a.below n
 | .nI a g=>a.below n && g.below n
 | .grow _ _ a=>a.below n
 | .nJ=>true
 | .elem a _ _ g=>a.below n && g.below n
 | .ptr _ _ g=>g.below n
 | .pix _ _ _ i g=>i.below n && g.below n
 | .stv a _=>a.below n
 | .kX _ _=>true
 | .self _ _ a=>a.below n
def SS.mQ (S:SS) (a:A) (n:Nat):Bool :=
 match a with
 | .v i=>(match assoc S.known i with | some m=>Nat.beq m n | none=>false)
 | .c i j=>Nat.beq n 0 && (match assoc S.known i with | some m=>Nat.blt j m | none=>false)
 | .k x=>Nat.beq n 0 && sc x
def cellsOf (i:Nat):Nat→Nat→List A
 | 0,_=>[]
 | n+1,j=>.c i j::cellsOf i n (j+1)
def aOp (n:Nat):Option Nat:=bif Nat.beq n 0 then none else some n
def uD:E→Option Nat
 | .nQ _ | .jA _ | .bin .. | .eqB .. | .eqA .. | .un .. | .mm .. | .xU .. | .wP _ | .wQ _ | .slS .. | .slL .. | .aZ9 .. | .lit .. | .make .. | .app .. | .aTa .. | .fn .. | .b0b _ | .b0c _ | .inb .. | .nth .. | .flip ..=>some 0
 | .b0a g n _ _=>bif g then aOp n else some 0
 | .part g n _ _=>bif g then aOp n else some 0
 | .chk n _=>aOp n
 | .agg l=>aOp l.length
 | _=>none
abbrev OL:=Option L
def jM (l:List Nat) (t:Nat):Bool:=l.any (Nat.beq t)
def SS.isB (S:SS):A→Bool
 | .v i=>jM S.cS i
 | .k x=>vU x
 | _=>false
def aH2:BinOp→Bool
 | .eql | .neq | .lss | .leq | .gtr | .geq=>true
 | _=>false
def aCd (S:SS):E→Bool
 | .bin op _ _=>aH2 op
 | .eqB .. | .eqA .. | .un .not _=>true
 | .pick _ a b=>S.isB a && S.isB b
 | _=>false
def SS.lL (S:SS) (nv:Nat) (kn:List (Nat×Nat)) (bl:List Nat×List Nat):SS:={ S with nv:=nv,known:=kn,cS:=bl.1,a2l:=bl.2 }
def SS.a08 (S:SS):A→List Nat
 | .v i=>bif jM S.cS i then S.cS else i::S.cS
 | _=>S.cS
def SS.sure (S:SS):A→Bool
 | .v i=>!jM S.a2l i
 | .c i _=>!jM S.a2l i
 | .k _=>true
def emit (g:Gd) (e:E) (S:SS) (k:A→SS→OL):OL :=
 (k (.v S.nv) (S.lL (S.nv+1)
  (match g,uD e with
   | none,some n=>(S.nv,n)::S.known
   | _,_=>S.known)
  (bif aCd S e then S.nv::S.cS else S.cS,match g with | none=>S.a2l | some _=>S.nv::S.a2l))).map (L.bind e g)
def uE (g:Gd) (e:E) (S:SS) (k:SV→SS→OL):OL:=emit g e S fun a S=>k (.val a) S
def jQ (g:Gd) (as:List A) (e:E) (S:SS) (k:SV→SS→OL):OL :=
 match g with
 | none=>uE none e S k
 | some q=>bif as.all S.sure then emit none e S fun a S=>k (.nI a (some q)) S else uE (some q) e S k
def b0g (g:Gd) (op:BinOp) (a b:A) (S:SS) (k:SV→SS→OL):OL :=
 match op with
 | .quo | .rem | .shl | .shr=>uE g (.bin op a b) S k
 | _=>jQ g [a,b] (.bin op a b) S k
def a2m (g:Gd) (n:Nat) (a:A) (S:SS) (k:List A→SS→OL):OL :=
 bif Nat.beq n 0 then none else
 match a with
 | .v i=>bif S.mQ (.v i) n then k (cellsOf i n 0) S else emit g (.chk n a) S fun _ S'=>k (cellsOf S.nv n 0) S'
 | a=>emit g (.chk n a) S fun _ S'=>k (cellsOf S.nv n 0) S'
def aFs (g:Gd) (a:A) (S:SS) (k:A→SS→OL):OL :=
 bif S.mQ a 0 then k a S else emit g (.b0c a) S k
def hJ {α:Type} (cs:List α) (off:Nat) (new:List α):List α:=cs.take off++new++cs.drop (off+new.length)
def a45 (tt:TT) (g:Gd) (place:Nat→Option (Nat×TypeId)):List (Nat×Operand)→List A→SS→(List A→SS→OL)→OL
 | [],cs,S,k=>k cs S
 | (i,x)::r,cs,S,k =>
  match place i,S.jB g x with
  | some (off,t),some a =>
   match cU tt t with
   | some ti =>
    bif Nat.ble (off+ti.sz) cs.length then
     bif ti.agg then a2m g ti.sz a S fun l S'=>a45 tt g place r (hJ cs off l) S' k
     else bif Nat.beq ti.sz 1 then aFs g a S fun a' S'=>a45 tt g place r (hJ cs off [a']) S' k else none
    else none
   | none=>none
  | _,_=>none
def aA6:Nat→List (Nat×Operand)→Bool
 | _,[]=>true
 | n,(i,_)::r=>Nat.beq i n && aA6 (n+1) r
def aH3:List SV→Option (List A)
 | []=>some []
 | s::r =>
  match s.a?,aH3 r with
  | some a,some as=>some (a::as)
  | _,_=>none
def aX0:List A→Option Nat
 | .c i 0::_=>some i
 | _=>none
def a3w (i:Nat):Nat→List A→Bool
 | _,[]=>true
 | j,.c i' j'::r=>Nat.beq i i' && Nat.beq j j' && a3w i (j+1) r
 | _,_=>false
def kC (k:Nat):SV→SV
 | .grow k' sz a=>bif Nat.beq k k' then .val a else .grow k' sz a
 | s=>s
def SS.kC (S:SS) (k:Nat):SS :=
 {S with cE:=S.cE.map (fun p=>(p.1,Fbs.kC k p.2)),boxes:=S.boxes.map (Option.map (List.map (Fbs.kC k))) }
def aL7 (ti:TI) (g:Gd) (cells:List SV) (off:Nat) (S:SS) (k:SV→SS→OL):OL :=
 bif ti.agg then
  bif Nat.ble (off+ti.sz) cells.length then
  match aH3 ((cells.drop off).take ti.sz) with
  | some as =>
   match g,aX0 as with
   | none,some i=>bif a3w i 0 as && S.mQ (.v i) ti.sz && Nat.beq as.length ti.sz then k (.val (.v i)) S else jQ g as (.agg as) S k
   | _,_=>jQ g as (.agg as) S k
  | none=>none
  else none
 else
  match cells[off]? with
  | some s =>
   match g with
   | none=>k s S
   | some _=>(match s.a? with | some a=>k (.nI a g) S | none=>none)
  | none=>none
def mD (have_:Gd) (op:Gd):Bool :=
 match have_ with
 | none=>true
 | some _=>have_.same op
def a7u (ks:List CK):Bool:=ks.all fun k=>match k with | .self t=>a6k ks (some t) | _=>true
def a83 (t b:Nat):SV→Option A
 | .self t' b' a=>bif Nat.beq t' t && Nat.beq b' b then some a else none
 | _=>none
def cellsIn (b:Nat):List CK→List SV→Option (List A×List Nat)
 | [],[]=>some ([],[])
 | .pl::ks,s::ss =>
  match s.a?,cellsIn b ks ss with
  | some a,some q=>some (a::q.1,q.2)
  | _,_=>none
 | .self t::ks,s::ss =>
  match a83 t b s,cellsIn b ks ss with
  | some a,some q=>some (a::q.1,q.2)
  | _,_=>none
 | .gr sz _::ks,s::ss =>
  match s,cellsIn b ks ss with
  | .grow k sz' a,some q=>bif Nat.beq sz' sz && Nat.blt 0 sz then some (a::q.1,k::q.2) else none
  | .nJ,some q=>bif Nat.blt 0 sz then some (aFr::q.1,q.2) else none
  | _,_=>none
 | _,_=>none
inductive AI where
 | w (a:A)
 | b (b:Nat) (as:List A) (ks:List CK)
 deriving Inhabited
inductive Ob where
 | op (x:Operand)
 | bx (b:Nat)
def SS.obj (S:SS):Ob→Option SV
 | .op x=>S.gI x
 | .bx b=>some (.ptr b 0 none)
def yF (S:SS):List AK→List Ob→Option (List AI×List Nat)
 | [],[]=>some ([],[])
 | .v::ks,.op x::xs =>
  match S.wU x,yF S ks xs with
  | some a,some q=>some (.w a::q.1,q.2)
  | _,_=>none
 | .b off cks::ks,x::xs =>
  match S.obj x with
  | some (.ptr b o none) =>
   bif Nat.beq o off && a7u (cks.map CK.out) then
    match S.boxes[b]? with
    | some (some cells) =>
     match cellsIn b cks cells,yF S ks xs with
     | some (as,ids),some q=>some (.b b as (cks.map CK.out)::q.1,ids++q.2)
     | _,_=>none
    | _=>none
   else none
  | _=>none
 | _,_=>none
def mY:List AI→List Nat
 | []=>[]
 | .w _::r=>mY r
 | .b b _ _::r=>b::mY r
def wV (l:List Nat) (t:Nat):Bool:=l.any (Nat.beq t)
def zE:List Nat→Bool
 | []=>true
 | n::r=>!wV r n && zE r
def aL8:List AI→SS→(List A→SS→OL)→OL
 | [],S,k=>k [] S
 | .w a::r,S,k=>aL8 r S fun l S'=>k (a::l) S'
 | .b _ as _::r,S,k=>emit none (.agg as) S fun y S'=>aL8 r S' fun l S''=>k (y::l) S''
def SS.sZ (S:SS):List Nat→SS
 | []=>S
 | q::r=>(S.kC q).sZ r
def SS.forget (S:SS):List Nat→SS
 | []=>S
 | b::r=>({ S with boxes:=S.boxes.set b none } : SS).forget r
def dJ (b z:Nat):Nat→Nat→List CK→List SV
 | _,_,[]=>[]
 | j,q,.pl::ks=>.val (.c z j)::dJ b z (j+1) q ks
 | j,q,.self t::ks=>.self t b (.c z j)::dJ b z (j+1) q ks
 | j,q,.gr sz _::ks=>.grow q sz (.c z j)::dJ b z (j+1) (q+1) ks
def tX:List CK→Nat
 | []=>0
 | .pl::ks=>tX ks
 | .self _::ks=>tX ks
 | .gr _ _::ks=>tX ks+1
def aL9 (y:A):Nat→List AI→SS→(SS→OL)→OL
 | _,[],S,k=>k S
 | i,.w _::r,S,k=>aL9 y i r S k
 | i,.b b _ ks::r,S,k=>emit none (.ext y i) S fun z S=>emit none (.chk ks.length z) S fun _ S' =>
   aL9 y (i+1) r { S' with boxes:=S'.boxes.set b (some (dJ b S.nv 0 S'.nk ks)),nk:=S'.nk+tX ks } k
def b7l (S:SS) (x:Ob):Option (Nat×List SV) :=
 match S.obj x with
 | some (.ptr b o none) =>
  match S.boxes[b]? with
  | some (some cells)=>some (o,cells)
  | _=>none
 | _=>none
def aTi:V→Bool
 | .sl _ _=>true
 | _=>false
def zF:CK→SV→Option Bool
 | .pl,_=>some true
 | .self _,.self ..=>some true
 | .self _,_=>none
 | .gr _ _,.grow ..=>some true
 | .gr _ _,.nJ=>some true
 | .gr _ _,.val (.k v)=>bif aTi v then none else some false
 | .gr _ _,_=>none
def yG:List CK→List SV→Option Bool
 | [],[]=>some true
 | k::ks,s::ss =>
  match yG ks ss with
  | some true=>zF k s
  | some false=>some false
  | none=>none
 | _,_=>some false
def a6l (S:SS):List AK→List Ob→Option Bool
 | [],[]=>some true
 | .v::ks,_::xs=>a6l S ks xs
 | .b off cks::ks,x::xs =>
  match b7l S x,a6l S ks xs with
  | some q,some r=>bif Nat.beq q.1 off && r then yG cks q.2 else some false
  | _,_=>none
 | _,_=>some false
def aMa:V→Bool
 | .func _ []=>true
 | _=>false
def flS (S:SS):List GK→List Ob→Option (Option (List Ob))
 | [],xs=>some (some xs)
 | .one::gs,x::xs=>(flS S gs xs).map fun o=>o.map (x :: ·)
 | .kX f n::gs,.op x::xs =>
  match S.gI x with
  | some (.kX f' caps)=>bif Nat.beq f' f && Nat.beq caps.length n then (flS S gs xs).map fun o=>o.map ((caps.map fun q=>Ob.bx q.2) ++ ·) else some none
  | some (.val (.k v))=>bif aMa v && Nat.blt 0 n then some none else none
  | _=>none
 | .kX _ _::_,.bx _::_=>some none
 | .one::_,[]=>some none
 | .kX _ _::_,[]=>some none
def b7m (S:SS) (sg:iA) (xs:List Ob):Option Bool :=
 match flS S sg.gr xs with
 | some (some ys)=>a6l S sg.as ys
 | some none=>some false
 | none=>none
def a4r (tt:TT) (S:SS) (f:FuncId) (xs:List Ob):List FuncId→Option (FuncId×iA)
 | []=>none
 | e::r =>
  match a4q tt e with
  | some q=>bif Nat.beq q.1 f then (match b7m S q.2 xs with | some true=>some (e,q.2) | some false=>a4r tt S f xs r | none=>none) else a4r tt S f xs r
  | none=>a4r tt S f xs r
def aRz (tt:TT) (f:FuncId) (xs:List Ob) (S:SS) (k:SV→SS→OL):OL :=
 match a4r tt S f xs (tt.sg.map (·.1)) with
 | some (e,sg) =>
  match (match flS S sg.gr xs with | some (some ys)=>yF S sg.as ys | _=>none) with
  | some (ais,ids) =>
   bif zE ids && zE (mY ais) then
    aL8 ais S fun ws S=>emit none (.call e ws) S fun y S =>
     emit none (bif Nat.beq sg.cL 1 then .ext y 0 else .pre sg.cL y) ((S.sZ ids).forget (mY ais)) fun r S =>
      aL9 y sg.cL ais S fun S=>k (.val r) S
   else none
  | none=>none
 | none=>none
def b0h (tt:TT) (fs:List (Nat×TypeId)) (parts:List (Nat×Operand)) (z:List V):List Nat :=
 (List.range z.length).filter fun j=>(match z[j]? with | some (.sl .full [])=>true | _=>false) &&
  parts.all fun q=>match fs[q.1]? with
   | some (off,t)=>(match cU tt t with | some ti=>Nat.blt j off || Nat.ble (off+ti.sz) j | none=>false)
   | none=>false
def aMb (y:A):List Nat→SV
 | []=>.val y
 | nl=>.stv y nl
def a84 (S:SS):List Operand→Option (List (Nat×Nat))
 | []=>some []
 | .tmp t::r =>
  match S.look t,a84 S r with
  | some (.ptr b 0 none),some l=>some ((t,b)::l)
  | _,_=>none
 | _=>none
def b0i:A→Bool
 | .k (.int _ (.ofNat 0))=>true
 | _=>false
def aOq (t b:Nat):List V→List SV
 | [.gH,.sl .full []]=>[.self t b (.k (.bool false)),.nJ]
 | z=>z.map a7c
def gO (tt:TT) (g:Gd) (op:Op) (S:SS) (k:SV→SS→OL):OL :=
 match op with
 | .move x | .assign x =>
  match S.gI x with
  | some s =>
   match g with
   | none=>k s S
   | some _=>(match s.ag g with | some a=>k (.nI a g) S | none=>(match s with | .ptr b off none=>k (.ptr b off g) S | _=>none))
  | none=>none
 | .pick c a b =>
  match S.jB g c with
  | some c' =>
   match S.aCc g (some (c',true)) a,S.aCc g (some (c',false)) b with
   | some a',some b'=>jQ g [c',a',b'] (.pick c' a' b') S k
   | _,_=>none
  | none=>none
 | .load t x =>
  match S.gI x,cU tt t with
  | some (.ptr b off h),some ti =>
   bif mD h g then
    match S.boxes[b]? with
    | some (some cells)=>aL7 ti g cells off S k
    | _=>none
   else none
  | some (.elem a n off h),some ti =>
   bif mD h g then
    bif Nat.beq n 0 then
     bif Nat.beq off 0 && !ti.agg then
      match g with
      | none=>k (.val a) S
      | some _=>k (.nI a g) S
     else none
    else bif ti.agg then
     bif Nat.beq off 0 && Nat.beq ti.sz n then
      match g with
      | none=>k (.val a) S
      | some _=>k (.nI a g) S
     else jQ g [a] (.part true ti.sz off a) S k
    else
     match g,a with
     | none,.v i=>bif S.mQ (.v i) n && Nat.blt off n then k (.val (.c i off)) S else jQ g [a] (.part false 1 off a) S k
     | _,_=>jQ g [a] (.part false 1 off a) S k
   else none
  | some (.pix b off n i h),some ti =>
   bif mD h g && !ti.agg then
    match S.boxes[b]? with
    | some (some cells) =>
     match aH3 ((cells.drop off).take n) with
     | some as=>uE g (.nth as i) S k
     | none=>none
    | _=>none
   else none
  | _,_=>none
 | .nilCheck x =>
  match S.gI x with
  | some (.ptr b off h)=>bif g.same h || h.same none && g.same none then k (.ptr b off h) S else none
  | some (.elem a n off h)=>bif g.same h || h.same none && g.same none then k (.elem a n off h) S else none
  | some s=>(match s.ag g with | some a=>uE g (.b0b a) S k | none=>none)
  | none=>none
 | .binOp op t x y _ =>
  match cU tt t,S.jB g x,S.jB g y with
  | some ti,some a,some b =>
   match ti.d with
   | .int _ | .str=>b0g g op a b S k
   | .bool=>bif ti.eq then (match op with | .eql=>jQ g [a,b] (.eqB false a b) S k | .neq=>jQ g [a,b] (.eqB true a b) S k | _=>none) else none
   | .st _=>bif ti.eq && ti.agg then (match leaves tt 20 t with | some qs=>(match op with | .eql=>jQ g [a,b] (.eqA qs false a b) S k | .neq=>jQ g [a,b] (.eqA qs true a b) S k | _=>none) | none=>none) else none
   | _=>none
  | _,_,_=>none
 | .unOp op _ x =>
  match S.jB g x with
  | some a=>jQ g [a] (.un op a) S k
  | none=>none
 | .convert s d x =>
  match cU tt s,cU tt d,S.jB g x with
  | some si,some di,some a =>
   match si.d,di.d with
   | .int _,.int q=>jQ g [a] (.xU q a) S k
   | .str,.str=>jQ g [a] (.wP a) S k
   | .sl e,.str=>(match cU tt e with | some ei=>(match ei.d with | .int .u8=>uE g (.wQ a) S k | _=>none) | none=>none)
   | _,_=>none
  | _,_,_=>none
 | .slice t x lo hi none =>
  match cU tt t,S.jB g x,S.a82 g lo,S.a82 g hi with
  | some ti,some a,some l,some h =>
   match ti.d with
   | .str=>uE g (.slS a l h) S k
   | .sl e=>(match cU tt e with | some ei=>bif Nat.blt 0 ei.sz then uE g (.slL ei.sz a l h) S k else none | none=>none)
   | _=>none
  | _,_,_,_=>none
 | .field t x f =>
  match cU tt t,S.jB g x with
  | some ti,some a =>
   match ti.d with
   | .st fs =>
    match fs[f]? with
    | some (off,ft) =>
     match cU tt ft with
     | some fi =>
      bif fi.agg then jQ g [a] (.part true fi.sz off a) S k
      else bif Nat.beq fi.sz 1 then
       match g,a with
       | none,.v i=>bif S.mQ (.v i) ti.sz && Nat.blt off ti.sz && Nat.blt 0 ti.sz then k (.val (.c i off)) S else jQ g [a] (.part false 1 off a) S k
       | _,_=>jQ g [a] (.part false 1 off a) S k
      else none
     | none=>none
    | none=>none
   | _=>none
  | _,_=>none
 | .fieldAddr t x f =>
  match cU tt t,S.gI x with
  | some ti,some s =>
   match ti.d with
   | .st fs =>
    match fs[f]? with
    | some (off,ft) =>
     match cU tt ft with
     | some fi =>
      bif Nat.blt 0 fi.sz then
       match s with
       | .ptr b o h=>bif mD h g then k (.ptr b (o+off) g) S else none
       | .elem a n o h=>bif mD h g && Nat.blt 0 n then k (.elem a n (o+off) g) S else none
       | _=>none
      else none
     | none=>none
    | none=>none
   | _=>none
  | _,_=>none
 | .indexAddr t x i =>
  match S.gI x with
  | some (.ptr b o h) =>
   match cU tt t,S.jB g i with
   | some ti,some j =>
    match ti.d with
    | .arr n e =>
     match cU tt e with
     | some ei=>bif mD h g && Nat.blt 1 n && Nat.beq ei.sz 1 then emit g (.inb n j) S fun y S'=>k (.pix b o n y g) S' else none
     | none=>none
    | _=>none
   | _,_=>none
  | _ =>
  match cU tt t,S.jB g x,S.jB g i with
  | some ti,some a,some j =>
   match ti.d with
   | .sl e =>
    match cU tt e with
    | some ei=>bif Nat.blt 0 ei.sz && (ei.agg || Nat.beq ei.sz 1) then emit g (.b0a ei.agg ei.sz a j) S fun y S'=>k (.elem y (bif ei.agg then ei.sz else 0) 0 g) S' else none
    | none=>none
   | _=>none
  | _,_,_=>none
 | .index t x i =>
  match cU tt t,S.jB g x,S.jB g i with
  | some ti,some a,some j =>
   match ti.d with
   | .str=>uE g (.aZ9 a j) S k
   | .arr n e=>(match cU tt e with | some ei=>uE g (.b7g n ei.agg ei.sz a j) S k | none=>none)
   | _=>none
  | _,_,_=>none
 | .extract x i =>
  match S.jB g x with
  | some a=>jQ g [a] (.ext a i) S k
  | none=>none
 | .build t parts =>
  match cU tt t with
  | some ti =>
   match ti.d,ti.z with
   | .st fs,some z=>bif fs.all (fun q=>(cU tt q.2).isSome) then a45 tt g (fun i=>fs[i]?) parts.toList (z.map fun v=>.k v.aF) S (fun cs S'=>match g with | none=>emit none (.agg cs) S' fun y S''=>k (aMb y (b0h tt fs parts.toList z)) S'' | some _=>jQ g cs (.agg cs) S' k) else none
   | .arr _ e,some z =>
    match cU tt e with
    | some ei=>a45 tt g (fun i=>some (i*ei.sz,e)) parts.toList (z.map fun v=>.k v.aF) S (fun cs S'=>jQ g cs (.agg cs) S' k)
    | none=>none
   | _,_=>none
  | none=>none
 | .buildSlice t len parts =>
  match cU tt t,S.oR g (parts.toList.map (·.2)) with
  | some ti,some as =>
   match ti.d with
   | .sl e =>
    match cU tt e with
    | some ei =>
     match ei.z with
     | some z =>
      bif aA6 0 parts.toList && Nat.beq as.length len && Nat.blt 0 ei.sz && Nat.beq z.length ei.sz then
       emit g (.lit ei.sz as) S fun y S' =>
        match g with
        | none=>bif Nat.beq (nM e ei.sz) 1 && Nat.blt 0 len then k (.val y) S' else k (.grow S'.nk (nM e ei.sz) y) { S' with nk:=S'.nk+1 }
        | some _=>k (.val y) S'
      else none
     | none=>none
    | none=>none
   | _=>none
  | _,_=>none
 | .makeFunc (.func f) first caps =>
  match g,a84 S caps.toList with
  | none,some ((t,b)::l)=>bif first.isEmpty && isE tt f then k (.kX f ((t,b)::l)) S else none
  | _,_ =>
  match S.oR g caps.toList with
  | some as=>bif first.isEmpty then uE g (.fn f as) S k else none
  | none=>none
 | .alloc t =>
  match g,cU tt t with
  | none,some ti =>
   match ti.z with
   | some z=>k (.ptr S.boxes.length 0 none) { S with boxes:=S.boxes++[some (aOq t S.boxes.length z)] }
   | none=>none
  | _,_=>none
 | .box t x =>
  match g,cU tt t,S.gI x with
  | none,some ti,some s =>
   bif ti.agg then
    match s with
    | .val a=>a2m none ti.sz a S fun l S'=>k (.ptr S'.boxes.length 0 none) { S' with boxes:=S'.boxes++[some (l.map .val)] }
    | .stv a nl=>a2m none ti.sz a S fun l S'=>k (.ptr S'.boxes.length 0 none) { S' with boxes:=S'.boxes++[some (l.zipIdx.map fun p=>bif jM nl p.2 then .nJ else .val p.1)] }
    | _=>none
   else
    match s with
    | .val a=>aFs none a S fun a' S'=>k (.ptr S'.boxes.length 0 none) { S' with boxes:=S'.boxes++[some [.val a']] }
    | .grow q sz a=>k (.ptr S.boxes.length 0 none) { S with boxes:=S.boxes++[some [.grow q sz a]] }
    | .nJ=>k (.ptr S.boxes.length 0 none) { S with boxes:=S.boxes++[some [.nJ]] }
    | _=>none
  | _,_,_=>none
 | .store t x y =>
  match g,cU tt t,S.gI x,S.gI y with
  | none,some ti,some (.ptr b off none),some s =>
   match S.boxes[b]? with
   | some (some cells) =>
    bif Nat.ble (off+ti.sz) cells.length then
     bif ti.agg then
      match s with
      | .val a=>a2m none ti.sz a S fun l S'=>k wS { S' with boxes:=S'.boxes.set b (some (hJ cells off (l.map .val))) }
      | .stv a nl=>a2m none ti.sz a S fun l S'=>k wS { S' with boxes:=S'.boxes.set b (some (hJ cells off (l.zipIdx.map fun p=>bif jM nl p.2 then .nJ else .val p.1))) }
      | _=>none
     else bif Nat.beq ti.sz 1 then
      match s with
      | .val a=>aFs none a S fun a' S'=>k wS { S' with boxes:=S'.boxes.set b (some (hJ cells off [.val a'])) }
      | .grow q sz a=>k wS { S with boxes:=S.boxes.set b (some (hJ cells off [.grow q sz a])) }
      | .nJ=>k wS { S with boxes:=S.boxes.set b (some (hJ cells off [.nJ])) }
      | _=>none
     else none
    else none
   | _=>none
  | _,_,_,_=>none
 | .makeSlice t l c =>
  match g,cU tt t,S.wU l,S.wU c with
  | none,some ti,some a,some b =>
   match ti.d with
   | .sl e =>
    match cU tt e with
    | some ei =>
     match ei.z with
     | some z=>bif Nat.blt 0 ei.sz && Nat.beq z.length ei.sz && (ei.agg || Nat.beq ei.sz 1) then
       emit none (.make ei.sz (bif ei.agg then .agg (z.map V.aF) else (z.map V.aF).headD .undef) ei.fL a b) S fun y S'=>bif Nat.beq (nM e ei.sz) 1 && !b0i a then k (.val y) S' else k (.grow S'.nk (nM e ei.sz) y) { S' with nk:=S'.nk+1 } else none
     | none=>none
    | none=>none
   | _=>none
  | _,_,_,_=>none
 | .call c =>
  match c.callee,c.argTypes.toList with
  | .builtin .len,[t] =>
   match cU tt t,S.oR g c.args.toList with
   | some ti,some [a]=>(match ti.d with | .str=>jQ g [a] (.nQ a) S k | .sl _=>jQ g [a] (.jA a) S k | _=>none)
   | _,_=>none
  | .builtin .min,_=>(match S.oR g c.args.toList with | some [a,b]=>jQ g [a,b] (.mm false a b) S k | _=>none)
  | .builtin .max,_=>(match S.oR g c.args.toList with | some [a,b]=>jQ g [a,b] (.mm true a b) S k | _=>none)
  | .builtin .append,[t,u] =>
   match g,cU tt t,cU tt u,c.args.toList with
   | none,some ti,some ui,[x,y] =>
    match ti.d,S.gI x,S.wU y with
    | .sl e,some sx,some b =>
     match cU tt e with
     | some ei =>
      match ei.z with
      | some z =>
      bif Nat.blt 0 ei.sz && Nat.beq z.length ei.sz then
       let cd:=nM e ei.sz
       let go:=fun (e:E) (S:SS)=>emit none e S fun y S'=>k (.grow S'.nk cd y) { S' with nk:=S'.nk+1 }
       let with_:=fun (a:A) (S:SS) =>
        match ui.d with
        | .sl _=>go (.app ei.sz ei.fL a b) S
        | .str=>bif Nat.beq ei.sz 1 then go (.aTa ei.fL a b) S else none
        | _=>none
       match sx with
       | .grow q sz a=>bif Nat.beq sz cd then with_ a (S.kC q) else none
       | .nJ=>with_ aFr S
       | _=>none
      else none
      | none=>none
     | none=>none
    | _,_,_=>none
   | _,_,_,_=>none
  | .value (.func f),_ =>
   bif isE tt f then (match g with | none=>aRz tt f (c.args.toList.map .op) S k | some _=>none)
   else (match S.oR g c.args.toList with | some as=>bif Nat.blt f a06 then uE g (.call f as) S k else none | none=>none)
  | .value (.tmp t),_ =>
   bif jM tt.dyn t then
    match g,S.look t with
    | none,some (.kX f caps)=>bif isE tt f then aRz tt f (c.args.toList.map .op++caps.map fun q=>.bx q.2) S k else none
    | _,_=>none
   else (match S.jB g (.tmp t),S.oR g c.args.toList with | some a,some as=>uE g (.aL4 a as) S k | _,_=>none)
  | .value x,_=>(match S.jB g x,S.oR g c.args.toList with | some a,some as=>uE g (.aL4 a as) S k | _,_=>none)
  | _,_=>none
 | _=>none
def SS.put (N:Nat) (S:SS) (d:Option Tmp) (s:SV):Option SS :=
 match d with
 | none=>some S
 | some d=>bif Nat.blt d N then some { S with cE:=(d,s)::S.cE.filter (fun p=>!Nat.beq p.1 d) } else none
def aA7 (S:SS) (g:Gd):Op→List Operand
 | .pick c a b =>
  match S.jB g c with
  | some c'=>c::((bif (S.aCc g (some (c',true)) a).isSome then [] else [a])++(bif (S.aCc g (some (c',false)) b).isSome then [] else [b]))
  | none=>[c,a,b]
 | o=>o.operands.toList
def zX (g:Gd):List Operand→SS→(SS→OL)→OL
 | [],S,k=>k S
 | .tmp t::r,S,k =>
  match S.look t with
  | some (.nI a g')=>bif g'.same g then zX g r S k else emit g' (.id a) S fun y S'=>zX g r { S' with cE:=(t,.val y)::S'.cE.filter (fun p=>!Nat.beq p.1 t) } k
  | _=>zX g r S k
 | _::r,S,k=>zX g r S k
def b3u (ops:List Oper) (S:SS) (o:Oper) (k:Gd→SS→OL):OL :=
 match o.guard with
 | none=>k none S
 | some (j,want) =>
  match (ops[j]?).bind (·.dst) with
  | some d=>zX none [.tmp d] S fun S =>
   match S.look d with
   | some s =>
    match s.a? with
    | some a=>bif S.isB a then k (some (a,want)) S else emit none (.aTc a) S fun _ S'=>k (some (a,want)) { S' with cS:=S'.a08 a }
    | none=>none
   | none=>none
  | none=>none
def SV.unG (g:Gd):SV→SV
 | .nI a g'=>bif g'.same g then .val a else .nI a g'
 | .ptr b off g'=>bif g'.same g then .ptr b off none else .ptr b off g'
 | s=>s
def SS.unG (S:SS) (g:Gd):SS:={ S with cE:=S.cE.map fun p=>(p.1,p.2.unG g) }
def isSplit (tt:TT):Op→Bool
 | .call c=>(match c.callee with | .value (.func f)=>isE tt f | .value (.tmp t)=>jM tt.dyn t | _=>false)
 | .store ..=>true
 | _=>false
def aTj:List (A×Bool)→A→Option Bool
 | [],_=>none
 | (x,b)::r,a=>bif x.same a then some b else aTj r a
def b0j:A→Option Bool
 | .k (.bool b)=>some b
 | _=>none
def knB (kn:List (A×Bool)) (a:A):Option Bool :=
 match b0j a with
 | some b=>some b
 | none=>aTj kn a
def knU (kn:List (A×Bool)) (a:A) (want:Bool):Option Bool :=
 match a with
 | .k .undef=>some (!want)
 | a=>knB kn a
def a2n (kn:List (A×Bool)) (S:SS) (op:Op):Op :=
 match op with
 | .pick c a b =>
  match S.wU c with
  | some c' =>
   match knB kn c' with
   | some true=>bif (S.gI b).isSome then .move a else .pick c a b
   | some false=>bif (S.gI a).isSome then .move b else .pick c a b
   | none=>.pick c a b
  | none=>.pick c a b
 | op=>op
def zY (tt:TT) (N:Nat) (ops:List Oper):List (A×Bool)→List Oper→SS→(SS→OL)→OL
 | _,[],S,k=>k S
 | kn,o::rest,S,k =>
  b3u ops S o fun g S =>
   match g with
   | some (a,want) =>
    match knU kn a want with
    | some b =>
     bif b == want then zX none (aA7 S none (a2n kn S o.op)) S fun S1=>gO tt none (a2n kn S o.op) S1 fun s S'=>match S'.put N o.dst s with | some S''=>zY tt N ops kn rest S'' k | none=>none
     else match S.put N o.dst wS with | some S'=>zY tt N ops kn rest S' k | none=>none
    | none =>
     bif isSplit tt o.op then
      match gO tt none o.op (S.unG (some (a,want))) (fun s S'=>match S'.put N o.dst s with | some S''=>zY tt N ops ((a,want)::kn) rest S'' k | none=>none),(match S.put N o.dst wS with | some S'=>zY tt N ops ((a,!want)::kn) rest S' k | none=>none) with
      | some x,some y=>some (.ite a (bif want then x else y) (bif want then y else x))
      | _,_=>none
     else zX (some (a,want)) (aA7 S (some (a,want)) o.op) S fun S=>gO tt (some (a,want)) o.op S fun s S'=>match S'.put N o.dst s with | some S''=>zY tt N ops kn rest S'' k | none=>none
   | none=>zX none (aA7 S none (a2n kn S o.op)) S fun S1=>gO tt none (a2n kn S o.op) S1 fun s S'=>match S'.put N o.dst s with | some S''=>zY tt N ops kn rest S'' k | none=>none
def aTk (tt:TT) (N:Nat) (ops rest:List Oper) (S:SS) (k:SS→OL):OL:=zY tt N ops [] rest S k
inductive Loc where
 | s (t:Nat)
 | c (b j:Nat)
 deriving Inhabited
inductive LK where
 | val (n:Option Nat)
 | grow (sz:Nat)
 | self (t b:Nat)
 deriving Inhabited
inductive OK where
 | loop (r:Nat) | block (id:Nat) | cond (t r:Nat)
 deriving Inhabited
abbrev Vars:=List (Loc×LK)
def OK.same:OK→OK→Bool
 | .loop a,.loop b=>Nat.beq a b
 | .block a,.block b=>Nat.beq a b
 | .cond a q,.cond b r=>Nat.beq a b && Nat.beq q r
 | _,_=>false
def aR0:List (OK×Vars)→OK→Option Vars
 | [],_=>none
 | (j,v)::r,i=>bif j.same i then some v else aR0 r i
def a0m:Code→Option Nat
 | .region id _ _=>some id
 | .seq a b=>(match a0m a with | some r=>some r | none=>a0m b)
 | .cond _ a b=>(match a0m a with | some r=>some r | none=>a0m b)
 | .block _ b=>a0m b
 | .loop b=>a0m b
 | .scope b=>a0m b
 | _=>none
def bGa (a b:Code):Nat:=match a0m a with | some r=>r | none=>(match a0m b with | some r=>r | none=>0)
def a09:Code→List Nat
 | .region _ ops _=>ops.toList.filterMap (·.dst)
 | .seq a b=>a09 a++a09 b
 | .cond _ a b=>a09 a++a09 b
 | .block _ b=>a09 b
 | .loop b=>a09 b
 | .scope b=>a09 b
 | _=>[]
def xD (S:SS) (i:Nat):LK→SV
 | .val _=>.val (.v (S.nv+i))
 | .grow sz=>.grow (S.nk+i) sz (.v (S.nv+i))
 | .self t b=>.self t b (.v (S.nv+i))
def vV (S:SS):Nat→Vars→List (Nat×SV)
 | _,[]=>[]
 | i,(.s t,q)::r=>(t,xD S i q)::vV S (i+1) r
 | i,(.c _ _,_)::r=>vV S (i+1) r
def nR (S:SS):Nat→Vars→List (Option (List SV))→List (Option (List SV))
 | _,[],bs=>bs
 | i,(.s _,_)::r,bs=>nR S (i+1) r bs
 | i,(.c b j,q)::r,bs =>
  nR S (i + 1) r (match bs[b]? with
   | some (some cells)=>bs.set b (some (cells.set j (xD S i q)))
   | _=>bs)
def pL (S:SS):Nat→Vars→List (Nat×Nat)
 | _,[]=>[]
 | i,(_,.val (some n))::r=>(S.nv+i,n)::pL S (i+1) r
 | i,_::r=>pL S (i+1) r
def a7v:Vars→List Nat
 | []=>[]
 | (.s t,_)::r=>t::a7v r
 | _::r=>a7v r
def vW:Vars→List (Nat×Nat)
 | []=>[]
 | (.c b j,_)::r=>(b,j)::vW r
 | _::r=>vW r
def aH4:SV→SV
 | .grow _ _ a=>.val a
 | .stv a _=>.val a
 | s=>s
def SV.inb (n:Nat):SV→Bool
 | .ptr b _ _=>Nat.blt b n
 | .pix b _ _ _ _=>Nat.blt b n
 | .nI _ _=>false
 | .kX _ caps=>caps.all fun q=>Nat.blt q.2 n
 | .self _ b _=>Nat.blt b n
 | _=>true
def SS.keeps (S:SS) (s:SV):Bool:=s.below S.nv && s.inb S.boxes.length
def nS (S:SS) (ds:List Nat) (vars:Vars):SS :=
 let vs:=a7v vars
 {cE:=vV S 0 vars++((S.cE.filter fun p=>!jM ds p.1 && !jM vs p.1 && S.keeps p.2).map fun p=>(p.1,aH4 p.2))
  boxes:=nR S 0 vars (S.boxes.map fun b=>match b with
   | some cells=>if cells.all S.keeps then some (cells.map aH4) else none
   | none=>none)
  known:=pL S 0 vars++(S.known.filter fun p=>Nat.blt p.1 S.nv)
  cS:=S.cS.filter fun i=>Nat.blt i S.nv
  a2l:=S.a2l
  nv:=S.nv+vars.length
  nk:=S.nk+vars.length
  dep:=S.dep
  own:=S.own }
def SS.at_ (S:SS):Loc→Option SV
 | .s t=>S.look t
 | .c b j =>
  match S.boxes[b]? with
  | some (some cells)=>cells[j]?
  | _=>none
def SS.b3v (S:SS):Option Nat→A→Bool
 | none,_=>true
 | some n,a=>S.mQ a n
def aTl (b:Nat):Loc→Bool
 | .c b' _=>Nat.beq b' b
 | .s _=>false
def aMc (S:SS):Vars→Option (List A×List Nat)
 | []=>some ([],[])
 | (l,q)::r =>
  match S.at_ l,aMc S r with
  | some s,some (as,ids) =>
   match q,s with
   | .val n,s =>
    match s.a? with
    | some a=>bif S.b3v n a then some (a::as,ids) else none
    | none=>none
   | .grow sz,.grow k sz' a=>bif Nat.beq sz sz' && !jM ids k then some (a::as,k::ids) else none
   | .grow _,.nJ=>some (aFr::as,ids)
   | .self t b,s=>bif aTl b l then (match a83 t b s with | some a=>some (a::as,ids) | none=>none) else none
   | _,_=>none
  | _,_=>none
def a1a (vc:List (Nat×Nat)) (b:Nat):Nat→List SV→List SV→Bool
 | _,[],[]=>true
 | j,s::r,t::q=>(vc.any (fun p=>Nat.beq p.1 b && Nat.beq p.2 j) || SV.fits (some s) t) && a1a vc b (j+1) r q
 | _,_,_=>false
def tU (vc:List (Nat×Nat)):Nat→List (Option (List SV))→List (Option (List SV))→Bool
 | _,_,[]=>true
 | b,_::r,none::q=>tU vc (b+1) r q
 | b,some c::r,some d::q=>a1a vc b 0 c d && tU vc (b+1) r q
 | _,_,_=>false
def aMd (S H:SS) (vars:Vars):Option (List A) :=
 match aMc S vars with
 | some (as,_) =>
  bif H.cE.all (fun p=>jM (a7v vars) p.1 || SV.fits (S.look p.1) p.2) && tU (vW vars) 0 S.boxes H.boxes && (Nat.beq S.own H.own && Nat.ble H.own H.boxes.length) then some as else none
 | none=>none
def b7n:List GK→Bool
 | []=>true
 | _=>false
def b0k (tt:TT) (f:FuncId):Bool:=tt.sg.all fun q=>!(Nat.beq q.2.1 f) || b7n q.2.2.gr
def CK0 (tt:TT):cN:=⟨isE tt,fun _ _=>none,noE,jM tt.dyn,b0k tt⟩
def b0l (tt:TT) (ops:List Oper):Nat→Nat
 | 0=>0
 | n+1=>bif a41 ops (n+1) && (ops.take (n+1)).all (fun o=>pG (CK0 tt) o.op || (qY o.op && o.guard.isNone)) then n+1 else b0l tt ops n
def slX (tt:TT) (t:TypeId):Bool:=match cU tt t with | some ti=>(match ti.d with | .sl _=>true | _=>false) | none=>false
def SV.a86:SV→Option (Option Nat)
 | .ptr b _ _=>some (some b)
 | .pix b _ _ _ _=>some (some b)
 | .elem ..=>some none
 | _=>none
def SS.apart (S:SS):Rt→Rt→Bool
 | .tm t,.tm t' =>
  match (S.look t).bind SV.a86,(S.look t').bind SV.a86 with
  | some (some b),some (some b')=>!Nat.beq b b'
  | some none,some _=>true
  | _,_=>false
 | .tm t,.nw _=>((S.look t).bind SV.a86).isSome
 | .nw _,.tm t=>((S.look t).bind SV.a86).isSome
 | .nw i,.nw j=>!Nat.beq i j
 | _,_=>true
abbrev KX:=SS→OL
def uI (o:Oper):Option (Nat×Operand) :=
 match o.guard,o.dst,o.op with
 | none,some d,.move x=>some (d,x)
 | none,some d,.assign x=>some (d,x)
 | _,_,_=>none
def b7o (o:Oper):Option (Nat×TypeId×Operand×Operand) :=
 match o.guard,o.dst,o.op with
 | none,some d,.makeSlice t l c=>some (d,t,l,c)
 | _,_,_=>none
def aTm (o:Oper):Option (Nat×Operand×TypeId) :=
 match o.guard,o.dst,o.op with
 | none,some d,.call ⟨.builtin .len,args,ts⟩ =>
  (match args.toList,ts.toList with
  | [x],[t]=>some (d,x,t)
  | _,_=>none)
 | _,_,_=>none
def aCe (o:Oper):Option (Nat×BinOp×Operand×Operand) :=
 match o.guard,o.dst,o.op with
 | none,some d,.binOp op _ x y _=>some (d,op,x,y)
 | _,_,_=>none
def aTn (o:Oper):Option (Nat×TypeId×Operand×Operand) :=
 match o.guard,o.dst,o.op with
 | none,some d,.indexAddr t x i=>some (d,t,x,i)
 | _,_,_=>none
def aOr (o:Oper):Option (TypeId×Operand×Operand) :=
 match o.guard,o.dst,o.op with
 | none,none,.store t x v=>some (t,x,v)
 | _,_,_=>none
def mV (x:Operand) (t:Nat):Bool :=
 match x with
 | .tmp s=>Nat.beq s t
 | _=>false
def isZ (x:Operand) (n:Nat):Bool :=
 match x with
 | .const (.int .i64 (.ofNat m))=>Nat.beq m n
 | _=>false
def b0m:BinOp→Bool
 | .lss=>true
 | _=>false
def isAdd:BinOp→Bool
 | .add=>true
 | _=>false
def aR1 (x:Operand):Option Nat :=
 match x with
 | .const (.int .u8 (.ofNat c))=>some c
 | _=>none
def fCv (o:Oper):Option (Nat×TypeId×TypeId×Operand) :=
 match o.guard,o.dst,o.op with
 | none,some d,.convert src dst x=>some (d,src,dst,x)
 | _,_,_=>none
def fLd (o:Oper):Option (Nat×TypeId×Operand) :=
 match o.guard,o.dst,o.op with
 | none,some d,.load t x=>some (d,t,x)
 | _,_,_=>none
def fZ (x:Operand):Option Nat :=
 match x with
 | .const (.int .i64 (.ofNat m))=>some m
 | _=>none
def fOp:BinOp→Nat
 | .gtr=>1
 | .and=>2
 | .rem=>3
 | .xor=>4
 | _=>0
def b0n (D:List Nat) (x:Operand):Bool :=
 match x with
 | .tmp s=>!D.any (Nat.beq s)
 | .const _=>true
 | _=>false
structure FJ where
 s:Operand
 i:Operand
 c:Operand
 m1:Nat
 m2:Nat
 ts:TypeId
 tb:TypeId
 tl:TypeId
 tw:TypeId
 tr:TypeId
 b:Nat
 D:List Nat
def b0o (N m:Nat) (o1 o2 o3 o4 o5 o6 o7 o8 o9 oA oB oC oD oE oF oG oH oI oJ oK oL oM:Oper):Option FJ:=do
 let v1 ← uI o1
 let v2 ← fCv o2
 let v3 ← uI o3
 let v4 ← uI o4
 let v5 ← aTm o5
 let v6 ← aCe o6
 let v7 ← uI o7
 let v8 ← uI o8
 let v9 ← aCe o9
 let vA ← uI oA
 let vB ← aTm oB
 let vC ← aCe oC
 let vD ← aTn oD
 let vE ← fLd oE
 let vF ← uI oF
 let vG ← aCe oG
 let vH ← aCe oH
 let vI ← aTn oI
 let vJ ← aOr oJ
 let vK ← uI oK
 let vL ← fCv oL
 let vM ← uI oM
 let m0 ← fZ v6.2.2.2
 let m1 ← fZ v9.2.2.2
 let m2 ← aR1 vG.2.2.2
 let D:=[v1.1,v2.1,v3.1,v4.1,v5.1,v6.1,v7.1,v8.1,v9.1,vA.1,vB.1,vC.1,vD.1,vE.1,vF.1,vG.1,vH.1,vI.1,vK.1,vL.1,vM.1]
 bif (mV v2.2.2.2 v1.1 && mV v3.2 v2.1 && mV v4.2 v3.1 && mV v5.2.1 v4.1 && Nat.beq v5.2.2 v2.2.2.1 && Nat.beq (fOp v6.2.1) 1 && mV v6.2.2.1 v5.1 && Nat.beq m0 0 && Nat.beq v6.1 m) &&
  (mV v7.2 v3.1 && Nat.beq (fOp v9.2.1) 2 && mV v9.2.2.1 v8.1 && mV vA.2 v3.1 && mV vB.2.1 vA.1 && Nat.beq vB.2.2 v2.2.2.1 && Nat.beq (fOp vC.2.1) 3 && mV vC.2.2.1 v9.1 && mV vC.2.2.2 vB.1) &&
  (mV vD.2.2.1 v7.1 && mV vD.2.2.2 vC.1 && Nat.beq vD.2.1 v2.2.2.1 && mV vE.2.2 vD.1 && Nat.beq (fOp vG.2.1) 2 && mV vG.2.2.1 vF.1 && Nat.beq (fOp vH.2.1) 4 && mV vH.2.2.1 vE.1 && mV vH.2.2.2 vG.1) &&
  (mV vI.2.2.1 v7.1 && mV vI.2.2.2 vC.1 && Nat.beq vI.2.1 v2.2.2.1 && mV vJ.2.1 vI.1 && mV vJ.2.2 vH.1 && mV vK.2 v3.1 && mV vL.2.2.2 vK.1 && Nat.beq vL.2.1 v2.2.2.1 && mV vM.2 vL.1) &&
  (b0n D v8.2 && b0n D vF.2 && D.all (fun d=>Nat.blt d N) && zE D) then some ⟨v1.2,v8.2,vF.2,m1,m2,v2.2.1,v2.2.2.1,vE.2.1,vJ.1,vL.2.2.1,vM.1,D⟩ else none
def aCf (N:Nat):Code→Code→Option FJ
 | .region _ r1 false,.seq (.seq (.region _ r2 false) (.cond (.tmp m) (.region _ r3 false) .skip)) (.region _ r4 false) =>
  match r1.toList,r2.toList,r3.toList,r4.toList with
  | [o1,o2,o3],[o4,o5,o6],[o7,o8,o9,oA,oB,oC,oD,oE,oF,oG,oH,oI,oJ],[oK,oL,oM]=>b0o N m o1 o2 o3 o4 o5 o6 o7 o8 o9 oA oB oC oD oE oF oG oH oI oJ oK oL oM
  | _,_,_,_=>none
 | _,_=>none
def aR2:TD→Bool
 | .str=>true
 | _=>false
def b0p:TD→Bool
 | .int .u8=>true
 | _=>false
def aR3 (tt:TT) (f:FJ):Bool :=
 match cU tt f.ts,cU tt f.tb,cU tt f.tl,cU tt f.tw,cU tt f.tr with
 | some ts,some tb,some tl,some tw,some tr =>
  match tb.d with
  | .sl e =>
   match cU tt e with
   | some te=>aR2 ts.d && b0p te.d && Nat.beq te.sz 1 && b0p tl.d && Nat.beq tl.sz 1 && !tl.agg && Nat.beq tw.sz 1 && aR2 tr.d
   | none=>false
  | _=>false
 | _,_,_,_,_=>false
def bAd (tt:TT) (N:Nat) (S:SS) (a b:Code):Option (FJ×A×A×A) :=
 match aCf N a b with
 | some f =>
  match S.wU f.s,S.wU f.i,S.wU f.c with
  | some s,some i,some c=>bif aR3 tt f then some (f,s,i,c) else none
  | _,_,_=>none
 | none=>none
def b0q (f:FJ) (S:SS) (y:A):SS:={ S with cE:=(f.b,.val y)::S.cE.filter (fun p=>!jM f.D p.1) }
def aCg (H:SS) (dep:Nat) (vars:Vars):KX:=fun S=>(aMd S H vars).map (L.jmp (S.dep - 1 - dep))
def aJ8:List (Nat×KX)→Nat→Option KX
 | [],_=>none
 | (j,k)::r,i=>bif Nat.beq j i then some k else aJ8 r i
def nF (tt:TT) (N:Nat) (orc:List (OK×Vars)):Code→SS→List (Nat×KX)→KX→KX→OL
 | .skip,S,_,k,_=>k S
 | .label _,S,_,k,_=>k S
 | .region _ ops d,S,_,k,_ =>
  bif d then (bif (let n:=b0l tt ops.toList ops.toList.length; a41 ops.toList n && (ops.toList.take n).all (fun o=>pG (CK0 tt) o.op || (qY o.op && o.guard.isNone))) then aTk tt N ops.toList ops.toList S k else bif a3v (CK0 tt) (slX tt) S.apart ops.toList then aTk tt N ops.toList ops.toList S k else none)
  else aTk tt N ops.toList ops.toList S k
 | .seq a b,S,xs,k,r =>
  match bAd tt N S a b with
  | some (f,s,i,c)=>emit none (.flip f.m1 f.m2 s i c) S fun y S'=>k (b0q f S' y)
  | none=>nF tt N orc a S xs (fun S'=>nF tt N orc b S' xs k r) r
 | .cond c a b,S,xs,k,r =>
  match S.wU c with
  | some q =>
   match b0j q with
   | some true=>nF tt N orc a S xs k r
   | some false=>nF tt N orc b S xs k r
   | none =>
   match (match c with | .tmp t=>aR0 orc (.cond t (bGa a b)) | _=>none) with
   | none =>
    let S1:={ S with cS:=S.a08 q }
    match nF tt N orc a S1 xs k r,nF tt N orc b S1 xs k r with
    | some x,some y=>some (.ite q x y)
    | _,_=>none
   | some vars =>
    let H:=nS S (a09 a++a09 b) vars
    let S1:={ S with dep:=S.dep+1,cS:=S.a08 q }
    match k H,nF tt N orc a S1 xs (aCg H S.dep vars) r,nF tt N orc b S1 xs (aCg H S.dep vars) r with
    | some z,some x,some y=>some (.join vars.length (.ite q x y) z)
    | _,_,_=>none
  | none=>none
 | .block id c,S,xs,k,r =>
  match aR0 orc (.block id) with
  | none=>nF tt N orc c S ((id,k)::xs) k r
  | some vars =>
   let H:=nS S (a09 c) vars
   match k H,nF tt N orc c { S with dep:=S.dep+1 } ((id,aCg H S.dep vars)::xs) (aCg H S.dep vars) r with
   | some z,some x=>some (.join vars.length x z)
   | _,_=>none
 | .loop c,S,xs,_,r =>
  match (a0m c).bind (fun q=>aR0 orc (.loop q)) with
  | some vars =>
   let H:=nS S (a09 c) vars
   match aMd S H vars,nF tt N orc c { H with dep:=S.dep+1 } xs (aCg H S.dep vars) r with
   | some init,some x=>some (.loop init x)
   | _,_=>none
  | none=>none
 | .exit id,S,xs,_,_ =>
  match aJ8 xs id with
  | some k=>k S
  | none=>none
 | .ret,S,_,_,r=>r S
 | _,_,_,_,_=>none
def a5o (tt:TT):List ResultVar→List A→SS→OL
 | [],[a],_=>some (.ret a)
 | [],as,_=>some (.b7h as)
 | .tmp t::r,as,S =>
  match (S.look t).bind SV.a? with
  | some a=>a5o tt r (as++[a]) S
  | none=>none
 | .cell t ty::r,as,S =>
  match S.look t,cU tt ty with
  | some (.ptr b off none),some ti =>
   match S.boxes[b]? with
   | some (some cells)=>aL7 ti none cells off S fun s S'=>match s.a? with | some a=>a5o tt r (as ++ [a]) S' | none=>none
   | _=>none
  | _,_=>none
def a3x:Nat→Nat→List (Nat×SV)
 | _,0=>[]
 | i,n+1=>(i,.val (.v i))::a3x (i+1) n
structure FI where
 ks:Operand
 ty:TypeId
 ety:TypeId
 c:Nat
 b:Nat
 D:List Nat
def b0r (N out out' m:Nat) (o1 o2 o3 o4 o5 o6 o7 o8 o9 oA oB oC oD oE oF:Oper):Option FI:=do
 let v1 ← uI o1
 let v2 ← b7o o2
 let v3 ← uI o3
 let v4 ← uI o4
 let v5 ← aTm o5
 let v6 ← uI o6
 let v7 ← aCe o7
 let v8 ← uI o8
 let v9 ← uI o9
 let vA ← uI oA
 let vB ← uI oB
 let vC ← aTn oC
 let vD ← aOr oD
 let vE ← aCe oE
 let vF ← uI oF
 let c ← aR1 vD.2.2
 let D:=[v1.1,v2.1,v3.1,v4.1,v5.1,v6.1,v7.1,v8.1,v9.1,vA.1,vB.1,vC.1,vE.1]
 bif mV v2.2.2.1 v1.1 && mV v2.2.2.2 v1.1 && mV v3.2 v2.1 && mV v4.2 v3.1 && mV v5.2.1 v4.1 && Nat.beq v5.2.2 v2.2.1 && isZ v6.2 0 &&
  Nat.beq v7.1 m && b0m v7.2.1 && mV v7.2.2.1 v6.1 && mV v7.2.2.2 v5.1 && mV v8.2 v6.1 && mV v9.2 v8.1 && mV vA.2 v3.1 && mV vB.2 v9.1 &&
  mV vC.2.2.1 vA.1 && mV vC.2.2.2 vB.1 && Nat.beq vC.2.1 v2.2.1 && mV vD.2.1 vC.1 && isAdd vE.2.1 && mV vE.2.2.1 v6.1 && isZ vE.2.2.2 1 && mV vF.2 vE.1 && Nat.beq vF.1 v6.1 &&
  Nat.beq out out' && D.all (fun d=>Nat.blt d N) && zE D then some ⟨v1.2,v2.2.1,vD.1,c,v3.1,D⟩ else none
def a88 (N:Nat):Code→Code→Option (FI×Code)
 | .region _ mk false,.seq (.seq (.region _ pre false) (.block out (.loop (.seq (.region _ tst false) (.seq (.cond (.tmp m) .skip (.exit out')) (.seq (.block _ (.seq (.region _ asg false) (.region _ st false))) (.region _ stp false))))))) rest =>
  match mk.toList,pre.toList,tst.toList,asg.toList,st.toList,stp.toList with
  | [o1,o2,o3],[o4,o5,o6],[o7],[o8,o9],[oA,oB,oC,oD],[oE,oF]=>(b0r N out out' m o1 o2 o3 o4 o5 o6 o7 o8 o9 oA oB oC oD oE oF).map fun f=>(f,rest)
  | _,_,_,_,_,_=>none
 | _,_=>none
def bAe (tt:TT) (N:Nat) (S:SS) (a b:Code):Option (FI×A×Nat) :=
 match a88 N a b with
 | some (f,_) =>
  match S.wU f.ks,cU tt f.ty,cU tt f.ety with
  | some x,some ti,some si =>
   match ti.d with
   | .sl e =>
    match cU tt e with
    | some ei =>
     match ei.z with
     | some [_]=>bif Nat.beq ei.sz 1 && !ei.agg && Nat.beq si.sz 1 then some (f,x,ei.fL) else none
     | _=>none
    | none=>none
   | _=>none
  | _,_,_=>none
 | none=>none
def a6m (tt:TT) (N:Nat) (orc:List (OK×Vars)):Bool→Code→SS→KX→KX→OL
 | sk,.seq a b,S,k,r =>
  bif sk then a6m tt N orc false b S k r else
  match bAe tt N S a b with
  | some (f,x,q)=>emit none (.make 1 (.int .u8 f.c) q x x) S fun y S'=>a6m tt N orc true b { S' with cE:=(f.b,.val y)::S'.cE.filter (fun p=>!jM f.D p.1) } k r
  | none=>nF tt N orc a S [] (fun S'=>a6m tt N orc false b S' k r) r
 | sk,c,S,k,r=>bif sk then none else nF tt N orc c S [] k r
def bJa (tt:TT) (N:Nat) (orc:List (OK×Vars)) (rs:List ResultVar) (nargs:Nat) (c:Code):OL :=
 let S:SS:=⟨a3x 0 nargs,[],[],[],[],nargs,0,0,0⟩
 a6m tt N orc false c S (a5o tt rs []) (a5o tt rs [])
def fW:Nat→Nat→List AK→List (Nat×SV)
 | _,_,[]=>[]
 | i,b,.v::r=>(i,.val (.v i))::fW (i+1) b r
 | i,b,.b off _::r=>(i,.ptr b off none)::fW (i+1) (b+1) r
def pM:Nat→Nat→Nat→List AK→List (Option (List SV))
 | _,_,_,[]=>[]
 | b,i,q,.v::r=>pM b (i+1) q r
 | b,i,q,.b _ ks::r=>some (dJ b i 0 q ks)::pM (b+1) (i+1) (q+tX ks) r
def vX:Nat→List AK→List (Nat×Nat)
 | _,[]=>[]
 | i,.v::r=>vX (i+1) r
 | i,.b _ ks::r=>(i,ks.length)::vX (i+1) r
def a7w:List (List CK)→Nat
 | []=>0
 | ks::r=>tX ks+a7w r
def a7d:List AK→Bool
 | []=>true
 | .v::r=>a7d r
 | .b _ ks::r=>Nat.blt 0 ks.length && a7u ks && a7d r
def aTo:Nat→List (List CK)→List Nat→List A→SS→OL
 | _,[],_,as,_=>some (.b7h as)
 | b,ks::r,ids,as,S =>
  match S.boxes[b]? with
  | some (some cells) =>
   match cellsIn b ks cells with
   | some (ws,is)=>bif zE is && is.all (fun i=>!wV ids i) then emit none (.agg ws) S fun y S'=>aTo (b+1) r (is++ids) (as++[y]) S' else none
   | none=>none
  | _=>none
def a6n (tt:TT) (kss:List (List CK)):List ResultVar→List A→SS→OL
 | [],as,S=>bif Nat.beq S.own kss.length then aTo 0 kss [] as S else none
 | .tmp t::r,as,S =>
  match (S.look t).bind SV.a? with
  | some a=>a6n tt kss r (as++[a]) S
  | none=>none
 | .cell t ty::r,as,S =>
  match S.look t,cU tt ty with
  | some (.ptr b off none),some ti =>
   match S.boxes[b]? with
   | some (some cells)=>aL7 ti none cells off S fun s S'=>match s.a? with | some a=>a6n tt kss r (as ++ [a]) S' | none=>none
   | _=>none
  | _,_=>none
def aFt:List SV→Option (List (Nat×Nat))
 | []=>some []
 | .ptr b 0 none::r=>(aFt r).map ((0,b) :: ·)
 | _::_=>none
def a89:List GK→List SV→Option (List SV)
 | [],l=>some l
 | .one::gs,s::l=>(a89 gs l).map (s :: ·)
 | .one::_,[]=>none
 | .kX f n::gs,l =>
  match aFt (l.take n),a89 gs (l.drop n) with
  | some bs,some r=>bif Nat.ble n l.length then some (.kX f bs::r) else none
  | _,_=>none
def aMe:Nat→List SV→List (Nat×SV)
 | _,[]=>[]
 | i,s::l=>(i,s)::aMe (i+1) l
def aMf (sg:iA):List (Nat×SV) :=
 match sg.gr with
 | []=>fW 0 0 sg.as
 | _::_=>(match a89 sg.gr ((fW 0 0 sg.as).map (·.2)) with | some l=>aMe 0 l | none=>[])
def aJ9:List GK→Nat→Bool
 | [],_=>true
 | .one::r,k=>Nat.blt 0 k && aJ9 r (k - 1)
 | .kX _ n::r,k=>Nat.blt 0 n && Nat.ble n k && aJ9 r (k - n)
def bAf (tt:TT) (N:Nat) (orc:List (OK×Vars)) (rs:List ResultVar) (sg:iA) (c:Code):OL :=
 bif a7d sg.as then
  let S:SS:=⟨aMf sg,pM 0 0 0 sg.as,vX 0 sg.as,[],[],sg.as.length,a7w (iB sg.as),0,(iB sg.as).length⟩
  nF tt N orc c S [] (a6n tt (gY sg.as) rs []) (a6n tt (gY sg.as) rs [])
 else none
end Go.Fbs

/- The words answer what the operations do. -/
namespace Go.Fbs
def nT:Nat→V→Prop
 | 0,v=>sc v=true
 | n+1,v=>∃ cs,v = .agg cs∧cs.length=n+1∧cs.all sc=true
section
variable {x y i w:V}
theorem bDn (h:nQ x.aF=some w):∃ v,nQ x=some v∧v.aF=w:=by
 cases x <;> simp [V.aF,nQ] at h ⊢; subst h; rfl
theorem bDo (h:jA x.aF=some w):∃ v,jA x=some v∧v.aF=w:=by
 cases x <;> simp [V.aF,jA,cI] at h ⊢; subst h; rfl
theorem lP {k:IntKind} {n:Int} (h:x.aF = .int k n):x = .int k n:=by cases x <;> simp_all [V.aF]
theorem oX {b:Bool} (h:x.aF = .bool b):x = .bool b:=by cases x <;> simp_all [V.aF]
theorem a1k {s:List UInt8} (h:x.aF = .str s):x = .str s:=by cases x <;> simp_all [V.aF]
theorem b3y (h:x.aF = .undef):x = .undef:=by cases x <;> simp_all [V.aF]
theorem aFu {g:Tag} {es:List V} (h:x.aF = .sl g es):∃ g' es',x = .sl g' es'∧es=es'.map V.aF:=by
 cases x <;> simp [V.aF,cI] at h; exact ⟨_,_,rfl,h.2.symm⟩
theorem aA9 {cs:List V} (h:x.aF = .agg cs):∃ cs',x = .agg cs'∧cs=cs'.map V.aF:=by
 cases x <;> simp [V.aF,cI] at h; exact ⟨_,rfl,h.symm⟩
theorem bBn {cs:List V} (h:x.aF = .aO cs):∃ cs',x = .aO cs'∧cs=cs'.map V.aF:=by
 cases x <;> simp [V.aF,cI] at h; exact ⟨_,rfl,h.symm⟩
theorem aTp {f:Nat} {cs:List V} (h:x.aF = .func f cs):∃ cs',x = .func f cs'∧cs=cs'.map V.aF:=by
 cases x <;> simp [V.aF,cI] at h; exact ⟨_,by rw [h.1],h.2.symm⟩
theorem b3z {op:BinOp} {k:IntKind} {a b:Int} {v:V} (h:fX op k a b=some v):v.aF=v∧sc v=true:=by
 cases op <;> simp only [fX] at h <;> (try split at h) <;> simp at h <;> subst h <;> exact ⟨rfl,rfl⟩
theorem b30 {op:BinOp} {a b:List UInt8} {v:V} (h:a2a op a b=some v):v.aF=v∧sc v=true:=by
 cases op <;> simp only [a2a] at h <;> (try split at h) <;> simp at h <;> subst h <;> exact ⟨rfl,rfl⟩
theorem aI4 {op:BinOp} {k:IntKind} {a b:Int} {v:V} (h:a03 op k a b=some v):v.aF=v∧sc v=true:=by
 unfold a03 at h
 split at h
 ·simp at h
 ·cases op <;> simp at h <;> subst h <;> exact ⟨rfl,rfl⟩
theorem aX2 {op:BinOp} {v:V} (h:aD op x y=some v):v.aF=v∧sc v=true:=by
 unfold aD at h
 split at h
 ·split at h
  ·exact aI4 h
  ·exact aI4 h
  ·split at h
   ·exact b3z h
   ·simp at h
 ·exact b30 h
 ·simp at h
theorem bGb {P:Program} {op:BinOp} {t:TypeId} (h:aD op x.aF y.aF=some w):∃ v,aBu P op t x y=some v∧v.aF=w:=by
 have hw:=(aX2 h).1
 refine ⟨w,?_,hw⟩
 unfold aD at h
 split at h
 ·rename_i k a k' b h1 h2
  rw [lP h1,lP h2]
  cases op <;> exact h
 ·rename_i a b h1 h2
  rw [a1k h1,a1k h2]
  exact h
 ·simp at h
theorem bAg {P:Program} {t:TypeId} {neg:Bool} (hu:P.underlying t=some .bool) (he:P.eqGuardType P.depth t=false) (h:aJ4 neg x.aF y.aF=some w):∃ v,aBu P (if neg then .neq else .eql) t x y=some v∧v.aF=w:=by
 unfold aJ4 at h
 split at h
 ·rename_i a b h1 h2
  simp only [zzz] at h
  subst h
  rw [oX h1,oX h2]
  cases neg <;> simp [aBu,he,yC,hu,V.aF]
 ·simp at h
theorem bBo {q:Nat} {r:Bool} (h:eqS q x.aF y.aF=some r):eqS q x y=some r:=by
 unfold eqS at h
 split at h
 ·rename_i h1 h2; rw [oX h1,oX h2]; exact h
 ·rename_i h1 h2; rw [lP h1,lP h2]; exact h
 ·rename_i h1 h2; rw [a1k h1,a1k h2]; exact h
 ·simp at h
theorem aI5:∀ {qs:List Nat} {xs ys:List V} {r:Bool},fN qs (xs.map V.aF) (ys.map V.aF)=some r→fN qs xs ys=some r
 | [],[],[],r,h=>h
 | q::qs,x::xs,y::ys,r,h=>by
  simp only [zsx,fN] at h ⊢
  split at h
  ·rename_i a b h1 h2
   rw [bBo h1,aI5 h2]; exact h
  ·simp at h
 | [],_::_,_,_,h=>by simp [fN] at h
 | [],[],_::_,_,h=>by simp [fN] at h
 | _::_,[],_,_,h=>by simp [fN] at h
 | _::_,_::_,[],_,h=>by simp [fN] at h
theorem a4s:∀ {qs:List Nat} {xs ys:List V} {r:Bool},fN qs xs ys=some r→xs.length=qs.length∧ys.length=qs.length
 | [],[],[],r,h=>⟨rfl,rfl⟩
 | q::qs,x::xs,y::ys,r,h=>by
  simp only [fN] at h
  split at h
  ·rename_i a b h1 h2
   have:=a4s h2
   simp [this]
  ·simp at h
 | [],_::_,_,_,h=>by simp [fN] at h
 | [],[],_::_,_,h=>by simp [fN] at h
 | _::_,[],_,_,h=>by simp [fN] at h
 | _::_,_::_,[],_,h=>by simp [fN] at h
theorem aBa:∀ {qs qs':List Nat} {xs ys:List V} {r:Bool},fN (qs++qs') xs ys=some r →
  ∃ a b,fN qs (xs.take qs.length) (ys.take qs.length)=some a∧fN qs' (xs.drop qs.length) (ys.drop qs.length)=some b∧r=(a && b)
 | [],qs',xs,ys,r,h=>⟨true,r,by simp [fN],h,by simp⟩
 | q::qs,qs',x::xs,y::ys,r,h=>by
  simp only [List.cons_append,fN] at h
  split at h
  ·rename_i a b h1 h2
   simp only [zzz] at h
   obtain ⟨a',b',h3,h4,rfl⟩:=aBa h2
   refine ⟨a && a',b',by simp [fN,h1,h3],by simpa using h4,by rw [← h,Bool.and_assoc]⟩
  ·simp at h
 | _::_,_,[],_,_,h=>by simp [fN] at h
 | _::_,_,_::_,[],_,h=>by simp [fN] at h
end
section
variable {P:Program} {tt:TT} (hT:∀ t ti,cU tt t=some ti→aV P ti∧ti.t=t)
include hT
omit hT in
theorem b0s {d:Nat} {t:TypeId} {ti:TI} {qs:List Nat} (h1:cU tt t=some ti) (h2:leaves tt d t=some qs) (h3:ti.agg=false):qs.length=1:=by
 cases d with
 | zero=>simp [leaves] at h2
 | succ d =>
  unfold leaves at h2
  rw [h1] at h2
  simp only [h3,Bool.and_false,Bool.not_false,Bool.and_true,cond_false] at h2
  split at h2 <;> (try (simp at h2; done))
  all_goals (cases hb:Nat.beq ti.sz 1 <;> rw [hb] at h2 <;> simp at h2; subst h2; rfl)
theorem aMg {d:Nat} (ih:∀ t ti qs,cU tt t=some ti→leaves tt d t=some qs→qs.length=ti.sz∧∀ (X Y:List V) (r:Bool),fN qs X Y=some r→yC P d t (if ti.agg then .agg X else X.headD .undef) (if ti.agg then .agg Y else Y.headD .undef)=some r)
  (i1:∀ t ti qs,cU tt t=some ti→leaves tt d t=some qs→ti.agg=false→qs.length=1) :
  ∀ (fs : List Field) (n : Nat) (qs : List Nat), aA5 tt (leaves tt d) n (fs.map fun f => (f.offset, f.type)) = some qs → fs.all (fun f => f.name != "_") = true → ∀ (xs ys : List V) (r : Bool),
   fN qs (xs.drop n) (ys.drop n)=some r→aJx P (yC P d) xs ys fs=some r
 | [],n,qs,h,_,xs,ys,r,he=>by
  simp only [List.map_nil,aA5,zzz] at h
  subst h
  have:=a4s he
  rw [List.eq_nil_of_length_eq_zero this.1,List.eq_nil_of_length_eq_zero this.2] at he
  simp only [fN,zzz] at he
  subst he
  rfl
 | f::fs,n,qs,h,hn,xs,ys,r,he=>by
  simp only [zsx,aA5] at h
  split at h
  ·rename_i ti q1 hti hq1
   cases hc:(Nat.beq f.offset n && Nat.blt 0 ti.sz) with
   | false=>simp [hc] at h
   | true =>
    rw [hc] at h
    simp only [cond_true,zyy] at h
    obtain ⟨q2,h,rfl⟩:=h
    simp only [zxz] at hc
    have ho:=zzx hc.1
    have hpos:0 < ti.sz:=zxx hc.2
    simp only [List.all_cons,zxz] at hn
    obtain ⟨hl,h0⟩:=ih f.type ti q1 hti hq1
    have hlen:=a4s he
    obtain ⟨a,b,h1,h2,rfl⟩:=aBa he
    rw [hl,List.drop_drop,List.drop_drop] at h2
    have h3:=aMg ih i1 fs (n+ti.sz) q2 h hn.2 xs ys b h2
    rw [hl] at h1
    have h4:=h0 _ _ a h1
    obtain ⟨tok,htt⟩:=hT f.type ti hti
    have hp:∀ zs:List V,(zs.drop n).length=(q1++q2).length→a4k P f.type zs f.offset=some (if ti.agg then .agg ((zs.drop n).take ti.sz) else ((zs.drop n).take ti.sz).headD .undef):=by
     intro zs hz
     simp only [List.length_drop,zwy,hl] at hz
     unfold a4k
     have hag:=tok.agg; have hsz:=tok.sz
     rw [htt] at hag hsz
     rw [hag,hsz,ho]
     cases hg:ti.agg with
     | true =>
      simp only [if_true]
      rw [if_pos (by omega)]
     | false =>
      have h1:ti.sz=1:=by rw [← hl]; exact i1 f.type ti q1 hti hq1 hg
      simp only [h1]
      have:n < zs.length:=by omega
      rw [zyz this,List.drop_eq_getElem_cons this]
      rfl
    simp only [aJx]
    have hne : (f.name = "_") = False := by
     have:=hn.1
     simp only [bne_iff_ne,ne_eq] at this
     exact eq_false this
    simp only [hne,if_false,hp xs hlen.1,hp ys hlen.2,h4]
    cases a <;> simp [h3]
  ·simp at h
theorem aX3:∀ (d:Nat) (t:TypeId) (ti:TI) (qs:List Nat),cU tt t=some ti→leaves tt d t=some qs→qs.length=ti.sz∧∀ (X Y:List V) (r:Bool),fN qs X Y=some r →
  yC P d t (if ti.agg then .agg X else X.headD .undef) (if ti.agg then .agg Y else Y.headD .undef)=some r
 | 0,t,ti,qs,hti,hf=>by simp [leaves] at hf
 | d+1,t,ti,qs,hti,hf=>by
  obtain ⟨tok,htt⟩:=hT t ti hti
  have hdd:=tok.d
  rw [htt] at hdd
  simp only [leaves,hti] at hf
  have key:∀ q:Nat,(bif Nat.beq ti.sz 1 && !ti.agg then some [q] else none)=some qs→ti.sz=1∧ti.agg=false∧qs=[q]:=by
   intro q h
   cases hc:(Nat.beq ti.sz 1 && !ti.agg) with
   | false=>simp [hc] at h
   | true =>
    rw [hc] at h
    simp only [cond_true,zzz] at h
    simp only [zxz,Bool.not_eq_true'] at hc
    exact ⟨zzx hc.1,hc.2,h.symm⟩
  have one:∀ {q:Nat} {X Y:List V} {r:Bool},fN [q] X Y=some r→∃ x y,X=[x]∧Y=[y]∧eqS q x y=some r:=by
   intro q X Y r h
   have:=a4s h
   obtain ⟨x,rfl⟩:=List.length_eq_one_iff.1 this.1
   obtain ⟨y,rfl⟩:=List.length_eq_one_iff.1 this.2
   refine ⟨x,y,rfl,rfl,?_⟩
   simp only [fN] at h
   cases hq:eqS q x y <;> simp [hq] at h
   rw [h]
  cases hd:ti.d with
  | bool =>
   rw [hd] at hf hdd
   simp only [aJ7] at hdd
   obtain ⟨h1,h2,rfl⟩:=key 0 hf
   refine ⟨h1.symm,fun X Y r he=>?_⟩
   obtain ⟨x,y,rfl,rfl,hs⟩:=one he
   simp only [h2,yC,hdd]
   clear one key tok hf hdd hd he
   cases x <;> cases y <;> simp [eqS] at hs ⊢ <;> exact hs
  | int k =>
   rw [hd] at hf hdd
   simp only [aJ7] at hdd
   obtain ⟨h1,h2,rfl⟩:=key 1 hf
   refine ⟨h1.symm,fun X Y r he=>?_⟩
   obtain ⟨x,y,rfl,rfl,hs⟩:=one he
   simp only [h2,yC,hdd]
   clear one key tok hf hdd hd he
   cases x <;> cases y <;> simp [eqS] at hs ⊢ <;> exact hs
  | str =>
   rw [hd] at hf hdd
   simp only [aJ7] at hdd
   obtain ⟨h1,h2,rfl⟩:=key 2 hf
   refine ⟨h1.symm,fun X Y r he=>?_⟩
   obtain ⟨x,y,rfl,rfl,hs⟩:=one he
   simp only [h2,yC,hdd]
   clear one key tok hf hdd hd he
   cases x <;> cases y <;> simp [eqS] at hs ⊢ <;> exact hs
  | st fs =>
   rw [hd] at hf hdd
   obtain ⟨a,hu,hfs,hbl⟩:=hdd
   cases hc:(ti.eq && ti.agg) with
   | false=>simp [hc] at hf
   | true =>
    simp only [hc,cond_true] at hf
    simp only [zxz] at hc
    split at hf
    ·rename_i q hq
     cases hl:Nat.beq q.length ti.sz with
     | false=>simp [hl] at hf
     | true =>
      simp only [hl,cond_true,zzz] at hf
      subst hf
      refine ⟨zzx hl,fun X Y r he=>?_⟩
      have hst:=(tok.eq hc.1).1
      rw [htt] at hst
      simp only [hc.2,if_true,yC,hu,hst,zuy,if_false]
      rw [← hfs] at hq
      refine aMg hT (fun t ti qs h1 h2=>aX3 d t ti qs h1 h2) (fun t ti qs h1 h2 h3=>?_) a.toList 0 q hq hbl X Y r (by simpa using he)
      exact b0s h1 h2 h3
    ·simp at hf
  | _=>rw [hd] at hf; simp at hf
end
end Go.Fbs

/- The words answer what the operations do: one by one. -/
namespace Go.Fbs
section
variable {x y i w:V}
theorem bJb {op:UnOp} (h:unV op x.aF=some w):∃ v,unV op x=some v∧v.aF=w:=by
 unfold unV at h
 split at h
 ·rename_i h1
  rw [lP h1]
  simp only [zzz] at h
  subst h
  exact ⟨_,rfl,rfl⟩
 ·rename_i h1
  rw [oX h1]
  simp only [zzz] at h
  subst h
  exact ⟨_,rfl,rfl⟩
 ·simp at h
theorem bBp {k:IntKind} (h:xU k x.aF=some w):∃ v,xU k x=some v∧v.aF=w:=by
 unfold xU at h
 split at h
 ·rename_i h1
  rw [lP h1]
  simp only [zzz] at h
  subst h
  exact ⟨_,rfl,rfl⟩
 ·simp at h
theorem b7p (h:wP x.aF=some w):∃ v,wP x=some v∧v.aF=w:=by
 unfold wP at h
 split at h
 ·rename_i h1
  rw [a1k h1]
  simp only [zzz] at h
  subst h
  exact ⟨_,rfl,rfl⟩
 ·simp at h
theorem aI6:∀ {es:List V} {bs:List UInt8},(es.map V.aF).mapM (fun (v:V)=>match v with | .int .u8 n=>some (UInt8.ofNat n.toNat) | _=>none)=some bs →
  es.mapM (fun (v:V)=>match v with | .int .u8 n=>some (UInt8.ofNat n.toNat) | _=>none)=some bs
 | [],bs,h=>h
 | e::es,bs,h=>by
  simp only [zsx,List.mapM_cons,Option.bind_eq_bind,zwz] at h ⊢
  obtain ⟨b,h1,bs',h2,h3⟩:=h
  refine ⟨b,?_,bs',aI6 h2,h3⟩
  split at h1
  ·rename_i h4; rw [lP h4]; exact h1
  ·simp at h1
theorem b7q (h:wQ x.aF=some w):∃ v,wQ x=some v∧v.aF=w:=by
 unfold wQ at h
 split at h
 ·rename_i g es h1
  obtain ⟨g',es',rfl,rfl⟩:=aFu h1
  simp only [zyy] at h
  obtain ⟨bs,h2,rfl⟩:=h
  exact ⟨.str bs,congrArg (Option.map V.str) (aI6 h2),rfl⟩
 ·simp at h
theorem a9a {x:Option V} {d t n:Nat} (h:nO (x.map V.aF) d t=some n):nO x d t=some n:=by
 cases x with
 | none=>exact h
 | some v =>
  simp only [Option.map_some,nO] at h
  split at h
  ·rename_i h1; simp at h1
  ·rename_i h1
   simp only [zzz] at h1
   rw [lP h1]; exact h
  ·simp at h
theorem bGc {lo hi:Option V} (h:yD x.aF (lo.map V.aF) (hi.map V.aF)=some w):∃ v,yD x lo hi=some v∧v.aF=w:=by
 unfold yD at h
 split at h
 ·rename_i s h1
  rw [a1k h1]
  split at h
  ·rename_i hh h2
   split at h
   ·rename_i l h3
    simp only [zzz] at h
    subst h
    exact ⟨_,by simp only [yD,a9a h2,a9a h3]; rfl,rfl⟩
   ·simp at h
  ·simp at h
 ·simp at h
theorem a96 (es:List V) (n:Nat):(es.map V.aF).all (fun e=>e.cells.length == n)=es.all (fun e=>e.cells.length == n):=by
 rw [List.all_map]; congr 1; funext v; simp only [Function.comp_def,sY]
theorem bGd {n:Nat} {lo hi:Option V} (h:b0d n x.aF (lo.map V.aF) (hi.map V.aF)=some w):∃ v,aL2 n x lo hi=some v∧v.aF=w:=by
 unfold b0d at h
 split at h
 ·rename_i g es h1
  obtain ⟨g',es,rfl,rfl⟩:=aFu h1
  rw [zsy] at h
  split at h
  ·rename_i hh h2
   split at h
   ·rename_i l h3
    rw [a96] at h
    split at h
    ·rename_i h4
     simp only [zzz] at h
     subst h
     refine ⟨_,by simp only [aL2,a9a h2,a9a h3]; exact if_pos h4,?_⟩
     simp [V.aF,cI,List.map_take,List.map_drop]
    ·simp at h
   ·simp at h
  ·simp at h
 ·simp at h
theorem bDp (h:kA x.aF i.aF=some w):∃ v,kA x i=some v∧v.aF=w:=by
 unfold kA at h
 split at h
 ·rename_i s k n h1 h2
  rw [a1k h1,lP h2]
  split at h
  ·rename_i hn
   simp only [zyy] at h
   obtain ⟨b,h3,rfl⟩:=h
   exact ⟨_,by simp only [kA]; rw [if_pos hn,h3]; rfl,rfl⟩
  ·simp at h
 ·simp at h
theorem aOs {g:Bool} {n off:Nat} {cs:List V} (h:sI g n (cs.map V.aF) off=some w):∃ v,sI g n cs off=some v∧v.aF=w:=by
 unfold sI at h ⊢
 cases g with
 | true =>
  simp only [if_true,zsy] at h ⊢
  split at h
  ·rename_i hl
   simp only [zzz] at h
   subst h
   refine ⟨_,if_pos hl,?_⟩
   simp [V.aF,cI,List.map_take,List.map_drop]
  ·simp at h
 | false =>
  simp only [zuy,if_false,zvz,zyy] at h ⊢
  exact h
theorem bDq {len n:Nat} {g:Bool} (h:a7q len g n x.aF i.aF=some w):∃ v,a7q len g n x i=some v∧v.aF=w:=by
 unfold a7q at h
 split at h
 ·rename_i cs k m h1 h2
  obtain ⟨cs,rfl,rfl⟩:=aA9 h1
  rw [lP h2]
  split at h
  ·rename_i hn
   obtain ⟨v,h3,h4⟩:=aOs h
   exact ⟨v,by simp only [a7q]; rw [if_pos hn,h3],h4⟩
  ·simp at h
 ·simp at h
theorem yH {n:Nat} {v u:V} (h:bF n v=some u):u=v∧∃ cs,v = .agg cs∧cs.length=n∧cs.all sc=true:=by
 unfold bF at h
 split at h
 ·split at h
  ·rename_i hc
   simp only [zzz] at h
   exact ⟨h.symm,_,rfl,hc.1,hc.2⟩
  ·simp at h
 ·simp at h
theorem tH {v u:V} (h:kT v=some u):u=v∧sc v=true:=by
 unfold kT at h
 split at h
 ·rename_i hs
  simp only [zzz] at h
  exact ⟨h.symm,hs⟩
 ·simp at h
theorem b31 {g:Bool} {n off:Nat} (h:uC g n off x.aF=some w):∃ cs v,x = .agg cs∧sI g n cs off=some v∧v.aF=w∧(if g then bF n w=some w else sc w=true):=by
 unfold uC at h
 split at h
 ·rename_i cs h1
  obtain ⟨cs,rfl,rfl⟩:=aA9 h1
  cases g with
  | true =>
   simp only [if_true] at h ⊢
   split at h
   ·rename_i hl
    obtain ⟨rfl,cs',h2,h3⟩:=yH h
    obtain ⟨v,h4,h5⟩:=aOs (g:=true) (n:=n) (off:=off) (cs:=cs) (w:=.agg ((cs.map V.aF).drop off |>.take n)) (by unfold sI; simp only [if_true]; rw [if_pos hl])
    exact ⟨cs,v,rfl,h4,h5,h⟩
   ·simp at h
  | false =>
   simp only [zuy,if_false] at h ⊢
   split at h
   ·rename_i c hc
    obtain ⟨rfl,h2⟩:=tH h
    obtain ⟨v,h4,h5⟩:=aOs (g:=false) (n:=n) (off:=off) (cs:=cs) (w:=w) (by unfold sI; simp only [zuy,if_false]; exact hc)
    exact ⟨cs,v,rfl,h4,h5,h2⟩
   ·simp at h
 ·simp at h
theorem zG {n:Nat} (hn:0 < n) {v:V} (h:bF n v=some v):nT n v:=by
 obtain ⟨_,cs,h1,h2,h3⟩:=yH h
 cases n with
 | zero=>omega
 | succ n=>exact ⟨cs,h1,h2,h3⟩
theorem bDr {g:Bool} {n:Nat} (h:gX g n x.aF i.aF=some w) (hn:0 < n) (h1:g=false→n=1):∃ cs,a2f n x i=some (.ro cs)∧cs.map V.aF=w.cells∧nT (if g then n else 0) w:=by
 unfold gX at h
 split at h
 ·rename_i t es k m h2 h3
  obtain ⟨t,es,rfl,rfl⟩:=aFu h2
  rw [lP h3]
  split at h
  ·rename_i hm
   rw [zvz] at h
   cases he : es[m.toNat]? with
   | none=>simp [he] at h
   | some e =>
    simp only [he,Option.map_some] at h
    have hlen:e.cells.length=n∧w=e.aF∧nT (if g then n else 0) w:=by
     cases g with
     | true =>
      simp only [if_true] at h ⊢
      obtain ⟨rfl,cs,h4,h5,h6⟩:=yH h
      refine ⟨?_,rfl,zG hn h⟩
      rw [← sY,h4]; exact h5
     | false =>
      simp only [zuy,if_false] at h ⊢
      obtain ⟨rfl,h4⟩:=tH h
      refine ⟨?_,rfl,h4⟩
      rw [← sY,a7s h4,h1 rfl]; rfl
    obtain ⟨h4,rfl,h5⟩:=hlen
    refine ⟨e.cells,?_,(a44 e).symm,h5⟩
    simp only [a2f]
    rw [if_pos hm,he]
    simp [h4]
  ·simp at h
 ·simp at h
theorem bGe {j:Nat} (h:aC x.aF j=some w):∃ v,aC x j=some v∧v.aF=w:=by
 unfold aC at h
 split at h
 ·rename_i vs h1
  obtain ⟨vs,rfl,rfl⟩:=bBn h1
  simp only [zvz,zyy] at h
  exact h
 ·simp at h
theorem bDs {P:Program} {g:Bool} {ts:List TypeId} (h:mmK g x.aF y.aF=some w):∃ v,vO P (if g then .max else .min) ts [x,y]=some v∧v.aF=w:=by
 unfold mmK at h
 split at h
 ·rename_i k a k' b h1 h2
  rw [lP h1,lP h2]
  simp only [zzz] at h
  subst h
  cases g <;> exact ⟨_,rfl,rfl⟩
 ·simp at h
theorem bDt (h:aRw x.aF=some w):∃ v,aOb x=some v∧v.aF=w:=by
 unfold aRw at h
 split at h
 ·rename_i f cs h1
  obtain ⟨cs,rfl,rfl⟩:=aTp h1
  simp only [zzz] at h
  exact ⟨_,rfl,by rw [← h]; simp [V.aF,cI]⟩
 ·simp at h
def b7r (m:Hp) (v:V):Option (Nat×List V) :=
 match v with
 | .ptr l o =>
  match m.H[l]? with
  | some (.cells _ cs)=>some (o,cs)
  | _=>none
 | _=>none
def isSelf:V→Bool
 | .gH=>true
 | .ptr _ _=>true
 | _=>false
def nZ:List CK→List V→Bool
 | [],[]=>true
 | .pl::ks,_::ss=>nZ ks ss
 | .self _::ks,s::ss=>nZ ks ss && isSelf s
 | .gr _ _::ks,s::ss=>nZ ks ss && aTi s
 | _,_=>false
def a6o (m:Hp):List AK→List V→Bool
 | [],[]=>true
 | .v::ks,_::xs=>a6o m ks xs
 | .b off cks::ks,x::xs=>(match b7r m x with | some q=>(Nat.beq q.1 off && a6o m ks xs) && nZ cks q.2 | none=>false)
 | _,_=>false
def aMh (m:Hp) (sg:iA) (xs:List V):Bool :=
 match sJ sg.gr xs with
 | some ys=>a6o m sg.as ys
 | none=>false
def findD (tt:TT) (m:Hp) (f:FuncId) (xs:List V):List FuncId→Option (FuncId×iA)
 | []=>none
 | e::r =>
  match a4q tt e with
  | some q=>bif Nat.beq q.1 f && aMh m q.2 xs then some (e,q.2) else findD tt m f xs r
  | none=>findD tt m f xs r
noncomputable def aCh (tt:TT) (p:PT):ET:=fun f args m =>
 match findD tt m f args (tt.sg.map (·.1)) with
 | some (e,sg)=>aOl sg (p e) args m
 | none=>none
theorem a2o {tt:TT} {m:Hp} {f:FuncId} {xs:List V} {e:FuncId} {sg:iA} : ∀ {l:List FuncId},findD tt m f xs l=some (e,sg)→a4q tt e=some (f,sg)
 | [],h=>by simp [findD] at h
 | e'::r,h=>by
  simp only [findD] at h
  split at h
  ·rename_i q hq
   cases hc:(Nat.beq q.1 f && aMh m q.2 xs) with
   | true =>
    rw [hc] at h
    simp only [cond_true,zzz,zvy] at h
    obtain ⟨rfl,rfl⟩:=h
    simp only [zxz] at hc
    rw [hq,← zzx hc.1]
   | false=>rw [hc] at h; exact a2o h
  ·exact a2o h
noncomputable abbrev CE (tt:TT) (p:PT):cN:=⟨isE tt,fun f a=>bif Nat.blt f a06 then p f (a.map V.aF) else none,aCh tt p,jM tt.dyn,b0k tt⟩
theorem bBq {tt:TT} {p:PT} {l:List V} (h:wR p x.aF (l.map V.aF)=some w):∃ v,aLn (CE tt p) x l=some v∧v=w:=by
 unfold wR at h
 split at h
 ·rename_i f cs h1
  obtain ⟨cs,rfl,rfl⟩:=aTp h1
  refine ⟨w,?_,rfl⟩
  simp only [aLn]
  rw [List.map_append]; exact h
 ·simp at h
end
def gP (ρ:Nat→V):Gd→Prop
 | none=>True
 | some (a,b)=>a.den ρ = .bool b
def dQ (ρ:Nat→V) (gk:Nat→Option Nat) (gb:List Nat) (T:List (Nat×Nat)):SV→V→Prop
 | .val a,v=>v.aF=a.den ρ
 | .nI a g,v=>(gP ρ g→v.aF=a.den ρ)∧(¬ gP ρ g→v = .undef)
 | .grow k sz a,v=>∃ es,a.den ρ = .sl .ro (es.map V.aF) ∧ ((v = .sl .full es ∧ (sz = 1 → es.length = 0)) ∨ ∃ i,gk k = some i ∧ v = .sl (.own i) es ∧ T[i]? = some (es.length,sz))
 | .nJ,v=>v = .sl .full []
 | .elem a n off g,v=>(gP ρ g→∃ cs:List V,v = .ro (cs.drop off)∧cs.map V.aF=(a.den ρ).cells∧nT n (a.den ρ))∧(¬ gP ρ g→v = .undef)
 | .ptr b off g,v=>(gP ρ g → ∃ l : Nat,gb[b]? = some l ∧ v = .ptr l off) ∧ (¬ gP ρ g → v = .undef)
 | .pix b off n i g,v=>(gP ρ g → ∃ (l : Nat) (q : IntKind) (z : Nat),gb[b]? = some l ∧ i.den ρ = .int q z ∧ z < n ∧ v = .ptr l (off + z)) ∧ (¬ gP ρ g → v = .undef)
 | .stv a nl,v=>v.aF = a.den ρ ∧ ∃ cs,v = .agg cs ∧ ∀ j ∈ nl,cs[j]? = some (.sl .full [])
 | .self _ b a,v=>∃ l : Nat,gb[b]? = some l ∧ ((a.den ρ = .bool false ∧ v = .gH) ∨ (a.den ρ = .bool true ∧ v = .ptr l 0))
 | .kX f caps,v=>∃ cs,v = .func f cs ∧ cs.length = caps.length ∧ ∀ (i : Nat) q c,caps[i]? = some q → cs[i]? = some c → ∃ l,gb[q.2]? = some l ∧ c = .ptr l 0
def Cells (ρ:Nat→V) (gk:Nat→Option Nat) (gb:List Nat) (T:List (Nat×Nat)) (nv:Nat) (cells:List SV) (cs:List V):Prop :=
 cells.length = cs.length ∧ ∀ (j : Nat) s c,cells[j]? = some s → cs[j]? = some c → dQ ρ gk gb T s c ∧ s.below nv = true
def STy (cells : List SV) (e : Option Nat) : Prop:=∀ (j t b : Nat) a,cells[j]? = some (.self t b a) → e = some t
def HAt (m : Hp) (l : Nat) (cells : List SV) (cs : List V) : Prop:=∃ e,m.H[l]? = some (.cells e cs) ∧ STy cells e
structure aH (N:Nat) (gk:Nat→Option Nat) (gb:List Nat) (S:SS) (ρ:Nat→V) (env:Env) (m:Hp):Prop where
 n:env.n=N
 cE:∀ t s,S.look t=some s→t < N∧dQ ρ gk gb m.T s (env.f t)∧s.below S.nv=true
 boxes : ∀ (b : Nat) cells,S.boxes[b]? = some (some cells) → ∃ (l : Nat) (cs : List V),gb[b]? = some l ∧ HAt m l cells cs ∧ Cells ρ gk gb m.T S.nv cells cs
 lT:gb.length=S.boxes.length
 oY : ∀ (b b' l : Nat),gb[b]? = some l → gb[b']? = some l → b = b'
 blt:∀ l ∈ gb,l < m.H.length
 kY:∀ k k' i,gk k=some i→gk k'=some i→k=k'
 tY:∀ k i,gk k=some i→k < S.nk∧i < m.T.length
 known:∀ i n,assoc S.known i=some n→i < S.nv∧nT n (ρ i)
 cS:∀ i ∈ S.cS,i < S.nv∧vU (ρ i)=true
 own : ∀ b,b < S.own → gb[b]? = some b
def aZ (ρ ρ':Nat→V) (n:Nat):Prop:=∀ i,i < n→ρ' i=ρ i
theorem aZ.refl (ρ:Nat→V) (n:Nat):aZ ρ ρ n:=fun _ _=>rfl
theorem aZ.trans {ρ ρ' ρ'':Nat→V} {n n':Nat} (h:aZ ρ ρ' n) (h':aZ ρ' ρ'' n') (hn:n≤n'):aZ ρ ρ'' n:=fun i hi=>(h' i (by omega)).trans (h i hi)
theorem bZ (ρ:Nat→V) (n:Nat) (y:V):aZ ρ (ext ρ n y) n:=by
 intro i hi
 unfold ext
 have:Nat.beq i n=false:=by
  cases h:Nat.beq i n with
  | false=>rfl
  | true=>have:=zzx h; omega
 rw [this]; rfl
theorem kD (ρ:Nat→V) (n:Nat) (y:V):ext ρ n y n=y:=by simp [ext]
theorem iC {i n:Nat} (h:Nat.blt i n=true):i < n:=zxx h
theorem gQ {ρ ρ':Nat→V} {n:Nat} (h:aZ ρ ρ' n) {a:A} (ha:a.below n=true):a.den ρ'=a.den ρ:=by
 cases a with
 | v i=>exact h i (iC ha)
 | k x=>rfl
 | c i j=>show aA (ρ' i) j=aA (ρ i) j; rw [h i (iC ha)]
theorem tI {ρ ρ':Nat→V} {n:Nat} (h:aZ ρ ρ' n) {g:Gd} (hg:g.below n=true):gP ρ' g↔gP ρ g:=by
 cases g with
 | none=>exact Iff.rfl
 | some q=>obtain ⟨a,b⟩:=q; simp only [gP]; rw [gQ h hg]
theorem dQ.agree {ρ ρ':Nat→V} {n:Nat} (h:aZ ρ ρ' n) {gk:Nat→Option Nat} {gb:List Nat} {T:List (Nat×Nat)} {s:SV} {v:V} (hs:s.below n=true) (r:dQ ρ gk gb T s v):dQ ρ' gk gb T s v:=by
 cases s with
 | val a=>simp only [dQ]; rw [gQ h hs]; exact r
 | nI a g =>
  simp only [SV.below,zxz] at hs
  simp only [dQ]; rw [gQ h hs.1,tI h hs.2]; exact r
 | grow k sz a=>simp only [dQ]; rw [gQ h hs]; exact r
 | nJ=>exact r
 | elem a m off g =>
  simp only [SV.below,zxz] at hs
  simp only [dQ]; rw [gQ h hs.1,tI h hs.2]; exact r
 | ptr b off g=>simp only [dQ]; rw [tI h hs]; exact r
 | pix b off n i g =>
  simp only [SV.below,zxz] at hs
  simp only [dQ]; rw [gQ h hs.1,tI h hs.2]; exact r
 | stv a nl=>exact ⟨by rw [gQ h hs]; exact r.1,r.2⟩
 | kX f caps=>exact r
 | self t b a=>simp only [dQ]; rw [gQ h hs]; exact r
theorem A.cF {a:A} {n n':Nat} (h:a.below n=true) (hn:n≤n'):a.below n'=true:=by
 cases a with
 | v i=>exact Nat.ble_eq_true_of_le (Nat.le_trans (iC h) hn)
 | k x=>rfl
 | c i j=>exact Nat.ble_eq_true_of_le (Nat.le_trans (iC h) hn)
theorem Gd.cF {g:Gd} {n n':Nat} (h:Gd.below n g=true) (hn:n≤n'):Gd.below n' g=true:=by
 cases g with
 | none=>rfl
 | some q=>exact A.cF (a:=q.1) h hn
theorem SV.cF {s:SV} {n n':Nat} (h:s.below n=true) (hn:n≤n'):s.below n'=true:=by
 cases s with
 | val a=>exact A.cF (a:=a) h hn
 | nI a g =>
  simp only [SV.below,zxz] at h ⊢
  exact ⟨A.cF h.1 hn,Gd.cF h.2 hn⟩
 | grow k sz a=>exact A.cF (a:=a) h hn
 | nJ=>rfl
 | elem a m off g =>
  simp only [SV.below,zxz] at h ⊢
  exact ⟨A.cF h.1 hn,Gd.cF h.2 hn⟩
 | ptr b off g=>exact Gd.cF (g:=g) h hn
 | pix b off m i g =>
  simp only [SV.below,zxz] at h ⊢
  exact ⟨A.cF h.1 hn,Gd.cF h.2 hn⟩
 | stv a nl=>exact A.cF (a:=a) h hn
 | kX f caps=>rfl
 | self t b a=>exact A.cF (a:=a) h hn
theorem Cells.agree {ρ ρ':Nat→V} {n n':Nat} (h:aZ ρ ρ' n) (hn:n≤n') {gk:Nat→Option Nat} {gb:List Nat} {T:List (Nat×Nat)} {cells:List SV} {cs:List V} (r:Cells ρ gk gb T n cells cs):Cells ρ' gk gb T n' cells cs :=
 ⟨r.1,fun j s c h1 h2=>let ⟨h3,h4⟩:=r.2 j s c h1 h2; ⟨h3.agree h h4,SV.cF h4 hn⟩⟩
theorem aH.more {N:Nat} {gk:Nat→Option Nat} {gb:List Nat} {S:SS} {ρ ρ':Nat→V} {env:Env} {m:Hp} (c:aH N gk gb S ρ env m) (h:aZ ρ ρ' S.nv) {nv:Nat} (hn:S.nv≤nv) {kn:List (Nat×Nat)}
  (hk:∀ i n,assoc kn i=some n→i < nv∧nT n (ρ' i)) {bl:List Nat×List Nat} (hl:∀ i ∈ bl.1,i < nv∧vU (ρ' i)=true):aH N gk gb (S.lL nv kn bl) ρ' env m where
 n:=c.n
 cE t s hs:=let ⟨h1,h2,h3⟩:=c.cE t s hs; ⟨h1,h2.agree h h3,SV.cF h3 hn⟩
 boxes b cells hb:=let ⟨l,cs,h0,h1,h2⟩:=c.boxes b cells hb; ⟨l,cs,h0,h1,h2.agree h hn⟩
 lT:=c.lT
 oY:=c.oY
 blt:=c.blt
 kY:=c.kY
 tY:=c.tY
 known:=hk
 cS:=hl
 own:=c.own
section
variable {N:Nat} {gk:Nat→Option Nat} {gb:List Nat} {S:SS} {ρ:Nat→V} {env:Env} {m:Hp}
theorem vY {T : List (Nat × Nat)} {s : SV} {v : V} {a : A} (r : dQ ρ gk gb T s v) (h : s.a? = some a) : v.aF = a.den ρ:=by
 cases s <;> simp [SV.a?] at h
 ·subst h; exact r
 ·subst h
  obtain ⟨es,h1,h2⟩:=r
  rw [h1]
  rcases h2 with ⟨rfl,_⟩ | ⟨i,_,rfl,_⟩ <;> simp [V.aF,cI]
 ·subst h
  have:v = .sl .full []:=r
  rw [this]; rfl
 ·subst h; exact r.1
theorem a6p {t b:Nat} {s:SV} {a:A} (h:a83 t b s=some a):s = .self t b a:=by
 unfold a83 at h
 split at h
 ·rename_i t' b' a'
  cases hc:(Nat.beq t' t && Nat.beq b' b) with
  | false=>rw [hc] at h; simp at h
  | true =>
   rw [hc] at h
   simp only [cond_true,zzz] at h
   simp only [zxz] at hc
   rw [h,zzx hc.1,zzx hc.2]
 ·simp at h
theorem aTq {T : List (Nat × Nat)} {t b l : Nat} {s : SV} {a : A} {v : V} (h : a83 t b s = some a) (hb : gb[b]? = some l) (r : dQ ρ gk gb T s v) :
  (a.den ρ = .bool false∧v = .gH)∨(a.den ρ = .bool true∧v = .ptr l 0):=by
 obtain ⟨rfl⟩:=a6p h
 obtain ⟨l',h1,h2⟩:=r
 rw [hb] at h1
 simp only [zzz] at h1
 subst h1
 exact h2
theorem b0t {t b:Nat} {s:SV} {a:A} {n:Nat} (hb:s.below n=true) (h:a83 t b s=some a):a.below n=true:=by
 obtain ⟨rfl⟩:=a6p h
 exact hb
theorem zH {s : SV} {a : A} {n : Nat} (hb : s.below n = true) (h : s.a? = some a) : a.below n = true:=by
 cases s <;> simp [SV.a?] at h <;> subst h <;> first | exact hb | rfl
theorem a6q (v:V):(∀ T,dQ ρ gk gb T (a7c v) v)∧∀ n,(a7c v).below n=true:=by
 unfold a7c
 split
 ·exact ⟨fun _=>rfl,fun _=>rfl⟩
 ·exact ⟨fun _=>rfl,fun _=>rfl⟩
theorem aH.gI (c:aH N gk gb S ρ env m) {x:Operand} {s:SV} (h:S.gI x=some s):∃ v,Fbs.ev env x=some v∧dQ ρ gk gb m.T s v∧s.below S.nv=true:=by
 cases x with
 | tmp t =>
  obtain ⟨h1,h2,h3⟩:=c.cE t s h
  refine ⟨env.f t,?_,h2,h3⟩
  simp only [Fbs.ev,Env.get]
  rw [if_pos (by rw [c.n]; exact h1)]
 | const v =>
  simp only [SS.gI,zyy] at h
  obtain ⟨u,h1,rfl⟩:=h
  exact ⟨u,h1,(a6q (ρ:=ρ) (gk:=gk) (gb:=gb) u).1 _,(a6q (ρ:=ρ) (gk:=gk) (gb:=gb) u).2 _⟩
 | func f =>
  simp only [SS.gI,zzz] at h
  subst h
  exact ⟨_,rfl,rfl,rfl⟩
 | global g=>simp [SS.gI] at h
theorem aH.wU (c:aH N gk gb S ρ env m) {x:Operand} {a:A} (h:S.wU x=some a):∃ v,Fbs.ev env x=some v∧v.aF=a.den ρ∧a.below S.nv=true:=by
 simp only [SS.wU,zwz] at h
 obtain ⟨s,h1,h2⟩:=h
 obtain ⟨v,h3,h4,h5⟩:=c.gI h1
 exact ⟨v,h3,vY h4 h2,zH h5 h2⟩
theorem aFv {T:List (Nat×Nat)} {s:SV} {v:V} {a:A} {g:Gd} (hsame:∀ a b:Gd,Gd.same a b=true→a=b) (r:dQ ρ gk gb T s v) (h:s.ag g=some a):gP ρ g→v.aF=a.den ρ:=by
 cases s with
 | nI a' g' =>
  simp only [SV.ag] at h
  cases hg:Gd.same g' g with
  | false=>rw [hg] at h; simp at h
  | true =>
   rw [hg] at h
   simp only [cond_true,zzz] at h
   subst h
   rw [← hsame g' g hg]; exact r.1
 | _=>exact fun _=>vY r h
theorem aCi {s:SV} {a:A} {g:Gd} {n:Nat} (hb:s.below n=true) (h:s.ag g=some a):a.below n=true:=by
 cases s with
 | nI a' g' =>
  simp only [SV.ag] at h
  simp only [SV.below,zxz] at hb
  cases hg:Gd.same g' g with
  | false=>rw [hg] at h; simp at h
  | true=>rw [hg] at h; simp only [cond_true,zzz] at h; subst h; exact hb.1
 | _=>exact zH hb h
theorem b0u {x y:V} (h:b0f x y=true):x=y:=by
 unfold b0f at h
 split at h <;> simp_all
theorem A.fD {a b:A} (h:a.same b=true):a=b:=by
 unfold A.same at h
 split at h
 ·rw [zzx h]
 ·simp only [zxz] at h
  rw [zzx h.1,zzx h.2]
 ·rw [b0u h]
 ·simp at h
theorem Gd.fD {a b:Gd} (h:Gd.same a b=true):a=b:=by
 unfold Gd.same at h
 split at h
 ·rfl
 ·simp only [zxz,beq_iff_eq] at h
  rw [A.fD h.1,h.2]
 ·simp at h
theorem aH.jB (c:aH N gk gb S ρ env m) {g:Gd} {x:Operand} {a:A} (h:S.jB g x=some a):∃ v,Fbs.ev env x=some v∧(gP ρ g→v.aF=a.den ρ)∧a.below S.nv=true:=by
 simp only [SS.jB,zwz] at h
 obtain ⟨s,h1,h2⟩:=h
 obtain ⟨v,h3,h4,h5⟩:=c.gI h1
 exact ⟨v,h3,aFv (fun _ _=>Gd.fD) h4 h2,aCi h5 h2⟩
theorem aH.oR (c:aH N gk gb S ρ env m) {g:Gd} : ∀ {xs:List Operand} {as:List A},S.oR g xs=some as→∃ vs,Fbs.nN env xs=some vs∧(gP ρ g→vs.map V.aF=as.map (A.den ρ))∧as.all (A.below S.nv)=true∧vs.length=as.length
 | [],as,h=>by simp [SS.oR] at h; subst h; exact ⟨[],rfl,fun _=>rfl,rfl,rfl⟩
 | x::xs,as,h=>by
  simp only [SS.oR] at h
  split at h
  ·rename_i a as' h1 h2
   simp only [zzz] at h
   subst h
   obtain ⟨v,h3,h4,h5⟩:=c.jB h1
   obtain ⟨vs,h6,h7,h8,h9⟩:=c.oR h2
   exact ⟨v::vs,by simp only [Fbs.nN,h3,h6],fun hon=>by simp [h4 hon,h7 hon],by simp only [List.all_cons,h5,h8]; rfl,by simp [h9]⟩
  ·simp at h
theorem aH.a82 (c:aH N gk gb S ρ env m) {g:Gd} {x:Option Operand} {a:Option A} (h:S.a82 g x=some a):∃ v,a4m env x=some v∧(gP ρ g→v.map V.aF=a.map (A.den ρ))∧(∀ b,a=some b→b.below S.nv=true):=by
 cases x with
 | none=>simp [SS.a82] at h; subst h; exact ⟨none,rfl,fun _=>rfl,fun _ h=>by simp at h⟩
 | some x =>
  simp only [SS.a82,zyy] at h
  obtain ⟨a,h1,rfl⟩:=h
  obtain ⟨v,h3,h4,h5⟩:=c.jB h1
  exact ⟨some v,by simp [a4m,h3],fun hon=>by simp [h4 hon],fun b hb=>by simp at hb; subst hb; exact h5⟩
theorem aH.aCc (c:aH N gk gb S ρ env m) {g side:Gd} {x:Operand} {a:A} (h:S.aCc g side x=some a):∃ v,Fbs.ev env x=some v∧(gP ρ g→gP ρ side→v.aF=a.den ρ)∧a.below S.nv=true:=by
 simp only [SS.aCc,zwz] at h
 obtain ⟨s,h1,h2⟩:=h
 obtain ⟨v,h3,h4,h5⟩:=c.gI h1
 unfold SV.pk at h2
 split at h2
 ·rename_i a' ha
  simp only [zzz] at h2
  subst h2
  exact ⟨v,h3,fun hg _=>aFv (fun _ _=>Gd.fD) h4 ha hg,aCi h5 ha⟩
 ·exact ⟨v,h3,fun _ hs=>aFv (fun _ _=>Gd.fD) h4 h2 hs,aCi h5 h2⟩
theorem aH.mQ (c:aH N gk gb S ρ env m) {a:A} {n:Nat} (h:S.mQ a n=true):nT n (a.den ρ):=by
 cases a with
 | v i =>
  simp only [SS.mQ] at h
  split at h
  ·rename_i q hq
   have:=zzx h
   subst this
   exact (c.known i q hq).2
  ·simp at h
 | c i j =>
  simp only [SS.mQ,zxz] at h
  obtain ⟨h0,h⟩:=h
  have:=zzx h0
  subst this
  split at h
  ·rename_i q hq
   have hj:=iC h
   have:=(c.known i q hq).2
   cases q with
   | zero=>omega
   | succ q =>
    obtain ⟨cs,h1,h2,h3⟩:=this
    show sc (aA (ρ i) j)=true
    rw [h1]
    simp only [aA,V.cells]
    rw [zry,zyz (by omega)]
    exact List.all_eq_true.1 h3 _ (List.getElem_mem _)
  ·simp at h
 | k x =>
  simp only [SS.mQ,zxz] at h
  have:=zzx h.1
  subst this
  exact h.2
theorem aTr {l:List Nat} {i:Nat} (h:jM l i=true):i ∈ l:=by
 unfold jM at h
 rw [List.any_eq_true] at h
 obtain ⟨j,h1,h2⟩:=h
 rw [zzx h2]; exact h1
theorem aH.isB (c:aH N gk gb S ρ env m) {a:A} (h:S.isB a=true):vU (a.den ρ)=true:=by
 cases a with
 | v i=>exact (c.cS i (aTr h)).2
 | k x=>exact h
 | c i j=>simp [SS.isB] at h
theorem aH.a08 (c:aH N gk gb S ρ env m) {a:A} (ha:a.below S.nv=true) (h:vU (a.den ρ)=true):∀ i ∈ S.a08 a,i < S.nv∧vU (ρ i)=true:=by
 cases a with
 | v i =>
  intro j hj
  simp only [SS.a08] at hj
  cases hb:jM S.cS i with
  | true=>rw [hb] at hj; exact c.cS j hj
  | false =>
   rw [hb] at hj
   simp only [cond_false,List.mem_cons] at hj
   rcases hj with rfl | hj
   ·exact ⟨iC ha,h⟩
   ·exact c.cS j hj
 | k x=>exact c.cS
 | c i j=>exact c.cS
theorem aH.aCj (c:aH N gk gb S ρ env m) {i n:Nat} (h:S.mQ (.v i) n=true):i < S.nv:=by
 simp only [SS.mQ] at h
 split at h
 ·rename_i q hq; exact (c.known i q hq).1
 ·simp at h
end
end Go.Fbs

/- A word is spoken: what is known behind it. -/
namespace Go.Fbs
def jE (ρ:Nat→V) (g:Gd) (o:Option V):Option V :=
 match g with
 | none=>o
 | some (a,b)=>aQ (a.den ρ) b o
theorem b7s (p:PT) (ρ:Nat→V) (e:E) (g:Gd):b99 p ρ e g=jE ρ g (e.ev p ρ):=by
 cases g <;> rfl
theorem aW0 {x:V} {b:Bool} {o:Option V} {y:V} (h:aQ x b o=some y):(x = .bool b∧o=some y)∨(x ≠ .bool b∧y = .undef∧∀ o':Option V,aQ x b o'=some .undef):=by
 unfold aQ at h
 cases x with
 | bool t =>
  simp only at h
  by_cases ht:t=b
  ·subst ht; simp at h; exact .inl ⟨rfl,h⟩
  ·have:(t == b)=false:=by simpa using ht
   rw [this] at h
   simp at h
   exact .inr ⟨by simp [ht],h.symm,fun o'=>by simp [aQ,ht]⟩
 | undef=>simp at h; exact .inr ⟨by simp,h.symm,fun _=>rfl⟩
 | _=>simp at h
theorem xE {ρ:Nat→V} {g:Gd} {o:Option V} {y:V} (h:jE ρ g o=some y):(gP ρ g∧o=some y)∨(¬ gP ρ g∧y = .undef∧∀ o',jE ρ g o'=some .undef):=by
 cases g with
 | none=>exact .inl ⟨trivial,h⟩
 | some q =>
  obtain ⟨a,b⟩:=q
  rcases aW0 h with ⟨h1,h2⟩ | ⟨h1,h2,h3⟩
  ·exact .inl ⟨h1,h2⟩
  ·exact .inr ⟨h1,h2,h3⟩
theorem rS {ρ:Nat→V} {g:Gd} (h:gP ρ g) (o:Option V):jE ρ g o=o:=by
 cases g with
 | none=>rfl
 | some q =>
  obtain ⟨a,b⟩:=q
  simp only [gP] at h
  simp [jE,h,aQ]
theorem a9b {n k:Nat} (h:aOp n=some k):k=n∧0 < n:=by
 unfold aOp at h
 cases hb:Nat.beq n 0 with
 | true=>rw [hb] at h; simp at h
 | false =>
  rw [hb] at h
  simp at h
  refine ⟨h.symm,Nat.pos_of_ne_zero fun e=>?_⟩
  subst e; simp at hb
theorem bBr {p:PT} {ρ:Nat→V} {e:E} {y:V} {n:Nat} (h:e.ev p ρ=some y) (hk:uD e=some n):nT n y:=by
 have s0:∀ {o:Option V},o=some y→some 0=some n→(∀ z,o=some z→sc z=true)→nT n y:=fun ho h0 hs=>by
  simp only [zzz] at h0; subst h0; exact hs _ ho
 cases e with
 | id a=>simp [uD] at hk
 | pre n a=>simp [uD] at hk
 | flip m1 m2 s i c =>
  simp only [E.ev] at h
  refine s0 h hk fun z hz=>?_
  unfold a4p at hz
  split at hz
  ·split at hz
   ·split at hz
    ·simp only [zzz] at hz; subst hz; rfl
    ·simp only [zyy] at hz; obtain ⟨_,_,rfl⟩:=hz; rfl
   ·simp at hz
  ·simp at hz
 | nQ a=>simp only [E.ev] at h; exact s0 h hk fun z hz=>by unfold nQ at hz; split at hz <;> simp at hz; subst hz; rfl
 | jA a=>simp only [E.ev] at h; exact s0 h hk fun z hz=>by unfold jA at hz; split at hz <;> simp at hz; subst hz; rfl
 | bin op a b=>simp only [E.ev] at h; exact s0 h hk fun z hz=>(aX2 hz).2
 | eqB q a b=>simp only [E.ev] at h; exact s0 h hk fun z hz=>by unfold aJ4 at hz; split at hz <;> simp at hz; subst hz; rfl
 | eqA q g a b =>
  simp only [E.ev] at h
  refine s0 h hk fun z hz=>?_
  unfold aFo at hz
  split at hz
  ·simp only [zyy] at hz; obtain ⟨_,_,rfl⟩:=hz; rfl
  ·simp at hz
 | un op a =>
  simp only [E.ev] at h
  refine s0 h hk fun z hz=>?_
  unfold unV at hz
  split at hz <;> simp at hz <;> subst hz <;> rfl
 | mm g a b=>simp only [E.ev] at h; exact s0 h hk fun z hz=>by unfold mmK at hz; split at hz <;> simp at hz; subst hz; rfl
 | xU q a=>simp only [E.ev] at h; exact s0 h hk fun z hz=>by unfold xU at hz; split at hz <;> simp at hz; subst hz; rfl
 | wP a=>simp only [E.ev] at h; exact s0 h hk fun z hz=>by unfold wP at hz; split at hz <;> simp at hz; subst hz; rfl
 | wQ a =>
  simp only [E.ev] at h
  refine s0 h hk fun z hz=>?_
  unfold wQ at hz
  split at hz
  ·simp only [zyy] at hz; obtain ⟨_,_,rfl⟩:=hz; rfl
  ·simp at hz
 | slS a lo hi =>
  simp only [E.ev] at h
  refine s0 h hk fun z hz=>?_
  unfold yD at hz
  split at hz <;> (try (simp at hz; done))
  split at hz <;> (try (simp at hz; done))
  split at hz <;> simp at hz; subst hz; rfl
 | slL q a lo hi =>
  simp only [E.ev] at h
  refine s0 h hk fun z hz=>?_
  unfold b0d at hz
  split at hz <;> (try (simp at hz; done))
  split at hz <;> (try (simp at hz; done))
  split at hz <;> (try (simp at hz; done))
  split at hz <;> simp at hz; subst hz; rfl
 | aZ9 a i =>
  simp only [E.ev] at h
  refine s0 h hk fun z hz=>?_
  unfold kA at hz
  split at hz <;> (try (simp at hz; done))
  split at hz <;> (try (simp at hz; done))
  simp only [zyy] at hz; obtain ⟨_,_,rfl⟩:=hz; rfl
 | b0a g q a i =>
  simp only [E.ev] at h
  unfold gX at h
  split at h <;> (try (simp at h; done))
  split at h <;> (try (simp at h; done))
  split at h <;> (try (simp at h; done))
  cases g with
  | true =>
   simp only [uD,cond_true] at hk
   obtain ⟨rfl,hp⟩:=a9b hk
   simp only [if_true] at h
   have:=(yH h).1
   subst this
   exact zG hp h
  | false =>
   simp only [uD,cond_false,zzz] at hk
   subst hk
   simp only [zuy,if_false] at h
   obtain ⟨rfl,h2⟩:=tH h
   exact h2
 | b7g len g q a i=>simp [uD] at hk
 | inb q i =>
  simp only [E.ev] at h
  refine s0 h hk fun z hz=>?_
  unfold b7i at hz
  split at hz <;> (try (simp at hz; done))
  split at hz <;> simp at hz; subst hz; rfl
 | nth l i =>
  simp only [E.ev] at h
  refine s0 h hk fun z hz=>?_
  unfold b7j at hz
  split at hz <;> (try (simp at hz; done))
  split at hz <;> (try (simp at hz; done))
  split at hz <;> (try (simp at hz; done))
  exact (tH hz).1 ▸ (tH hz).2
 | part g q off a =>
  simp only [E.ev] at h
  unfold uC at h
  split at h <;> (try (simp at h; done))
  cases g with
  | true =>
   simp only [uD,cond_true] at hk
   obtain ⟨rfl,hp⟩:=a9b hk
   simp only [if_true] at h
   split at h <;> (try (simp at h; done))
   have:=(yH h).1
   subst this
   exact zG hp h
  | false =>
   simp only [uD,cond_false,zzz] at hk
   subst hk
   simp only [zuy,if_false] at h
   split at h <;> (try (simp at h; done))
   obtain ⟨rfl,h2⟩:=tH h
   exact h2
 | agg l =>
  simp only [uD] at hk
  obtain ⟨rfl,hp⟩:=a9b hk
  simp only [E.ev,aG] at h
  split at h
  ·rename_i hs
   simp only [zzz] at h
   subst h
   cases hl:l.length with
   | zero=>omega
   | succ q=>exact ⟨_,rfl,by rw [zsy,hl],hs⟩
  ·simp at h
 | lit q l=>simp only [E.ev] at h; exact s0 h hk fun z hz=>by unfold lO at hz; split at hz <;> simp at hz; subst hz; rfl
 | make q z b l c =>
  simp only [E.ev] at h
  refine s0 h hk fun z hz=>?_
  unfold aRv at hz
  split at hz <;> (try (simp at hz; done))
  split at hz <;> simp at hz; subst hz; rfl
 | app q b x y =>
  simp only [E.ev] at h
  refine s0 h hk fun z hz=>?_
  unfold qP at hz
  split at hz <;> (try (simp at hz; done))
  split at hz <;> simp at hz; subst hz; rfl
 | aTa b x y =>
  simp only [E.ev] at h
  refine s0 h hk fun z hz=>?_
  unfold b0e at hz
  split at hz <;> (try (simp at hz; done))
  unfold qP at hz
  split at hz <;> (try (simp at hz; done))
  split at hz <;> simp at hz; subst hz; rfl
 | call f l=>simp [uD] at hk
 | aL4 f l=>simp [uD] at hk
 | fn f l=>simp only [E.ev] at h; exact s0 h hk fun z hz=>by simp at hz; subst hz; rfl
 | b0b a=>simp only [E.ev] at h; exact s0 h hk fun z hz=>by unfold aRw at hz; split at hz <;> simp at hz; subst hz; rfl
 | ext a i=>simp [uD] at hk
 | pick c a b=>simp [uD] at hk
 | chk q a =>
  simp only [uD] at hk
  obtain ⟨rfl,hp⟩:=a9b hk
  have:=(yH h).1
  subst this
  exact zG hp h
 | b0c a=>simp only [E.ev] at h; exact s0 h hk fun z hz=>by obtain ⟨rfl,h2⟩:=tH hz; exact h2
 | aTc a=>simp [uD] at hk
section
variable {p:PT} {Q:V→Prop} {ks:List (List V→Prop)} {N:Nat} {gk:Nat→Option Nat} {gb:List Nat} {S:SS} {ρ:Nat→V} {env:Env} {m:Hp}
theorem b0v {op:BinOp} {k:IntKind} {a b:Int} {v:V} (h:fX op k a b=some v) (hc:aH2 op=true):vU v=true:=by
 cases op <;> simp [aH2] at hc <;> simp [fX] at h <;> subst h <;> rfl
theorem b0w {op:BinOp} {a b:List UInt8} {v:V} (h:a2a op a b=some v) (hc:aH2 op=true):vU v=true:=by
 cases op <;> simp [aH2] at hc <;> simp [a2a] at h <;> subst h <;> rfl
theorem bBs (c:aH N gk gb S ρ env m) {e:E} {y:V} (h:e.ev p ρ=some y) (hb:aCd S e=true):vU y=true:=by
 cases e with
 | bin op a b =>
  simp only [aCd] at hb
  simp only [E.ev] at h
  unfold aD at h
  split at h
  ·cases op <;> simp only [aH2,zuy] at hb <;> (simp only at h; split at h) <;> first | exact b0v h rfl | (simp at h)
  ·exact b0w h hb
  ·simp at h
 | eqB q a b=>simp only [E.ev] at h; unfold aJ4 at h; split at h <;> simp at h; subst h; rfl
 | eqA q g a b =>
  simp only [E.ev] at h; unfold aFo at h
  split at h
  ·simp only [zyy] at h; obtain ⟨_,_,rfl⟩:=h; rfl
  ·simp at h
 | un op a =>
  cases op <;> simp [aCd] at hb
  simp only [E.ev] at h; unfold unV at h
  split at h <;> simp_all <;> subst h <;> rfl
 | pick q a b =>
  simp only [aCd,zxz] at hb
  simp only [E.ev] at h; unfold cH at h
  split at h
  ·rename_i t _
   simp only [zzz] at h
   subst h
   cases t
   ·exact c.isB hb.2
   ·exact c.isB hb.1
  ·simp at h
 | _=>simp [aCd] at hb
theorem kN (c:aH N gk gb S ρ env m) {g:Gd} {e:E} {k:A→SS→OL} {L:L} (h:emit g e S k=some L) (hw:L.wp p Q S.nv ρ ks) :
  ∃ y L' kn bl,jE ρ g (e.ev p ρ)=some y∧k (.v S.nv) (S.lL (S.nv+1) kn bl)=some L'∧L'.wp p Q (S.nv+1) (ext ρ S.nv y) ks∧aH N gk gb (S.lL (S.nv+1) kn bl) (ext ρ S.nv y) env m:=by
 simp only [emit,zyy] at h
 obtain ⟨L',h1,rfl⟩:=h
 simp only [L.wp,b7s] at hw
 cases hy:jE ρ g (e.ev p ρ) with
 | none=>rw [hy] at hw; exact hw.elim
 | some y =>
  rw [hy] at hw
  refine ⟨y,L',_,_,rfl,h1,hw,?_⟩
  refine c.more (bZ ρ S.nv y) (Nat.le_succ _) ?_ ?_
  rotate_left
  ·have old:∀ i ∈ S.cS,i < S.nv+1∧vU (ext ρ S.nv y i)=true:=fun i hi=>by
    obtain ⟨h2,h3⟩:=c.cS i hi
    exact ⟨by omega,by rw [bZ ρ S.nv y i h2]; exact h3⟩
   intro i hi
   cases hbe:aCd S e with
   | false=>rw [hbe] at hi; exact old i hi
   | true =>
    rw [hbe] at hi
    simp only [cond_true,List.mem_cons] at hi
    rcases hi with rfl | hi
    ·refine ⟨by omega,?_⟩
     rw [kD]
     rcases xE hy with ⟨_,h5⟩ | ⟨_,rfl,_⟩
     ·exact bBs c h5 hbe
     ·rfl
    ·exact old i hi
  have old:∀ i n,assoc S.known i=some n→i < S.nv+1∧nT n (ext ρ S.nv y i):=fun i n hi=>by
   obtain ⟨h2,h3⟩:=c.known i n hi
   exact ⟨by omega,by rw [bZ ρ S.nv y i h2]; exact h3⟩
  intro i n hi
  split at hi
  ·rename_i q hk
   simp only [assoc] at hi
   by_cases hb:Nat.beq S.nv i=true
   ·rw [hb] at hi
    simp only [cond_true,zzz] at hi
    subst hi
    have:=zzx hb
    subst this
    exact ⟨by omega,by rw [kD]; exact bBr hy hk⟩
   ·have hb':Nat.beq S.nv i=false:=by
     cases hc:Nat.beq S.nv i with
     | false=>rfl
     | true=>exact absurd hc hb
    rw [hb'] at hi
    exact old i n hi
  ·exact old i n hi
def Fin (p:PT) (Q:V→Prop) (ks:List (List V→Prop)) (N:Nat) (ρ:Nat→V) (S:SS) (env:Env) (k:SV→SS→OL) (o:V→Hp→Prop):Prop :=
 ∃ v m' s S' ρ' L' gk' gb',o v m'∧k s S'=some L'∧L'.wp p Q S'.nv ρ' ks∧aH N gk' gb' S' ρ' env m'∧dQ ρ' gk' gb' m'.T s v∧s.below S'.nv=true∧aZ ρ ρ' S.nv∧S.nv≤S'.nv∧S'.dep=S.dep
theorem Fin.step {S1:SS} {ρ1:Nat→V} {k:SV→SS→OL} {o:V→Hp→Prop} (h:Fin p Q ks N ρ1 S1 env k o) (ha:aZ ρ ρ1 S.nv) (hn:S.nv≤S1.nv) (hd:S1.dep=S.dep):Fin p Q ks N ρ S env k o:=by
 obtain ⟨v,m',s,S',ρ',L',gk',gb',h1,h2,h3,h4,h5,h6,h7,h8,h9⟩:=h
 exact ⟨v,m',s,S',ρ',L',gk',gb',h1,h2,h3,h4,h5,h6,ha.trans h7 hn,Nat.le_trans hn h8,h9.trans hd⟩
theorem Fin.mono {k:SV→SS→OL} {o o':V→Hp→Prop} (h:Fin p Q ks N ρ S env k o) (ho:∀ v m,o v m→o' v m):Fin p Q ks N ρ S env k o':=by
 obtain ⟨v,m',s,S',ρ',L',gk',gb',h1,h2⟩:=h
 exact ⟨v,m',s,S',ρ',L',gk',gb',ho _ _ h1,h2⟩
theorem pV (c:aH N gk gb S ρ env m) {k:SV→SS→OL} {L:L} {s:SV} {v:V} {o:V→Hp→Prop} (h:k s S=some L) (hw:L.wp p Q S.nv ρ ks) (ho:o v m) (hr:dQ ρ gk gb m.T s v) (hb:s.below S.nv=true):Fin p Q ks N ρ S env k o :=
 ⟨v,m,s,S,ρ,L,gk,gb,ho,h,hw,c,hr,hb,aZ.refl _ _,zxy _,rfl⟩
theorem mZ (n:Nat):A.below (n+1) (.v n)=true:=Nat.ble_eq_true_of_le (zxy _)
theorem oZ (c:aH N gk gb S ρ env m) {g:Gd} {e:E} {k:SV→SS→OL} {L:L} {o:Option V} (h:uE g e S k=some L) (hw:L.wp p Q S.nv ρ ks)
  (hq:gP ρ g→∀ w,e.ev p ρ=some w→∃ v,o=some v∧v.aF=w):Fin p Q ks N ρ S env k (fun v m'=>m'=m∧jE ρ g o=some v):=by
 obtain ⟨y,L',kn,bl,h1,h2,h3,h4⟩:=kN c h hw
 have:∃ v,jE ρ g o=some v∧v.aF=y:=by
  rcases xE h1 with ⟨hon,h5⟩ | ⟨hoff,rfl,h6⟩
  ·obtain ⟨v,h7,h8⟩:=hq hon y h5
   exact ⟨v,by rw [rS hon]; exact h7,h8⟩
  ·exact ⟨.undef,h6 o,rfl⟩
 obtain ⟨v,h5,h6⟩:=this
 refine ⟨v,m,_,_,_,L',gk,gb,⟨rfl,h5⟩,h2,h3,h4,?_,mZ _,bZ _ _ _,Nat.le_succ _,rfl⟩
 show v.aF=ext ρ S.nv y S.nv
 rw [kD]; exact h6
theorem aW1 (i n : Nat) : ∀ (j q : Nat),q < n → (cellsOf i n j)[q]? = some (.c i (j + q)):=by
 induction n with
 | zero=>intro j q h; omega
 | succ n ih =>
  intro j q h
  cases q with
  | zero=>rfl
  | succ q=>simp only [cellsOf,zvx]; rw [ih (j+1) q (by omega)]; congr 2; omega
theorem a97 (i n:Nat):∀ j,(cellsOf i n j).length=n:=by
 induction n with
 | zero=>intro j; rfl
 | succ n ih=>intro j; simp [cellsOf,ih]
theorem a98 (ρ:Nat→V) {i n:Nat} {cs:List V} (h:(ρ i).cells=cs) (hl:cs.length=n):(cellsOf i n 0).map (A.den ρ)=cs:=by
 apply List.ext_getElem?
 intro q
 by_cases hq:q < n
 ·rw [zvz,aW1 i n 0 q hq,zyz (by omega)]
  simp only [Option.map_some,A.den,aA,Nat.zero_add,h]
  rw [zry,zyz (by omega)]; rfl
 ·rw [List.getElem?_eq_none (by simp [a97]; omega),List.getElem?_eq_none (by omega)]
theorem aD9 {i n nv:Nat} (h:i < nv):∀ j,(cellsOf i n j).all (A.below nv)=true:=by
 induction n with
 | zero=>intro j; rfl
 | succ n ih=>intro j; simp only [cellsOf,List.all_cons,ih,Bool.and_true]; exact Nat.ble_eq_true_of_le h
theorem vZ {n:Nat} {v:V} (hn:0 < n) (h:nT n v):∃ cs,v = .agg cs∧cs.length=n∧cs.all sc=true:=by
 cases n with
 | zero=>omega
 | succ n=>exact h
theorem aP2 (c:aH N gk gb S ρ env m) {g:Gd} {n:Nat} {a:A} {k:List A→SS→OL} {L:L} (h:a2m g n a S k=some L) (hw:L.wp p Q S.nv ρ ks) :
  ∃ i nv kn bl ρ' L',k (cellsOf i n 0) (S.lL nv kn bl)=some L'∧L'.wp p Q nv ρ' ks∧aH N gk gb (S.lL nv kn bl) ρ' env m∧0 < n∧i < nv∧S.nv≤nv∧aZ ρ ρ' S.nv∧(gP ρ g→ρ' i=a.den ρ∧nT n (ρ' i)):=by
 unfold a2m at h
 cases hn0:Nat.beq n 0 with
 | true=>rw [hn0] at h; simp at h
 | false =>
  rw [hn0] at h
  simp only [cond_false] at h
  have hn:0 < n:=Nat.pos_of_ne_zero fun e=>by subst e; simp at hn0
  have viaChk:∀ {L:Go.Fbs.L} (_:L.wp p Q S.nv ρ ks),emit g (.chk n a) S (fun _ S'=>k (cellsOf S.nv n 0) S')=some L→∃ i nv kn bl ρ' L',k (cellsOf i n 0) (S.lL nv kn bl)=some L'∧L'.wp p Q nv ρ' ks∧aH N gk gb (S.lL nv kn bl) ρ' env m∧0 < n∧i < nv∧S.nv≤nv∧aZ ρ ρ' S.nv∧(gP ρ g→ρ' i=a.den ρ∧nT n (ρ' i)):=by
   intro L hw he
   obtain ⟨y,L',kn,bl,h1,h2,h3,h4⟩:=kN c he hw
   refine ⟨S.nv,S.nv+1,kn,bl,_,L',h2,h3,h4,hn,Nat.lt_succ_self _,Nat.le_succ _,bZ _ _ _,fun hon=>?_⟩
   rw [rS hon] at h1
   rw [kD]
   simp only [E.ev] at h1
   have:=(yH h1).1
   subst this
   exact ⟨rfl,zG hn h1⟩
  split at h
  ·rename_i i
   cases hk:S.mQ (.v i) n with
   | true =>
    rw [hk] at h
    simp only [cond_true] at h
    exact ⟨i,S.nv,S.known,(S.cS,S.a2l),ρ,L,h,hw,c,hn,c.aCj hk,zxy _,aZ.refl _ _,fun _=>⟨rfl,c.mQ hk⟩⟩
   | false =>
    rw [hk] at h
    exact viaChk hw h
  ·exact viaChk hw h
theorem aFw (c:aH N gk gb S ρ env m) {g:Gd} {a:A} (hab:a.below S.nv=true) {k:A→SS→OL} {L:L} (h:aFs g a S k=some L) (hw:L.wp p Q S.nv ρ ks) :
  ∃ a' nv kn bl ρ' L',k a' (S.lL nv kn bl)=some L'∧L'.wp p Q nv ρ' ks∧aH N gk gb (S.lL nv kn bl) ρ' env m∧a'.below nv=true∧S.nv≤nv∧aZ ρ ρ' S.nv∧(gP ρ g→a'.den ρ'=a.den ρ∧sc (a.den ρ)=true):=by
 unfold aFs at h
 cases hk:S.mQ a 0 with
 | true =>
  rw [hk] at h
  simp only [cond_true] at h
  exact ⟨a,S.nv,S.known,(S.cS,S.a2l),ρ,L,h,hw,c,hab,zxy _,aZ.refl _ _,fun _=>⟨rfl,c.mQ hk⟩⟩
 | false =>
  rw [hk] at h
  simp only [cond_false] at h
  obtain ⟨y,L',kn,bl,h1,h2,h3,h4⟩:=kN c h hw
  refine ⟨.v S.nv,S.nv+1,kn,bl,_,L',h2,h3,h4,mZ _,Nat.le_succ _,bZ _ _ _,fun hon=>?_⟩
  rw [rS hon] at h1
  simp only [E.ev] at h1
  obtain ⟨rfl,h5⟩:=tH h1
  exact ⟨kD _ _ _,h5⟩
end
end Go.Fbs

/- Operations that leave the memory as it is. -/
namespace Go.Fbs
def tJ (S:SS) (ρ:Nat→V) (g:Gd):Prop:=Gd.below S.nv g=true∧∀ a b,g=some (a,b)→vU (a.den ρ)=true
theorem a6r {S:SS} {ρ:Nat→V} {g:Gd} (hg:tJ S ρ g) (h:¬ gP ρ g) (o:Option V):jE ρ g o=some .undef:=by
 cases g with
 | none=>exact absurd trivial h
 | some q =>
  obtain ⟨a,b⟩:=q
  have:=hg.2 a b rfl
  simp only [gP] at h
  simp only [jE]
  cases hd:a.den ρ with
  | bool t =>
   rw [hd] at h
   simp only [aQ]
   have:(t == b)=false:=by
    cases t <;> cases b <;> simp_all
   rw [this]; rfl
  | undef=>rfl
  | _=>rw [hd] at this; simp [vU] at this
theorem tJ.more {S:SS} {ρ ρ':Nat→V} {g:Gd} (hg:tJ S ρ g) {nv:Nat} (hn:S.nv≤nv) (ha:aZ ρ ρ' S.nv) {kn:List (Nat×Nat)} {bl:List Nat×List Nat} : tJ (S.lL nv kn bl) ρ' g :=
 ⟨Gd.cF hg.1 hn,fun a b h=>by
  have hb:a.below S.nv=true:=by have:=hg.1; rw [h] at this; exact this
  rw [gQ ha hb]; exact hg.2 a b h⟩
section
variable {P:Program} {tt:TT} (hT:∀ t ti,cU tt t=some ti→aV P ti∧ti.t=t)
variable {p:PT} {Q:V→Prop} {ks:List (List V→Prop)} {N:Nat} {gk:Nat→Option Nat} {gb:List Nat} {S:SS} {ρ:Nat→V} {env:Env} {m:Hp}
abbrev QO (P:Program) (tt:TT) (p:PT) (ρ:Nat→V) (g:Gd) (env:Env) (m:Hp) (op:Op):V→Hp→Prop:=fun v m'=>m'=m∧jE ρ g (bK P (CE tt p) env m.H op)=some v
theorem aBb (c:aH N gk gb S ρ env m) {g:Gd} {k:SV→SS→OL} {L:L} {o:Option V} {s:SV} {v:V} {a:A}
  (h:(match g with | none=>k s S | some _=>k (.nI a g) S)=some L) (hg:tJ S ρ g) (hw:L.wp p Q S.nv ρ ks) (ho:gP ρ g→o=some v) (hr:g=none→dQ ρ gk gb m.T s v) (hb:s.below S.nv=true) (hab:a.below S.nv=true) (ha:gP ρ g→v.aF=a.den ρ) :
  Fin p Q ks N ρ S env k (fun v m'=>m'=m∧jE ρ g o=some v):=by
 cases g with
 | none=>exact pV c h hw ⟨rfl,ho trivial⟩ (hr rfl) hb
 | some q =>
  have hbel:SV.below S.nv (.nI a (some q))=true:=by simp only [SV.below,hab,Bool.true_and]; exact hg.1
  by_cases hon:gP ρ (some q)
  ·exact pV c h hw ⟨rfl,by rw [rS hon]; exact ho hon⟩ ⟨fun _=>ha hon,fun h=>absurd hon h⟩ hbel
  ·exact pV c h hw ⟨rfl,a6r hg hon o⟩ ⟨fun h=>absurd h hon,fun _=>rfl⟩ hbel
theorem iW (c:aH N gk gb S ρ env m) {g:Gd} {as:List A} {e:E} {k:SV→SS→OL} {L:L} {o:Option V} (h:jQ g as e S k=some L) (hg:tJ S ρ g) (hw:L.wp p Q S.nv ρ ks)
  (hq:gP ρ g→∀ w,e.ev p ρ=some w→∃ v,o=some v∧v.aF=w):Fin p Q ks N ρ S env k (fun v m'=>m'=m∧jE ρ g o=some v):=by
 cases g with
 | none=>exact oZ c h hw hq
 | some q =>
  simp only [jQ] at h
  cases hs:as.all S.sure with
  | false=>rw [hs] at h; exact oZ c h hw hq
  | true =>
   rw [hs] at h
   simp only [cond_true] at h
   obtain ⟨y,L',kn,bl,h1,h2,h3,h4⟩:=kN c h hw
   have hgi:gP (ext ρ S.nv y) (some q)↔gP ρ (some q):=tI (bZ _ _ _) hg.1
   have hbel:SV.below (S.nv+1) (.nI (.v S.nv) (some q))=true:=by
    simp only [SV.below,zxz]
    exact ⟨mZ _,Gd.cF hg.1 (Nat.le_succ _)⟩
   by_cases hon:gP ρ (some q)
   ·obtain ⟨v,h5,h6⟩:=hq hon y h1
    exact ⟨v,m,_,_,_,L',gk,gb,⟨rfl,by rw [rS hon]; exact h5⟩,h2,h3,h4,⟨fun _=>by show v.aF=ext ρ S.nv y S.nv; rw [kD]; exact h6,fun h=>absurd (hgi.2 hon) h⟩,hbel,bZ _ _ _,Nat.le_succ _,rfl⟩
   ·exact ⟨.undef,m,_,_,_,L',gk,gb,⟨rfl,a6r hg hon o⟩,h2,h3,h4,⟨fun h=>absurd (hgi.1 h) hon,fun _=>rfl⟩,hbel,bZ _ _ _,Nat.le_succ _,rfl⟩
theorem b32 (c:aH N gk gb S ρ env m) {g:Gd} {x:Operand} {k:SV→SS→OL} {L:L}
  (h:(match S.gI x with | some s=>(match g with | none=>k s S | some _=>(match s.ag g with | some a=>k (.nI a g) S | none=>(match s with | .ptr b off none=>k (.ptr b off g) S | _=>none))) | none=>none)=some L) (hg:tJ S ρ g) (hw:L.wp p Q S.nv ρ ks) :
  Fin p Q ks N ρ S env k (fun v m'=>m'=m∧jE ρ g (Fbs.ev env x)=some v):=by
 split at h
 ·rename_i s hs
  obtain ⟨v,h1,h2,h3⟩:=c.gI hs
  cases g with
  | none=>exact pV c h hw ⟨rfl,h1⟩ h2 h3
  | some q =>
   simp only at h
   split at h
   ·rename_i a ha
    exact aBb c (s:=s) h hg hw (fun _=>h1) (fun h=>by simp at h) h3 (aCi h3 ha) (aFv (fun _ _=>Gd.fD) h2 ha)
   ·split at h
    ·rename_i b off hno
     obtain ⟨l,h4,rfl⟩:=h2.1 trivial
     by_cases hon:gP ρ (some q)
     ·exact ⟨.ptr l off,m,_,S,ρ,L,gk,gb,⟨rfl,by rw [rS hon]; exact h1⟩,h,hw,c,⟨fun _=>⟨l,h4,rfl⟩,fun hn=>absurd hon hn⟩,hg.1,aZ.refl _ _,zxy _,rfl⟩
     ·exact ⟨.undef,m,_,S,ρ,L,gk,gb,⟨rfl,a6r hg hon _⟩,h,hw,c,⟨fun h=>absurd h hon,fun _=>rfl⟩,hg.1,aZ.refl _ _,zxy _,rfl⟩
    ·simp at h
 ·simp at h
theorem bDu (c:aH N gk gb S ρ env m) {g:Gd} (hg:tJ S ρ g) {x y z:Operand} {k:SV→SS→OL} {L:L}
  (h:gO tt g (.pick x y z) S k=some L) (hw:L.wp p Q S.nv ρ ks) :
  Fin p Q ks N ρ S env k (QO P tt p ρ g env m (.pick x y z)):=by
 simp only [gO] at h
 split at h
 ·rename_i a1 e1
  split at h
  ·rename_i a2 a3 e2 e3
   obtain ⟨v1,h1,h1',_⟩:=c.jB e1
   obtain ⟨v2,h2,h2',_⟩:=c.aCc e2
   obtain ⟨v3,h3,h3',_⟩:=c.aCc e3
   refine iW c h hg hw fun hon w hw'=>?_
   simp only [E.ev] at hw'
   simp only [bK,h1,h2,h3]
   unfold cH at hw'
   split at hw'
   ·rename_i t ht
    simp only [zzz] at hw'
    have hv1:v1 = .bool t:=oX (by rw [h1' hon]; exact ht)
    subst hv1
    refine ⟨_,rfl,?_⟩
    cases t with
    | true=>simp only [if_true] at hw' ⊢; rw [← hw']; exact h2' hon ht
    | false=>simp only [zuy,if_false] at hw' ⊢; rw [← hw']; exact h3' hon ht
   ·simp at hw'
  ·simp at h
 ·simp at h
theorem aTs {T : List (Nat × Nat)} : ∀ {l : List SV} {as : List A} {cs : List V},aH3 l = some as → l.length = cs.length → (∀ (j : Nat) s v,l[j]? = some s → cs[j]? = some v → dQ ρ gk gb T s v) → cs.map V.aF = as.map (A.den ρ)
 | [],as,cs,h,hl,_=>by
  simp [aH3] at h; subst h
  cases cs with
  | nil=>rfl
  | cons=>simp at hl
 | s::l,as,cs,h,hl,hr=>by
  simp only [aH3] at h
  split at h
  ·rename_i a as' h1 h2
   simp only [zzz] at h
   subst h
   cases cs with
   | nil=>simp at hl
   | cons v cs =>
    simp only [zsx]
    rw [vY (hr 0 s v rfl rfl) h1,aTs h2 (by simpa using hl) (fun j s v h3 h4=>hr (j+1) s v (by simpa using h3) (by simpa using h4))]
  ·simp at h
theorem aFx {i:Nat} : ∀ (as:List A) (j:Nat),a3w i j as=true→as=cellsOf i as.length j
 | [],j,_=>rfl
 | .c i' j'::r,j,h=>by
  simp only [a3w,zxz] at h
  have h1:=zzx h.1.1
  have h2:=zzx h.1.2
  subst h1; subst h2
  simp only [zwx,cellsOf]
  rw [← aFx r (j+1) h.2]
 | .v _::r,j,h=>by simp [a3w] at h
 | .k _::r,j,h=>by simp [a3w] at h
theorem aKa (c:aH N gk gb S ρ env m) {t:TypeId} {ti:TI} (tok:aV P ti) (htt:ti.t=t) {g:Gd} (hgk:tJ S ρ g) {cells:List SV} {cs:List V} (hc:Cells ρ gk gb m.T S.nv cells cs) {off:Nat} {k:SV→SS→OL} {L:L} {o:Option V}
  (h:aL7 ti g cells off S k=some L) (hw:L.wp p Q S.nv ρ ks) (ho:gP ρ g→o=loadT P t (cs.drop off)):Fin p Q ks N ρ S env k (fun v m'=>m'=m∧jE ρ g o=some v):=by
 have hag:=tok.agg; have hsz:=tok.sz
 rw [htt] at hag hsz
 have hload:loadT P t (cs.drop off)=sH ti.agg ti.sz (cs.drop off):=aOh hag hsz _
 rw [hload] at ho
 unfold aL7 at h
 cases hg:ti.agg with
 | true =>
  rw [hg] at h ho
  simp only [cond_true] at h
  cases hle:Nat.ble (off+ti.sz) cells.length with
  | false=>rw [hle] at h; simp at h
  | true =>
   rw [hle] at h
   simp only [cond_true] at h
   have hle':=zxx hle
   split at h
   ·rename_i as has
    have hlen:((cells.drop off).take ti.sz).length=((cs.drop off).take ti.sz).length:=by simp [hc.1]
    have hden:=aTs (ρ:=ρ) (gk:=gk) (gb:=gb) (T:=m.T) has hlen (fun j s v h1 h2=>by
     rw [List.getElem?_take] at h1 h2
     split at h1
     ·rename_i hj
      rw [if_pos hj] at h2
      rw [List.getElem?_drop] at h1 h2
      exact (hc.2 _ s v h1 h2).1
     ·simp at h1)
    have hval:sH true ti.sz (cs.drop off)=some (.agg ((cs.drop off).take ti.sz)):=by
     unfold sH
     rw [if_pos rfl,if_pos (by rw [List.length_drop,← hc.1]; omega)]
    have viaAgg:∀ {L:Go.Fbs.L},L.wp p Q S.nv ρ ks→jQ g as (.agg as) S k=some L→Fin p Q ks N ρ S env k (fun v m'=>m'=m∧jE ρ g o=some v):=fun hw he=>by
     refine iW c he hgk hw fun hon w hw'=>⟨_,(ho hon).trans hval,?_⟩
     simp only [E.ev,aG] at hw'
     split at hw'
     ·simp only [zzz] at hw'
      rw [← hw']
      simp only [V.aF,cI]
      rw [hden]
     ·simp at hw'
    split at h
    ·rename_i i hi
     cases hwh:(a3w i 0 as && S.mQ (.v i) ti.sz && Nat.beq as.length ti.sz) with
     | false=>rw [hwh] at h; exact viaAgg hw h
     | true =>
      rw [hwh] at h
      simp only [cond_true] at h
      simp only [zxz] at hwh
      have hl:=zzx hwh.2
      have hk:=c.mQ hwh.1.2
      have hpos:0 < ti.sz:=by
       rw [← hl]
       cases as with
       | nil=>simp [aX0] at hi
       | cons=>simp
      obtain ⟨ds,hd1,hd2,hd3⟩:=vZ hpos hk
      have has2:=aFx as 0 hwh.1.1
      refine pV c h hw ⟨rfl,(ho trivial).trans hval⟩ ?_ ?_
      ·show V.aF _=A.den ρ (.v i)
       rw [hd1]
       simp only [V.aF,cI]
       rw [hden,has2,hl,a98 ρ (cs:=ds) (by show (A.den ρ (.v i)).cells=ds; rw [hd1]; rfl) hd2]
      ·exact Nat.ble_eq_true_of_le (c.aCj hwh.1.2)
    ·exact viaAgg hw h
   ·simp at h
 | false =>
  rw [hg] at h ho
  simp only [cond_false] at h
  split at h
  ·rename_i s hs
   have hlt:off < cells.length:=(zzy.1 hs).1
   obtain ⟨v,hv⟩ : ∃ v,cs[off]? = some v:=⟨cs[off]'(by rw [← hc.1]; exact hlt),zyz _⟩
   obtain ⟨h1,h2⟩:=hc.2 off s v hs hv
   have hval:sH false ti.sz (cs.drop off)=some v:=by
    unfold sH
    rw [if_neg (by simp),List.getElem?_drop]; exact hv
   cases g with
   | none=>exact pV c h hw ⟨rfl,(ho trivial).trans hval⟩ h1 h2
   | some q =>
    simp only at h
    split at h
    ·rename_i a ha
     exact aBb c (s:=s) h hgk hw (fun hon=>(ho hon).trans hval) (fun h=>by simp at h) h2 (zH h2 ha) (fun _=>vY h1 ha)
    ·simp at h
  ·simp at h
theorem uJ {hv g:Gd} (h:mD hv g=true) (hon:gP ρ g):gP ρ hv:=by
 unfold mD at h
 cases hv with
 | none=>trivial
 | some q=>rw [Gd.fD h]; exact hon
theorem aW2 {v:V} (h:nT 0 v):sc v=true:=h
include hT in
theorem bDv (c:aH N gk gb S ρ env m) {g:Gd} (hgk:tJ S ρ g) {t:TypeId} {x:Operand} {k:SV→SS→OL} {L:L} (h:gO tt g (.load t x) S k=some L) (hw:L.wp p Q S.nv ρ ks) :
  Fin p Q ks N ρ S env k (QO P tt p ρ g env m (.load t x)):=by
 simp only [gO] at h
 split at h
 ·rename_i b off hv ti hx hti
  obtain ⟨tok,htt⟩:=hT t ti hti
  obtain ⟨v,h1,h2,h3⟩:=c.gI hx
  cases hf:mD hv g with
  | false=>rw [hf] at h; simp at h
  | true =>
   rw [hf] at h
   simp only [cond_true] at h
   split at h
   ·rename_i cells hb
    obtain ⟨l,cs,h0,⟨e9,h4,_⟩,h5⟩:=c.boxes b cells hb
    refine aKa c tok htt hgk h5 h hw fun hon=>?_
    obtain ⟨l',hl,hv'⟩:=h2.1 (uJ hf hon)
    rw [h0] at hl
    simp only [zzz] at hl
    subst hl
    simp only [bK,tC,h1,hv',vP,h4]
   ·simp at h
 ·rename_i a n off hv ti hx hti
  obtain ⟨tok,htt⟩:=hT t ti hti
  have hag:=tok.agg; have hsz:=tok.sz
  rw [htt] at hag hsz
  obtain ⟨v,h1,h2,h3⟩:=c.gI hx
  have hbel:a.below S.nv=true:=by simp only [SV.below,zxz] at h3; exact h3.1
  cases hf:mD hv g with
  | false=>rw [hf] at h; simp at h
  | true =>
   rw [hf] at h
   simp only [cond_true] at h
   have hev:gP ρ g→∃ cs:List V,cs.map V.aF=(a.den ρ).cells∧nT n (a.den ρ)∧bK P (CE tt p) env m.H (.load t x)=sH ti.agg ti.sz (cs.drop off):=fun hon=>by
    obtain ⟨cs,h4,h5,h6⟩:=h2.1 (uJ hf hon)
    refine ⟨cs,h5,h6,?_⟩
    simp only [bK,tC,h1,h4,vP]
    exact aOh hag hsz _
   have part:∀ {pg:Bool} {pn:Nat} {L:Go.Fbs.L},L.wp p Q S.nv ρ ks→0 < n→ti.agg=pg→(pg=true→pn=ti.sz)→jQ g [a] (.part pg pn off a) S k=some L→Fin p Q ks N ρ S env k (QO P tt p ρ g env m (.load t x)):=by
    intro pg pn L hw hn hpg hpn he
    refine iW c he hgk hw fun hon w hw'=>?_
    obtain ⟨cs,h5,h6,h7⟩:=hev hon
    rw [h7,hpg]
    obtain ⟨ds,hd1,hd2,hd3⟩:=vZ hn h6
    simp only [E.ev] at hw'
    have:a.den ρ=(V.agg cs).aF:=by rw [hd1]; simp only [V.aF,cI,h5,hd1]; rfl
    rw [this] at hw'
    obtain ⟨cs',v',e1,e2,e3,_⟩:=b31 hw'
    simp only [V.agg.injEq] at e1
    subst e1
    refine ⟨v',?_,e3⟩
    rw [← e2]
    cases pg with
    | true=>simp only [sH,sI,if_true,hpn rfl,List.length_drop]; split <;> split <;> first | rfl | (exfalso; rename_i q1 q2; simp [sI,hpn rfl] at e2; omega)
    | false=>simp only [sH,sI,zuy,if_false,List.getElem?_drop]; rfl
   cases hn0:Nat.beq n 0 with
   | true =>
    have hn:n=0:=zzx hn0
    subst hn
    rw [hn0] at h
    simp only [cond_true] at h
    cases hcond:(Nat.beq off 0 && !ti.agg) with
    | false=>rw [hcond] at h; simp at h
    | true =>
     rw [hcond] at h
     simp only [cond_true] at h
     simp only [zxz,Bool.not_eq_true'] at hcond
     have ho:=zzx hcond.1
     subst ho
     by_cases hon:gP ρ g
     ·obtain ⟨cs,h5,h6,h7⟩:=hev hon
      have hs:=aW2 h6
      rw [a7s hs] at h5
      obtain ⟨u,rfl⟩:∃ u,cs=[u]:=by
       have:=congrArg List.length h5
       simp only [zsy,List.length_singleton] at this
       exact List.length_eq_one_iff.1 this
      simp only [zsx,List.map_nil,List.cons.injEq,and_true] at h5
      have h8:bK P (CE tt p) env m.H (.load t x)=some u:=by rw [h7,hcond.2]; rfl
      exact aBb c (s:=.val a) (v:=u) h hgk hw (fun _=>h8) (fun _=>h5) hbel hbel (fun _=>h5)
     ·cases g with
      | none=>exact absurd trivial hon
      | some q=>exact aBb c (v:=.undef) (s:=.val a) h hgk hw (fun hon'=>absurd hon' hon) (fun h=>by simp at h) hbel hbel (fun hon'=>absurd hon' hon)
   | false =>
    have hn:0 < n:=Nat.pos_of_ne_zero fun e=>by subst e; simp at hn0
    rw [hn0] at h
    simp only [cond_false] at h
    cases hg:ti.agg with
    | true =>
     rw [hg] at h
     simp only [cond_true] at h
     cases hcond:(Nat.beq off 0 && Nat.beq ti.sz n) with
     | false =>
      rw [hcond] at h
      exact part hw hn hg (fun _=>rfl) h
     | true =>
      rw [hcond] at h
      simp only [cond_true] at h
      simp only [zxz] at hcond
      have ho:=zzx hcond.1
      have hz:=zzx hcond.2
      subst ho
      by_cases hon:gP ρ g
      ·obtain ⟨cs,h5,h6,h7⟩:=hev hon
       obtain ⟨ds,hd1,hd2,hd3⟩:=vZ hn h6
       have hl:cs.length=n:=by rw [← hd2]; have:=congrArg List.length h5; rw [hd1] at this; simpa [V.cells] using this
       have h8:bK P (CE tt p) env m.H (.load t x)=some (.agg cs):=by
        rw [h7,hg]
        simp only [List.drop_zero,sH,if_true]
        rw [if_pos (by omega),List.take_of_length_le (by omega)]
       have h9:(V.agg cs).aF=a.den ρ:=by simp only [V.aF,cI,h5]; rw [hd1]; rfl
       exact aBb c (s:=.val a) (v:=.agg cs) h hgk hw (fun _=>h8) (fun _=>h9) hbel hbel (fun _=>h9)
      ·cases g with
       | none=>exact absurd trivial hon
       | some q=>exact aBb c (v:=.undef) (s:=.val a) h hgk hw (fun hon'=>absurd hon' hon) (fun h=>by simp at h) hbel hbel (fun hon'=>absurd hon' hon)
    | false =>
     rw [hg] at h
     simp only [cond_false] at h
     split at h
     ·rename_i i
      cases hcond:(S.mQ (.v i) n && Nat.blt off n) with
      | false=>rw [hcond] at h; exact part hw hn hg (by simp) h
      | true =>
       rw [hcond] at h
       simp only [cond_true] at h
       simp only [zxz] at hcond
       obtain ⟨cs,h5,h6,h7⟩:=hev trivial
       obtain ⟨ds,hd1,hd2,hd3⟩:=vZ hn h6
       have hl:cs.length=n:=by rw [← hd2]; have:=congrArg List.length h5; rw [hd1] at this; simpa [V.cells] using this
       have hlt:=iC hcond.2
       refine pV c h hw ⟨rfl,show bK P (CE tt p) env m.H (.load t x)=some (cs[off]'(by omega)) from ?_⟩ ?_ ?_
       ·rw [h7,hg]
        simp only [sH,zuy,if_false,List.getElem?_drop]
        exact zyz _
       ·show V.aF _=aA (A.den ρ (.v i)) off
        unfold aA
        rw [← h5,zry,zvz,zyz (by omega)]
        rfl
       ·exact Nat.ble_eq_true_of_le (c.aCj hcond.1)
     ·exact part hw hn hg (by simp) h
 ·rename_i b off n i hv ti hx hti
  obtain ⟨tok,htt⟩:=hT t ti hti
  have hag:=tok.agg; have hsz:=tok.sz
  rw [htt] at hag hsz
  obtain ⟨v,h1,h2,h3⟩:=c.gI hx
  cases hf:(mD hv g && !ti.agg) with
  | false=>rw [hf] at h; simp at h
  | true =>
   rw [hf] at h
   simp only [cond_true] at h
   simp only [zxz,Bool.not_eq_true'] at hf
   split at h
   ·rename_i cells hb
    split at h
    ·rename_i as has
     obtain ⟨l,cs,h0,⟨e9,h4,_⟩,h5⟩:=c.boxes b cells hb
     refine oZ c h hw fun hon w hw'=>?_
     obtain ⟨l',q,z,e1,e2,e3,e4⟩:=h2.1 (uJ hf.1 hon)
     rw [h0] at e1
     simp only [zzz] at e1
     subst e1
     have hev:bK P (CE tt p) env m.H (.load t x)=cs[off+z]?:=by
      simp only [bK,tC,h1,e4,vP,h4]
      rw [aOh hag hsz,hf.2]
      simp only [sH,zuy,if_false,List.getElem?_drop,Nat.add_zero]
     have hcs:((cs.drop off).take n).map V.aF=as.map (A.den ρ):=aTs has (by simp [h5.1]) fun j s u g1 g2=>by
      rw [List.getElem?_take] at g1 g2
      split at g1
      ·rw [if_pos (by assumption)] at g2
       rw [List.getElem?_drop] at g1 g2
       exact (h5.2 _ s u g1 g2).1
      ·simp at g1
     simp only [E.ev,e2,← hcs] at hw'
     unfold b7j at hw'
     simp only at hw'
     rw [if_pos (by omega)] at hw'
     split at hw'
     ·rename_i u hu
      obtain ⟨rfl,_⟩:=tH hw'
      simp only [Int.toNat_natCast,zvz,zyy] at hu
      obtain ⟨u0,g1,g2⟩:=hu
      rw [List.getElem?_take,if_pos e3,List.getElem?_drop] at g1
      exact ⟨u0,by rw [hev]; exact g1,g2⟩
     ·simp at hw'
    ·simp at h
   ·simp at h
 ·simp at h
end
end Go.Fbs

/- The other operations that leave the memory as it is. -/
namespace Go.Fbs
section
variable {P:Program} {tt:TT} (hT:∀ t ti,cU tt t=some ti→aV P ti∧ti.t=t)
variable {p:PT} {Q:V→Prop} {ks:List (List V→Prop)} {N:Nat} {gk:Nat→Option Nat} {gb:List Nat} {S:SS} {ρ:Nat→V} {env:Env} {m:Hp}
theorem aCk (c:aH N gk gb S ρ env m) {g:Gd} (hg:tJ S ρ g) {k:SV→SS→OL} {L:L} {o:Option V} {s:SV} (h:k s S=some L) (hw:L.wp p Q S.nv ρ ks) (hb:s.below S.nv=true)
  (hon:gP ρ g→∃ v,o=some v∧dQ ρ gk gb m.T s v) (hoff:¬ gP ρ g→dQ ρ gk gb m.T s .undef):Fin p Q ks N ρ S env k (fun v m'=>m'=m∧jE ρ g o=some v):=by
 by_cases ho:gP ρ g
 ·obtain ⟨v,h1,h2⟩:=hon ho
  exact pV c h hw ⟨rfl,by rw [rS ho]; exact h1⟩ h2 hb
 ·exact pV c h hw ⟨rfl,a6r hg ho o⟩ (hoff ho) hb
theorem b0x (c:aH N gk gb S ρ env m) {g:Gd} (hg:tJ S ρ g) {x:Operand} {k:SV→SS→OL} {L:L} (h:gO tt g (.nilCheck x) S k=some L) (hw:L.wp p Q S.nv ρ ks) :
  Fin p Q ks N ρ S env k (QO P tt p ρ g env m (.nilCheck x)):=by
 simp only [gO] at h
 have cnd:∀ {hv:Gd},(g.same hv || hv.same none && g.same none)=true→g=hv:=fun {hv} e=>by
  simp only [Bool.or_eq_true,zxz] at e
  rcases e with e | ⟨e1,e2⟩
  ·exact Gd.fD e
  ·rw [Gd.fD e1,Gd.fD e2]
 split at h
 ·rename_i b off hv hx
  obtain ⟨v,h1,h2,h3⟩:=c.gI hx
  cases hc:(g.same hv || hv.same none && g.same none) with
  | false=>rw [hc] at h; simp at h
  | true =>
   rw [hc] at h
   have:=cnd hc
   subst this
   refine aCk c hg h hw h3 (fun ho=>⟨v,?_,h2⟩) (fun ho=>?_)
   ·obtain ⟨l,_,h4⟩:=h2.1 ho
    simp only [bK,tC,h1,h4,aOb]
   ·rw [h2.2 ho] at h2; exact h2
 ·rename_i a n off hv hx
  obtain ⟨v,h1,h2,h3⟩:=c.gI hx
  cases hc:(g.same hv || hv.same none && g.same none) with
  | false=>rw [hc] at h; simp at h
  | true =>
   rw [hc] at h
   have:=cnd hc
   subst this
   refine aCk c hg h hw h3 (fun ho=>⟨v,?_,h2⟩) (fun ho=>?_)
   ·obtain ⟨cs,h4,_⟩:=h2.1 ho
    simp only [bK,tC,h1,h4,aOb]
   ·rw [h2.2 ho] at h2; exact h2
 ·rename_i s hx
  split at h
  ·rename_i a ha
   obtain ⟨v,h1,h2,h3⟩:=c.gI hx
   refine oZ c h hw fun hon w hw'=>?_
   simp only [E.ev,← aFv (fun _ _=>Gd.fD) h2 ha hon] at hw'
   simp only [bK,tC,h1]
   exact bDt hw'
  ·simp at h
 ·simp at h
include hT in
theorem bBt (c:aH N gk gb S ρ env m) {g:Gd} (hgk:tJ S ρ g) {op:BinOp} {t u:TypeId} {x y:Operand} {k:SV→SS→OL} {L:L} (h:gO tt g (.binOp op t x y u) S k=some L) (hw:L.wp p Q S.nv ρ ks) :
  Fin p Q ks N ρ S env k (QO P tt p ρ g env m (.binOp op t x y u)):=by
 simp only [gO] at h
 split at h
 ·rename_i ti a b hti ha hb
  obtain ⟨tok,htt⟩:=hT t ti hti
  obtain ⟨v1,h1,h1',_⟩:=c.jB ha
  obtain ⟨v2,h2,h2',_⟩:=c.jB hb
  have hdd:=tok.d
  have hee:=tok.eq
  rw [htt] at hdd hee
  have hev:bK P (CE tt p) env m.H (.binOp op t x y u)=aBu P op t v1 v2:=by simp only [bK,ev2,h1,h2]
  have cor:gP ρ g→∀ w,(E.bin op a b).ev p ρ=some w→∃ v,bK P (CE tt p) env m.H (.binOp op t x y u)=some v∧v.aF=w:=fun hon w hw'=>by
   simp only [E.ev,← h1' hon,← h2' hon] at hw'
   rw [hev]; exact bGb hw'
  have int:∀ {L:Go.Fbs.L},L.wp p Q S.nv ρ ks→b0g g op a b S k=some L→Fin p Q ks N ρ S env k (QO P tt p ρ g env m (.binOp op t x y u)):=fun hw he=>by
   unfold b0g at he
   cases op <;> first | exact oZ c he hw cor | exact iW c he hgk hw cor
  split at h
  ·exact int hw h
  ·exact int hw h
  ·rename_i hd
   rw [hd] at hdd
   cases he:ti.eq with
   | false=>rw [he] at h; simp at h
   | true =>
    rw [he] at h
    simp only [cond_true] at h
    have hgd:=(hee he).2
    split at h
    ·refine iW c h hgk hw fun hon w hw'=>?_
     simp only [E.ev,← h1' hon,← h2' hon] at hw'
     rw [hev]; exact bAg (neg:=false) hdd hgd hw'
    ·refine iW c h hgk hw fun hon w hw'=>?_
     simp only [E.ev,← h1' hon,← h2' hon] at hw'
     rw [hev]; exact bAg (neg:=true) hdd hgd hw'
    ·simp at h
  ·rename_i fs hd
   cases he:(ti.eq && ti.agg) with
   | false=>rw [he] at h; simp at h
   | true =>
    rw [he] at h
    simp only [cond_true] at h
    simp only [zxz] at he
    have hgd:=(hee he.1).2
    split at h
    ·rename_i qs hqs
     have key:∀ (neg:Bool) (w:V),aFo qs neg v1.aF v2.aF=some w→∃ v,aBu P (if neg then .neq else .eql) t v1 v2=some v∧v.aF=w:=by
      intro neg w hw'
      unfold aFo at hw'
      split at hw'
      ·rename_i xs ys e1 e2
       obtain ⟨xs,rfl,rfl⟩:=aA9 e1
       obtain ⟨ys,rfl,rfl⟩:=aA9 e2
       simp only [zyy] at hw'
       obtain ⟨r,e3,rfl⟩:=hw'
       have e4:=(aX3 hT 20 t ti qs hti hqs).2 xs ys r (aI5 e3)
       simp only [he.2,if_true] at e4
       cases neg <;> simp [aBu,hgd,e4,V.aF]
      ·simp at hw'
     split at h
     ·refine iW c h hgk hw fun hon w hw'=>?_
      simp only [E.ev,← h1' hon,← h2' hon] at hw'
      rw [hev]; exact key false w hw'
     ·refine iW c h hgk hw fun hon w hw'=>?_
      simp only [E.ev,← h1' hon,← h2' hon] at hw'
      rw [hev]; exact key true w hw'
     ·simp at h
    ·simp at h
  ·simp at h
 ·simp at h
theorem bDw (c:aH N gk gb S ρ env m) {g:Gd} (hgk:tJ S ρ g) {op:UnOp} {t:TypeId} {x:Operand} {k:SV→SS→OL} {L:L} (h:gO tt g (.unOp op t x) S k=some L) (hw:L.wp p Q S.nv ρ ks) :
  Fin p Q ks N ρ S env k (QO P tt p ρ g env m (.unOp op t x)):=by
 simp only [gO] at h
 split at h
 ·rename_i a ha
  obtain ⟨v1,h1,h1',_⟩:=c.jB ha
  refine iW c h hgk hw fun hon w hw'=>?_
  simp only [E.ev,← h1' hon] at hw'
  simp only [bK,tC,h1]
  exact bJb hw'
 ·simp at h
include hT in
theorem b33 (c:aH N gk gb S ρ env m) {g:Gd} (hgk:tJ S ρ g) {s d:TypeId} {x:Operand} {k:SV→SS→OL} {L:L} (h:gO tt g (.convert s d x) S k=some L) (hw:L.wp p Q S.nv ρ ks) :
  Fin p Q ks N ρ S env k (QO P tt p ρ g env m (.convert s d x)):=by
 simp only [gO] at h
 split at h
 ·rename_i si di a hsi hdi ha
  obtain ⟨stok,hst⟩:=hT s si hsi
  obtain ⟨dtok,hdt⟩:=hT d di hdi
  obtain ⟨v1,h1,h1',_⟩:=c.jB ha
  have hs:=stok.d
  have hd:=dtok.d
  rw [hst] at hs
  rw [hdt] at hd
  have hev:bK P (CE tt p) env m.H (.convert s d x)=a6f P s d v1:=by simp only [bK,tC,h1]
  split at h
  ·rename_i q1 q2 e1 e2
   rw [e1] at hs; rw [e2] at hd
   refine iW c h hgk hw fun hon w hw'=>?_
   simp only [E.ev,← h1' hon] at hw'
   rw [hev,bBj hs hd]; exact bBp hw'
  ·rename_i e1 e2
   rw [e1] at hs; rw [e2] at hd
   refine iW c h hgk hw fun hon w hw'=>?_
   simp only [E.ev,← h1' hon] at hw'
   rw [hev,b69 hs hd]; exact b7p hw'
  ·rename_i e e1 e2
   rw [e1] at hs; rw [e2] at hd
   split at h
   ·rename_i ei hei
    split at h
    ·rename_i e3
     obtain ⟨etok,het⟩:=hT e ei hei
     have he:=etok.d
     rw [het,e3] at he
     refine oZ c h hw fun hon w hw'=>?_
     simp only [E.ev,← h1' hon] at hw'
     rw [hev,b7a hs he hd]; exact b7q hw'
    ·simp at h
   ·simp at h
  ·simp at h
 ·simp at h
include hT in
theorem bBu (c:aH N gk gb S ρ env m) {g:Gd} {t:TypeId} {x:Operand} {lo hi:Option Operand} {k:SV→SS→OL} {L:L} (h:gO tt g (.slice t x lo hi none) S k=some L) (hw:L.wp p Q S.nv ρ ks) :
  Fin p Q ks N ρ S env k (QO P tt p ρ g env m (.slice t x lo hi none)):=by
 simp only [gO] at h
 split at h
 ·rename_i ti a l hh hti ha hl hhi
  obtain ⟨tok,htt⟩:=hT t ti hti
  obtain ⟨v1,h1,h1',_⟩:=c.jB ha
  obtain ⟨v2,h2,h2',_⟩:=c.a82 hl
  obtain ⟨v3,h3,h3',_⟩:=c.a82 hhi
  have hd:=tok.d
  rw [htt] at hd
  have hev:bK P (CE tt p) env m.H (.slice t x lo hi none)=a4w P t v1 v2 v3:=by simp only [bK,h1,h2,h3]
  split at h
  ·rename_i e1
   rw [e1] at hd
   refine oZ c h hw fun hon w hw'=>?_
   simp only [E.ev,← h1' hon,← h2' hon,← h3' hon] at hw'
   rw [hev,b65 hd]; exact bGc hw'
  ·rename_i e e1
   rw [e1] at hd
   split at h
   ·rename_i ei hei
    obtain ⟨etok,het⟩:=hT e ei hei
    have hz:=etok.sz
    rw [het] at hz
    cases hp:Nat.blt 0 ei.sz with
    | false=>rw [hp] at h; simp at h
    | true =>
     rw [hp] at h
     refine oZ c h hw fun hon w hw'=>?_
     simp only [E.ev,← h1' hon,← h2' hon,← h3' hon] at hw'
     rw [hev,b66 hd hz (iC hp)]; exact bGd hw'
   ·simp at h
  ·simp at h
 ·simp at h
include hT in
theorem aX4 {t : TypeId} {ti : TI} (hti : cU tt t = some ti) {fs : List (Nat × TypeId)} (hd : ti.d = .st fs) {f off : Nat} {ft : TypeId} (hf : fs[f]? = some (off,ft)) :
  ∃ (a : Array Field) (fd : Field),P.underlying t = some (.struct a) ∧ a[f]? = some fd ∧ fd.offset = off ∧ fd.type = ft:=by
 obtain ⟨tok,htt⟩:=hT t ti hti
 have hdd:=tok.d
 rw [htt,hd] at hdd
 obtain ⟨a,h1,h2,_⟩:=hdd
 rw [← h2,zvz,zyy] at hf
 obtain ⟨fd,h3,h4⟩:=hf
 simp only [zvy] at h4
 exact ⟨a,fd,h1,by rw [← Array.getElem?_toList]; exact h3,h4.1,h4.2⟩
include hT in
theorem bBv (c:aH N gk gb S ρ env m) {g:Gd} (hgk:tJ S ρ g) {t:TypeId} {x:Operand} {f:Nat} {k:SV→SS→OL} {L:L} (h:gO tt g (.field t x f) S k=some L) (hw:L.wp p Q S.nv ρ ks) :
  Fin p Q ks N ρ S env k (QO P tt p ρ g env m (.field t x f)):=by
 simp only [gO] at h
 split at h
 ·rename_i ti a hti ha
  obtain ⟨v1,h1,h1',hbel⟩:=c.jB ha
  split at h
  ·rename_i fs hd
   split at h
   ·rename_i off ft hf
    split at h
    ·rename_i fi hfi
     obtain ⟨A',fd,hu,hfd,ho,hft⟩:=aX4 hT hti hd hf
     obtain ⟨ftok,hftt⟩:=hT ft fi hfi
     have hag:=ftok.agg; have hsz:=ftok.sz
     rw [hftt] at hag hsz
     have hev:bK P (CE tt p) env m.H (.field t x f)=aFl fi.agg fi.sz off v1:=by
      simp only [bK,tC,h1]
      exact bBi hu hfd (by rw [hft]; exact hag) (by rw [hft]; exact hsz) ho v1
     have part:∀ {pg:Bool} {pn:Nat} {L:Go.Fbs.L},L.wp p Q S.nv ρ ks→fi.agg=pg→(pg=true→pn=fi.sz)→jQ g [a] (.part pg pn off a) S k=some L→Fin p Q ks N ρ S env k (QO P tt p ρ g env m (.field t x f)):=by
      intro pg pn L hw hpg hpn he
      refine iW c he hgk hw fun hon w hw'=>?_
      simp only [E.ev,← h1' hon] at hw'
      obtain ⟨cs,v',e1,e2,e3,_⟩:=b31 hw'
      refine ⟨v',?_,e3⟩
      rw [hev,e1,hpg]
      simp only [aFl]
      cases pg with
      | true=>rw [← hpn rfl]; exact e2
      | false=>simp only [sI,zuy,if_false] at e2 ⊢; exact e2
     cases hg:fi.agg with
     | true=>rw [hg] at h; exact part hw hg (fun _=>rfl) h
     | false =>
      rw [hg] at h
      simp only [cond_false] at h
      cases hz1:Nat.beq fi.sz 1 with
      | false=>rw [hz1] at h; simp at h
      | true =>
       rw [hz1] at h
       simp only [cond_true] at h
       split at h
       ·rename_i i
        cases hc:(S.mQ (.v i) ti.sz && Nat.blt off ti.sz && Nat.blt 0 ti.sz) with
        | false=>rw [hc] at h; exact part hw hg (by simp) h
        | true =>
         rw [hc] at h
         simp only [cond_true] at h
         simp only [zxz] at hc
         obtain ⟨ds,hd1,hd2,hd3⟩:=vZ (iC hc.2) (c.mQ hc.1.1)
         have hlt:=iC hc.1.2
         replace h1':=h1' trivial
         rw [hd1] at h1'
         obtain ⟨cs,rfl,rfl⟩:=aA9 h1'
         rw [zsy] at hd2
         refine pV c h hw ⟨rfl,show bK P (CE tt p) env m.H (.field t x f)=some (cs[off]'(by omega)) from ?_⟩ ?_ ?_
         ·rw [hev,hg]
          simp only [aFl,sI,zuy,if_false]
          exact zyz _
         ·show V.aF _=aA (A.den ρ (.v i)) off
          rw [hd1]
          simp only [aA,V.cells]
          rw [zry,zvz,zyz (by omega)]
          rfl
         ·exact Nat.ble_eq_true_of_le (c.aCj hc.1.1)
       ·exact part hw hg (by simp) h
    ·simp at h
   ·simp at h
  ·simp at h
 ·simp at h
include hT in
theorem aW3 (c:aH N gk gb S ρ env m) {g:Gd} (hgk:tJ S ρ g) {t:TypeId} {x:Operand} {f:Nat} {k:SV→SS→OL} {L:L} (h:gO tt g (.fieldAddr t x f) S k=some L) (hw:L.wp p Q S.nv ρ ks) :
  Fin p Q ks N ρ S env k (QO P tt p ρ g env m (.fieldAddr t x f)):=by
 simp only [gO] at h
 split at h
 ·rename_i ti s hti hs
  obtain ⟨v1,h1,h2,hbel⟩:=c.gI hs
  split at h
  ·rename_i fs hd
   split at h
   ·rename_i off ft hf
    split at h
    ·rename_i fi hfi
     obtain ⟨A',fd,hu,hfd,ho,hft⟩:=aX4 hT hti hd hf
     obtain ⟨ftok,hftt⟩:=hT ft fi hfi
     have hsz:=ftok.sz
     rw [hftt] at hsz
     cases hp:Nat.blt 0 fi.sz with
     | false=>rw [hp] at h; simp at h
     | true =>
      rw [hp] at h
      simp only [cond_true] at h
      obtain ⟨q,hq⟩:∃ q,fi.sz=q+1:=⟨fi.sz - 1,by have:=iC hp; omega⟩
      have hev:bK P (CE tt p) env m.H (.fieldAddr t x f)=aB4 off v1:=by
       simp only [bK,tC,h1]
       exact aWv hu hfd (by rw [hft,hsz,hq]) ho v1
      split at h
      ·rename_i b o hv
       cases hgf:mD hv g with
       | false=>rw [hgf] at h; simp at h
       | true =>
        rw [hgf] at h
        refine aCk c hgk h hw hgk.1 (fun hon=>?_) (fun hoff=>⟨fun h=>absurd h hoff,fun _=>rfl⟩)
        obtain ⟨l,hl,hv'⟩:=h2.1 (uJ hgf hon)
        rw [hev,hv']
        exact ⟨_,rfl,fun _=>⟨l,hl,rfl⟩,fun h=>absurd hon h⟩
      ·rename_i a n o hv
       cases hgf:(mD hv g && Nat.blt 0 n) with
       | false=>rw [hgf] at h; simp at h
       | true =>
        rw [hgf] at h
        simp only [zxz] at hgf
        refine aCk c hgk h hw ?_ (fun hon=>?_) (fun hoff=>⟨fun h=>absurd h hoff,fun _=>rfl⟩)
        ·simp only [SV.below,zxz] at hbel ⊢
         exact ⟨hbel.1,hgk.1⟩
        ·obtain ⟨cs,h3,h4,h5⟩:=h2.1 (uJ hgf.1 hon)
         rw [hev,h3]
         exact ⟨_,rfl,fun _=>⟨cs,by simp,h4,h5⟩,fun h=>absurd hon h⟩
      ·simp at h
    ·simp at h
   ·simp at h
  ·simp at h
 ·simp at h
include hT in
theorem aW4 (c:aH N gk gb S ρ env m) {g:Gd} (hgk:tJ S ρ g) {t:TypeId} {x i:Operand} {k:SV→SS→OL} {L:L} (h:gO tt g (.indexAddr t x i) S k=some L) (hw:L.wp p Q S.nv ρ ks) :
  Fin p Q ks N ρ S env k (QO P tt p ρ g env m (.indexAddr t x i)):=by
 simp only [gO] at h
 split at h
 ·rename_i b o hv hx
  obtain ⟨v1,h1,h1',h1b⟩:=c.gI hx
  split at h
  ·rename_i ti j hti hj
   obtain ⟨tok,htt⟩:=hT t ti hti
   obtain ⟨v2,h2,h2',_⟩:=c.jB hj
   have hd:=tok.d
   rw [htt] at hd
   split at h
   ·rename_i n e e1
    rw [e1] at hd
    split at h
    ·rename_i ei hei
     obtain ⟨etok,het⟩:=hT e ei hei
     have hz:=etok.sz
     rw [het] at hz
     cases hp:(mD hv g && Nat.blt 1 n && Nat.beq ei.sz 1) with
     | false=>rw [hp] at h; simp at h
     | true =>
      rw [hp] at h
      simp only [cond_true] at h
      simp only [zxz] at hp
      have hn1:=iC hp.1.2
      have hs1:=zzx hp.2
      have hev:bK P (CE tt p) env m.H (.indexAddr t x i)=a6i n ei.sz v1 v2:=by
       simp only [bK,ev2,h1,h2]
       exact aSz hd hz v1 v2
      obtain ⟨y,L',kn,bl,e2,e3,e4,e5⟩:=kN c h hw
      have hbel:SV.below (S.nv+1) (.pix b o n (.v S.nv) g)=true:=by
       simp only [SV.below,zxz]
       exact ⟨mZ _,Gd.cF hgk.1 (Nat.le_succ _)⟩
      have hgi:gP (ext ρ S.nv y) g↔gP ρ g:=tI (bZ _ _ _) hgk.1
      rcases xE e2 with ⟨hon,e6⟩ | ⟨hoff,rfl,e6⟩
      ·simp only [E.ev,← h2' hon] at e6
       obtain ⟨l,hl,hv1⟩:=h1'.1 (uJ hp.1.1 hon)
       unfold b7i at e6
       split at e6
       ·rename_i q z hq
        split at e6
        ·rename_i hzn
         simp only [zzz] at e6
         have hv2:=lP hq
         refine ⟨.ptr l (o+z.toNat),m,_,_,_,L',gk,gb,⟨rfl,?_⟩,e3,e4,e5,⟨fun _=>⟨l,q,z.toNat,hl,?_,by omega,rfl⟩,fun h=>absurd (hgi.2 hon) h⟩,hbel,bZ _ _ _,Nat.le_succ _,rfl⟩
         ·rw [rS hon,hev,hv1,hv2]
          simp only [a6i,hs1,Nat.mul_one]
          rw [if_pos ⟨hzn.1,hzn.2,hn1⟩]
         ·show ext ρ S.nv y S.nv=_
          rw [kD,← e6]
          congr 1; omega
        ·simp at e6
       ·simp at e6
      ·exact ⟨.undef,m,_,_,_,L',gk,gb,⟨rfl,e6 _⟩,e3,e4,e5,⟨fun h=>absurd (hgi.1 h) hoff,fun _=>rfl⟩,hbel,bZ _ _ _,Nat.le_succ _,rfl⟩
    ·simp at h
   ·simp at h
  ·simp at h
 ·split at h
  ·rename_i ti a j hti ha hj
   obtain ⟨tok,htt⟩:=hT t ti hti
   obtain ⟨v1,h1,h1',_⟩:=c.jB ha
   obtain ⟨v2,h2,h2',_⟩:=c.jB hj
   have hd:=tok.d
   rw [htt] at hd
   split at h
   ·rename_i e e1
    rw [e1] at hd
    split at h
    ·rename_i ei hei
     obtain ⟨etok,het⟩:=hT e ei hei
     have hz:=etok.sz
     rw [het] at hz
     cases hp:(Nat.blt 0 ei.sz && (ei.agg || Nat.beq ei.sz 1)) with
     | false=>rw [hp] at h; simp at h
     | true =>
      rw [hp] at h
      simp only [cond_true] at h
      simp only [zxz,Bool.or_eq_true] at hp
      have hpos:=iC hp.1
      obtain ⟨q,hq⟩:∃ q,ei.sz=q+1:=⟨ei.sz - 1,by omega⟩
      have hev:bK P (CE tt p) env m.H (.indexAddr t x i)=a2f ei.sz v1 v2:=by
       simp only [bK,ev2,h1,h2,hq]
       exact aSy hd (by rw [hz,hq]) v1 v2
      obtain ⟨y,L',kn,bl,e2,e3,e4,e5⟩:=kN c h hw
      have hbel:SV.below (S.nv+1) (.elem (.v S.nv) (bif ei.agg then ei.sz else 0) 0 g)=true:=by
       simp only [SV.below,zxz]
       exact ⟨mZ _,Gd.cF hgk.1 (Nat.le_succ _)⟩
      have hgi:gP (ext ρ S.nv y) g↔gP ρ g:=tI (bZ _ _ _) hgk.1
      rcases xE e2 with ⟨hon,e6⟩ | ⟨hoff,rfl,e6⟩
      ·simp only [E.ev,← h1' hon,← h2' hon] at e6
       obtain ⟨cs,e7,e8,e9⟩:=bDr e6 hpos (fun hg=>by
        rcases hp.2 with h | h
        ·rw [hg] at h; simp at h
        ·exact zzx h)
       refine ⟨.ro cs,m,_,_,_,L',gk,gb,⟨rfl,?_⟩,e3,e4,e5,⟨fun _=>⟨cs,rfl,?_,?_⟩,fun h=>absurd (hgi.2 hon) h⟩,hbel,bZ _ _ _,Nat.le_succ _,rfl⟩
       ·rw [rS hon,hev]; exact e7
       ·show _=(ext ρ S.nv y S.nv).cells; rw [kD]; exact e8
       ·show nT _ (ext ρ S.nv y S.nv); rw [kD]
        cases hg:ei.agg <;> rw [hg] at e9 <;> exact e9
      ·exact ⟨.undef,m,_,_,_,L',gk,gb,⟨rfl,e6 _⟩,e3,e4,e5,⟨fun h=>absurd (hgi.1 h) hoff,fun _=>rfl⟩,hbel,bZ _ _ _,Nat.le_succ _,rfl⟩
    ·simp at h
   ·simp at h
  ·simp at h
include hT in
theorem bBw (c:aH N gk gb S ρ env m) {g:Gd} {t:TypeId} {x i:Operand} {k:SV→SS→OL} {L:L} (h:gO tt g (.index t x i) S k=some L) (hw:L.wp p Q S.nv ρ ks) :
  Fin p Q ks N ρ S env k (QO P tt p ρ g env m (.index t x i)):=by
 simp only [gO] at h
 split at h
 ·rename_i ti a j hti ha hj
  obtain ⟨tok,htt⟩:=hT t ti hti
  obtain ⟨v1,h1,h1',_⟩:=c.jB ha
  obtain ⟨v2,h2,h2',_⟩:=c.jB hj
  have hd:=tok.d
  rw [htt] at hd
  have hev:bK P (CE tt p) env m.H (.index t x i)=a4x P t v1 v2:=by simp only [bK,ev2,h1,h2]
  split at h
  ·rename_i e1
   rw [e1] at hd
   refine oZ c h hw fun hon w hw'=>?_
   simp only [E.ev,← h1' hon,← h2' hon] at hw'
   rw [hev,b67 hd]; exact bDp hw'
  ·rename_i n e e1
   rw [e1] at hd
   split at h
   ·rename_i ei hei
    obtain ⟨etok,het⟩:=hT e ei hei
    have hz:=etok.sz; have hag:=etok.agg
    rw [het] at hz hag
    refine oZ c h hw fun hon w hw'=>?_
    simp only [E.ev,← h1' hon,← h2' hon] at hw'
    rw [hev,b68 hd hag hz]; exact bDq hw'
   ·simp at h
  ·simp at h
 ·simp at h
theorem b34 (c:aH N gk gb S ρ env m) {g:Gd} (hgk:tJ S ρ g) {x:Operand} {i:Nat} {k:SV→SS→OL} {L:L} (h:gO tt g (.extract x i) S k=some L) (hw:L.wp p Q S.nv ρ ks) :
  Fin p Q ks N ρ S env k (QO P tt p ρ g env m (.extract x i)):=by
 simp only [gO] at h
 split at h
 ·rename_i a ha
  obtain ⟨v1,h1,h1',_⟩:=c.jB ha
  refine iW c h hgk hw fun hon w hw'=>?_
  simp only [E.ev,← h1' hon] at hw'
  simp only [bK,tC,h1]
  exact bGe hw'
 ·simp at h
theorem aTt (c : aH N gk gb S ρ env m) : ∀ {xs : List Operand} {l : List (Nat × Nat)},a84 S xs = some l → xs = l.map (fun q=>Operand.tmp q.1) ∧ ∃ cs,Fbs.nN env xs = some cs ∧ cs.length = l.length ∧ ∀ (i : Nat) q v,l[i]? = some q → cs[i]? = some v → ∃ l',gb[q.2]? = some l' ∧ v = .ptr l' 0
 | [],l,h=>by
  simp only [a84,zzz] at h
  subst h
  exact ⟨rfl,[],rfl,rfl,fun i q v hq _=>by simp at hq⟩
 | .tmp t::r,l,h=>by
  simp only [a84] at h
  split at h
  ·rename_i b l' h1 h2
   simp only [zzz] at h
   subst h
   obtain ⟨e0,cs,e1,e2,e3⟩:=aTt c h2
   obtain ⟨g1,g2,_⟩:=c.cE t _ h1
   obtain ⟨a,g3,g4⟩:=g2.1 trivial
   have hev:Fbs.ev env (.tmp t)=some (.ptr a 0):=by
    simp only [Fbs.ev,Env.get]
    rw [if_pos (by rw [c.n]; exact g1),g4]
   refine ⟨by simp [← e0],.ptr a 0::cs,by simp only [Fbs.nN,hev,e1],by simp [e2],fun i q v hq hv=>?_⟩
   cases i with
   | zero =>
    simp only [zux,zzz] at hq hv
    subst hq hv
    exact ⟨a,g3,rfl⟩
   | succ i=>exact e3 i q v (by simpa using hq) (by simpa using hv)
  ·simp at h
 | .const _::_,_,h=>by simp [a84] at h
 | .func _::_,_,h=>by simp [a84] at h
 | .global _::_,_,h=>by simp [a84] at h
theorem b0y (c:aH N gk gb S ρ env m) {g:Gd} {fn:Fn} {first caps:Array Operand} {k:SV→SS→OL} {L:L} (h:gO tt g (.makeFunc fn first caps) S k=some L) (hw:L.wp p Q S.nv ρ ks) :
  Fin p Q ks N ρ S env k (QO P tt p ρ g env m (.makeFunc fn first caps)):=by
 cases fn with
 | func f =>
  simp only [gO] at h
  split at h
  ·rename_i t b l hcap
   cases hf:(first.isEmpty && isE tt f) with
   | false=>rw [hf] at h; simp at h
   | true =>
    rw [hf] at h
    simp only [cond_true] at h
    simp only [zxz] at hf
    obtain ⟨_,cs,e1,e2,e3⟩:=aTt c hcap
    have hfirst:first = #[]:=by simpa using hf.1
    refine pV (v:=.func f cs) c h hw ⟨rfl,?_⟩ ⟨cs,rfl,e2,e3⟩ rfl
    show bK P (CE tt p) env m.H (.makeFunc (.func f) first caps)=_
    simp only [bK,e1,hfirst,if_true]
  split at h
  ·rename_i as has
   obtain ⟨vs,h1,h2,_⟩:=c.oR has
   cases hf:first.isEmpty with
   | false=>rw [hf] at h; simp at h
   | true =>
    rw [hf] at h
    refine oZ c h hw fun hon w hw'=>⟨.func f vs,?_,?_⟩
    ·have:first = #[]:=by simpa using hf
     simp only [bK,h1,this,if_true]
    ·simp only [E.ev,zzz] at hw'
     rw [← hw',← h2 hon]; simp [V.aF,cI]
  ·simp at h
 | _=>simp [gO] at h
end
end Go.Fbs

/- Structs,slices written out,calls. -/
namespace Go.Fbs
section
variable {P:Program} {tt:TT} (hT:∀ t ti,cU tt t=some ti→aV P ti∧ti.t=t)
variable {p:PT} {Q:V→Prop} {ks:List (List V→Prop)} {N:Nat} {gk:Nat→Option Nat} {gb:List Nat} {S:SS} {ρ:Nat→V} {env:Env} {m:Hp}
theorem aFy {α:Type} {cs new:List α} {off:Nat} (h:off+new.length≤cs.length):(hJ cs off new).length=cs.length:=by
 simp [hJ]; omega
theorem aFz {α β:Type} (f:α→β) (cs new:List α) (off:Nat):(hJ cs off new).map f=hJ (cs.map f) off (new.map f):=by
 simp [hJ,List.map_take,List.map_drop]
theorem aRp {cs new:List A} {off nv:Nat} (h1:cs.all (A.below nv)=true) (h2:new.all (A.below nv)=true):(hJ cs off new).all (A.below nv)=true:=by
 rw [List.all_eq_true] at *
 intro a ha
 simp only [hJ,List.mem_append] at ha
 rcases ha with (ha | ha) | ha
 ·exact h1 a (List.mem_of_mem_take ha)
 ·exact h2 a ha
 ·exact h1 a (List.mem_of_mem_drop ha)
theorem uK {l:List A} {n n':Nat} (h:l.all (A.below n)=true) (hn:n≤n'):l.all (A.below n')=true:=by
 rw [List.all_eq_true] at *
 exact fun a ha=>A.cF (h a ha) hn
theorem tA {ρ':Nat→V} {n:Nat} (h:aZ ρ ρ' n):∀ {l:List A},l.all (A.below n)=true→l.map (A.den ρ')=l.map (A.den ρ)
 | [],_=>rfl
 | a::l,hl=>by
  simp only [List.all_cons,zxz] at hl
  simp only [zsx]
  rw [gQ h hl.1,tA h hl.2]
theorem aF0 {g:Gd} {place:Nat→Option (Nat×TypeId)} {place':Nat→Option (Nat×Nat)} (hpl:∀ i off t ti,place i=some (off,t)→cU tt t=some ti→place' i=some (off,ti.sz)) :
  ∀ {parts:List (Nat×Operand)} {S:SS} {ρ:Nat→V} {cs:List A} {k:List A→SS→OL} {L:L} (c:aH N gk gb S ρ env m) (hgk:tJ S ρ g) (hcs:cs.all (A.below S.nv)=true) {zs:List V} (hz:gP ρ g→zs.map V.aF=cs.map (A.den ρ))
   (h:a45 tt g place parts cs S k=some L) (hw:L.wp p Q S.nv ρ ks),
   ∃ cs' nv kn bl ρ' L',k cs' (S.lL nv kn bl)=some L'∧L'.wp p Q nv ρ' ks∧aH N gk gb (S.lL nv kn bl) ρ' env m∧S.nv≤nv∧aZ ρ ρ' S.nv ∧
    (gP ρ g→∃ ps zs',pR env parts=some ps∧rV ps=true∧xS place' zs ps=some zs'∧zs'.map V.aF=cs'.map (A.den ρ'))
 | [],S,ρ,cs,k,L,c,hgk,hcs,zs,hz,h,hw=>⟨cs,S.nv,S.known,(S.cS,S.a2l),ρ,L,h,hw,c,zxy _,aZ.refl _ _,fun hon=>⟨[],zs,rfl,rfl,rfl,hz hon⟩⟩
 | (i,x)::r,S,ρ,cs,k,L,c,hgk,hcs,zs,hz,h,hw=>by
  simp only [a45] at h
  split at h
  ·rename_i off t a hp ha
   split at h
   ·rename_i ti hti
    obtain ⟨v,h1,h1',hab⟩:=c.jB ha
    have hpl':=hpl i off t ti hp hti
    cases hle:Nat.ble (off+ti.sz) cs.length with
    | false=>rw [hle] at h; simp at h
    | true =>
     rw [hle] at h
     simp only [cond_true] at h
     have hle':=zxx hle
     have go:∀ {new:List A} {nv1:Nat} {kn1:List (Nat×Nat)} {bl1:List Nat×List Nat} {ρ1:Nat→V} {L1:Go.Fbs.L},a45 tt g place r (hJ cs off new) (S.lL nv1 kn1 bl1) k=some L1→L1.wp p Q nv1 ρ1 ks→aH N gk gb (S.lL nv1 kn1 bl1) ρ1 env m→S.nv≤nv1→aZ ρ ρ1 S.nv →
       new.all (A.below nv1)=true→(gP ρ g→v.cells.map V.aF=new.map (A.den ρ1)∧v.cells.length=ti.sz∧v.mB=true) →
       ∃ cs' nv kn bl ρ' L',k cs' (S.lL nv kn bl)=some L'∧L'.wp p Q nv ρ' ks∧aH N gk gb (S.lL nv kn bl) ρ' env m∧S.nv≤nv∧aZ ρ ρ' S.nv ∧
        (gP ρ g→∃ ps zs',pR env ((i,x)::r)=some ps∧rV ps=true∧xS place' zs ps=some zs'∧zs'.map V.aF=cs'.map (A.den ρ')):=by
      intro new nv1 kn1 bl1 ρ1 L1 k1 k2 k3 k6 k7 hnew hval
      have hon1:gP ρ1 g↔gP ρ g:=tI k7 hgk.1
      obtain ⟨cs',nv,kn,bl,ρ',L',q1,q2,q3,q4,q5,q6⟩:=aF0 hpl k3 (hgk.more k6 k7) (cs:=hJ cs off new) (zs:=hJ zs off v.cells)
       (aRp (uK hcs k6) hnew) (fun ho=>by
        have ho:=hon1.1 ho
        rw [aFz,aFz,hz ho,(hval ho).1,tA k7 hcs]) k1 k2
      refine ⟨cs',nv,kn,bl,ρ',L',q1,q2,q3,Nat.le_trans k6 q4,k7.trans q5 k6,fun hon=>?_⟩
      obtain ⟨ps,zs',p1,p2,p3,p4⟩:=q6 (hon1.2 hon)
      obtain ⟨v1,v2,v3⟩:=hval hon
      have hzl:zs.length=cs.length:=by have:=congrArg List.length (hz hon); simpa using this
      refine ⟨(i,v)::ps,zs',by simp only [pR,h1,p1],by simp only [rV,List.all_cons,v3,Bool.true_and]; exact p2,?_,p4⟩
      simp only [xS,hpl']
      have:(v.cells.length≠ti.sz || off+v.cells.length > zs.length)=false:=by simp [v2]; omega
      rw [if_neg (by rw [this]; simp)]; exact p3
     cases hag:ti.agg with
     | true =>
      rw [hag] at h
      simp only [cond_true] at h
      obtain ⟨j,nv1,kn1,bl1,ρ1,L1,k1,k2,k3,k4,k5,k6,k7,k8⟩:=aP2 c h hw
      have hcl:(cellsOf j ti.sz 0).length=ti.sz:=a97 _ _ _
      refine go k1 k2 k3 k6 k7 (aD9 k5 0) fun hon=>?_
      obtain ⟨e1,e2⟩:=k8 hon
      obtain ⟨ds,d1,d2,d3⟩:=vZ k4 e2
      have hvc:v.cells.map V.aF=(cellsOf j ti.sz 0).map (A.den ρ1):=by
       rw [a98 ρ1 (cs:=ds) (by rw [d1]; rfl) d2,← a44,h1' hon,← e1,d1]; rfl
      exact ⟨hvc,by have:=congrArg List.length hvc; simpa [hcl] using this,by rw [← aOj,h1' hon,← e1,d1]; rfl⟩
     | false =>
      rw [hag] at h
      simp only [cond_false] at h
      cases hz1:Nat.beq ti.sz 1 with
      | false=>rw [hz1] at h; simp at h
      | true =>
       rw [hz1] at h
       simp only [cond_true] at h
       obtain ⟨a',nv1,kn1,bl1,ρ1,L1,k1,k2,k3,k5,k6,k7,k8⟩:=aFw c hab h hw
       refine go k1 k2 k3 k6 k7 (by simp [k5]) fun hon=>?_
       obtain ⟨e1,e2⟩:=k8 hon
       have hsv:sc v=true:=by rw [← aS7,h1' hon]; exact e2
       rw [a7s hsv]
       exact ⟨by simp [h1' hon,e1],by rw [zzx hz1]; rfl,aS6 hsv⟩
   ·simp at h
  ·simp at h
include hT in
theorem b0z {fs : List Field} {fs' : List (Nat × TypeId)} (hf : fs.map (fun f=>(f.offset,f.type)) = fs') (hall : ∀ q ∈ fs',∃ ti,cU tt q.2 = some ti) : ∃ ps,a3p P fs = some ps ∧ ∀ (i off : Nat) t ti,fs'[i]? = some (off,t) → cU tt t = some ti → ps[i]? = some (off,ti.sz):=by
 induction fs generalizing fs' with
 | nil=>subst hf; exact ⟨[],rfl,fun i off t ti h=>by simp at h⟩
 | cons f fs ih =>
  subst hf
  obtain ⟨ps,h1,h2⟩:=ih rfl (fun q hq=>hall q (by simp only [zsx]; exact List.mem_cons_of_mem _ hq))
  obtain ⟨ti,hti⟩:=hall (f.offset,f.type) (by simp)
  obtain ⟨tok,htt⟩:=hT f.type ti hti
  have hsz:=tok.sz
  rw [htt] at hsz
  refine ⟨(f.offset,ti.sz)::ps,by simp only [a3p,hsz,h1],fun i off t ti' h3 h4=>?_⟩
  cases i with
  | zero =>
   simp only [zsx,zux,zzz,zvy] at h3
   obtain ⟨rfl,rfl⟩:=h3
   rw [hti] at h4
   simp only [zzz] at h4
   subst h4; rfl
  | succ i =>
   simp only [zsx,zvx] at h3
   exact h2 i off t ti' h3 h4
theorem aP3 (z:List V):(z.map fun v=>A.k v.aF).map (A.den ρ)=z.map V.aF:=by simp [List.map_map,Function.comp_def,A.den]
theorem aI7 (z:List V) (n:Nat):(z.map fun v=>A.k v.aF).all (A.below n)=true:=by simp [List.all_map,Function.comp_def,A.below]
theorem a9c {l:List V} {w:V} (h:aG l=some w):w = .agg l∧l.all sc=true:=by
 unfold aG at h
 split at h
 ·rename_i hs
  simp only [zzz] at h
  exact ⟨h.symm,hs⟩
 ·simp at h
theorem aMj {place : Nat → Option (Nat × Nat)} {j : Nat} : ∀ {ps : List (Nat × V)} {zs zs' : List V},xS place zs ps = some zs' → (∀ q ∈ ps,∀ off sz,place q.1 = some (off,sz) → j < off ∨ off + sz ≤ j) → zs'[j]? = zs[j]?
 | [],zs,zs',h,_=>by simp only [xS,zzz] at h; rw [h]
 | (i,v)::r,zs,zs',h,hk=>by
  simp only [xS] at h
  split at h
  ·simp at h
  ·rename_i off size hp
   split at h
   ·simp at h
   ·rename_i hc
    have hc:v.cells.length=size∧¬ off+v.cells.length > zs.length:=by simpa using hc
    rw [aMj h fun q hq=>hk q (by simp [hq])]
    rcases hk (i,v) (by simp) off size hp with h1 | h1
    ·rw [zty,ztz (by simp; omega),List.getElem?_take,if_pos h1]
    ·rw [ztx (by simp; omega),List.getElem?_drop]
     congr 1; simp; omega
theorem aI8 {env:Env} : ∀ {parts:List (Nat×Operand)} {ps:List (Nat×V)},pR env parts=some ps→∀ q ∈ ps,∃ x,(q.1,x) ∈ parts
 | [],ps,h,q,hq=>by simp only [pR,zzz] at h; subst h; simp at hq
 | (i,x)::r,ps,h,q,hq=>by
  simp only [pR] at h
  split at h
  ·rename_i v vs h1 h2
   simp only [zzz] at h
   subst h
   rcases List.mem_cons.1 hq with rfl | hq
   ·exact ⟨x,by simp⟩
   ·obtain ⟨y,hy⟩:=aI8 h2 q hq
    exact ⟨y,by simp [hy]⟩
  ·simp at h
include hT in
theorem bBx (c:aH N gk gb S ρ env m) {g:Gd} (hgk:tJ S ρ g) {t:TypeId} {parts:Array (Nat×Operand)} {k:SV→SS→OL} {L:L} (h:gO tt g (.build t parts) S k=some L) (hw:L.wp p Q S.nv ρ ks) :
  Fin p Q ks N ρ S env k (QO P tt p ρ g env m (.build t parts)):=by
 simp only [gO] at h
 split at h
 ·rename_i ti hti
  obtain ⟨tok,htt⟩:=hT t ti hti
  have hd:=tok.d
  rw [htt] at hd
  have fin:∀ {pl:Nat→Option (Nat×TypeId)} {pl':Nat→Option (Nat×Nat)} {z:List V} {L:Go.Fbs.L},ti.z=some z→(∀ i off t ti,pl i=some (off,t)→cU tt t=some ti→pl' i=some (off,ti.sz)) →
    (∀ ps,rV ps=true→aAv P t ps=(xS pl' z ps).map V.agg)→L.wp p Q S.nv ρ ks→a45 tt g pl parts.toList (z.map fun v=>.k v.aF) S (fun cs S'=>jQ g cs (.agg cs) S' k)=some L→Fin p Q ks N ρ S env k (QO P tt p ρ g env m (.build t parts)):=by
   intro pl pl' z L hz hpl hb hw h
   obtain ⟨cs',nv,kn,bl,ρ',L',q1,q2,q3,q4,q5,q6⟩:=aF0 hpl c hgk (aI7 z _) (zs:=z) (fun _=>(aP3 z).symm) h hw
   have hon1:gP ρ' g↔gP ρ g:=tI q5 hgk.1
   have hgo:∀ o:Option V,jE ρ' g o=jE ρ g o:=fun o=>by
    cases g with
    | none=>rfl
    | some q =>
     obtain ⟨a,b⟩:=q
     simp only [jE]
     rw [gQ q5 (show a.below S.nv=true from hgk.1)]
   refine Fin.step (Fin.mono (iW q3 (o:=bK P (CE tt p) env m.H (.build t parts)) q1 (hgk.more q4 q5) q2 fun hon w hw'=>?_) fun v m' ⟨e1,e2⟩=>⟨e1,by rw [← hgo]; exact e2⟩) q5 q4 rfl
   obtain ⟨ps,zs',p1,p2,p3,p4⟩:=q6 (hon1.1 hon)
   simp only [E.ev] at hw'
   obtain ⟨rfl,_⟩:=a9c hw'
   refine ⟨.agg zs',?_,?_⟩
   ·simp only [bK,p1]
    rw [hb ps p2,p3]; rfl
   ·simp only [V.aF,cI,p4]
  split at h
  ·rename_i fs z hdd hz
   rw [hdd] at hd
   obtain ⟨a,hu,hfs,_⟩:=hd
   obtain ⟨zv,hz1,hz2,_⟩:=tok.z z hz
   rw [htt] at hz1
   cases hall:fs.all (fun q=>(cU tt q.2).isSome) with
   | false=>rw [hall] at h; simp at h
   | true =>
    rw [hall] at h
    simp only [cond_true] at h
    obtain ⟨ps,hp1,hp2⟩:=b0z hT (fs:=a.toList) hfs (fun q hq=>Option.isSome_iff_exists.1 (List.all_eq_true.1 hall q hq))
    have hb:∀ ps',rV ps'=true→aAv P t ps'=(xS (fun i=>ps[i]?) z ps').map V.agg:=fun ps' hok=>by
     unfold aAv aE9
     rw [if_pos hok]
     simp only [hu,hz1,hp1,hz2]
    cases g with
    | some q=>exact fin (pl':=fun i=>ps[i]?) hz hp2 hb hw h
    | none =>
     obtain ⟨cs',nv,kn,bl,ρ',L',q1,q2,q3,q4,q5,q6⟩:=aF0 (place':=fun i=>ps[i]?) hp2 c hgk (aI7 z _) (zs:=z) (fun _=>(aP3 z).symm) h hw
     obtain ⟨y,L2,kn2,bl2,r1,r2,r3,r4⟩:=kN q3 q1 q2
     obtain ⟨pv,zs',p1,p2,p3,p4⟩:=q6 trivial
     have r1:aG (cs'.map (A.den ρ'))=some y:=r1
     obtain ⟨rfl,_⟩:=a9c r1
     have hev:bK P (CE tt p) env m.H (.build t parts)=some (.agg zs'):=by
      simp only [bK,p1]
      rw [hb pv p2,p3]; rfl
     have her:(V.agg zs').aF = .agg (cs'.map (A.den ρ')):=by simp only [V.aF,cI,p4]
     have hrel:dQ (ext ρ' nv (.agg (cs'.map (A.den ρ')))) gk gb m.T (aMb (.v nv) (b0h tt fs parts.toList z)) (.agg zs'):=by
      have h0:(V.agg zs').aF=A.den (ext ρ' nv (.agg (cs'.map (A.den ρ')))) (.v nv):=by
       show _=ext ρ' nv _ nv
       rw [kD]; exact her
      unfold aMb
      split
      ·exact h0
      ·refine ⟨h0,zs',rfl,fun j hj=>?_⟩
       unfold b0h at hj
       rw [List.mem_filter] at hj
       obtain ⟨_,hj⟩:=hj
       simp only [zxz] at hj
       obtain ⟨hj1,hj2⟩:=hj
       rw [aMj (j:=j) p3 fun q hq off sz hpl=>?_]
       ·split at hj1
        ·rename_i hzj; exact hzj
        ·simp at hj1
       ·obtain ⟨x,hx⟩:=aI8 p1 q hq
        have h5:=List.all_eq_true.1 hj2 _ hx
        simp only at h5
        split at h5
        ·rename_i off' t' hfq
         split at h5
         ·rename_i ti' hti'
          have h6:=hp2 q.1 off' t' ti' hfq hti'
          have hpl : ps[q.1]? = some (off,sz):=hpl
          rw [hpl] at h6
          simp only [zzz,zvy] at h6
          obtain ⟨rfl,rfl⟩:=h6
          simp only [Bool.or_eq_true] at h5
          rcases h5 with h5 | h5
          ·exact .inl (iC h5)
          ·exact .inr (zxx h5)
         ·simp at h5
        ·simp at h5
     refine Fin.step ⟨.agg zs',m,aMb (.v nv) (b0h tt fs parts.toList z),_,ext ρ' nv (.agg (cs'.map (A.den ρ'))),L2,gk,gb,⟨rfl,hev⟩,r2,r3,r4,hrel,?_,bZ _ _ _,Nat.le_succ _,rfl⟩ q5 q4 rfl
     unfold aMb
     split <;> exact mZ _
  ·rename_i n e z hdd hz
   rw [hdd] at hd
   obtain ⟨zv,hz1,hz2,_⟩:=tok.z z hz
   rw [htt] at hz1
   split at h
   ·rename_i ei hei
    obtain ⟨etok,het⟩:=hT e ei hei
    have hsz:=etok.sz
    rw [het] at hsz
    refine fin (pl':=fun i=>some (i*ei.sz,ei.sz)) hz (fun i off t ti h1 h2=>?_) (fun ps' hok=>?_) hw h
    ·simp only [zzz,zvy] at h1
     obtain ⟨rfl,rfl⟩:=h1
     rw [hei] at h2
     simp only [zzz] at h2
     subst h2; rfl
    ·unfold aAv aE9
     rw [if_pos hok]
     have hu:P.underlying t=some (.array n e):=hd
     simp only [hu,hz1,hsz,hz2]
   ·simp at h
  ·simp at h
 ·simp at h
theorem aI9:∀ {parts:List (Nat×Operand)} {n:Nat} {vs:List V},aA6 n parts=true→Fbs.nN env (parts.map (·.2))=some vs→∃ ps,pR env parts=some ps∧wN n ps=some vs∧ps.map (·.2)=vs
 | [],n,vs,_,h=>by simp [Fbs.nN] at h; subst h; exact ⟨[],rfl,rfl,rfl⟩
 | (i,x)::r,n,vs,ho,h=>by
  simp only [aA6,zxz] at ho
  have hi:=zzx ho.1
  subst hi
  simp only [zsx,Fbs.nN] at h
  split at h
  ·rename_i v vs' h1 h2
   simp only [zzz] at h
   subst h
   obtain ⟨ps,e1,e2,e3⟩:=aI9 ho.2 h2
   exact ⟨(i,v)::ps,by simp only [pR,h1,e1],by simp only [wN,if_true,e2]; rfl,by simp [e3]⟩
  ·simp at h
theorem b35 {n:Nat} {vs:List V} {w:V} (h:lO n (vs.map V.aF)=some w):w = .sl .ro (vs.map V.aF)∧vs.length*n≤1000000∧vs.all (fun e=>e.cells.length == n)=true∧vs.all V.mB=true:=by
 unfold lO at h
 split at h
 ·rename_i hc
  simp only [zzz] at h
  obtain ⟨h1,h2⟩:=hc
  rw [zsy] at h1
  rw [List.all_map] at h2
  refine ⟨h.symm,h1,?_,?_⟩
  ·rw [List.all_eq_true] at h2 ⊢
   intro e he
   have:=h2 e he
   simp only [Function.comp_def,sY,zxz] at this
   exact this.1
  ·rw [List.all_eq_true] at h2 ⊢
   intro e he
   have:=h2 e he
   simp only [Function.comp_def,aOj,zxz] at this
   exact this.2
 ·simp at h
theorem aH.b7t (c:aH N gk gb S ρ env m):aH N gk gb { S with nk:=S.nk+1 } ρ env m :=
 ⟨c.n,c.cE,c.boxes,c.lT,c.oY,c.blt,c.kY,fun k i h=>let ⟨h1,h2⟩:=c.tY k i h; ⟨Nat.lt_succ_of_lt h1,h2⟩,c.known,c.cS,c.own⟩
include hT in
theorem aTu (c:aH N gk gb S ρ env m) {g:Gd} (hgk:tJ S ρ g) {t:TypeId} {len:Nat} {parts:Array (Nat×Operand)} {k:SV→SS→OL} {L:L} (h:gO tt g (.buildSlice t len parts) S k=some L) (hw:L.wp p Q S.nv ρ ks) :
  Fin p Q ks N ρ S env k (QO P tt p ρ g env m (.buildSlice t len parts)):=by
 simp only [gO] at h
 split at h
 ·rename_i ti as hti has
  obtain ⟨tok,htt⟩:=hT t ti hti
  have hd:=tok.d
  rw [htt] at hd
  obtain ⟨vs,h1,h2,_,h2l⟩:=c.oR has
  split at h
  ·rename_i e hdd
   rw [hdd] at hd
   have hu:P.underlying t=some (.slice e):=hd
   split at h
   ·rename_i ei hei
    obtain ⟨etok,het⟩:=hT e ei hei
    have hsz:=etok.sz
    rw [het] at hsz
    split at h
    ·rename_i z hz
     obtain ⟨zv,hz1,hz2,_⟩:=etok.z z hz
     rw [het] at hz1
     cases hc:(aA6 0 parts.toList && Nat.beq as.length len && Nat.blt 0 ei.sz && Nat.beq z.length ei.sz) with
     | false=>rw [hc] at h; simp at h
     | true =>
      rw [hc] at h
      simp only [cond_true] at h
      simp only [zxz] at hc
      have hlen:=zzx hc.1.1.2
      have hpos:=iC hc.1.2
      have hzl:=zzx hc.2
      obtain ⟨ps,p1,p2,p3⟩:=aI9 hc.1.1.1 h1
      have hvl:vs.length=len:=by omega
      have hev:gP ρ g→∀ w,lO ei.sz (as.map (A.den ρ))=some w→bK P (CE tt p) env m.H (.buildSlice t len parts)=some (.sl .full (vs.map V.er))∧w = .sl .ro (vs.map V.aF):=by
       intro hon w hw'
       rw [← h2 hon] at hw'
       obtain ⟨e1,e2,e3,e4⟩:=b35 hw'
       refine ⟨?_,e1⟩
       simp only [bK,p1]
       have hok:rV ps=true:=by
        unfold rV
        rw [← p3,List.all_map] at e4
        exact e4
       rw [aSx hu hsz hz1 (by rw [hz2]; exact hzl) hpos len ps]
       unfold a95
       rw [if_pos hok,p2]
       simp only
       rw [if_pos ⟨hvl,by rw [← hvl]; exact e2,e3⟩]
      obtain ⟨y,L',kn,bl,e2,e3,e4,e5⟩:=kN c h hw
      cases g with
      | none =>
       simp only at e3
       obtain ⟨h6,h7⟩:=hev trivial y e2
       have hden:ext ρ S.nv y S.nv = .sl .ro ((vs.map V.er).map V.aF):=by
        rw [kD,h7,List.map_map]
        congr 2
        funext v; exact (b3s v).symm
       cases hz:(Nat.beq (nM e ei.sz) 1 && Nat.blt 0 len) with
       | true =>
        rw [hz] at e3
        refine ⟨.sl .full (vs.map V.er),m,_,_,_,L',gk,gb,⟨rfl,h6⟩,e3,e4,e5,?_,mZ _,bZ _ _ _,Nat.le_succ _,rfl⟩
        show V.aF _=ext ρ S.nv y S.nv
        rw [hden]
        simp only [V.aF,cI]
       | false =>
        rw [hz] at e3
        refine ⟨.sl .full (vs.map V.er),m,_,_,_,L',gk,gb,⟨rfl,h6⟩,e3,e4,e5.b7t,⟨vs.map V.er,hden,.inl ⟨rfl,fun h1=>?_⟩⟩,mZ _,bZ _ _ _,Nat.le_succ _,rfl⟩
        rw [h1] at hz
        simp only [Nat.beq_refl,Bool.true_and] at hz
        rw [zsy,hvl]
        rcases Nat.eq_zero_or_pos len with h | h
        ·exact h
        ·rw [show Nat.blt 0 len=true from Nat.ble_eq_true_of_le h] at hz; simp at hz
      | some q =>
       simp only at e3
       rcases xE e2 with ⟨hon,e6⟩ | ⟨hoff,rfl,e6⟩
       ·obtain ⟨h6,h7⟩:=hev hon y e6
        refine ⟨.sl .full (vs.map V.er),m,_,_,_,L',gk,gb,⟨rfl,by rw [rS hon]; exact h6⟩,e3,e4,e5,?_,mZ _,bZ _ _ _,Nat.le_succ _,rfl⟩
        show V.aF _=ext ρ S.nv y S.nv
        rw [kD,h7]
        simp only [V.aF,cI,List.map_map]
        congr 2
        funext v; exact b3s v
       ·exact ⟨.undef,m,_,_,_,L',gk,gb,⟨rfl,e6 _⟩,e3,e4,e5,by show V.aF _=ext ρ S.nv .undef S.nv; rw [kD]; rfl,mZ _,bZ _ _ _,Nat.le_succ _,rfl⟩
    ·simp at h
   ·simp at h
  ·simp at h
 ·simp at h
end
end Go.Fbs

/- Calls; what makes boxes,writes,grows. -/
namespace Go.Fbs
def Canon (tt:TT) (p:PT):Prop:=∀ f args v,p f args=some v→v.aF=v∧∀ g sg,a4q tt f=some (g,sg)→bF9 sg v
theorem dQ.up {ρ : Nat → V} {gk gk' : Nat → Option Nat} {gb gb' : List Nat} {T T' : List (Nat × Nat)} (hk : ∀ k i,gk k = some i → gk' k = some i) (hb : ∀ (b l : Nat),gb[b]? = some l → gb'[b]? = some l)
  (hT : ∀ (k i : Nat) x,gk k = some i → T[i]? = some x → T'[i]? = some x) {s : SV} {v : V} (r : dQ ρ gk gb T s v) : dQ ρ gk' gb' T' s v:=by
 cases s with
 | val a=>exact r
 | nI a g=>exact r
 | grow k sz a =>
  obtain ⟨es,h1,h2⟩:=r
  refine ⟨es,h1,?_⟩
  rcases h2 with h2 | ⟨i,h3,h4,h5⟩
  ·exact .inl h2
  ·exact .inr ⟨i,hk k i h3,h4,hT k i _ h3 h5⟩
 | nJ=>exact r
 | elem a n off g=>exact r
 | ptr b off g=>exact ⟨fun h=>let ⟨l,h1,h2⟩:=r.1 h; ⟨l,hb b l h1,h2⟩,r.2⟩
 | pix b off n i g=>exact ⟨fun h=>let ⟨l,q,z,h1,h2⟩:=r.1 h; ⟨l,q,z,hb b l h1,h2⟩,r.2⟩
 | stv a nl=>exact r
 | kX f caps=>exact let ⟨cs,h1,h2,h3⟩:=r; ⟨cs,h1,h2,fun i q c h4 h5=>let ⟨l,h6,h7⟩:=h3 i q c h4 h5; ⟨l,hb _ _ h6,h7⟩⟩
 | self b a=>exact let ⟨l,h1,h2⟩:=r; ⟨l,hb _ _ h1,h2⟩
theorem Cells.up {ρ : Nat → V} {gk gk' : Nat → Option Nat} {gb gb' : List Nat} {T T' : List (Nat × Nat)} {nv : Nat} (hk : ∀ k i,gk k = some i → gk' k = some i) (hb : ∀ (b l : Nat),gb[b]? = some l → gb'[b]? = some l)
  (hT : ∀ (k i : Nat) x,gk k = some i → T[i]? = some x → T'[i]? = some x) {cells : List SV} {cs : List V} (r : Cells ρ gk gb T nv cells cs) : Cells ρ gk' gb' T' nv cells cs :=
 ⟨r.1,fun j s c h1 h2=>let ⟨h3,h4⟩:=r.2 j s c h1 h2; ⟨h3.up hk hb hT,h4⟩⟩
section
variable {P:Program} {tt:TT} (hT:∀ t ti,cU tt t=some ti→aV P ti∧ti.t=t)
variable {p:PT} {Q:V→Prop} {ks:List (List V→Prop)} {N:Nat} {gk:Nat→Option Nat} {gb:List Nat} {S:SS} {ρ:Nat→V} {env:Env} {m:Hp}
theorem aH.aX5 (c:aH N gk gb S ρ env m) {cells:List SV} {cs:List V} {e:Option Nat} (hty:STy cells e) (h:Cells ρ gk (gb++[m.H.length]) m.T S.nv cells cs) :
  aH N gk (gb++[m.H.length]) { S with boxes:=S.boxes++[some cells] } ρ env { m with H:=m.H++[.cells e cs] } ∧ dQ ρ gk (gb++[m.H.length]) m.T (.ptr S.boxes.length 0 none) (.ptr m.H.length 0):=by
 have hb : ∀ (b l : Nat),gb[b]? = some l → (gb ++ [m.H.length])[b]? = some l:=fun b l h=>by
  rw [ztz (zzy.1 h).1]; exact h
 have hl : ∀ (b l : Nat),gb[b]? = some l → l < m.H.length:=fun b l h=>c.blt l (zyx h)
 refine ⟨⟨c.n,fun t s hs=>?_,fun b cs' hc=>?_,by simp [c.lT],fun b b' l h1 h2=>?_,fun l hl'=>?_,c.kY,c.tY,c.known,c.cS,fun b hb'=>hb b b (c.own b hb')⟩,fun _=>⟨m.H.length,?_,rfl⟩,fun h=>absurd trivial h⟩
 ·obtain ⟨h1,h2,h3⟩:=c.cE t s hs
  exact ⟨h1,h2.up (fun _ _ h=>h) hb (fun _ _ _ _ h=>h),h3⟩
 ·by_cases hlt:b < S.boxes.length
  ·rw [ztz hlt] at hc
   obtain ⟨l,ds,h1,h2,h3⟩:=c.boxes b cs' hc
   refine ⟨l,ds,hb b l h1,?_,h3.up (fun _ _ h=>h) hb (fun _ _ _ _ h=>h)⟩
   obtain ⟨e1,h2,h4⟩:=h2
   refine ⟨e1,?_,h4⟩
   show (m.H ++ _)[l]? = _
   rw [ztz (hl b l h1)]; exact h2
  ·have:b=S.boxes.length:=by
    have:=(zzy.1 hc).1; simp at this; omega
   subst this
   rw [ztx (zxy _)] at hc
   simp at hc
   subst hc
   refine ⟨m.H.length,cs,?_,⟨e,?_,hty⟩,h⟩
   ·rw [← c.lT]; simp
   ·simp
 ·by_cases h3:b < gb.length
  ·rw [ztz h3] at h1
   by_cases h4:b' < gb.length
   ·rw [ztz h4] at h2
    exact c.oY b b' l h1 h2
   ·rw [ztx (by omega)] at h2
    have:=hl b l h1
    have:b' - gb.length=0:=by have:=(zzy.1 h2).1; simp at this; omega
    rw [this] at h2; simp at h2; omega
  ·rw [ztx (by omega)] at h1
   have e1:b - gb.length=0:=by have:=(zzy.1 h1).1; simp at this; omega
   rw [e1] at h1; simp at h1
   by_cases h4:b' < gb.length
   ·rw [ztz h4] at h2
    have:=hl b' l h2; omega
   ·rw [ztx (by omega)] at h2
    have e2:b' - gb.length=0:=by have:=(zzy.1 h2).1; simp at this; omega
    omega
 ·simp only [List.mem_append,List.mem_singleton] at hl'
  simp only [zwy,List.length_singleton]
  rcases hl' with h | rfl
  ·have:=c.blt l h; omega
  ·omega
 ·rw [← c.lT]; simp
theorem aH.a0g (c:aH N gk gb S ρ env m) {cells:List SV} {cs:List V} {e:Option Nat} (hty:STy cells e) (h:Cells ρ gk gb m.T S.nv cells cs) :
  aH N gk (gb++[m.H.length]) { S with boxes:=S.boxes++[some cells] } ρ env { m with H:=m.H++[.cells e cs] } ∧ dQ ρ gk (gb++[m.H.length]) m.T (.ptr S.boxes.length 0 none) (.ptr m.H.length 0) :=
 c.aX5 hty (h.up (fun _ _ h=>h) (fun b l h=>by rw [ztz (zzy.1 h).1]; exact h) (fun _ _ _ _ h=>h))
theorem aH.bDx (c : aH N gk gb S ρ env m) {b l : Nat} {cells : List SV} (hl : gb[b]? = some l) {cs : List V} {e : Option Nat} (hty : STy cells e) (h : Cells ρ gk gb m.T S.nv cells cs) :
  aH N gk gb { S with boxes:=S.boxes.set b (some cells) } ρ env { m with H:=m.H.set l (.cells e cs) }:=by
 have hlt : l < m.H.length:=c.blt l (zyx hl)
 refine ⟨c.n,c.cE,fun b' cs' hc=>?_,by simp [c.lT],c.oY,fun l' h'=>by simp only [List.length_set]; exact c.blt l' h',c.kY,c.tY,c.known,c.cS,c.own⟩
 by_cases hbb:b=b'
 ·subst hbb
  have hbl:b < S.boxes.length:=by rw [← c.lT]; exact (zzy.1 hl).1
  rw [List.getElem?_set_self hbl] at hc
  simp only [zzz] at hc
  subst hc
  exact ⟨l,cs,hl,⟨e,by show (m.H.set l _)[l]? = _; rw [List.getElem?_set_self hlt],hty⟩,h⟩
 ·rw [List.getElem?_set_ne hbb] at hc
  obtain ⟨l',ds,h1,h2,h3⟩:=c.boxes b' cs' hc
  refine ⟨l',ds,h1,?_,h3⟩
  have:l≠l':=fun e=>by subst e; exact hbb (c.oY b b' l hl h1)
  obtain ⟨e1,h2,h4⟩:=h2
  refine ⟨e1,?_,h4⟩
  show (m.H.set l _)[l']? = _
  rw [List.getElem?_set_ne this]; exact h2
abbrev LO' (P:Program) (tt:TT) (p:PT) (g:Gd) (env:Env) (m:Hp) (op:Op):V→Hp→Prop:=fun v m'=>g=none∧pG (CE tt p) op=false∧evalOp P (CE tt p) env m op=some (v,m')
theorem aTv {op:Op} {cs:List V} (hq:pG (CE tt p) op=false) (ha:qY op=true) (h:xT P env op=some cs):evalOp P (CE tt p) env m op=some (.ptr m.H.length 0,{ m with H:=m.H++[.cells (a3r op) cs] }):=by
 unfold evalOp
 rw [if_neg (by rw [hq]; simp),if_pos ha,h]; rfl
theorem yI {op:Op} {v:V} {m':Hp} (hq:pG (CE tt p) op=false) (ha:qY op=false) (h:evalW P (CE tt p) env m op=some (v,m')):evalOp P (CE tt p) env m op=some (v,m'):=by
 unfold evalOp
 rw [if_neg (by rw [hq]; simp),if_neg (by rw [ha]; simp)]; exact h
theorem bBy {T : List (Nat × Nat)} {nv t b l : Nat} {z : List V} (h : gb[b]? = some l) : Cells ρ gk gb T nv (aOq t b z) z:=by
 unfold aOq
 split
 ·refine ⟨rfl,fun j s v h1 h2=>?_⟩
  match j with
  | 0=>simp at h1 h2; subst h1; subst h2; exact ⟨⟨l,h,.inl ⟨rfl,rfl⟩⟩,rfl⟩
  | 1=>simp at h1 h2; subst h1; subst h2; exact ⟨rfl,rfl⟩
  | j+2=>simp at h1
 ·exact ⟨by simp,fun j s v h1 h2=>by
   rw [zvz,h2] at h1
   simp only [Option.map_some,zzz] at h1
   subst h1
   exact ⟨(a6q v).1 _,(a6q (ρ:=ρ) (gk:=gk) (gb:=gb) v).2 _⟩⟩
theorem bBz (t b:Nat) (z:List V):STy (aOq t b z) (some t):=by
 intro j t' b' a hj
 unfold aOq at hj
 split at hj
 ·match j with
  | 0=>simp at hj; rw [hj.1]
  | 1=>simp at hj
  | j+2=>simp at hj
 ·rw [zvz,zyy] at hj
  obtain ⟨v,_,hj⟩:=hj
  unfold a7c at hj
  split at hj <;> simp at hj
include hT in
theorem bB0 (c:aH N gk gb S ρ env m) {g:Gd} {t:TypeId} {k:SV→SS→OL} {L:L} (h:gO tt g (.alloc t) S k=some L) (hw:L.wp p Q S.nv ρ ks):Fin p Q ks N ρ S env k (LO' P tt p g env m (.alloc t)):=by
 simp only [gO] at h
 split at h
 ·rename_i ti hti
  obtain ⟨tok,htt⟩:=hT t ti hti
  split at h
  ·rename_i z hz
   obtain ⟨zv,hz1,hz2,_⟩:=tok.z z hz
   rw [htt] at hz1
   have hcells:Cells ρ gk (gb++[m.H.length]) m.T S.nv (aOq t S.boxes.length z) z:=bBy (l:=m.H.length) (by rw [← c.lT]; simp)
   obtain ⟨c',r'⟩:=c.aX5 (bBz t S.boxes.length z) hcells
   exact ⟨_,_,_,_,ρ,L,gk,_,⟨rfl,rfl,aTv rfl rfl (by simp only [xT,hz1,Option.map_some,hz2])⟩,h,hw,c',r',rfl,aZ.refl _ _,zxy _,rfl⟩
  ·simp at h
 ·simp at h
theorem aW5 {T:List (Nat×Nat)} {nv:Nat} {as:List A} {cs:List V} (h:cs.map V.aF=as.map (A.den ρ)) (hb:as.all (A.below nv)=true):Cells ρ gk gb T nv (as.map .val) cs:=by
 refine ⟨by have:=congrArg List.length h; simpa using this.symm,fun j s v h1 h2=>?_⟩
 rw [zvz,zyy] at h1
 obtain ⟨a,h3,rfl⟩:=h1
 have e : (cs.map V.aF)[j]? = (as.map (A.den ρ))[j]?:=by rw [h]
 rw [zvz,zvz,h2,h3] at e
 simp only [Option.map_some,zzz] at e
 exact ⟨e,List.all_eq_true.1 hb a (zyx h3)⟩
def aMk (cells : List SV) : Prop:=∀ (j t b : Nat) a,cells[j]? ≠ some (.self t b a)
theorem aMk.sty {cells:List SV} (h:aMk cells) (e:Option Nat):STy cells e:=fun j t b a hj=>absurd hj (h j t b a)
theorem aW6 (l:List A):aMk (l.map .val):=fun j t b a h=>by
 rw [zvz,zyy] at h
 obtain ⟨x,_,h⟩:=h
 simp at h
def aBc (ρ:Nat→V) (gk:Nat→Option Nat) (gb:List Nat) (T:List (Nat×Nat)) (nv:Nat) (n:Nat) (v:V) (cells:List SV):Prop:=Cells ρ gk gb T nv cells v.cells∧v.mB=true∧v.cells.length=n∧aMk cells
theorem uL {T:List (Nat×Nat)} {nv:Nat} {s:SV} {v:V} (hns:∀ t b a,s ≠ .self t b a) (h:v.cells=[v]) (ho:v.mB=true) (r:dQ ρ gk gb T s v) (hb:s.below nv=true):aBc ρ gk gb T nv 1 v [s]:=by
 refine ⟨⟨by rw [h]; rfl,fun j s' v' h1 h2=>?_⟩,ho,by rw [h]; rfl,fun j t b a hj=>by
  cases j with
  | zero=>simp at hj; exact hns t b a hj
  | succ j=>simp at hj⟩
 rw [h] at h2
 cases j with
 | zero=>simp at h1 h2; subst h1; subst h2; exact ⟨r,hb⟩
 | succ j=>simp at h1
theorem aF1 (c:aH N gk gb S ρ env m) {n:Nat} {a:A} {v:V} (hv:v.aF=a.den ρ) {k:List A→SS→OL} {L:L} (h:a2m none n a S k=some L) (hw:L.wp p Q S.nv ρ ks) :
  ∃ l nv kn bl ρ' L',k l (S.lL nv kn bl)=some L'∧L'.wp p Q nv ρ' ks∧aH N gk gb (S.lL nv kn bl) ρ' env m∧S.nv≤nv∧aZ ρ ρ' S.nv∧aBc ρ' gk gb m.T nv n v (l.map .val):=by
 obtain ⟨j,nv1,kn1,bl1,ρ1,L1,k1,k2,k3,k4,k5,k6,k7,k8⟩:=aP2 c h hw
 obtain ⟨e1,e2⟩:=k8 trivial
 obtain ⟨ds,d1,d2,d3⟩:=vZ k4 e2
 have hvc:v.cells.map V.aF=(cellsOf j n 0).map (A.den ρ1):=by
  rw [a98 ρ1 (cs:=ds) (by rw [d1]; rfl) d2,← a44,hv,← e1,d1]; rfl
 exact ⟨_,nv1,kn1,bl1,ρ1,L1,k1,k2,k3,k6,k7,aW5 hvc (aD9 k5 0),by rw [← aOj,hv,← e1,d1]; rfl,by have:=congrArg List.length hvc; simpa [a97] using this,aW6 _⟩
theorem aMl (c : aH N gk gb S ρ env m) {n : Nat} {a : A} {v : V} {nl : List Nat} (hv : v.aF = a.den ρ) (hs : ∃ cs,v = .agg cs ∧ ∀ j ∈ nl,cs[j]? = some (.sl .full [])) {k : List A → SS → OL} {L : L} (h : a2m none n a S k = some L) (hw : L.wp p Q S.nv ρ ks) :
  ∃ l nv kn bl ρ' L',k l (S.lL nv kn bl)=some L'∧L'.wp p Q nv ρ' ks∧aH N gk gb (S.lL nv kn bl) ρ' env m∧S.nv≤nv∧aZ ρ ρ' S.nv∧aBc ρ' gk gb m.T nv n v (l.zipIdx.map fun p=>bif jM nl p.2 then .nJ else .val p.1):=by
 obtain ⟨l,nv,kn,bl,ρ',L',q1,q2,q3,q4,q5,⟨q6,q7⟩,q8⟩:=aF1 c hv h hw
 obtain ⟨cs,rfl,hcs⟩:=hs
 refine ⟨l,nv,kn,bl,ρ',L',q1,q2,q3,q4,q5,⟨by simpa using q6,fun j s x h1 h2=>?_⟩,q8.1,q8.2.1,fun j t b a hj=>?_⟩
 case refine_2 =>
  rw [zvz,zyy] at hj
  obtain ⟨x,_,hj⟩:=hj
  revert hj
  cases jM nl x.2 <;> simp
 rw [zvz,zyy] at h1
 obtain ⟨⟨b,j'⟩,h3,rfl⟩:=h1
 rw [List.getElem?_zipIdx,zyy] at h3
 obtain ⟨b',h4,h5⟩:=h3
 simp only [Nat.zero_add,zvy] at h5
 obtain ⟨rfl,rfl⟩:=h5
 have h6:=q7 j (.val b') x (by rw [zvz,h4]; rfl) h2
 simp only
 cases hn:jM nl j with
 | false=>exact h6
 | true =>
  have hm:j ∈ nl:=aTr hn
  have:=hcs j hm
  have h2 : cs[j]? = some x:=h2
  rw [h2] at this
  exact ⟨Option.some.inj this,rfl⟩
theorem aTw {T:List (Nat×Nat)} {q sz:Nat} {a:A} {v:V} (r:dQ ρ gk gb T (.grow q sz a) v):v.cells=[v]∧v.mB=true:=by
 obtain ⟨es,_,h⟩:=r
 rcases h with ⟨rfl,_⟩ | ⟨i,_,rfl,_⟩ <;> exact ⟨rfl,rfl⟩
theorem bGf (c:aH N gk gb S ρ env m) {g:Gd} {t:TypeId} {x:Operand} {k:SV→SS→OL} {L:L} (h:gO tt g (.box t x) S k=some L) (hw:L.wp p Q S.nv ρ ks):Fin p Q ks N ρ S env k (LO' P tt p g env m (.box t x)):=by
 simp only [gO] at h
 split at h
 ·rename_i ti s hti hs
  obtain ⟨v,h1,h2,hbel⟩:=c.gI hs
  have fin:∀ {S1:SS} {ρ1:Nat→V} {L1:Go.Fbs.L} {cells:List SV} {n:Nat},k (.ptr S1.boxes.length 0 none) { S1 with boxes:=S1.boxes++[some cells] } = some L1→L1.wp p Q S1.nv ρ1 ks→aH N gk gb S1 ρ1 env m→aBc ρ1 gk gb m.T S1.nv n v cells →
    S.nv≤S1.nv→aZ ρ ρ1 S.nv→S1.dep=S.dep→Fin p Q ks N ρ S env k (LO' P tt p none env m (.box t x)):=by
   intro S1 ρ1 L1 cells n hk hw c1 hc hn ha hd
   obtain ⟨c',r'⟩:=c1.a0g (hc.2.2.2.sty (some t)) hc.1
   refine ⟨_,_,_,_,ρ1,L1,gk,_,⟨rfl,rfl,aTv rfl rfl ?_⟩,hk,hw,c',r',rfl,ha,hn,hd⟩
   simp only [xT,h1]
   rw [if_pos hc.2.1]
  cases hag:ti.agg with
  | true =>
   rw [hag] at h
   simp only [cond_true] at h
   split at h
   ·rename_i a
    obtain ⟨l,nv,kn,bl,ρ',L',q1,q2,q3,q4,q5,q6⟩:=aF1 c (v:=v) h2 h hw
    exact fin (S1:=S.lL nv kn bl) q1 q2 q3 q6 q4 q5 rfl
   ·rename_i a nl
    obtain ⟨l,nv,kn,bl,ρ',L',q1,q2,q3,q4,q5,q6⟩:=aMl c (v:=v) h2.1 h2.2 h hw
    exact fin (S1:=S.lL nv kn bl) q1 q2 q3 q6 q4 q5 rfl
   ·simp at h
  | false =>
   rw [hag] at h
   simp only [cond_false] at h
   split at h
   ·rename_i a
    obtain ⟨a',nv,kn,bl,ρ',L',q1,q2,q3,q4,q5,q6,q7⟩:=aFw c hbel h hw
    obtain ⟨e1,e2⟩:=q7 trivial
    have h2':v.aF=a.den ρ:=h2
    have hsv:sc v=true:=by rw [← aS7,h2']; exact e2
    exact fin (S1:=S.lL nv kn bl) q1 q2 q3 (uL (by simp) (a7s hsv) (aS6 hsv) (show v.aF=a'.den ρ' by rw [e1]; exact h2') q4) q5 q6 rfl
   ·have:=aTw h2
    exact fin h hw c (uL (by simp) this.1 this.2 h2 hbel) (zxy _) (aZ.refl _ _) rfl
   ·have h2':v = .sl .full []:=h2
    subst h2'
    exact fin h hw c (uL (by simp) rfl rfl h2 hbel) (zxy _) (aZ.refl _ _) rfl
   ·simp at h
 ·simp at h
theorem a7x {α : Type} {cs new : List α} {off j : Nat} (h : off + new.length ≤ cs.length) : (hJ cs off new)[j]? = if off ≤ j ∧ j < off + new.length then new[j - off]? else cs[j]?:=by
 unfold hJ
 by_cases h1:j < off
 ·rw [if_neg (by omega),zty,ztz (by simp; omega),List.getElem?_take,if_pos h1]
 ·by_cases h2:j < off+new.length
  ·rw [if_pos ⟨by omega,h2⟩,zty,ztx (by simp; omega),ztz (by simp; omega)]
   congr 1; simp; omega
  ·rw [if_neg (by omega),ztx (by simp; omega),List.getElem?_drop]
   congr 1; simp; omega
theorem Cells.put {T:List (Nat×Nat)} {nv:Nat} {cells new:List SV} {cs ns:List V} {off:Nat} (h:Cells ρ gk gb T nv cells cs) (h':Cells ρ gk gb T nv new ns) (hl:off+new.length≤cells.length) :
  Cells ρ gk gb T nv (hJ cells off new) (hJ cs off ns):=by
 have e1:=h.1; have e2:=h'.1
 refine ⟨by rw [aFy hl,aFy (by omega)]; exact h.1,fun j s v h1 h2=>?_⟩
 rw [a7x hl] at h1
 rw [a7x (by omega)] at h2
 by_cases hj:off≤j∧j < off+new.length
 ·rw [if_pos hj] at h1
  rw [if_pos (by omega)] at h2
  exact h'.2 _ s v h1 h2
 ·rw [if_neg hj] at h1
  rw [if_neg (by omega)] at h2
  exact h.2 j s v h1 h2
include hT in
theorem bB1 (c:aH N gk gb S ρ env m) {g:Gd} {t:TypeId} {x y:Operand} {k:SV→SS→OL} {L:L} (h:gO tt g (.store t x y) S k=some L) (hw:L.wp p Q S.nv ρ ks):Fin p Q ks N ρ S env k (LO' P tt p g env m (.store t x y)):=by
 simp only [gO] at h
 split at h
 ·rename_i ti b off s hti hx hs
  obtain ⟨tok,htt⟩:=hT t ti hti
  have hsz:=tok.sz
  rw [htt] at hsz
  obtain ⟨u,h1,h2,_⟩:=c.gI hx
  obtain ⟨v,h3,h4,hbel⟩:=c.gI hs
  obtain ⟨l,hl,rfl⟩:=h2.1 trivial
  split at h
  ·rename_i cells hb
   cases hle:Nat.ble (off+ti.sz) cells.length with
   | false=>rw [hle] at h; simp at h
   | true =>
    rw [hle] at h
    simp only [cond_true] at h
    have hle':=zxx hle
    have fin:∀ {S1:SS} {ρ1:Nat→V} {L1:Go.Fbs.L} {new:List SV},k wS { S1 with boxes:=S1.boxes.set b (some (hJ cells off new)) } = some L1→L1.wp p Q S1.nv ρ1 ks→aH N gk gb S1 ρ1 env m→aBc ρ1 gk gb m.T S1.nv ti.sz v new →
      S1.boxes=S.boxes→S.nv≤S1.nv→aZ ρ ρ1 S.nv→S1.dep=S.dep→Fin p Q ks N ρ S env k (LO' P tt p none env m (.store t x y)):=by
     intro S1 ρ1 L1 new hk hw c1 hc hbx hn ha hd
     obtain ⟨l',cs,e1,⟨e9,e2,e8⟩,e3⟩:=c1.boxes b cells (by rw [hbx]; exact hb)
     rw [hl] at e1
     simp only [zzz] at e1
     subst e1
     have hnl:new.length=ti.sz:=by rw [hc.1.1]; exact hc.2.2.1
     have hp:=e3.put (off:=off) hc.1 (by omega)
     have c':=c1.bDx hl (e:=e9) (fun j t b a hj=>by
      rw [a7x (by omega)] at hj
      split at hj
      ·exact absurd hj (hc.2.2.2 _ t b a)
      ·exact e8 j t b a hj) hp
     refine ⟨.undef,_,wS,_,ρ1,L1,gk,gb,⟨rfl,rfl,yI rfl rfl ?_⟩,hk,hw,c',rfl,rfl,ha,hn,hd⟩
     simp only [evalW,h1,h3,a7k,hsz,e2]
     have:=e3.1
     rw [if_pos ⟨hc.2.1,hc.2.2.1,by omega⟩]
     rfl
    cases hag:ti.agg with
    | true =>
     rw [hag] at h
     simp only [cond_true] at h
     split at h
     ·rename_i a
      obtain ⟨as,nv,kn,bl,ρ',L',q1,q2,q3,q4,q5,q6⟩:=aF1 c (v:=v) h4 h hw
      exact fin (S1:=S.lL nv kn bl) q1 q2 q3 q6 rfl q4 q5 rfl
     ·rename_i a nl
      obtain ⟨as,nv,kn,bl,ρ',L',q1,q2,q3,q4,q5,q6⟩:=aMl c (v:=v) h4.1 h4.2 h hw
      exact fin (S1:=S.lL nv kn bl) q1 q2 q3 q6 rfl q4 q5 rfl
     ·simp at h
    | false =>
     rw [hag] at h
     simp only [cond_false] at h
     cases hz1:Nat.beq ti.sz 1 with
     | false=>rw [hz1] at h; simp at h
     | true =>
      rw [hz1] at h
      simp only [cond_true] at h
      have hone:=zzx hz1
      rw [hone] at fin
      split at h
      ·rename_i a
       obtain ⟨a',nv,kn,bl,ρ',L',q1,q2,q3,q4,q5,q6,q7⟩:=aFw c hbel h hw
       obtain ⟨e1,e2⟩:=q7 trivial
       have h4':v.aF=a.den ρ:=h4
       have hsv:sc v=true:=by rw [← aS7,h4']; exact e2
       exact fin (S1:=S.lL nv kn bl) q1 q2 q3 (uL (by simp) (a7s hsv) (aS6 hsv) (show v.aF=a'.den ρ' by rw [e1]; exact h4') q4) rfl q5 q6 rfl
      ·have:=aTw h4
       exact fin h hw c (uL (by simp) this.1 this.2 h4 hbel) rfl (zxy _) (aZ.refl _ _) rfl
      ·have h4':v = .sl .full []:=h4
       subst h4'
       exact fin h hw c (uL (by simp) rfl rfl h4 hbel) rfl (zxy _) (aZ.refl _ _) rfl
      ·simp at h
  ·simp at h
 ·simp at h
theorem aF2 {q n:Nat} {s:SV} (h:s.below n=true):(Fbs.kC q s).below n=true:=by
 cases s with
 | grow k sz a=>simp only [Fbs.kC]; cases Nat.beq q k <;> exact h
 | _=>exact h
theorem dQ.kC {T:List (Nat×Nat)} {q:Nat} {s:SV} {v:V} (r:dQ ρ gk gb T s v):dQ ρ (fun k=>if k=q then none else gk k) gb T (Fbs.kC q s) v:=by
 cases s with
 | grow k sz a =>
  simp only [Fbs.kC]
  cases hb:Nat.beq q k with
  | true=>exact vY r rfl
  | false =>
   have hne:¬ k=q:=fun e=>by subst e; simp at hb
   obtain ⟨es,h1,h2⟩:=r
   refine ⟨es,h1,?_⟩
   rcases h2 with h2 | ⟨i,h3,h4,h5⟩
   ·exact .inl h2
   ·exact .inr ⟨i,by show (if k=q then none else gk k)=some i; rw [if_neg hne]; exact h3,h4,h5⟩
 | _=>exact r
theorem aP4 {α β:Type} (f:α→β):∀ (l:List (Nat×α)) (t:Nat),assoc (l.map fun p=>(p.1,f p.2)) t=(assoc l t).map f
 | [],t=>rfl
 | (j,x)::r,t=>by
  simp only [zsx,assoc]
  cases Nat.beq j t with
  | true=>rfl
  | false=>exact aP4 f r t
theorem aH.kC (c:aH N gk gb S ρ env m) (q:Nat):aH N (fun k=>if k=q then none else gk k) gb (S.kC q) ρ env m:=by
 refine ⟨c.n,fun t s hs=>?_,fun b cells hb=>?_,by simp [SS.kC,c.lT],c.oY,c.blt,fun k k' i h1 h2=>?_,fun k i h=>?_,c.known,c.cS,c.own⟩
 ·simp only [SS.look,SS.kC] at hs
  rw [aP4 (Fbs.kC q),zyy] at hs
  obtain ⟨s',h1,rfl⟩:=hs
  obtain ⟨h2,h3,h4⟩:=c.cE t s' h1
  exact ⟨h2,h3.kC,aF2 h4⟩
 ·simp only [SS.kC,zvz,zyy] at hb
  obtain ⟨o,h1,h2⟩:=hb
  obtain ⟨cs',rfl,rfl⟩:=h2
  obtain ⟨l,cs,h3,⟨e9,h4,e8⟩,h5⟩:=c.boxes b cs' h1
  refine ⟨l,cs,h3,⟨e9,h4,fun j t b a hj=>by
   rw [zvz,zyy] at hj
   obtain ⟨s,h6,h7⟩:=hj
   refine e8 j t b a (h6.trans (congrArg some ?_))
   cases s <;> simp [Fbs.kC] at h7
   ·rename_i k _ _
    cases hq:Nat.beq q k <;> rw [hq] at h7 <;> simp at h7
   ·simp [h7]⟩,by rw [zsy]; exact h5.1,fun j s v h6 h7=>?_⟩
  rw [zvz,zyy] at h6
  obtain ⟨s',h8,rfl⟩:=h6
  obtain ⟨h9,h10⟩:=h5.2 j s' v h8 h7
  exact ⟨h9.kC,aF2 h10⟩
 ·split at h1
  ·simp at h1
  ·split at h2
   ·simp at h2
   ·exact c.kY k k' i h1 h2
 ·split at h
  ·simp at h
  ·exact c.tY k i h
theorem aH.b00 (c : aH N gk gb S ρ env m) {T' : List (Nat × Nat)} (hl : m.T.length ≤ T'.length) (h : ∀ (k i : Nat) x,gk k = some i → m.T[i]? = some x → T'[i]? = some x) : aH N gk gb S ρ env { m with T:=T' } :=
 ⟨c.n,fun t s hs=>let ⟨h1,h2,h3⟩:=c.cE t s hs; ⟨h1,h2.up (fun _ _ h=>h) (fun _ _ h=>h) h,h3⟩,fun b cells hb=>let ⟨l,cs,h1,h2,h3⟩:=c.boxes b cells hb; ⟨l,cs,h1,h2,h3.up (fun _ _ h=>h) (fun _ _ h=>h) h⟩,
  c.lT,c.oY,c.blt,c.kY,fun k i hk=>let ⟨h1,h2⟩:=c.tY k i hk; ⟨h1,zuz h2 hl⟩,c.known,c.cS,c.own⟩
theorem aH.aH5 (c:aH N gk gb S ρ env m) {i:Nat} (hi:i < m.T.length) (hn:∀ k,gk k≠some i):aH N (fun k=>if k=S.nk then some i else gk k) gb { S with nk:=S.nk+1 } ρ env m:=by
 have up:∀ k j,gk k=some j→(if k=S.nk then some i else gk k)=some j:=fun k j h=>by
  rw [if_neg (by have:=(c.tY k j h).1; omega)]; exact h
 refine ⟨c.n,fun t s hs=>let ⟨h1,h2,h3⟩:=c.cE t s hs; ⟨h1,h2.up up (fun _ _ h=>h) (fun _ _ _ _ h=>h),h3⟩,fun b cells hb=>let ⟨l,cs,h1,h2,h3⟩:=c.boxes b cells hb; ⟨l,cs,h1,h2,h3.up up (fun _ _ h=>h) (fun _ _ _ _ h=>h)⟩,
  c.lT,c.oY,c.blt,fun k k' j h1 h2=>?_,fun k j h=>?_,c.known,c.cS,c.own⟩
 ·split at h1 <;> split at h2
  ·omega
  ·simp only [zzz] at h1; subst h1; exact absurd h2 (hn k')
  ·simp only [zzz] at h2; subst h2; exact absurd h1 (hn k)
  ·exact c.kY k k' j h1 h2
 ·split at h
  ·simp only [zzz] at h; subst h; rename_i e; subst e; exact ⟨Nat.lt_succ_self _,hi⟩
  ·obtain ⟨h1,h2⟩:=c.tY k j h; exact ⟨Nat.lt_succ_of_lt h1,h2⟩
theorem aP5 {n b:Nat} {x y w:V} (h:qP n b x.aF y.aF=some w):∃ g es g' ys,x = .sl g es∧y = .sl g' ys∧w = .sl .ro ((es++ys).map V.aF)∧(es.length+ys.length)*(b+1)≤70368744177664∧es.all (fun e=>e.cells.length == n)=true∧ys.all (fun e=>e.cells.length == n)=true:=by
 unfold qP at h
 split at h
 ·rename_i h1 h2
  obtain ⟨g,es,rfl,rfl⟩:=aFu h1
  obtain ⟨g',ys,rfl,rfl⟩:=aFu h2
  split at h
  ·rename_i hc
   rw [zsy,zsy,a96,a96] at hc
   simp only [zzz] at h
   exact ⟨g,es,g',ys,rfl,rfl,by rw [← h,List.map_append],hc⟩
  ·simp at h
 ·simp at h
def SS.a0x (S:SS):SV→SS
 | .grow q _ _=>S.kC q
 | _=>S
theorem aW7 (c:aH N gk gb S ρ env m) {sx:SV} {x:V} (hx:dQ ρ gk gb m.T sx x) {n cd b:Nat} {es ys:List V} {g0:Tag} (hxe:x = .sl g0 es)
  (hcase:(∃ q a,sx = .grow q cd a)∨sx = .nJ) (hb:(es.length+ys.length)*(b+1)≤70368744177664) (h1:es.all (fun e=>e.cells.length == n)=true) (h2:ys.all (fun e=>e.cells.length == n)=true) :
  ∃ v m' gk',a3t n cd b x ys m=some (v,m')∧m'.H=m.H ∧
   aH N gk' gb { (S.a0x sx) with nk:=S.nk+1 } ρ env m' ∧
   (∀ (a:A) (ρ':Nat→V),a.den ρ' = .sl .ro ((es++ys).map V.aF)→dQ ρ' gk' gb m'.T (.grow S.nk cd a) v):=by
 subst hxe
 obtain ⟨S0,hS0,gk0,c0,hgk0,hnk,hown⟩:∃ S0,S0=(S.a0x sx)∧∃ gk0,aH N gk0 gb S0 ρ env m∧(∀ k i,gk0 k=some i→gk k=some i)∧S0.nk=S.nk∧(∀ i,g0 = .own i→∀ k,gk0 k≠some i):=by
  rcases hcase with ⟨q,a,rfl⟩ | rfl
  ·refine ⟨_,rfl,_,c.kC q,fun k i h=>?_,rfl,fun i hi k hk=>?_⟩
   ·split at h
    ·simp at h
    ·exact h
   ·obtain ⟨es',_,h3⟩:=hx
    rcases h3 with ⟨h3,_⟩ | ⟨i',h4,h5,_⟩
    ·simp only [V.sl.injEq] at h3; rw [h3.1] at hi; simp at hi
    ·simp only [V.sl.injEq] at h5
     rw [h5.1] at hi
     simp only [Tag.own.injEq] at hi
     subst hi
     split at hk
     ·simp at hk
     ·rename_i hne; exact hne (c.kY k q i' hk h4)
  ·refine ⟨_,rfl,gk,c,fun _ _ h=>h,rfl,fun i hi=>?_⟩
   have:V.sl g0 es = .sl .full []:=hx
   simp only [V.sl.injEq] at this
   rw [this.1] at hi; simp at hi
 have htag : (g0 = .full ∧ (cd = 1 → es.length = 0)) ∨ ∃ i,g0 = .own i ∧ m.T[i]? = some (es.length,cd):=by
  rcases hcase with ⟨q,a,rfl⟩ | rfl
  ·obtain ⟨es',_,h3⟩:=hx
   rcases h3 with ⟨h3,h9⟩ | ⟨i',h4,h5,h6⟩
   ·simp only [V.sl.injEq] at h3; exact .inl ⟨h3.1,h3.2 ▸ h9⟩
   ·simp only [V.sl.injEq] at h5; obtain ⟨rfl,rfl⟩:=h5; exact .inr ⟨i',rfl,h6⟩
  ·have:V.sl g0 es = .sl .full []:=hx
   simp only [V.sl.injEq] at this
   exact .inl ⟨this.1,fun _=>by rw [this.2]; rfl⟩
 rw [← hS0]
 unfold a3t
 simp only
 rw [if_pos ⟨hb,h1,h2⟩]
 by_cases hy:ys=[]
 ·subst hy
  rw [if_pos rfl]
  rcases htag with ⟨rfl,h9⟩ | ⟨i,rfl,hi⟩
  ·refine ⟨_,_,gk0,rfl,rfl,hnk ▸ c0.b7t,fun a ρ' ha=>⟨es,by rw [ha]; simp,.inl ⟨rfl,h9⟩⟩⟩
  ·have hlt:i < m.T.length:=(zzy.1 hi).1
   refine ⟨_,_,_,rfl,rfl,hnk ▸ c0.aH5 hlt (hown i rfl),fun a ρ' ha=>⟨es,by rw [ha]; simp,.inr ⟨i,?_,rfl,hi⟩⟩⟩
   simp [hnk]
 ·rw [if_neg hy]
  rcases htag with ⟨rfl,h9⟩ | ⟨i,rfl,hi⟩
  ·simp only
   have c1:=c0.b00 (T':=m.T++[(es.length+ys.length,cd)]) (by simp) (fun k i x hk hx=>by
    rw [ztz (zzy.1 hx).1]; exact hx)
   have c2:=c1.aH5 (i:=m.T.length) (by simp) (fun k hk=>by have:=(c0.tY k _ hk).2; omega)
   refine ⟨_,_,_,rfl,rfl,hnk ▸ c2,fun a ρ' ha=>⟨es++ys,ha,.inr ⟨m.T.length,by simp [hnk],rfl,by simp⟩⟩⟩
  ·simp only [hi,if_true]
   have hlt:i < m.T.length:=(zzy.1 hi).1
   have c1:=c0.b00 (T':=m.T.set i (es.length+ys.length,cd)) (by simp) (fun k j x hk hx=>by
    rw [List.getElem?_set_ne (fun e=>by subst e; exact hown i rfl k hk)]; exact hx)
   have c2:=c1.aH5 (i:=i) (by simpa using hlt) (hown i rfl)
   refine ⟨_,_,_,rfl,rfl,hnk ▸ c2,fun a ρ' ha=>⟨es++ys,ha,.inr ⟨i,by simp [hnk],rfl,by simp [hlt]⟩⟩⟩
end
end Go.Fbs

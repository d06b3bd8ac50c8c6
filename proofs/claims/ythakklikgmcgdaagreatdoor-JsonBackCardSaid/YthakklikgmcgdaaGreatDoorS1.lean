/- Common texts: values, words, what they answer; no statement of the seat. -/
import Derived.Test.YthakklikgmcgdaaGreatDoorS0
set_option linter.unusedSimpArgs false
set_option linter.unusedVariables false
set_option linter.unusedSectionVars false
/- A small language that code is told back in: what its words answer. -/
namespace Go.Fbs
mutual
def V.erA : V → V
 | .sl _ es=>.sl .ro (erAs es)
 | .agg cs=>.agg (erAs cs)
 | .ro cs=>.ro (erAs cs)
 | .func f cs=>.func f (erAs cs)
 | .tup vs=>.tup (erAs vs)
 | .bool b=>.bool b
 | .int k n=>.int k n
 | .str s=>.str s
 | .ptr l off=>.ptr l off
 | .nilp=>.nilp
 | .map l=>.map l
 | .slr l off n c=>.slr l off n c
 | .undef=>.undef
 | .any=>.any
def erAs : List V → List V
 | []=>[]
 | v :: vs=>v.erA :: erAs vs
end
theorem erAs_map : ∀ l : List V,erAs l = l.map V.erA
 | []=>by simp [erAs]
 | v :: vs=>by simp [erAs,erAs_map vs]
theorem erA_cells (v : V) : v.erA.cells = v.cells.map V.erA:=by
 cases v <;> simp [V.erA,V.cells,erAs_map]
theorem erA_cells_len (v : V) : v.erA.cells.length = v.cells.length:=by rw [erA_cells,List.length_map]
theorem erA_ok1 (v : V) : v.erA.ok1 = v.ok1:=by cases v <;> simp [V.erA,V.ok1]
theorem flat_erA (es : List V) : flat (es.map V.erA) = (flat es).map V.erA:=by
 induction es with
 | nil=>rfl
 | cons e es ih=>simp only [flat,List.map_cons,List.flatMap_cons,List.map_append] at ih ⊢; rw [ih,erA_cells]
theorem rep_erA {κ : Ctx} {h : Heap} {v : V} {x : Value} (r : Rep κ h v x) : Rep κ h v.erA x:=by
 have get : ∀ {cs : List V} {xs : List Value},(∀ (i : Nat) c x,cs[i]? = some c → xs[i]? = some x → Rep κ h c.erA x) → ∀ (i : Nat) c x,(erAs cs)[i]? = some c → xs[i]? = some x → Rep κ h c x:=by
  intro cs xs ih i c x h1 h2
  rw [erAs_map,List.getElem?_map,Option.map_eq_some_iff] at h1
  obtain ⟨c0,h3,rfl⟩:=h1
  exact ih i c0 x h3 h2
 induction r with
 | bool b=>exact .bool b
 | int k n=>exact .int k n
 | str s=>exact .str s
 | ptr i off b hb=>exact .ptr i off b hb
 | ro cs b off xs hx hl _ ih=>exact .ro _ b off xs hx (by rw [erAs_map]; simpa using hl) (get ih)
 | nilp=>exact .nilp
 | slnil g hg=>exact .slnil .ro (by simp)
 | sl g es b off cap sz xs hx hu hl _ hc ht ih =>
  have e : (erAs es).length = es.length:=by rw [erAs_map,List.length_map]
  simp only [V.erA]
  rw [← e]
  refine .sl .ro (erAs es) b off cap sz xs hx ?_ ?_ ?_ (by rw [e]; exact hc) trivial
  ·intro v hv
   rw [erAs_map] at hv
   obtain ⟨v0,h1,rfl⟩:=List.mem_map.1 hv
   rw [erA_cells_len]; exact hu v0 h1
  ·rw [erAs_map,flat_erA,List.length_map]; exact hl
  ·intro i c x h1 h2
   rw [erAs_map,flat_erA,List.getElem?_map,Option.map_eq_some_iff] at h1
   obtain ⟨c0,h3,rfl⟩:=h1
   exact ih i c0 x h3 h2
 | mapnil=>exact .mapnil
 | map i b hb=>exact .map i b hb
 | slr i off n c b cap hb hn hc=>exact .slr i off n c b cap hb hn hc
 | func f caps xs hl _ ih=>exact .func f _ xs (by rw [erAs_map]; simpa using hl) (get ih)
 | agg cs xs hl ho _ ih=>exact .agg _ xs (by rw [erAs_map]; simpa using hl) ho (get ih)
 | tup cs xs hl _ ih=>exact .tup _ xs (by rw [erAs_map]; simpa using hl) (get ih)
 | undef=>exact .undef
 | any x=>exact .any x
theorem reps_erA {κ : Ctx} {h : Heap} {vs : List V} {xs : List Value} (r : Reps κ h vs xs) : Reps κ h (vs.map V.erA) xs :=
 ⟨by rw [r.1,List.length_map],fun i c x h1 h2=>by
  rw [List.getElem?_map,Option.map_eq_some_iff] at h1
  obtain ⟨c0,h3,rfl⟩:=h1
  exact rep_erA (r.2 i c0 x h3 h2)⟩
theorem erA_er1 (v : V) : v.er1.erA = v.erA:=by
 cases v with
 | sl g es=>cases g <;> simp [V.er1,V.erA]
 | _=>rfl
theorem erA_er (v : V) : v.er.erA = v.erA:=by
 have h : ∀ cs : List V,(cs.map V.er1).map V.erA = cs.map V.erA:=fun cs=>by simp [List.map_map,Function.comp_def,erA_er1]
 cases v <;> simp [V.er,V.erA,erAs_map,h,erA_er1]
def sc (v : V) : Bool :=
 match v with
 | .undef | .any | .tup _ | .agg _=>false
 | _=>true
theorem sc_cells {v : V} (h : sc v = true) : v.cells = [v]:=by cases v <;> simp_all [sc,V.cells]
theorem sc_ok1 {v : V} (h : sc v = true) : v.ok1 = true:=by cases v <;> simp_all [sc,V.ok1]
theorem sc_erA (v : V) : sc v.erA = sc v:=by cases v <;> rfl
inductive A where
 | v (i : Nat)
 | k (x : V)
 | c (i j : Nat)
 deriving Inhabited
def cellD (x : V) (j : Nat) : V:=x.cells.getD j .undef
def A.den (ρ : Nat → V) : A → V
 | .v i=>ρ i
 | .k x=>x
 | .c i j=>cellD (ρ i) j
inductive E where
 | id (a : A)
 | lenS (a : A)
 | lenL (a : A)
 | bin (op : BinOp) (a b : A)
 | eqB (neg : Bool) (a b : A)
 | eqA (qs : List Nat) (neg : Bool) (a b : A)
 | un (op : UnOp) (a : A)
 | mm (max : Bool) (a b : A)
 | convI (k : IntKind) (a : A)
 | convSS (a : A)
 | convBS (a : A)
 | slS (a : A) (lo hi : Option A)
 | slL (n : Nat) (a : A) (lo hi : Option A)
 | idxS (a i : A)
 | idxL (g : Bool) (n : Nat) (a i : A)
 | idxA (len : Nat) (g : Bool) (n : Nat) (a i : A)
 | part (g : Bool) (n off : Nat) (a : A)
 | agg (l : List A)
 | lit (n : Nat) (l : List A)
 | make (n : Nat) (z : V) (by_ : Nat) (l c : A)
 | app (n by_ : Nat) (x y : A)
 | appS (by_ : Nat) (x y : A)
 | call (f : FuncId) (l : List A)
 | callv (f : A) (l : List A)
 | fn (f : FuncId) (l : List A)
 | nilF (a : A)
 | ext (a : A) (i : Nat)
 | pick (c a b : A)
 | chk (n : Nat) (a : A)
 | chk1 (a : A)
 | chkB (a : A)
 | inb (n : Nat) (i : A)
 | nth (l : List A) (i : A)
 | pre (n : Nat) (a : A)
 | flip (m1 m2 : Nat) (s i c : A)
 deriving Inhabited
inductive L where
 | bind (e : E) (g : Option (A × Bool)) (k : L)
 | ite (c : A) (t e : L)
 | ret (a : A)
 | rets (l : List A)
 | join (m : Nat) (body k : L)
 | loop (init : List A) (body : L)
 | jmp (d : Nat) (l : List A)
 deriving Inhabited
def binK (op : BinOp) (x y : V) : Option V :=
 match x,y with
 | .int k a,.int k' b =>
  match op with
  | .shl | .shr=>shiftBin op k a b
  | _=>if k = k' then intBin op k a b else none
 | .str a,.str b=>strBin op a b
 | _,_=>none
def eqS (q : Nat) (x y : V) : Option Bool :=
 match q,x,y with
 | 0,.bool a,.bool b=>some (a == b)
 | 1,.int k a,.int k' b=>if k = k' then some (a == b) else none
 | 2,.str a,.str b=>some (a == b)
 | _,_,_=>none
def eqCells : List Nat → List V → List V → Option Bool
 | [],[],[]=>some true
 | q :: qs,x :: xs,y :: ys =>
  match eqS q x y,eqCells qs xs ys with
  | some a,some b=>some (a && b)
  | _,_=>none
 | _,_,_=>none
def eqBK (neg : Bool) (x y : V) : Option V :=
 match x,y with
 | .bool a,.bool b=>some (.bool ((a == b) != neg))
 | _,_=>none
def eqAK (qs : List Nat) (neg : Bool) (x y : V) : Option V :=
 match x,y with
 | .agg xs,.agg ys=>(eqCells qs xs ys).map fun b=>.bool (b != neg)
 | _,_=>none
def mmK (max : Bool) (x y : V) : Option V :=
 match x,y with
 | .int k a,.int _ b=>some (.int k (if max then (if b > a then b else a) else (if b < a then b else a)))
 | _,_=>none
def slLK (n : Nat) (x : V) (lo hi : Option V) : Option V :=
 match x with
 | .sl _ es =>
  match boundV hi es.length es.length with
  | some h =>
   match boundV lo 0 h with
   | some l=>if es.all (fun e=>e.cells.length == n) = true then some (.sl .ro ((es.take h).drop l)) else none
   | none=>none
  | none=>none
 | _=>none
def chkK (n : Nat) (x : V) : Option V :=
 match x with
 | .agg cs=>if cs.length = n ∧ cs.all sc = true then some (.agg cs) else none
 | _=>none
def chk1K (x : V) : Option V:=if sc x then some x else none
def idxLK (g : Bool) (n : Nat) (x i : V) : Option V :=
 match x,i with
 | .sl _ es,.int _ k =>
  if 0 ≤ k then
   match es[k.toNat]? with
   | some e=>if g then chkK n e else chk1K e
   | none=>none
  else none
 | _,_=>none
def partK (g : Bool) (n off : Nat) (x : V) : Option V :=
 match x with
 | .agg cs =>
  if g then (if off + n ≤ cs.length then chkK n (.agg ((cs.drop off).take n)) else none)
  else (match cs[off]? with | some c=>chk1K c | none=>none)
 | _=>none
def aggK (l : List V) : Option V:=if l.all sc then some (.agg l) else none
def litK (n : Nat) (l : List V) : Option V :=
 if l.length * n ≤ 1000000 ∧ l.all (fun e=>e.cells.length == n && e.ok1) = true then some (.sl .ro l) else none
def makeK (z : V) (by_ : Nat) (l c : V) : Option V :=
 match l,c with
 | .int _ n,.int _ k=>if 0 ≤ n ∧ n ≤ k ∧ k ≤ 9223372036854775807 ∧ by_ * k ≤ 140737488355328 then some (.sl .ro (List.replicate n.toNat z)) else none
 | _,_=>none
def appK (n by_ : Nat) (x y : V) : Option V :=
 match x,y with
 | .sl _ es,.sl _ ys =>
  if (es.length + ys.length) * (by_ + 1) ≤ 70368744177664 ∧ es.all (fun e=>e.cells.length == n) = true ∧ ys.all (fun e=>e.cells.length == n) = true then some (.sl .ro (es ++ ys)) else none
 | _,_=>none
def appSK (by_ : Nat) (x y : V) : Option V :=
 match y with
 | .str s=>appK 1 by_ x (.sl .ro (s.map fun b=>.int .u8 b.toNat))
 | _=>none
def EOFF : Nat:=1000000
def callvK (p : PT) (f : V) (l : List V) : Option V :=
 match f with
 | .func g caps=>bif Nat.blt g EOFF then p g (l ++ caps) else none
 | _=>none
def preK (n : Nat) (x : V) : Option V :=
 match x with
 | .tup vs=>some (.tup (vs.take n))
 | _=>none
def isBU : V → Bool
 | .bool _ | .undef=>true
 | _=>false
def chkBK (x : V) : Option V:=if isBU x then some x else none
def inbK (n : Nat) (i : V) : Option V :=
 match i with
 | .int k m=>if 0 ≤ m ∧ m < n then some (.int k m) else none
 | _=>none
def nthK (l : List V) (i : V) : Option V :=
 match i with
 | .int _ m =>
  if 0 ≤ m then
   match l[m.toNat]? with
   | some x=>chk1K x
   | none=>none
  else none
 | _=>none
def flipI (m1 m2 : Nat) (l : List UInt8) (n b : Int) : Option (Nat × Int) :=
 match intBin .and .i64 n m1 with
 | some (.int .i64 q) =>
  match intBin .rem .i64 q l.length with
  | some (.int .i64 r) =>
   match l[r.toNat]?,intBin .and .u8 b m2 with
   | some x,some (.int .u8 d) =>
    match intBin .xor .u8 x.toNat d with
    | some (.int .u8 e)=>if 0 ≤ r then some (r.toNat,e) else none
    | _=>none
   | _,_=>none
  | _=>none
 | _=>none
def flipK (m1 m2 : Nat) (s i c : V) : Option V :=
 match s,i,c with
 | .str l,.int .i64 n,.int .u8 b =>
  if l.length ≤ 1000000000 then
   if l = [] then some (.str [])
   else (flipI m1 m2 l n b).map fun p=>.str (l.set p.1 (UInt8.ofNat p.2.toNat))
  else none
 | _,_,_=>none
def nilFK (x : V) : Option V :=
 match x with
 | .func f cs=>some (.func f cs)
 | _=>none
def E.ev (p : PT) (ρ : Nat → V) : E → Option V
 | .id a=>some (a.den ρ)
 | .lenS a=>Fbs.lenS (a.den ρ)
 | .lenL a=>Fbs.lenL (a.den ρ)
 | .bin op a b=>binK op (a.den ρ) (b.den ρ)
 | .eqB n a b=>eqBK n (a.den ρ) (b.den ρ)
 | .eqA n g a b=>eqAK n g (a.den ρ) (b.den ρ)
 | .un op a=>unV op (a.den ρ)
 | .mm g a b=>mmK g (a.den ρ) (b.den ρ)
 | .convI k a=>Fbs.convI k (a.den ρ)
 | .convSS a=>Fbs.convSS (a.den ρ)
 | .convBS a=>Fbs.convBS (a.den ρ)
 | .slS a lo hi=>sliceS (a.den ρ) (lo.map (A.den ρ)) (hi.map (A.den ρ))
 | .slL n a lo hi=>slLK n (a.den ρ) (lo.map (A.den ρ)) (hi.map (A.den ρ))
 | .idxS a i=>indexS (a.den ρ) (i.den ρ)
 | .idxL g n a i=>idxLK g n (a.den ρ) (i.den ρ)
 | .idxA len g n a i=>indexA len g n (a.den ρ) (i.den ρ)
 | .part g n off a=>partK g n off (a.den ρ)
 | .agg l=>aggK (l.map (A.den ρ))
 | .lit n l=>litK n (l.map (A.den ρ))
 | .make _ z b l c=>makeK z b (l.den ρ) (c.den ρ)
 | .app n b x y=>appK n b (x.den ρ) (y.den ρ)
 | .appS b x y=>appSK b (x.den ρ) (y.den ρ)
 | .call f l=>p f (l.map (A.den ρ))
 | .callv f l=>callvK p (f.den ρ) (l.map (A.den ρ))
 | .fn f l=>some (.func f (l.map (A.den ρ)))
 | .nilF a=>nilFK (a.den ρ)
 | .ext a i=>extractV (a.den ρ) i
 | .pick c a b=>pickV (c.den ρ) (a.den ρ) (b.den ρ)
 | .chk n a=>chkK n (a.den ρ)
 | .chk1 a=>chk1K (a.den ρ)
 | .chkB a=>chkBK (a.den ρ)
 | .inb n i=>inbK n (i.den ρ)
 | .nth l i=>nthK (l.map (A.den ρ)) (i.den ρ)
 | .pre n a=>preK n (a.den ρ)
 | .flip m1 m2 s i c=>flipK m1 m2 (s.den ρ) (i.den ρ) (c.den ρ)
def ext (ρ : Nat → V) (n : Nat) (y : V) : Nat → V:=fun i=>bif Nat.beq i n then y else ρ i
def gv (vs : List V) (i : Nat) : V:=vs.getD i .undef
def exts (ρ : Nat → V) (n : Nat) (vs : List V) : Nat → V:=fun i=>bif Nat.ble n i then gv vs (i - n) else ρ i
def iteB (c : V) (t e : Prop) : Prop :=
 match c with
 | .bool b=>if b then t else e
 | _=>False
def bindG (p : PT) (ρ : Nat → V) (e : E) : Option (A × Bool) → Option V
 | none=>e.ev p ρ
 | some (g,want)=>guardV (g.den ρ) want (e.ev p ρ)
def iterP (F : (List V → Prop) → List V → Prop) : Nat → List V → Prop
 | 0,_=>False
 | n + 1,vs=>F (iterP F n) vs
def loopP (F : (List V → Prop) → List V → Prop) (vs : List V) : Prop:=∃ n,iterP F n vs
def joinP (k : List V → Prop) (body : (List V → Prop) → Prop) : Prop:=body k
def L.wp (p : PT) (Q : V → Prop) : L → Nat → (Nat → V) → List (List V → Prop) → Prop
 | .bind e g k,n,ρ,ks=>opt (bindG p ρ e g) fun y=>k.wp p Q (n + 1) (ext ρ n y) ks
 | .ite c t e,n,ρ,ks=>iteB (c.den ρ) (t.wp p Q n ρ ks) (e.wp p Q n ρ ks)
 | .ret a,_,ρ,_=>Q (a.den ρ)
 | .rets l,_,ρ,_=>Q (.tup (l.map (A.den ρ)))
 | .join m body k,n,ρ,ks=>joinP (fun vs=>vs.length = m ∧ k.wp p Q (n + m) (exts ρ n vs) ks) fun r=>body.wp p Q n ρ (r :: ks)
 | .loop init body,n,ρ,ks=>loopP (fun r vs=>vs.length = init.length ∧ body.wp p Q (n + init.length) (exts ρ n vs) (r :: ks)) (init.map (A.den ρ))
 | .jmp d l,_,ρ,ks =>
  match ks[d]? with
  | some k=>k (l.map (A.den ρ))
  | none=>False
theorem loopP_inv {F : (List V → Prop) → List V → Prop} {vs : List V} (I : List V → Prop) (μ : List V → Nat) (h0 : I vs)
  (round : ∀ (r : List V → Prop) (vs : List V),I vs → (∀ vs',I vs' → μ vs' < μ vs → r vs') → F r vs) : loopP F vs:=by
 have key : ∀ n vs,μ vs < n → I vs → iterP F n vs:=by
  intro n
  induction n with
  | zero=>intro vs h; omega
  | succ n ih=>exact fun vs h hI=>round _ vs hI fun vs' hI' hμ=>ih vs' (by omega) hI'
 exact ⟨_,key _ vs (Nat.lt_succ_self _) h0⟩
end Go.Fbs

/- Calls that are led to boxes: what goes in,what comes out. -/
namespace Go.Fbs
mutual
def V.cano : V → Bool
 | .ptr _ _=>false
 | .map (some _)=>false
 | .slr ..=>false
 | .sl .ro es=>canos es
 | .sl _ _=>false
 | .agg cs=>canos cs
 | .ro cs=>canos cs
 | .func _ cs=>canos cs
 | .tup vs=>canos vs
 | _=>true
def canos : List V → Bool
 | []=>true
 | v :: vs=>v.cano && canos vs
end
theorem canos_iff : ∀ {vs : List V},canos vs = true ↔ ∀ v ∈ vs,v.cano = true
 | []=>by simp [canos]
 | v :: vs=>by simp [canos,canos_iff (vs:=vs)]
mutual
theorem cano_plain : ∀ {v : V},v.cano = true → v.plain = true ∧ v.erA = v
 | .bool _,_=>⟨rfl,rfl⟩
 | .int _ _,_=>⟨rfl,rfl⟩
 | .str _,_=>⟨rfl,rfl⟩
 | .ptr _ _,h=>by simp [V.cano] at h
 | .ro cs,h=>by
  simp only [V.cano] at h
  have:=canos_plain h
  exact ⟨this.1,by simp only [V.erA,this.2]⟩
 | .nilp,_=>⟨rfl,rfl⟩
 | .sl .ro es,h=>by
  simp only [V.cano] at h
  have:=canos_plain h
  exact ⟨this.1,by simp only [V.erA,this.2]⟩
 | .sl .full es,h=>by simp [V.cano] at h
 | .sl (.own i) es,h=>by simp [V.cano] at h
 | .map none,_=>⟨rfl,rfl⟩
 | .map (some _),h=>by simp [V.cano] at h
 | .slr ..,h=>by simp [V.cano] at h
 | .func _ cs,h=>by
  simp only [V.cano] at h
  have:=canos_plain h
  exact ⟨this.1,by simp only [V.erA,this.2]⟩
 | .agg cs,h=>by
  simp only [V.cano] at h
  have:=canos_plain h
  exact ⟨this.1,by simp only [V.erA,this.2]⟩
 | .tup cs,h=>by
  simp only [V.cano] at h
  have:=canos_plain h
  exact ⟨this.1,by simp only [V.erA,this.2]⟩
 | .undef,_=>⟨rfl,rfl⟩
 | .any,_=>⟨rfl,rfl⟩
theorem canos_plain : ∀ {vs : List V},canos vs = true → plains vs = true ∧ erAs vs = vs
 | [],_=>⟨rfl,rfl⟩
 | v :: vs,h=>by
  simp only [canos,Bool.and_eq_true] at h
  have h1:=cano_plain h.1
  have h2:=canos_plain h.2
  exact ⟨by simp only [plains,h1.1,h2.1]; rfl,by simp only [erAs,h1.2,h2.2]⟩
end
def pack : List V → V
 | [a]=>a
 | l=>.tup l
inductive CK where
 | pl
 | self (t : Nat)
 | gr (sz : Nat) (done : Bool)
 deriving Inhabited
inductive AK where
 | v
 | b (off : Nat) (ks : List CK)
 deriving Inhabited
inductive GK where
 | one
 | clo (f : FuncId) (n : Nat)
 deriving Inhabited
structure Sig where
 nres : Nat
 as : List AK
 gr : List GK
 deriving Inhabited
def flA : List GK → List V → Option (List V)
 | [],vs=>some vs
 | .one :: gs,v :: vs=>(flA gs vs).map (v :: ·)
 | .clo f n :: gs,.func f' cs :: vs=>if f' = f ∧ cs.length = n then (flA gs vs).map (cs ++ ·) else none
 | _,_=>none
def unA : List GK → List V → List V
 | [],vs=>vs
 | .one :: gs,vs=>vs.take 1 ++ unA gs (vs.drop 1)
 | .clo f n :: gs,vs=>.func f (vs.take n) :: unA gs (vs.drop n)
abbrev STab:=List (FuncId × (FuncId × Sig))
def boxKs : List AK → List (List CK)
 | []=>[]
 | .v :: r=>boxKs r
 | .b _ ks :: r=>ks :: boxKs r
def CK.out : CK → CK
 | .gr _ true=>.pl
 | k=>k
def outKs (as : List AK) : List (List CK):=(boxKs as).map (·.map CK.out)
theorem outKs_len (as : List AK) : (outKs as).length = (boxKs as).length:=List.length_map ..
def tyK : List CK → Option Nat
 | []=>none
 | .self t :: _=>some t
 | _ :: r=>tyK r
def tyFit (ks : List CK) (e : Option Nat) : Bool :=
 match tyK ks with
 | none=>true
 | some t=>e == some t
theorem tyFit_ok {ks : List CK} {e : Option Nat} (h : tyFit ks e = true) {t : Nat} (ht : tyK ks = some t) : e = some t:=by
 unfold tyFit at h
 rw [ht] at h
 simpa using h
def inC (l : Nat) (T : List (Nat × Nat)) : List CK → List V → Option (List V × List GA)
 | [],[]=>some ([],[])
 | .pl :: ks,c :: cs=>(inC l T ks cs).map fun q=>(c.erA :: q.1,q.2)
 | .self _ :: ks,.nilp :: cs=>(inC l T ks cs).map fun q=>(.bool false :: q.1,q.2)
 | .self _ :: ks,.ptr b o :: cs=>if b = l ∧ o = 0 then (inC l T ks cs).map fun q=>(.bool true :: q.1,q.2) else none
 | .gr sz _ :: ks,.sl .full es :: cs=>if 0 < sz ∧ (sz = 1 → es.length = 0) then (inC l T ks cs).map fun q=>(.sl .ro (es.map V.erA) :: q.1,.full es.length sz :: q.2) else none
 | .gr sz _ :: ks,.sl (.own i) es :: cs=>if 0 < sz ∧ T[i]? = some (es.length,sz) then (inC l T ks cs).map fun q=>(.sl .ro (es.map V.erA) :: q.1,.own i :: q.2) else none
 | _,_=>none
def inCT (e : Option Nat) (l : Nat) (T : List (Nat × Nat)) (ks : List CK) (cs : List V) : Option (List V × List GA):=if tyFit ks e = true then inC l T ks cs else none
theorem inCT_some {e : Option Nat} {l : Nat} {T : List (Nat × Nat)} {ks : List CK} {cs : List V} {q : List V × List GA} (h : inCT e l T ks cs = some q) : inC l T ks cs = some q ∧ tyFit ks e = true:=by
 unfold inCT at h
 split at h
 ·rename_i h1
  exact ⟨h,h1⟩
 ·simp at h
theorem inCT_mk {e : Option Nat} {l : Nat} {T : List (Nat × Nat)} {ks : List CK} {cs : List V} {q : List V × List GA} (h : inC l T ks cs = some q) (h1 : tyFit ks e = true) : inCT e l T ks cs = some q:=by
 unfold inCT
 rw [if_pos h1]; exact h
def inA (m : Hp) : List AK → List V → Option (List V × List Nat × List GA)
 | [],[]=>some ([],[],[])
 | .v :: ks,a :: as=>(inA m ks as).map fun q=>(a.erA :: q.1,q.2)
 | .b off cks :: ks,.ptr l o :: as =>
  if o = off then
   match m.H[l]? with
   | some (.cells e cs) =>
    match inCT e l m.T cks cs,inA m ks as with
    | some (w,gs),some q=>some (.agg w :: q.1,l :: q.2.1,gs ++ q.2.2)
    | _,_=>none
   | _=>none
  else none
 | _,_=>none
def selfV (b : Nat) : V → V
 | .bool true=>.ptr b 0
 | _=>.nilp
def cIn (b q : Nat) : List CK → List V → List V × List (Nat × Nat)
 | .gr sz _ :: ks,.sl _ es :: ws=>(.sl (.own q) es :: (cIn b (q + 1) ks ws).1,(es.length,sz) :: (cIn b (q + 1) ks ws).2)
 | .self _ :: ks,w :: ws=>(selfV b w :: (cIn b q ks ws).1,(cIn b q ks ws).2)
 | _ :: ks,w :: ws=>(w :: (cIn b q ks ws).1,(cIn b q ks ws).2)
 | _,_=>([],[])
def aIn (b q : Nat) : List AK → List V → List V × List LO × List (Nat × Nat)
 | .v :: ks,w :: ws=>(w :: (aIn b q ks ws).1,(aIn b q ks ws).2)
 | .b off cks :: ks,.agg cs :: ws =>
  (.ptr b off :: (aIn (b + 1) (q + (cIn b q cks cs).2.length) ks ws).1,.cells (tyK cks) (cIn b q cks cs).1 :: (aIn (b + 1) (q + (cIn b q cks cs).2.length) ks ws).2.1,(cIn b q cks cs).2 ++ (aIn (b + 1) (q + (cIn b q cks cs).2.length) ks ws).2.2)
 | _,_=>([],[],[])
def endB (m : Hp) : Nat → List (List CK) → Option (List V × List GA)
 | _,[]=>some ([],[])
 | b,cks :: kss =>
  match m.H[b]? with
  | some (.cells e cs) =>
   match inCT e b m.T cks cs,endB m (b + 1) kss with
   | some (w,gs),some q=>some (.agg w :: q.1,gs ++ q.2)
   | _,_=>none
  | _=>none
def putB : Nat → List (List CK) → List Nat → List V → List LO → List LO × List (Nat × Nat)
 | q,cks :: kss,l :: ls,.agg ws :: outs,H =>
  ((putB (q + (cIn l q cks ws).2.length) kss ls outs (H.set l (.cells (tyK cks) (cIn l q cks ws).1))).1,(cIn l q cks ws).2 ++ (putB (q + (cIn l q cks ws).2.length) kss ls outs (H.set l (.cells (tyK cks) (cIn l q cks ws).1))).2)
 | _,_,_,_,H=>(H,[])
def shapeC : List CK → List V → Bool
 | [],[]=>true
 | .pl :: ks,_ :: ws=>shapeC ks ws
 | .self _ :: ks,.bool _ :: ws=>shapeC ks ws
 | .gr _ _ :: ks,.sl .ro _ :: ws=>shapeC ks ws
 | _,_=>false
def shapeB : List (List CK) → List V → Bool
 | [],[]=>true
 | ks :: kss,.agg ws :: outs=>ws.all sc && shapeC ks ws && shapeB kss outs
 | _,_=>false
structure AnsOk (sg : Sig) (v : V) : Prop where
 tup : ∃ rs,v = .tup rs ∧ sg.nres ≤ rs.length ∧ shapeB (outKs sg.as) (rs.drop sg.nres) = true
def Dist {α : Type} (f : Nat → α) (l : List α) : Prop:=∀ (i j n : Nat),l[i]? = some (f n) → l[j]? = some (f n) → i = j
def Ones (l : List Nat) : Prop:=Dist (fun n=>n) l
def Owns (l : List GA) : Prop:=Dist GA.own l
open Classical in
noncomputable def effV (sg : Sig) (F : List V → Option V) (args : List V) (m : Hp) : Option (V × Hp) :=
 match (flA sg.gr args).bind (inA m sg.as) with
 | some (words,ls,gs) =>
  if Ones ls ∧ Owns gs then
   match F words with
   | some (.tup rs)=>some (pack (rs.take sg.nres),⟨(putB m.T.length (outKs sg.as) ls (rs.drop sg.nres) m.H).1,killT gs m.T ++ (putB m.T.length (outKs sg.as) ls (rs.drop sg.nres) m.H).2⟩)
   | _=>none
  else none
 | none=>none
def EndOk (m1 : Hp) (kss : List (List CK)) (outs : List V) : Prop:=∃ gs,endB m1 0 kss = some (outs,gs) ∧ Owns gs
def Callee (P : Program) (f : FuncId) (sg : Sig) (words rs : List V) : Prop :=
 ∀ (κ : Ctx) (w : World) (xs : List Value),Mem κ w.heap ⟨(aIn 0 0 sg.as words).2.1,(aIn 0 0 sg.as words).2.2⟩ → Reps κ w.heap (unA sg.gr (aIn 0 0 sg.as words).1) xs →
  Calls P f ⟨xs⟩ w (fun e w'=>∃ x κ' m1,e = .returned x ∧ Ext κ w ⟨(aIn 0 0 sg.as words).2.1,(aIn 0 0 sg.as words).2.2⟩ κ' w' m1 ∧ Rep κ' w'.heap (pack (rs.take sg.nres)) x ∧ EndOk m1 (outKs sg.as) (rs.drop sg.nres))
section
variable {κ κ' : Ctx} {h : Heap}
theorem rep_plainA (hw : ∀ b,κ.hw b ≤ κ'.hw b) {v : V} {x : Value} (r : Rep κ h v x) (hp : v.erA.cano = true) : Rep κ' h v.erA x :=
 rep_plain hw (rep_erA r) (cano_plain hp).1
theorem rep_moved (hw : ∀ b,κ.hw b ≤ κ'.hw b) {g : Tag} {es : List V} {x : Value} (r : Rep κ h (.sl g es) x) (hes : canos (es.map V.erA) = true) {j : Nat} {L' : Lease} (hj : κ'.lease[j]? = some L')
  (hg : (∃ i,g = .own i ∧ κ.lease[i]? = some L') ∨ (g = .full ∧ L'.kind = .full ∧ L'.n = es.length)) : Rep κ' h (.sl (.own j) (es.map V.erA)) x:=by
 cases r with
 | slnil _ h0 =>
  refine .slnil _ fun q hq=>?_
  simp only [Tag.own.injEq] at hq
  subst hq
  refine ⟨L',hj,fun hk=>?_⟩
  rcases hg with ⟨i,rfl,hi⟩ | ⟨_,hk',_⟩
  ·obtain ⟨L,h1,h2⟩:=h0 i rfl
   rw [hi] at h1
   simp only [Option.some.injEq] at h1
   subst h1
   exact h2 hk
  ·rw [hk'] at hk; simp at hk
 | sl _ _ b off cap sz xs hx hu hl hr hc ht =>
  have e : (es.map V.erA).length = es.length:=List.length_map ..
  rw [← e]
  refine .sl _ _ b off cap sz xs (fun i y hy=>let ⟨h1,h2⟩:=hx i y hy; ⟨Nat.lt_of_lt_of_le h1 (hw _),h2⟩) (fun v hv=>?_) (by rw [flat_erA,List.length_map]; exact hl) (fun i c x h1 h2=>?_) (by rw [e]; exact hc) ?_
  ·obtain ⟨v0,h1,rfl⟩:=List.mem_map.1 hv
   rw [erA_cells_len]; exact hu v0 h1
  ·rw [flat_erA,List.getElem?_map,Option.map_eq_some_iff] at h1
   obtain ⟨c0,h3,rfl⟩:=h1
   have hp : c0.erA.plain = true:=by
    refine plain_flat (canos_plain hes).1 _ ?_
    rw [flat_erA]
    exact List.mem_map.2 ⟨c0,List.mem_of_getElem? h3,rfl⟩
   exact rep_plain hw (rep_erA (hr i c0 x h3 h2)) hp
  ·rw [e]
   refine ⟨L',hj,?_⟩
   rcases hg with ⟨i,rfl,hi⟩ | ⟨rfl,hk,hn⟩
   ·obtain ⟨L,h1,h2⟩:=ht
    rw [hi] at h1
    simp only [Option.some.injEq] at h1
    subst h1
    exact h2
   ·refine ⟨fun hr=>by rw [hk] at hr; simp at hr,fun _=>⟨by omega,fun _=>ht⟩⟩
end
section
variable {κ κp κ1 κ' : Ctx} {h h1 : Heap} {m m1 : Hp}
theorem cells_in {T : List (Nat × Nat)} {l b : Nat} (hT : κ.lease.map Lease.told = T) (hw : ∀ b,κ.hw b ≤ κp.hw b) (hb : ∀ blk,κ.box l = some blk → κp.box b = some blk) : ∀ {cks : List CK} {cs w : List V} {gs : List GA} {q : Nat} {xs : List Value},inC l T cks cs = some (w,gs) → canos w = true →
  (∀ (i : Nat) g,gs[i]? = some g → κp.lease[q + i]? = some (GA.lease κ g)) → Reps κ h cs xs → Reps κp h (cIn b q cks w).1 xs ∧ (cIn b q cks w).2 = gs.map fun g=>(GA.lease κ g).told
 | [],[],w,gs,q,xs,e,hc,hg,r=>by
  simp only [inC,Option.some.injEq,Prod.mk.injEq] at e
  obtain ⟨rfl,rfl⟩:=e
  obtain rfl:=r.inv_nil
  exact ⟨Reps.nil,rfl⟩
 | .pl :: ks,c :: cs,w,gs,q,xs,e,hc,hg,r=>by
  simp only [inC,Option.map_eq_some_iff] at e
  obtain ⟨⟨w',gs'⟩,e,h1⟩:=e
  simp only [Prod.mk.injEq] at h1
  obtain ⟨rfl,rfl⟩:=h1
  simp only [canos,Bool.and_eq_true] at hc
  obtain ⟨x,xs',rfl,rx,r'⟩:=r.inv_cons
  obtain ⟨h2,h3⟩:=cells_in hT hw hb e hc.2 hg r'
  exact ⟨Reps.cons (rep_plainA hw rx hc.1) h2,h3⟩
 | .self _ :: ks,.nilp :: cs,w,gs,q,xs,e,hc,hg,r=>by
  simp only [inC,Option.map_eq_some_iff] at e
  obtain ⟨⟨w',gs'⟩,e,h1⟩:=e
  simp only [Prod.mk.injEq] at h1
  obtain ⟨rfl,rfl⟩:=h1
  simp only [canos,Bool.and_eq_true] at hc
  obtain ⟨x,xs',rfl,rx,r'⟩:=r.inv_cons
  obtain ⟨h2,h3⟩:=cells_in hT hw hb e hc.2 hg r'
  refine ⟨Reps.cons (c:=selfV b (.bool false)) ?_ h2,h3⟩
  rw [rep_nilp rx]; exact .nilp
 | .self _ :: ks,.ptr l' o :: cs,w,gs,q,xs,e,hc,hg,r=>by
  simp only [inC] at e
  split at e
  ·rename_i hlo
   obtain ⟨rfl,rfl⟩:=hlo
   simp only [Option.map_eq_some_iff] at e
   obtain ⟨⟨w',gs'⟩,e,h1⟩:=e
   simp only [Prod.mk.injEq] at h1
   obtain ⟨rfl,rfl⟩:=h1
   simp only [canos,Bool.and_eq_true] at hc
   obtain ⟨x,xs',rfl,rx,r'⟩:=r.inv_cons
   obtain ⟨h2,h3⟩:=cells_in hT hw hb e hc.2 hg r'
   refine ⟨Reps.cons (c:=selfV b (.bool true)) ?_ h2,h3⟩
   obtain ⟨blk,hblk,hx⟩:=rep_ptr rx
   rw [hx]; exact .ptr b 0 blk (hb blk hblk)
  ·simp at e
 | .gr sz _ :: ks,.sl .full es :: cs,w,gs,q,xs,e,hc,hg,r=>by
  simp only [inC] at e
  split at e
  ·rename_i hs
   simp only [Option.map_eq_some_iff] at e
   obtain ⟨⟨w',gs'⟩,e,h1⟩:=e
   simp only [Prod.mk.injEq] at h1
   obtain ⟨rfl,rfl⟩:=h1
   simp only [canos,Bool.and_eq_true,V.cano] at hc
   obtain ⟨x,xs',rfl,rx,r'⟩:=r.inv_cons
   obtain ⟨h2,h3⟩:=cells_in (q:=q + 1) hT hw hb e hc.2 (fun i g hi=>by rw [show q + 1 + i = q + (i + 1) by omega]; exact hg (i + 1) g (by simpa using hi)) r'
   have h0:=hg 0 _ rfl
   rw [Nat.add_zero] at h0
   refine ⟨Reps.cons (rep_moved hw rx hc.1 h0 (.inr ⟨rfl,rfl,rfl⟩)) h2,?_⟩
   simp only [cIn,h3,List.map_cons,List.length_map,full_told hs.1]
  ·simp at e
 | .gr sz _ :: ks,.sl (.own i0) es :: cs,w,gs,q,xs,e,hc,hg,r=>by
  simp only [inC] at e
  split at e
  ·rename_i hsz
   simp only [Option.map_eq_some_iff] at e
   obtain ⟨⟨w',gs'⟩,e,h1⟩:=e
   simp only [Prod.mk.injEq] at h1
   obtain ⟨rfl,rfl⟩:=h1
   simp only [canos,Bool.and_eq_true,V.cano] at hc
   obtain ⟨x,xs',rfl,rx,r'⟩:=r.inv_cons
   obtain ⟨h2,h3⟩:=cells_in (q:=q + 1) hT hw hb e hc.2 (fun i g hi=>by rw [show q + 1 + i = q + (i + 1) by omega]; exact hg (i + 1) g (by simpa using hi)) r'
   have h0:=hg 0 _ rfl
   rw [Nat.add_zero] at h0
   have hti:=hsz.2
   rw [← hT,List.getElem?_map,Option.map_eq_some_iff] at hti
   obtain ⟨L,hL,hLt⟩:=hti
   have hga : GA.lease κ (.own i0) = L:=by simp [GA.lease,hL]
   rw [hga] at h0
   refine ⟨Reps.cons (rep_moved hw rx hc.1 h0 (.inl ⟨i0,rfl,hL⟩)) h2,?_⟩
   simp only [cIn,h3,List.map_cons,List.length_map,hga,hLt]
  ·simp at e
 | [],_ :: _,_,_,_,_,e,_,_,_=>by simp [inC] at e
 | .pl :: _,[],_,_,_,_,e,_,_,_=>by simp [inC] at e
 | .self _ :: _,[],_,_,_,_,e,_,_,_=>by simp [inC] at e
 | .self _ :: _,.bool _ :: _,_,_,_,_,e,_,_,_=>by simp [inC] at e
 | .self _ :: _,.int _ _ :: _,_,_,_,_,e,_,_,_=>by simp [inC] at e
 | .self _ :: _,.str _ :: _,_,_,_,_,e,_,_,_=>by simp [inC] at e
 | .self _ :: _,.ro _ :: _,_,_,_,_,e,_,_,_=>by simp [inC] at e
 | .self _ :: _,.sl _ _ :: _,_,_,_,_,e,_,_,_=>by simp [inC] at e
 | .self _ :: _,.map _ :: _,_,_,_,_,e,_,_,_=>by simp [inC] at e
 | .self _ :: _,.slr .. :: _,_,_,_,_,e,_,_,_=>by simp [inC] at e
 | .self _ :: _,.func _ _ :: _,_,_,_,_,e,_,_,_=>by simp [inC] at e
 | .self _ :: _,.agg _ :: _,_,_,_,_,e,_,_,_=>by simp [inC] at e
 | .self _ :: _,.tup _ :: _,_,_,_,_,e,_,_,_=>by simp [inC] at e
 | .self _ :: _,.undef :: _,_,_,_,_,e,_,_,_=>by simp [inC] at e
 | .self _ :: _,.any :: _,_,_,_,_,e,_,_,_=>by simp [inC] at e
 | .gr _ _ :: _,[],_,_,_,_,e,_,_,_=>by simp [inC] at e
 | .gr _ _ :: _,.sl .ro _ :: _,_,_,_,_,e,_,_,_=>by simp [inC] at e
 | .gr _ _ :: _,.bool _ :: _,_,_,_,_,e,_,_,_=>by simp [inC] at e
 | .gr _ _ :: _,.int _ _ :: _,_,_,_,_,e,_,_,_=>by simp [inC] at e
 | .gr _ _ :: _,.str _ :: _,_,_,_,_,e,_,_,_=>by simp [inC] at e
 | .gr _ _ :: _,.ptr _ _ :: _,_,_,_,_,e,_,_,_=>by simp [inC] at e
 | .gr _ _ :: _,.ro _ :: _,_,_,_,_,e,_,_,_=>by simp [inC] at e
 | .gr _ _ :: _,.nilp :: _,_,_,_,_,e,_,_,_=>by simp [inC] at e
 | .gr _ _ :: _,.map _ :: _,_,_,_,_,e,_,_,_=>by simp [inC] at e
 | .gr _ _ :: _,.slr .. :: _,_,_,_,_,e,_,_,_=>by simp [inC] at e
 | .gr _ _ :: _,.func _ _ :: _,_,_,_,_,e,_,_,_=>by simp [inC] at e
 | .gr _ _ :: _,.agg _ :: _,_,_,_,_,e,_,_,_=>by simp [inC] at e
 | .gr _ _ :: _,.tup _ :: _,_,_,_,_,e,_,_,_=>by simp [inC] at e
 | .gr _ _ :: _,.undef :: _,_,_,_,_,e,_,_,_=>by simp [inC] at e
 | .gr _ _ :: _,.any :: _,_,_,_,_,e,_,_,_=>by simp [inC] at e
theorem cIn_told {T : List (Nat × Nat)} {l b : Nat} (hT : κ.lease.map Lease.told = T) : ∀ {cks : List CK} {cs w : List V} {gs : List GA} {q : Nat},inC l T cks cs = some (w,gs) → (cIn b q cks w).2 = gs.map fun g=>(GA.lease κ g).told:=by
 intro cks cs
 fun_induction inC l T cks cs with
 | case1=>intro w gs q e; simp only [Option.some.injEq,Prod.mk.injEq] at e; obtain ⟨rfl,rfl⟩:=e; rfl
 | case2 ks c cs ih =>
  intro w gs q e
  simp only [Option.map_eq_some_iff] at e
  obtain ⟨⟨w',gs'⟩,e,h1⟩:=e
  simp only [Prod.mk.injEq] at h1
  obtain ⟨rfl,rfl⟩:=h1
  exact ih e
 | case3 _ ks cs ih =>
  intro w gs q e
  simp only [Option.map_eq_some_iff] at e
  obtain ⟨⟨w',gs'⟩,e,h1⟩:=e
  simp only [Prod.mk.injEq] at h1
  obtain ⟨rfl,rfl⟩:=h1
  exact ih e
 | case4 _ ks b' o cs hlo ih =>
  intro w gs q e
  simp only [Option.map_eq_some_iff] at e
  obtain ⟨⟨w',gs'⟩,e,h1⟩:=e
  simp only [Prod.mk.injEq] at h1
  obtain ⟨rfl,rfl⟩:=h1
  exact ih e
 | case5=>intro w gs q e; simp at e
 | case6 sz _ ks es cs hs ih =>
  intro w gs q e
  simp only [Option.map_eq_some_iff] at e
  obtain ⟨⟨w',gs'⟩,e,h1⟩:=e
  simp only [Prod.mk.injEq] at h1
  obtain ⟨rfl,rfl⟩:=h1
  simp only [cIn,ih e,List.map_cons,List.length_map,full_told hs.1]
 | case7=>intro w gs q e; simp at e
 | case8 sz _ ks i0 es cs hs ih =>
  intro w gs q e
  simp only [Option.map_eq_some_iff] at e
  obtain ⟨⟨w',gs'⟩,e,h1⟩:=e
  simp only [Prod.mk.injEq] at h1
  obtain ⟨rfl,rfl⟩:=h1
  have hti:=hs.2
  rw [← hT,List.getElem?_map,Option.map_eq_some_iff] at hti
  obtain ⟨L,hL,hLt⟩:=hti
  have hga : GA.lease κ (.own i0) = L:=by simp [GA.lease,hL]
  simp only [cIn,ih e,List.map_cons,List.length_map,hga,hLt]
 | case9=>intro w gs q e; simp at e
 | case10=>intro w gs q e; simp at e
theorem inC_owns {l : Nat} {T : List (Nat × Nat)} : ∀ {cks : List CK} {cs w : List V} {gs : List GA},inC l T cks cs = some (w,gs) → ∀ (q i : Nat),gs[q]? = some (.own i) → ∃ n sz,T[i]? = some (n,sz) ∧ 0 < sz:=by
 intro cks cs
 fun_induction inC l T cks cs with
 | case1=>intro w gs e q i hi; simp only [Option.some.injEq,Prod.mk.injEq] at e; obtain ⟨_,rfl⟩:=e; simp at hi
 | case2 ks c cs ih =>
  intro w gs e q i hi
  simp only [Option.map_eq_some_iff] at e
  obtain ⟨⟨w',gs'⟩,e,h1⟩:=e
  simp only [Prod.mk.injEq] at h1
  obtain ⟨_,rfl⟩:=h1
  exact ih e q i hi
 | case3 _ ks cs ih =>
  intro w gs e q i hi
  simp only [Option.map_eq_some_iff] at e
  obtain ⟨⟨w',gs'⟩,e,h1⟩:=e
  simp only [Prod.mk.injEq] at h1
  obtain ⟨_,rfl⟩:=h1
  exact ih e q i hi
 | case4 _ ks b' o cs hlo ih =>
  intro w gs e q i hi
  simp only [Option.map_eq_some_iff] at e
  obtain ⟨⟨w',gs'⟩,e,h1⟩:=e
  simp only [Prod.mk.injEq] at h1
  obtain ⟨_,rfl⟩:=h1
  exact ih e q i hi
 | case5=>intro w gs e; simp at e
 | case6 sz _ ks es cs hs ih =>
  intro w gs e q i hi
  simp only [Option.map_eq_some_iff] at e
  obtain ⟨⟨w',gs'⟩,e,h1⟩:=e
  simp only [Prod.mk.injEq] at h1
  obtain ⟨_,rfl⟩:=h1
  cases q with
  | zero=>simp at hi
  | succ q=>exact ih e q i (by simpa using hi)
 | case7=>intro w gs e; simp at e
 | case8 sz _ ks i0 es cs hs ih =>
  intro w gs e q i hi
  simp only [Option.map_eq_some_iff] at e
  obtain ⟨⟨w',gs'⟩,e,h1⟩:=e
  simp only [Prod.mk.injEq] at h1
  obtain ⟨_,rfl⟩:=h1
  cases q with
  | zero=>simp only [List.getElem?_cons_zero,Option.some.injEq,GA.own.injEq] at hi; subst hi; exact ⟨_,_,hs.2,hs.1⟩
  | succ q=>exact ih e q i (by simpa using hi)
 | case9=>intro w gs e; simp at e
 | case10=>intro w gs e; simp at e
theorem inC_full {l : Nat} {T : List (Nat × Nat)} : ∀ {cks : List CK} {cs w : List V} {gs : List GA},inC l T cks cs = some (w,gs) → ∀ (q n : Nat),gs[q]? = some (.full n 1) → n = 0:=by
 intro cks cs
 fun_induction inC l T cks cs with
 | case1 =>
  intro w gs e q n hi
  simp only [Option.some.injEq,Prod.mk.injEq] at e
  obtain ⟨_,rfl⟩:=e
  simp at hi
 | case6 sz _ ks es cs hs ih =>
  intro w gs e q n hi
  simp only [Option.map_eq_some_iff] at e
  obtain ⟨⟨w',gs'⟩,e,h1⟩:=e
  simp only [Prod.mk.injEq] at h1
  obtain ⟨_,rfl⟩:=h1
  cases q with
  | zero =>
   simp only [List.getElem?_cons_zero,Option.some.injEq,GA.full.injEq] at hi
   rw [← hi.1]; exact hs.2 hi.2
  | succ q=>exact ih e q n (by simpa using hi)
 | case8 sz _ ks i0 es cs hs ih =>
  intro w gs e q n hi
  simp only [Option.map_eq_some_iff] at e
  obtain ⟨⟨w',gs'⟩,e,h1⟩:=e
  simp only [Prod.mk.injEq] at h1
  obtain ⟨_,rfl⟩:=h1
  cases q with
  | zero=>simp at hi
  | succ q=>exact ih e q n (by simpa using hi)
 | case5=>intro w gs e; simp at e
 | case7=>intro w gs e; simp at e
 | case9=>intro w gs e; simp at e
 | case10=>intro w gs e; simp at e
 | case2 ks c cs ih =>
  intro w gs e q n hi
  simp only [Option.map_eq_some_iff] at e
  obtain ⟨⟨w',gs'⟩,e,h1⟩:=e
  simp only [Prod.mk.injEq] at h1
  obtain ⟨_,rfl⟩:=h1
  exact ih e q n hi
 | case3 _ ks cs ih =>
  intro w gs e q n hi
  simp only [Option.map_eq_some_iff] at e
  obtain ⟨⟨w',gs'⟩,e,h1⟩:=e
  simp only [Prod.mk.injEq] at h1
  obtain ⟨_,rfl⟩:=h1
  exact ih e q n hi
 | case4 _ ks b' o cs hlo ih =>
  intro w gs e q n hi
  simp only [Option.map_eq_some_iff] at e
  obtain ⟨⟨w',gs'⟩,e,h1⟩:=e
  simp only [Prod.mk.injEq] at h1
  obtain ⟨_,rfl⟩:=h1
  exact ih e q n hi
theorem inA_full {m : Hp} : ∀ {ks : List AK} {args words : List V} {ls : List Nat} {gs : List GA},inA m ks args = some (words,ls,gs) → ∀ (q n : Nat),gs[q]? = some (.full n 1) → n = 0
 | [],[],words,ls,gs,e=>by
  simp only [inA,Option.some.injEq,Prod.mk.injEq] at e
  obtain ⟨_,rfl,rfl⟩:=e
  intro q n hi; simp at hi
 | .v :: ks,a :: as,words,ls,gs,e=>by
  simp only [inA,Option.map_eq_some_iff] at e
  obtain ⟨⟨w',ls',gs'⟩,e,h1⟩:=e
  simp only [Prod.mk.injEq] at h1
  obtain ⟨_,rfl,rfl⟩:=h1
  exact inA_full (ks:=ks) e
 | .b off cks :: ks,a :: as,words,ls,gs,e=>by
  cases a
  case ptr l o =>
    simp only [inA] at e
    split at e
    ·split at e
     ·split at e
      ·rename_i w gs1 q h1 h2
       simp only [Option.some.injEq,Prod.mk.injEq] at e
       obtain ⟨_,rfl,rfl⟩:=e
       intro p n hi
       rw [List.getElem?_append] at hi
       split at hi
       ·exact inC_full (inCT_some h1).1 _ _ hi
       ·exact inA_full (words:=q.1) (ls:=q.2.1) (gs:=q.2.2) h2 _ _ hi
      ·simp at e
     ·simp at e
    ·simp at e
  all_goals simp [inA] at e
 | [],_ :: _,_,_,_,e=>by simp [inA] at e
 | .v :: _,[],_,_,_,e=>by simp [inA] at e
 | .b _ _ :: _,[],_,_,_,e=>by simp [inA] at e
theorem endB_full {m1 : Hp} : ∀ {kss : List (List CK)} {b : Nat} {outs : List V} {gs : List GA},endB m1 b kss = some (outs,gs) → ∀ (q n : Nat),gs[q]? = some (.full n 1) → n = 0
 | [],b,outs,gs,e=>by
  simp only [endB,Option.some.injEq,Prod.mk.injEq] at e
  obtain ⟨rfl,rfl⟩:=e
  intro q n hi; simp at hi
 | cks :: kss,b,outs,gs,e=>by
  simp only [endB] at e
  split at e
  ·split at e
   ·rename_i w gs1 q h1 h2
    simp only [Option.some.injEq,Prod.mk.injEq] at e
    obtain ⟨rfl,rfl⟩:=e
    intro p n hi
    rw [List.getElem?_append] at hi
    split at hi
    ·exact inC_full (inCT_some h1).1 _ _ hi
    ·exact endB_full (outs:=q.1) (gs:=q.2) h2 _ _ hi
   ·simp at e
  ·simp at e
theorem inA_owns {m : Hp} : ∀ {ks : List AK} {args words : List V} {ls : List Nat} {gs : List GA},inA m ks args = some (words,ls,gs) → (∀ (q i : Nat),gs[q]? = some (.own i) → ∃ n sz,m.T[i]? = some (n,sz) ∧ 0 < sz) ∧ ls.length = (boxKs ks).length
 | [],[],words,ls,gs,e=>by
  simp only [inA,Option.some.injEq,Prod.mk.injEq] at e
  obtain ⟨_,rfl,rfl⟩:=e
  exact ⟨fun q i hi=>by simp at hi,rfl⟩
 | .v :: ks,a :: as,words,ls,gs,e=>by
  simp only [inA,Option.map_eq_some_iff] at e
  obtain ⟨⟨w',ls',gs'⟩,e,h1⟩:=e
  simp only [Prod.mk.injEq] at h1
  obtain ⟨_,rfl,rfl⟩:=h1
  exact inA_owns (ks:=ks) e
 | .b off cks :: ks,a :: as,words,ls,gs,e=>by
  cases a
  case ptr l o =>
    simp only [inA] at e
    split at e
    ·split at e
     ·split at e
      ·rename_i w gs1 q h1 h2
       simp only [Option.some.injEq,Prod.mk.injEq] at e
       obtain ⟨_,rfl,rfl⟩:=e
       obtain ⟨i1,i2⟩:=inA_owns (words:=q.1) (ls:=q.2.1) (gs:=q.2.2) h2
       refine ⟨fun p i hi=>?_,by simp [boxKs,i2]⟩
       rw [List.getElem?_append] at hi
       split at hi
       ·exact inC_owns (inCT_some h1).1 _ _ hi
       ·exact i1 _ _ hi
      ·simp at e
     ·simp at e
    ·simp at e
  all_goals simp [inA] at e
 | [],_ :: _,_,_,_,e=>by simp [inA] at e
 | .v :: _,[],_,_,_,e=>by simp [inA] at e
 | .b _ _ :: _,[],_,_,_,e=>by simp [inA] at e
theorem inA_box {m : Hp} {κ : Ctx} {h : Heap} : ∀ {ks : List AK} {args words : List V} {ls : List Nat} {gs : List GA} {xs : List Value},inA m ks args = some (words,ls,gs) → Reps κ h args xs → ∀ (j l : Nat),ls[j]? = some l → ∃ blk,κ.box l = some blk
 | [],[],words,ls,gs,xs,e,r=>by
  simp only [inA,Option.some.injEq,Prod.mk.injEq] at e
  obtain ⟨_,rfl,rfl⟩:=e
  intro j l hj; simp at hj
 | .v :: ks,a :: as,words,ls,gs,xs,e,r=>by
  simp only [inA,Option.map_eq_some_iff] at e
  obtain ⟨⟨w',ls',gs'⟩,e,h1⟩:=e
  simp only [Prod.mk.injEq] at h1
  obtain ⟨_,rfl,rfl⟩:=h1
  obtain ⟨x,xs',rfl,rx,r'⟩:=r.inv_cons
  exact inA_box (ks:=ks) e r'
 | .b off cks :: ks,a :: as,words,ls,gs,xs,e,r=>by
  cases a
  case ptr l o =>
    simp only [inA] at e
    split at e
    ·split at e
     ·split at e
      ·rename_i w gs1 q h1 h2
       simp only [Option.some.injEq,Prod.mk.injEq] at e
       obtain ⟨_,rfl,rfl⟩:=e
       obtain ⟨x,xs',rfl,rx,r'⟩:=r.inv_cons
       intro j l' hj
       cases j with
       | zero =>
        simp only [List.getElem?_cons_zero,Option.some.injEq] at hj
        subst hj
        obtain ⟨blk,hblk,_⟩:=rep_ptr rx
        exact ⟨blk,hblk⟩
       | succ j=>exact inA_box (words:=q.1) (ls:=q.2.1) (gs:=q.2.2) h2 r' j l' (by simpa using hj)
      ·simp at e
     ·simp at e
    ·simp at e
  all_goals simp [inA] at e
 | [],_ :: _,_,_,_,_,e,_=>by simp [inA] at e
 | .v :: _,[],_,_,_,_,e,_=>by simp [inA] at e
 | .b _ _ :: _,[],_,_,_,_,e,_=>by simp [inA] at e
theorem part_of (k : Mem κ h m) {ks : List AK} {args words : List V} {ls : List Nat} {gs : List GA} (e : inA m ks args = some (words,ls,gs)) (h1 : Ones ls) (h2 : Owns gs) : PartOk κ ls gs where
 nb:=h1
 ng:=h2
 fu:=inA_full e
 ex p i hi:=by
  obtain ⟨n,sz,h3,h4⟩:=(inA_owns e).1 p i hi
  rw [← k.2.2,List.getElem?_map,Option.map_eq_some_iff] at h3
  obtain ⟨L,hL,hLt⟩:=h3
  refine ⟨L,hL,fun hk=>?_⟩
  unfold Lease.told at hLt
  rw [if_pos hk] at hLt
  simp only [Prod.mk.injEq] at hLt
  omega
theorem args_in (k : Mem κ h m) {LS : List Nat} {GS : List GA} : ∀ {ks : List AK} {args words : List V} {ls : List Nat} {gs : List GA} {b q : Nat} {xs : List Value},inA m ks args = some (words,ls,gs) → canos words = true →
  (∀ (i l : Nat),ls[i]? = some l → LS[b + i]? = some l) → (∀ (i : Nat) g,gs[i]? = some g → GS[q + i]? = some g) → Reps κ h args xs →
  Reps (part κ LS GS) h (aIn b q ks words).1 xs ∧ (aIn b q ks words).2.1.length = ls.length ∧ (aIn b q ks words).2.2 = gs.map (fun g=>(GA.lease κ g).told) ∧
  ∀ (j l blk : Nat) c,ls[j]? = some l → κ.box l = some blk → (aIn b q ks words).2.1[j]? = some c → ∃ o,h[blk]? = some o ∧ ORep (part κ LS GS) h c o
 | [],[],words,ls,gs,b,q,xs,e,hc,hl,hg,r=>by
  simp only [inA,Option.some.injEq,Prod.mk.injEq] at e
  obtain ⟨rfl,rfl,rfl⟩:=e
  obtain rfl:=r.inv_nil
  exact ⟨Reps.nil,rfl,rfl,fun j l blk c h1=>by simp at h1⟩
 | .v :: ks,a :: as,words,ls,gs,b,q,xs,e,hc,hl,hg,r=>by
  simp only [inA,Option.map_eq_some_iff] at e
  obtain ⟨⟨w',ls',gs'⟩,e,h1⟩:=e
  simp only [Prod.mk.injEq] at h1
  obtain ⟨rfl,rfl,rfl⟩:=h1
  simp only [canos,Bool.and_eq_true] at hc
  obtain ⟨x,xs',rfl,rx,r'⟩:=r.inv_cons
  obtain ⟨h2,h3,h4,h5⟩:=args_in k e hc.2 hl hg r'
  exact ⟨Reps.cons (rep_plainA (κ:=κ) (κ':=part κ LS GS) (fun _=>Nat.le_refl _) rx hc.1) h2,h3,h4,h5⟩
 | .b off cks :: ks,a :: as,words,ls,gs,b,q,xs,e,hc,hl,hg,r=>by
  cases a
  case ptr l o =>
    simp only [inA] at e
    split at e
    ·rename_i ho
     subst ho
     split at e
     ·rename_i e0 cs hcs
      split at e
      ·rename_i w gs1 qq h1 h2
       obtain ⟨h1,hty⟩:=inCT_some h1
       obtain ⟨ws',ls',gs'⟩:=qq
       simp only [Option.some.injEq,Prod.mk.injEq] at e
       obtain ⟨rfl,rfl,rfl⟩:=e
       simp only [canos,Bool.and_eq_true,V.cano] at hc
       obtain ⟨x,xs',rfl,rx,r'⟩:=r.inv_cons
       have hlen : ∀ {xs0 : List Value},Reps κ h cs xs0 → Reps (part κ LS GS) h (cIn b q cks w).1 xs0 ∧ (cIn b q cks w).2 = gs1.map fun g=>(GA.lease κ g).told:=fun r0 =>
        cells_in (κp:=part κ LS GS) (l:=l) (b:=b) k.2.2 (fun _=>Nat.le_refl _) (fun blk hbl=>by
         have:=hl 0 l rfl
         rw [Nat.add_zero] at this
         simp only [part,this]
         exact hbl) h1 hc.1 (fun i g hi=>by
         have:=hg i g (by rw [List.getElem?_append_left (List.getElem?_eq_some_iff.1 hi).1]; exact hi)
         simp only [part,List.getElem?_map,this]; rfl) r0
       obtain ⟨blk,hblk,hx⟩:=rep_ptr rx
       obtain ⟨ob,hob,xs0,E,hoe,hr0,hone⟩:=k.2.1.2 l blk (.cells e0 cs) hblk hcs
       obtain ⟨g1,g2⟩:=hlen hr0
       have gl : (cIn b q cks w).2.length = gs1.length:=by rw [g2,List.length_map]
       obtain ⟨h3,h4,h5,h6⟩:=args_in (LS:=LS) (GS:=GS) (b:=b + 1) (q:=q + (cIn b q cks w).2.length) k h2 hc.2
        (fun i l hi=>by rw [show b + 1 + i = b + (i + 1) by omega]; exact hl (i + 1) l (by simpa using hi))
        (fun i g hi=>by
         rw [gl,show q + gs1.length + i = q + (gs1.length + i) by omega]
         refine hg (gs1.length + i) g ?_
         rw [List.getElem?_append_right (by omega),show gs1.length + i - gs1.length = i by omega]; exact hi) r'
       refine ⟨Reps.cons ?_ h3,by simp only [aIn,List.length_cons,h4],by simp only [aIn]; rw [h5,g2,List.map_append],fun j l' blk' c hj hb hcj=>?_⟩
       ·rw [hx]
        refine .ptr b o blk ?_
        have:=hl 0 l rfl
        rw [Nat.add_zero] at this
        simp only [part,this]
        exact hblk
       ·cases j with
        | zero =>
         simp only [List.getElem?_cons_zero,Option.some.injEq] at hj
         subst hj
         simp only [aIn,List.getElem?_cons_zero,Option.some.injEq] at hcj
         subst hcj
         rw [hblk] at hb
         simp only [Option.some.injEq] at hb
         subst hb
         exact ⟨ob,hob,xs0,E,hoe,g1,hone.1,fun t ht=>hone.2 t (tyFit_ok hty ht)⟩
        | succ j =>
         simp only [List.getElem?_cons_succ] at hj
         simp only [aIn,List.getElem?_cons_succ] at hcj
         exact h6 j l' blk' c hj hb hcj
      ·simp at e
     ·simp at e
    ·simp at e
  all_goals simp [inA] at e
 | [],_ :: _,_,_,_,_,_,_,e,_,_,_,_=>by simp [inA] at e
 | .v :: _,[],_,_,_,_,_,_,e,_,_,_,_=>by simp [inA] at e
 | .b _ _ :: _,[],_,_,_,_,_,_,e,_,_,_,_=>by simp [inA] at e
theorem endB_owns {m1 : Hp} : ∀ {kss : List (List CK)} {b : Nat} {outs : List V} {gs : List GA},endB m1 b kss = some (outs,gs) → (∀ (q i : Nat),gs[q]? = some (.own i) → ∃ n sz,m1.T[i]? = some (n,sz) ∧ 0 < sz) ∧ outs.length = kss.length
 | [],b,outs,gs,e=>by
  simp only [endB,Option.some.injEq,Prod.mk.injEq] at e
  obtain ⟨rfl,rfl⟩:=e
  exact ⟨fun q i hi=>by simp at hi,rfl⟩
 | cks :: kss,b,outs,gs,e=>by
  simp only [endB] at e
  split at e
  ·split at e
   ·rename_i w gs1 q h1 h2
    simp only [Option.some.injEq,Prod.mk.injEq] at e
    obtain ⟨rfl,rfl⟩:=e
    obtain ⟨i1,i2⟩:=endB_owns (outs:=q.1) (gs:=q.2) h2
    refine ⟨fun p i hi=>?_,by simp [i2]⟩
    rw [List.getElem?_append] at hi
    split at hi
    ·exact inC_owns (inCT_some h1).1 _ _ hi
    ·exact i1 _ _ hi
   ·simp at e
  ·simp at e
theorem out_mem (k1 : Mem κ1 h1 m1) (hw : ∀ b,κ1.hw b ≤ κ'.hw b) : ∀ {kss : List (List CK)} {b q : Nat} {outs : List V} {gos : List GA} {ls : List Nat} {H : List LO},endB m1 b kss = some (outs,gos) → ls.length = kss.length → canos outs = true →
  (∀ (i : Nat) g,gos[i]? = some g → κ'.lease[q + i]? = some (GA.lease κ1 g)) → Ones ls → (∀ (j l blk : Nat),ls[j]? = some l → κ1.box (b + j) = some blk → κ'.box l = some blk) →
  (putB q kss ls outs H).2 = gos.map (fun g=>(GA.lease κ1 g).told) ∧ (putB q kss ls outs H).1.length = H.length ∧ (∀ l : Nat,(∀ i : Nat,ls[i]? ≠ some l) → (putB q kss ls outs H).1[l]? = H[l]?) ∧
  ∀ (j l blk : Nat) c,ls[j]? = some l → κ1.box (b + j) = some blk → (putB q kss ls outs H).1[l]? = some c → ∃ o,h1[blk]? = some o ∧ ORep κ' h1 c o
 | [],b,q,outs,gos,ls,H,e,hl,hc,hg,hd,hbx=>by
  simp only [endB,Option.some.injEq,Prod.mk.injEq] at e
  obtain ⟨rfl,rfl⟩:=e
  obtain rfl:=List.eq_nil_of_length_eq_zero hl
  exact ⟨rfl,rfl,fun _ _=>rfl,fun j l blk c h1=>by simp at h1⟩
 | cks :: kss,b,q,outs,gos,[],H,e,hl,hc,hg,hd,hbx=>by simp at hl
 | cks :: kss,b,q,outs,gos,l :: ls,H,e,hl,hc,hg,hd,hbx=>by
  simp only [endB] at e
  split at e
  ·rename_i e0 cs hcs
   split at e
   ·rename_i w gs1 qq h2 h3
    obtain ⟨h2,hty⟩:=inCT_some h2
    obtain ⟨ws',gs'⟩:=qq
    simp only [Option.some.injEq,Prod.mk.injEq] at e
    obtain ⟨rfl,rfl⟩:=e
    simp only [canos,Bool.and_eq_true,V.cano] at hc
    have hlen : ∀ {xs0 : List Value},Reps κ1 h1 cs xs0 → Reps κ' h1 (cIn l q cks w).1 xs0 ∧ (cIn l q cks w).2 = gs1.map fun g=>(GA.lease κ1 g).told:=fun r0 =>
     cells_in (l:=b) (b:=l) k1.2.2 hw (fun blk hbl=>hbx 0 l blk rfl (by rw [Nat.add_zero]; exact hbl)) h2 hc.1 (fun i g hi=>hg i g (by rw [List.getElem?_append_left (List.getElem?_eq_some_iff.1 hi).1]; exact hi)) r0
    have told : (cIn l q cks w).2 = gs1.map fun g=>(GA.lease κ1 g).told:=cIn_told k1.2.2 h2
    have gl : (cIn l q cks w).2.length = gs1.length:=by rw [told,List.length_map]
    have hd' : Ones ls:=fun i j n h4 h5=>by
     have:=hd (i + 1) (j + 1) n (by simpa using h4) (by simpa using h5)
     omega
    have hn : ∀ i : Nat,ls[i]? ≠ some l:=fun i hi=>by
     have:=hd 0 (i + 1) l rfl (by simpa using hi)
     omega
    obtain ⟨h4,h5,h6,h7⟩:=out_mem (H:=H.set l (.cells (tyK cks) (cIn l q cks w).1)) (b:=b + 1) (q:=q + (cIn l q cks w).2.length) k1 hw h3 (by simpa using hl) hc.2
     (fun i g hi=>by
      rw [gl,show q + gs1.length + i = q + (gs1.length + i) by omega]
      refine hg (gs1.length + i) g ?_
      rw [List.getElem?_append_right (by omega),show gs1.length + i - gs1.length = i by omega]; exact hi) hd' (fun j l' blk hj hbj=>hbx (j + 1) l' blk (by simpa using hj) (by rw [show b + (j + 1) = b + 1 + j by omega]; exact hbj))
    refine ⟨by simp only [putB]; rw [h4,told,List.map_append],by simp only [putB,h5,List.length_set],fun l' hl'=>?_,fun j l' blk c hj hb hcj=>?_⟩
    ·simp only [putB]
     rw [h6 l' fun i hi=>hl' (i + 1) (by simpa using hi),List.getElem?_set_ne (fun e=>hl' 0 (by simp [e]))]
    ·cases j with
     | zero =>
      simp only [List.getElem?_cons_zero,Option.some.injEq] at hj
      subst hj
      simp only [putB] at hcj
      rw [h6 l hn] at hcj
      have hlt : l < H.length:=by have:=(List.getElem?_eq_some_iff.1 hcj).1; simpa using this
      rw [List.getElem?_set_self hlt] at hcj
      simp only [Option.some.injEq] at hcj
      subst hcj
      obtain ⟨ob,hob,xs0,E,hoe,hr0,hone⟩:=k1.2.1.2 b blk (.cells e0 cs) hb hcs
      exact ⟨ob,hob,xs0,E,hoe,(hlen hr0).1,hone.1,fun t ht=>hone.2 t (tyFit_ok hty ht)⟩
     | succ j =>
      simp only [List.getElem?_cons_succ] at hj
      simp only [putB] at hcj
      exact h7 j l' blk c hj (by rw [show b + 1 + j = b + (j + 1) by omega]; exact hb) hcj
   ·simp at e
  ·simp at e
theorem reps_fl {κ : Ctx} {h : Heap} : ∀ {gr : List GK} {args vs : List V} {xs : List Value},Reps κ h args xs → flA gr args = some vs →
  ∃ ys : List Value,Reps κ h vs ys ∧ ∀ (κ' : Ctx) (h' : Heap) (vs' : List V),Reps κ' h' vs' ys → Reps κ' h' (unA gr vs') xs
 | [],args,vs,xs,r,e=>by
  simp only [flA,Option.some.injEq] at e
  subst e
  exact ⟨xs,r,fun _ _ _ r'=>r'⟩
 | .one :: gs,[],vs,xs,r,e=>by simp [flA] at e
 | .one :: gs,a :: args,vs,xs,r,e=>by
  simp only [flA,Option.map_eq_some_iff] at e
  obtain ⟨vs0,e,rfl⟩:=e
  obtain ⟨x,xs',rfl,rx,r'⟩:=r.inv_cons
  obtain ⟨ys,h1,h2⟩:=reps_fl r' e
  refine ⟨x :: ys,Reps.cons rx h1,fun κ' h' vs' r0=>?_⟩
  have h3:=(r0.take 1).append (h2 κ' h' _ (r0.drop 1))
  exact h3
 | .clo f n :: gs,[],vs,xs,r,e=>by simp [flA] at e
 | .clo f n :: gs,a :: args,vs,xs,r,e=>by
  cases a
  case func f' cs =>
   simp only [flA] at e
   split at e
   ·rename_i hc
    obtain ⟨rfl,hn⟩:=hc
    simp only [Option.map_eq_some_iff] at e
    obtain ⟨vs0,e,rfl⟩:=e
    obtain ⟨x,xs',rfl,rx,r'⟩:=r.inv_cons
    obtain ⟨ys,h1,h2⟩:=reps_fl r' e
    cases rx with
    | func _ _ zs hl hr =>
     have rz : Reps κ h cs zs:=⟨hl,hr⟩
     refine ⟨zs ++ ys,rz.append h1,fun κ' h' vs' r0=>?_⟩
     have ht:=r0.take n
     have hd:=r0.drop n
     have hz : zs.length = n:=by rw [← hn]; exact rz.1
     rw [← hz,List.take_left,hz] at ht
     rw [← hz,List.drop_left,hz] at hd
     exact Reps.cons (.func _ _ _ ht.1 ht.2) (h2 κ' h' _ hd)
   ·simp at e
  all_goals simp [flA] at e
theorem eff_call {P : Program} {f : FuncId} {sg : Sig} {words rs args : List V} {ls : List Nat} {gs : List GA} {m : Hp} (e : (flA sg.gr args).bind (inA m sg.as) = some (words,ls,gs)) (h1 : Ones ls) (h2 : Owns gs) (hw : canos words = true) (hr : canos rs = true)
  (hp : (pack (rs.take sg.nres)).plain = true) (hF : Callee P f sg words rs) :
  CallOk P f args m (pack (rs.take sg.nres)) ⟨(putB m.T.length (outKs sg.as) ls (rs.drop sg.nres) m.H).1,killT gs m.T ++ (putB m.T.length (outKs sg.as) ls (rs.drop sg.nres) m.H).2⟩:=by
 intro κ w xs k ra
 obtain ⟨fargs,hfl,e⟩:=Option.bind_eq_some_iff.1 e
 obtain ⟨ys,rf1,rf2⟩:=reps_fl ra hfl
 have p:=part_of k e h1 h2
 obtain ⟨a1,a2,a3,a4⟩:=args_in (LS:=ls) (GS:=gs) (b:=0) (q:=0) k e hw (fun i l h=>by rw [Nat.zero_add]; exact h) (fun i g h=>by rw [Nat.zero_add]; exact h) rf1
 have a1:=rf2 _ _ _ a1
 have km : Mem (part κ ls gs) w.heap ⟨(aIn 0 0 sg.as words).2.1,(aIn 0 0 sg.as words).2.2⟩:=by
  have:=part_mem (gs:=gs) k p a2 (fun b l blk c hl hb hc=>a4 b l blk c hl hb hc)
  rw [a3]
  simpa [part,List.map_map,Function.comp_def] using this
 refine (hF (part κ ls gs) w xs km a1).mono fun e0 w' ⟨x,κ1,m1,he,hx,hv,gos,hend,hdist⟩=>?_
 obtain ⟨o1,o2⟩:=endB_owns hend
 have q : OutOk κ1 gos:=⟨hdist,fun p i hi=>by
  obtain ⟨n,sz,h3,_⟩:=o1 p i hi
  rw [← hx.mem.2.2,List.getElem?_map,Option.map_eq_some_iff] at h3
  obtain ⟨L,hL,_⟩:=h3
  exact ⟨L,hL⟩,endB_full hend⟩
 have hkl : κ.lease.length = m.T.length:=by rw [← k.2.2,List.length_map]
 have hlen:=(inA_owns e).2.trans (outKs_len sg.as).symm
 have hcr : canos (rs.drop sg.nres) = true:=canos_iff.2 fun v hv=>canos_iff.1 hr v (List.mem_of_mem_drop hv)
 obtain ⟨b1,b2,b3,b4⟩:=out_mem (κ':=back κ κ1 gs gos) (H:=m.H) (b:=0) (q:=m.T.length) hx.mem (fun b=>Nat.le_refl _) hend hlen hcr (fun i g hi=>by
  simp only [back]
  rw [List.getElem?_append_right (by simp; omega)]
  simp only [List.length_mapIdx,hkl,Nat.add_sub_cancel_left,List.getElem?_map,hi]
  rfl) h1 (fun j l blk hj hbj=>by
   rw [Nat.zero_add] at hbj
   obtain ⟨blk',hb'⟩:=inA_box e rf1 j l hj
   have h2 : κ1.box j = some blk':=hx.le.box j blk' (by simp only [part,hj]; exact hb')
   rw [hbj] at h2
   simp only [Option.some.injEq] at h2
   subst h2
   exact hb')
 refine ⟨x,back κ κ1 gs gos,he,⟨back_le p hx.le q,?_,by simp only [b2]; exact Nat.le_refl _,fun l _ hb=>hb,hx.os,hx.out⟩,rep_plain (κ:=κ1) (κ':=back κ κ1 gs gos) (fun b=>Nat.le_refl _) hv hp⟩
 refine back_mem k p hx.le hx.mem q b2 (fun l hl=>b3 l hl) (fun b l blk c hl hb hc=>b4 b l blk c hl ?_ hc) (by rw [b1])
 rw [Nat.zero_add]
 refine hx.le.box b blk ?_
 simp only [part,hl]
 exact hb
end
end Go.Fbs

/- From code to the small language. -/
namespace Go.Fbs
inductive TD where
 | bool | int (k : IntKind) | str
 | sl (e : TypeId)
 | st (fs : List (Nat × TypeId))
 | arr (n : Nat) (e : TypeId)
 | other
 deriving Inhabited
structure TI where
 t : TypeId
 d : TD
 sz : Nat
 agg : Bool
 by_ : Nat
 z : Option (List V)
 eq : Bool
 deriving Inhabited
def tiOfL : List TI → TypeId → Option TI
 | [],_=>none
 | i :: r,t=>bif Nat.beq i.t t then some i else tiOfL r t
def assoc {α : Type} : List (Nat × α) → Nat → Option α
 | [],_=>none
 | (j,x) :: r,i=>bif Nat.beq j i then some x else assoc r i
structure TT where
 ts : List TI
 sg : STab
 dyn : List Nat
def tiOf (tt : TT) (t : TypeId) : Option TI:=tiOfL tt.ts t
def sigOf (tt : TT) (e : FuncId) : Option (FuncId × Sig):=bif Nat.ble EOFF e then assoc tt.sg e else none
def isE (tt : TT) (f : FuncId) : Bool:=tt.sg.any fun q=>Nat.beq q.2.1 f
def tdOk (P : Program) (t : TypeId) : TD → Prop
 | .bool=>P.underlying t = some .bool
 | .int k=>P.underlying t = some (.int k)
 | .str=>P.underlying t = some .string
 | .sl e=>P.underlying t = some (.slice e)
 | .st fs => ∃ a : Array Field, P.underlying t = some (.struct a) ∧ a.toList.map (fun f => (f.offset, f.type)) = fs ∧ a.toList.all (fun f => f.name != "_") = true
 | .arr n e=>P.underlying t = some (.array n e)
 | .other=>True
structure TOk (P : Program) (i : TI) : Prop where
 d : tdOk P i.t i.d
 sz : szT P i.t = some i.sz
 agg : aggT P i.t = some i.agg
 by_ : bytesT P i.t = some i.by_
 z : ∀ z,i.z = some z → ∃ v,zeroT P i.t = some v ∧ v.cells = z ∧ (i.agg = true → v = .agg z) ∧ (i.agg = false → z = [v])
 eq : i.eq = true → P.stoodInHeld i.t = false ∧ P.eqGuardType P.depth i.t = false
def leavesF (tt : TT) (f : TypeId → Option (List Nat)) : Nat → List (Nat × TypeId) → Option (List Nat)
 | _,[]=>some []
 | n,(off,t) :: r =>
  match tiOf tt t,f t with
  | some ti,some q=>bif Nat.beq off n && Nat.blt 0 ti.sz then (leavesF tt f (n + ti.sz) r).map (q ++ ·) else none
  | _,_=>none
def leaves (tt : TT) : Nat → TypeId → Option (List Nat)
 | 0,_=>none
 | d + 1,t =>
  match tiOf tt t with
  | some ti =>
   match ti.d with
   | .bool=>bif Nat.beq ti.sz 1 && !ti.agg then some [0] else none
   | .int _=>bif Nat.beq ti.sz 1 && !ti.agg then some [1] else none
   | .str=>bif Nat.beq ti.sz 1 && !ti.agg then some [2] else none
   | .st fs =>
    bif ti.eq && ti.agg then
     match leavesF tt (leaves tt d) 0 fs with
     | some q=>bif Nat.beq q.length ti.sz then some q else none
     | none=>none
    else none
   | _=>none
  | none=>none
abbrev Gd:=Option (A × Bool)
inductive SV where
 | val (a : A)
 | gval (a : A) (g : Gd)
 | grow (k sz : Nat) (a : A)
 | nils
 | elem (a : A) (n off : Nat) (g : Gd)
 | ptr (b off : Nat) (g : Gd)
 | pix (b off n : Nat) (i : A) (g : Gd)
 | stv (a : A) (nl : List Nat)
 | clo (f : Nat) (caps : List (Nat × Nat))
 | self (t b : Nat) (a : A)
 deriving Inhabited
structure SS where
 slots : List (Nat × SV)
 boxes : List (Option (List SV))
 known : List (Nat × Nat)
 bools : List Nat
 gvars : List Nat
 nv : Nat
 nk : Nat
 dep : Nat
 own : Nat
 deriving Inhabited
def SS.look (S : SS) (t : Nat) : Option SV:=assoc S.slots t
def nilA : A:=.k (.sl .ro [])
def undefS : SV:=.val (.k .undef)
def SV.a? : SV → Option A
 | .val a=>some a
 | .grow _ _ a=>some a
 | .nils=>some nilA
 | .stv a _=>some a
 | _=>none
def constSV : V → SV
 | .sl .full []=>.nils
 | v=>.val (.k v.erA)
def SS.opnd (S : SS) : Operand → Option SV
 | .tmp t=>S.look t
 | .const v=>(V.ofC v).map constSV
 | .func f=>some (.val (.k (.func f [])))
 | .global _=>none
def SS.opA (S : SS) (x : Operand) : Option A:=(S.opnd x).bind SV.a?
def SS.opAs (S : SS) : List Operand → Option (List A)
 | []=>some []
 | x :: xs =>
  match S.opA x,S.opAs xs with
  | some a,some as=>some (a :: as)
  | _,_=>none
def SS.opA? (S : SS) : Option Operand → Option (Option A)
 | none=>some none
 | some x=>(S.opA x).map some
def sameV : V → V → Bool
 | .bool a,.bool b=>a == b
 | .int k a,.int k' b=>decide (k = k') && decide (a = b)
 | .str a,.str b=>decide (a = b)
 | .nilp,.nilp=>true
 | .sl .ro [],.sl .ro []=>true
 | _,_=>false
def A.same : A → A → Bool
 | .v i,.v j=>Nat.beq i j
 | .c i j,.c i' j'=>Nat.beq i i' && Nat.beq j j'
 | .k x,.k y=>sameV x y
 | _,_=>false
def Gd.same : Gd → Gd → Bool
 | none,none=>true
 | some (a,b),some (a',b')=>a.same a' && (b == b')
 | _,_=>false
def sameC : List (Nat × Nat) → List (Nat × Nat) → Bool
 | [],[]=>true
 | (a,b) :: r,(a',b') :: r'=>Nat.beq a a' && Nat.beq b b' && sameC r r'
 | _,_=>false
def SV.same : SV → SV → Bool
 | .nils,.nils=>true
 | .elem a n off g,.elem a' n' off' g'=>a.same a' && Nat.beq n n' && Nat.beq off off' && g.same g'
 | .ptr b off g,.ptr b' off' g'=>Nat.beq b b' && Nat.beq off off' && g.same g'
 | .pix b off n i g,.pix b' off' n' i' g'=>Nat.beq b b' && Nat.beq off off' && Nat.beq n n' && i.same i' && g.same g'
 | .clo f l,.clo f' l'=>Nat.beq f f' && sameC l l'
 | .self t b a,.self t' b' a'=>Nat.beq t t' && Nat.beq b b' && a.same a'
 | _,_=>false
def SV.ag (g : Gd) : SV → Option A
 | .gval a g'=>bif g'.same g then some a else none
 | s=>s.a?
def SS.opAg (S : SS) (g : Gd) (x : Operand) : Option A:=(S.opnd x).bind (SV.ag g)
def SS.opAsg (S : SS) (g : Gd) : List Operand → Option (List A)
 | []=>some []
 | x :: xs =>
  match S.opAg g x,S.opAsg g xs with
  | some a,some as=>some (a :: as)
  | _,_=>none
def SS.opAg? (S : SS) (g : Gd) : Option Operand → Option (Option A)
 | none=>some none
 | some x=>(S.opAg g x).map some
def SV.pk (g side : Gd) (s : SV) : Option A :=
 match s.ag g with
 | some a=>some a
 | none=>s.ag side
def SS.opPk (S : SS) (g side : Gd) (x : Operand) : Option A:=(S.opnd x).bind (SV.pk g side)
def SV.fits (s : Option SV) (t : SV) : Bool :=
 match s,t with
 | some s,.val a=>(match s.a? with | some a'=>a'.same a | none=>false)
 | some s,t=>s.same t
 | none,_=>false
def A.below (n : Nat) : A → Bool
 | .v i=>Nat.blt i n
 | .c i _=>Nat.blt i n
 | .k _=>true
def Gd.below (n : Nat) : Gd → Bool
 | none=>true
 | some (a,_)=>a.below n
def SV.below (n : Nat) : SV → Bool
 | .val a=>a.below n
 | .gval a g=>a.below n && g.below n
 | .grow _ _ a=>a.below n
 | .nils=>true
 | .elem a _ _ g=>a.below n && g.below n
 | .ptr _ _ g=>g.below n
 | .pix _ _ _ i g=>i.below n && g.below n
 | .stv a _=>a.below n
 | .clo _ _=>true
 | .self _ _ a=>a.below n
def SS.knows (S : SS) (a : A) (n : Nat) : Bool :=
 match a with
 | .v i=>(match assoc S.known i with | some m=>Nat.beq m n | none=>false)
 | .c i j=>Nat.beq n 0 && (match assoc S.known i with | some m=>Nat.blt j m | none=>false)
 | .k x=>Nat.beq n 0 && sc x
def cellsOf (i : Nat) : Nat → Nat → List A
 | 0,_=>[]
 | n + 1,j=>.c i j :: cellsOf i n (j + 1)
def aggN (n : Nat) : Option Nat:=bif Nat.beq n 0 then none else some n
def kindE : E → Option Nat
 | .lenS _ | .lenL _ | .bin .. | .eqB .. | .eqA .. | .un .. | .mm .. | .convI .. | .convSS _ | .convBS _ | .slS .. | .slL .. | .idxS .. | .lit .. | .make .. | .app .. | .appS .. | .fn .. | .nilF _ | .chk1 _ | .inb .. | .nth .. | .flip ..=>some 0
 | .idxL g n _ _=>bif g then aggN n else some 0
 | .part g n _ _=>bif g then aggN n else some 0
 | .chk n _=>aggN n
 | .agg l=>aggN l.length
 | _=>none
abbrev OL:=Option L
def hasN (l : List Nat) (t : Nat) : Bool:=l.any (Nat.beq t)
def SS.isB (S : SS) : A → Bool
 | .v i=>hasN S.bools i
 | .k x=>isBU x
 | _=>false
def cmpOp : BinOp → Bool
 | .eql | .neq | .lss | .leq | .gtr | .geq=>true
 | _=>false
def boolE (S : SS) : E → Bool
 | .bin op _ _=>cmpOp op
 | .eqB .. | .eqA .. | .un .not _=>true
 | .pick _ a b=>S.isB a && S.isB b
 | _=>false
def SS.wit (S : SS) (nv : Nat) (kn : List (Nat × Nat)) (bl : List Nat × List Nat) : SS:={ S with nv:=nv,known:=kn,bools:=bl.1,gvars:=bl.2 }
def SS.addB (S : SS) : A → List Nat
 | .v i=>bif hasN S.bools i then S.bools else i :: S.bools
 | _=>S.bools
def SS.sure (S : SS) : A → Bool
 | .v i=>!hasN S.gvars i
 | .c i _=>!hasN S.gvars i
 | .k _=>true
def emit (g : Gd) (e : E) (S : SS) (k : A → SS → OL) : OL :=
 (k (.v S.nv) (S.wit (S.nv + 1)
  (match g,kindE e with
   | none,some n=>(S.nv,n) :: S.known
   | _,_=>S.known)
  (bif boolE S e then S.nv :: S.bools else S.bools,match g with | none=>S.gvars | some _=>S.nv :: S.gvars))).map (L.bind e g)
def emitV (g : Gd) (e : E) (S : SS) (k : SV → SS → OL) : OL:=emit g e S fun a S=>k (.val a) S
def emitT (g : Gd) (as : List A) (e : E) (S : SS) (k : SV → SS → OL) : OL :=
 match g with
 | none=>emitV none e S k
 | some q=>bif as.all S.sure then emit none e S fun a S=>k (.gval a (some q)) S else emitV (some q) e S k
def emitB (g : Gd) (op : BinOp) (a b : A) (S : SS) (k : SV → SS → OL) : OL :=
 match op with
 | .quo | .rem | .shl | .shr=>emitV g (.bin op a b) S k
 | _=>emitT g [a,b] (.bin op a b) S k
def cellsX (g : Gd) (n : Nat) (a : A) (S : SS) (k : List A → SS → OL) : OL :=
 bif Nat.beq n 0 then none else
 match a with
 | .v i=>bif S.knows (.v i) n then k (cellsOf i n 0) S else emit g (.chk n a) S fun _ S'=>k (cellsOf S.nv n 0) S'
 | a=>emit g (.chk n a) S fun _ S'=>k (cellsOf S.nv n 0) S'
def cell1X (g : Gd) (a : A) (S : SS) (k : A → SS → OL) : OL :=
 bif S.knows a 0 then k a S else emit g (.chk1 a) S k
def putCells {α : Type} (cs : List α) (off : Nat) (new : List α) : List α:=cs.take off ++ new ++ cs.drop (off + new.length)
def partsX (tt : TT) (g : Gd) (place : Nat → Option (Nat × TypeId)) : List (Nat × Operand) → List A → SS → (List A → SS → OL) → OL
 | [],cs,S,k=>k cs S
 | (i,x) :: r,cs,S,k =>
  match place i,S.opAg g x with
  | some (off,t),some a =>
   match tiOf tt t with
   | some ti =>
    bif Nat.ble (off + ti.sz) cs.length then
     bif ti.agg then cellsX g ti.sz a S fun l S'=>partsX tt g place r (putCells cs off l) S' k
     else bif Nat.beq ti.sz 1 then cell1X g a S fun a' S'=>partsX tt g place r (putCells cs off [a']) S' k else none
    else none
   | none=>none
  | _,_=>none
def inOrder : Nat → List (Nat × Operand) → Bool
 | _,[]=>true
 | n,(i,_) :: r=>Nat.beq i n && inOrder (n + 1) r
def aList : List SV → Option (List A)
 | []=>some []
 | s :: r =>
  match s.a?,aList r with
  | some a,some as=>some (a :: as)
  | _,_=>none
def wholeOf : List A → Option Nat
 | .c i 0 :: _=>some i
 | _=>none
def isWhole (i : Nat) : Nat → List A → Bool
 | _,[]=>true
 | j,.c i' j' :: r=>Nat.beq i i' && Nat.beq j j' && isWhole i (j + 1) r
 | _,_=>false
def demote (k : Nat) : SV → SV
 | .grow k' sz a=>bif Nat.beq k k' then .val a else .grow k' sz a
 | s=>s
def SS.demote (S : SS) (k : Nat) : SS :=
 {S with slots:=S.slots.map (fun p=>(p.1,Fbs.demote k p.2)),boxes:=S.boxes.map (Option.map (List.map (Fbs.demote k))) }
def loadX (ti : TI) (g : Gd) (cells : List SV) (off : Nat) (S : SS) (k : SV → SS → OL) : OL :=
 bif ti.agg then
  bif Nat.ble (off + ti.sz) cells.length then
  match aList ((cells.drop off).take ti.sz) with
  | some as =>
   match g,wholeOf as with
   | none,some i=>bif isWhole i 0 as && S.knows (.v i) ti.sz && Nat.beq as.length ti.sz then k (.val (.v i)) S else emitT g as (.agg as) S k
   | _,_=>emitT g as (.agg as) S k
  | none=>none
  else none
 else
  match cells[off]? with
  | some s =>
   match g with
   | none=>k s S
   | some _=>(match s.a? with | some a=>k (.gval a g) S | none=>none)
  | none=>none
def guardFits (have_ : Gd) (op : Gd) : Bool :=
 match have_ with
 | none=>true
 | some _=>have_.same op
def selfOk (ks : List CK) : Bool:=ks.all fun k=>match k with | .self t=>tyFit ks (some t) | _=>true
def selfA (t b : Nat) : SV → Option A
 | .self t' b' a=>bif Nat.beq t' t && Nat.beq b' b then some a else none
 | _=>none
def cellsIn (b : Nat) : List CK → List SV → Option (List A × List Nat)
 | [],[]=>some ([],[])
 | .pl :: ks,s :: ss =>
  match s.a?,cellsIn b ks ss with
  | some a,some q=>some (a :: q.1,q.2)
  | _,_=>none
 | .self t :: ks,s :: ss =>
  match selfA t b s,cellsIn b ks ss with
  | some a,some q=>some (a :: q.1,q.2)
  | _,_=>none
 | .gr sz _ :: ks,s :: ss =>
  match s,cellsIn b ks ss with
  | .grow k sz' a,some q=>bif Nat.beq sz' sz && Nat.blt 0 sz then some (a :: q.1,k :: q.2) else none
  | .nils,some q=>bif Nat.blt 0 sz then some (nilA :: q.1,q.2) else none
  | _,_=>none
 | _,_=>none
inductive AI where
 | w (a : A)
 | b (b : Nat) (as : List A) (ks : List CK)
 deriving Inhabited
inductive Ob where
 | op (x : Operand)
 | bx (b : Nat)
def SS.obj (S : SS) : Ob → Option SV
 | .op x=>S.opnd x
 | .bx b=>some (.ptr b 0 none)
def argsIn (S : SS) : List AK → List Ob → Option (List AI × List Nat)
 | [],[]=>some ([],[])
 | .v :: ks,.op x :: xs =>
  match S.opA x,argsIn S ks xs with
  | some a,some q=>some (.w a :: q.1,q.2)
  | _,_=>none
 | .b off cks :: ks,x :: xs =>
  match S.obj x with
  | some (.ptr b o none) =>
   bif Nat.beq o off && selfOk (cks.map CK.out) then
    match S.boxes[b]? with
    | some (some cells) =>
     match cellsIn b cks cells,argsIn S ks xs with
     | some (as,ids),some q=>some (.b b as (cks.map CK.out) :: q.1,ids ++ q.2)
     | _,_=>none
    | _=>none
   else none
  | _=>none
 | _,_=>none
def aiBoxes : List AI → List Nat
 | []=>[]
 | .w _ :: r=>aiBoxes r
 | .b b _ _ :: r=>b :: aiBoxes r
def hasNat (l : List Nat) (t : Nat) : Bool:=l.any (Nat.beq t)
def onesN : List Nat → Bool
 | []=>true
 | n :: r=>!hasNat r n && onesN r
def wordsX : List AI → SS → (List A → SS → OL) → OL
 | [],S,k=>k [] S
 | .w a :: r,S,k=>wordsX r S fun l S'=>k (a :: l) S'
 | .b _ as _ :: r,S,k=>emit none (.agg as) S fun y S'=>wordsX r S' fun l S''=>k (y :: l) S''
def SS.demotes (S : SS) : List Nat → SS
 | []=>S
 | q :: r=>(S.demote q).demotes r
def SS.forget (S : SS) : List Nat → SS
 | []=>S
 | b :: r=>({ S with boxes:=S.boxes.set b none } : SS).forget r
def freshCells (b z : Nat) : Nat → Nat → List CK → List SV
 | _,_,[]=>[]
 | j,q,.pl :: ks=>.val (.c z j) :: freshCells b z (j + 1) q ks
 | j,q,.self t :: ks=>.self t b (.c z j) :: freshCells b z (j + 1) q ks
 | j,q,.gr sz _ :: ks=>.grow q sz (.c z j) :: freshCells b z (j + 1) (q + 1) ks
def grN : List CK → Nat
 | []=>0
 | .pl :: ks=>grN ks
 | .self _ :: ks=>grN ks
 | .gr _ _ :: ks=>grN ks + 1
def outsX (y : A) : Nat → List AI → SS → (SS → OL) → OL
 | _,[],S,k=>k S
 | i,.w _ :: r,S,k=>outsX y i r S k
 | i,.b b _ ks :: r,S,k=>emit none (.ext y i) S fun z S=>emit none (.chk ks.length z) S fun _ S' =>
   outsX y (i + 1) r { S' with boxes:=S'.boxes.set b (some (freshCells b S.nv 0 S'.nk ks)),nk:=S'.nk + grN ks } k
def ptrS (S : SS) (x : Ob) : Option (Nat × List SV) :=
 match S.obj x with
 | some (.ptr b o none) =>
  match S.boxes[b]? with
  | some (some cells)=>some (o,cells)
  | _=>none
 | _=>none
def isSl : V → Bool
 | .sl _ _=>true
 | _=>false
def cellFit : CK → SV → Option Bool
 | .pl,_=>some true
 | .self _,.self ..=>some true
 | .self _,_=>none
 | .gr _ _,.grow ..=>some true
 | .gr _ _,.nils=>some true
 | .gr _ _,.val (.k v)=>bif isSl v then none else some false
 | .gr _ _,_=>none
def cellsFitS : List CK → List SV → Option Bool
 | [],[]=>some true
 | k :: ks,s :: ss =>
  match cellsFitS ks ss with
  | some true=>cellFit k s
  | some false=>some false
  | none=>none
 | _,_=>some false
def fitsS (S : SS) : List AK → List Ob → Option Bool
 | [],[]=>some true
 | .v :: ks,_ :: xs=>fitsS S ks xs
 | .b off cks :: ks,x :: xs =>
  match ptrS S x,fitsS S ks xs with
  | some q,some r=>bif Nat.beq q.1 off && r then cellsFitS cks q.2 else some false
  | _,_=>none
 | _,_=>some false
def plainF : V → Bool
 | .func _ []=>true
 | _=>false
def flS (S : SS) : List GK → List Ob → Option (Option (List Ob))
 | [],xs=>some (some xs)
 | .one :: gs,x :: xs=>(flS S gs xs).map fun o=>o.map (x :: ·)
 | .clo f n :: gs,.op x :: xs =>
  match S.opnd x with
  | some (.clo f' caps)=>bif Nat.beq f' f && Nat.beq caps.length n then (flS S gs xs).map fun o=>o.map ((caps.map fun q=>Ob.bx q.2) ++ ·) else some none
  | some (.val (.k v))=>bif plainF v && Nat.blt 0 n then some none else none
  | _=>none
 | .clo _ _ :: _,.bx _ :: _=>some none
 | .one :: _,[]=>some none
 | .clo _ _ :: _,[]=>some none
def fitG (S : SS) (sg : Sig) (xs : List Ob) : Option Bool :=
 match flS S sg.gr xs with
 | some (some ys)=>fitsS S sg.as ys
 | some none=>some false
 | none=>none
def findS (tt : TT) (S : SS) (f : FuncId) (xs : List Ob) : List FuncId → Option (FuncId × Sig)
 | []=>none
 | e :: r =>
  match sigOf tt e with
  | some q=>bif Nat.beq q.1 f then (match fitG S q.2 xs with | some true=>some (e,q.2) | some false=>findS tt S f xs r | none=>none) else findS tt S f xs r
  | none=>findS tt S f xs r
def callE (tt : TT) (f : FuncId) (xs : List Ob) (S : SS) (k : SV → SS → OL) : OL :=
 match findS tt S f xs (tt.sg.map (·.1)) with
 | some (e,sg) =>
  match (match flS S sg.gr xs with | some (some ys)=>argsIn S sg.as ys | _=>none) with
  | some (ais,ids) =>
   bif onesN ids && onesN (aiBoxes ais) then
    wordsX ais S fun ws S=>emit none (.call e ws) S fun y S =>
     emit none (bif Nat.beq sg.nres 1 then .ext y 0 else .pre sg.nres y) ((S.demotes ids).forget (aiBoxes ais)) fun r S =>
      outsX y sg.nres ais S fun S=>k (.val r) S
   else none
  | none=>none
 | none=>none
def nlOf (tt : TT) (fs : List (Nat × TypeId)) (parts : List (Nat × Operand)) (z : List V) : List Nat :=
 (List.range z.length).filter fun j=>(match z[j]? with | some (.sl .full [])=>true | _=>false) &&
  parts.all fun q=>match fs[q.1]? with
   | some (off,t)=>(match tiOf tt t with | some ti=>Nat.blt j off || Nat.ble (off + ti.sz) j | none=>false)
   | none=>false
def stvOf (y : A) : List Nat → SV
 | []=>.val y
 | nl=>.stv y nl
def capsX (S : SS) : List Operand → Option (List (Nat × Nat))
 | []=>some []
 | .tmp t :: r =>
  match S.look t,capsX S r with
  | some (.ptr b 0 none),some l=>some ((t,b) :: l)
  | _,_=>none
 | _=>none
def zeroA : A → Bool
 | .k (.int _ (.ofNat 0))=>true
 | _=>false
def newS (t b : Nat) : List V → List SV
 | [.nilp,.sl .full []]=>[.self t b (.k (.bool false)),.nils]
 | z=>z.map constSV
def opX (tt : TT) (g : Gd) (op : Op) (S : SS) (k : SV → SS → OL) : OL :=
 match op with
 | .move x | .assign x =>
  match S.opnd x with
  | some s =>
   match g with
   | none=>k s S
   | some _=>(match s.ag g with | some a=>k (.gval a g) S | none=>(match s with | .ptr b off none=>k (.ptr b off g) S | _=>none))
  | none=>none
 | .pick c a b =>
  match S.opAg g c with
  | some c' =>
   match S.opPk g (some (c',true)) a,S.opPk g (some (c',false)) b with
   | some a',some b'=>emitT g [c',a',b'] (.pick c' a' b') S k
   | _,_=>none
  | none=>none
 | .load t x =>
  match S.opnd x,tiOf tt t with
  | some (.ptr b off h),some ti =>
   bif guardFits h g then
    match S.boxes[b]? with
    | some (some cells)=>loadX ti g cells off S k
    | _=>none
   else none
  | some (.elem a n off h),some ti =>
   bif guardFits h g then
    bif Nat.beq n 0 then
     bif Nat.beq off 0 && !ti.agg then
      match g with
      | none=>k (.val a) S
      | some _=>k (.gval a g) S
     else none
    else bif ti.agg then
     bif Nat.beq off 0 && Nat.beq ti.sz n then
      match g with
      | none=>k (.val a) S
      | some _=>k (.gval a g) S
     else emitT g [a] (.part true ti.sz off a) S k
    else
     match g,a with
     | none,.v i=>bif S.knows (.v i) n && Nat.blt off n then k (.val (.c i off)) S else emitT g [a] (.part false 1 off a) S k
     | _,_=>emitT g [a] (.part false 1 off a) S k
   else none
  | some (.pix b off n i h),some ti =>
   bif guardFits h g && !ti.agg then
    match S.boxes[b]? with
    | some (some cells) =>
     match aList ((cells.drop off).take n) with
     | some as=>emitV g (.nth as i) S k
     | none=>none
    | _=>none
   else none
  | _,_=>none
 | .nilCheck x =>
  match S.opnd x with
  | some (.ptr b off h)=>bif g.same h || h.same none && g.same none then k (.ptr b off h) S else none
  | some (.elem a n off h)=>bif g.same h || h.same none && g.same none then k (.elem a n off h) S else none
  | some s=>(match s.ag g with | some a=>emitV g (.nilF a) S k | none=>none)
  | none=>none
 | .binOp op t x y _ =>
  match tiOf tt t,S.opAg g x,S.opAg g y with
  | some ti,some a,some b =>
   match ti.d with
   | .int _ | .str=>emitB g op a b S k
   | .bool=>bif ti.eq then (match op with | .eql=>emitT g [a,b] (.eqB false a b) S k | .neq=>emitT g [a,b] (.eqB true a b) S k | _=>none) else none
   | .st _=>bif ti.eq && ti.agg then (match leaves tt 20 t with | some qs=>(match op with | .eql=>emitT g [a,b] (.eqA qs false a b) S k | .neq=>emitT g [a,b] (.eqA qs true a b) S k | _=>none) | none=>none) else none
   | _=>none
  | _,_,_=>none
 | .unOp op _ x =>
  match S.opAg g x with
  | some a=>emitT g [a] (.un op a) S k
  | none=>none
 | .convert s d x =>
  match tiOf tt s,tiOf tt d,S.opAg g x with
  | some si,some di,some a =>
   match si.d,di.d with
   | .int _,.int q=>emitT g [a] (.convI q a) S k
   | .str,.str=>emitT g [a] (.convSS a) S k
   | .sl e,.str=>(match tiOf tt e with | some ei=>(match ei.d with | .int .u8=>emitV g (.convBS a) S k | _=>none) | none=>none)
   | _,_=>none
  | _,_,_=>none
 | .slice t x lo hi none =>
  match tiOf tt t,S.opAg g x,S.opAg? g lo,S.opAg? g hi with
  | some ti,some a,some l,some h =>
   match ti.d with
   | .str=>emitV g (.slS a l h) S k
   | .sl e=>(match tiOf tt e with | some ei=>bif Nat.blt 0 ei.sz then emitV g (.slL ei.sz a l h) S k else none | none=>none)
   | _=>none
  | _,_,_,_=>none
 | .field t x f =>
  match tiOf tt t,S.opAg g x with
  | some ti,some a =>
   match ti.d with
   | .st fs =>
    match fs[f]? with
    | some (off,ft) =>
     match tiOf tt ft with
     | some fi =>
      bif fi.agg then emitT g [a] (.part true fi.sz off a) S k
      else bif Nat.beq fi.sz 1 then
       match g,a with
       | none,.v i=>bif S.knows (.v i) ti.sz && Nat.blt off ti.sz && Nat.blt 0 ti.sz then k (.val (.c i off)) S else emitT g [a] (.part false 1 off a) S k
       | _,_=>emitT g [a] (.part false 1 off a) S k
      else none
     | none=>none
    | none=>none
   | _=>none
  | _,_=>none
 | .fieldAddr t x f =>
  match tiOf tt t,S.opnd x with
  | some ti,some s =>
   match ti.d with
   | .st fs =>
    match fs[f]? with
    | some (off,ft) =>
     match tiOf tt ft with
     | some fi =>
      bif Nat.blt 0 fi.sz then
       match s with
       | .ptr b o h=>bif guardFits h g then k (.ptr b (o + off) g) S else none
       | .elem a n o h=>bif guardFits h g && Nat.blt 0 n then k (.elem a n (o + off) g) S else none
       | _=>none
      else none
     | none=>none
    | none=>none
   | _=>none
  | _,_=>none
 | .indexAddr t x i =>
  match S.opnd x with
  | some (.ptr b o h) =>
   match tiOf tt t,S.opAg g i with
   | some ti,some j =>
    match ti.d with
    | .arr n e =>
     match tiOf tt e with
     | some ei=>bif guardFits h g && Nat.blt 1 n && Nat.beq ei.sz 1 then emit g (.inb n j) S fun y S'=>k (.pix b o n y g) S' else none
     | none=>none
    | _=>none
   | _,_=>none
  | _ =>
  match tiOf tt t,S.opAg g x,S.opAg g i with
  | some ti,some a,some j =>
   match ti.d with
   | .sl e =>
    match tiOf tt e with
    | some ei=>bif Nat.blt 0 ei.sz && (ei.agg || Nat.beq ei.sz 1) then emit g (.idxL ei.agg ei.sz a j) S fun y S'=>k (.elem y (bif ei.agg then ei.sz else 0) 0 g) S' else none
    | none=>none
   | _=>none
  | _,_,_=>none
 | .index t x i =>
  match tiOf tt t,S.opAg g x,S.opAg g i with
  | some ti,some a,some j =>
   match ti.d with
   | .str=>emitV g (.idxS a j) S k
   | .arr n e=>(match tiOf tt e with | some ei=>emitV g (.idxA n ei.agg ei.sz a j) S k | none=>none)
   | _=>none
  | _,_,_=>none
 | .extract x i =>
  match S.opAg g x with
  | some a=>emitT g [a] (.ext a i) S k
  | none=>none
 | .build t parts =>
  match tiOf tt t with
  | some ti =>
   match ti.d,ti.z with
   | .st fs,some z=>bif fs.all (fun q=>(tiOf tt q.2).isSome) then partsX tt g (fun i=>fs[i]?) parts.toList (z.map fun v=>.k v.erA) S (fun cs S'=>match g with | none=>emit none (.agg cs) S' fun y S''=>k (stvOf y (nlOf tt fs parts.toList z)) S'' | some _=>emitT g cs (.agg cs) S' k) else none
   | .arr _ e,some z =>
    match tiOf tt e with
    | some ei=>partsX tt g (fun i=>some (i * ei.sz,e)) parts.toList (z.map fun v=>.k v.erA) S (fun cs S'=>emitT g cs (.agg cs) S' k)
    | none=>none
   | _,_=>none
  | none=>none
 | .buildSlice t len parts =>
  match tiOf tt t,S.opAsg g (parts.toList.map (·.2)) with
  | some ti,some as =>
   match ti.d with
   | .sl e =>
    match tiOf tt e with
    | some ei =>
     match ei.z with
     | some z =>
      bif inOrder 0 parts.toList && Nat.beq as.length len && Nat.blt 0 ei.sz && Nat.beq z.length ei.sz then
       emit g (.lit ei.sz as) S fun y S' =>
        match g with
        | none=>bif Nat.beq (cdT e ei.sz) 1 && Nat.blt 0 len then k (.val y) S' else k (.grow S'.nk (cdT e ei.sz) y) { S' with nk:=S'.nk + 1 }
        | some _=>k (.val y) S'
      else none
     | none=>none
    | none=>none
   | _=>none
  | _,_=>none
 | .makeFunc (.func f) first caps =>
  match g,capsX S caps.toList with
  | none,some ((t,b) :: l)=>bif first.isEmpty && isE tt f then k (.clo f ((t,b) :: l)) S else none
  | _,_ =>
  match S.opAsg g caps.toList with
  | some as=>bif first.isEmpty then emitV g (.fn f as) S k else none
  | none=>none
 | .alloc t =>
  match g,tiOf tt t with
  | none,some ti =>
   match ti.z with
   | some z=>k (.ptr S.boxes.length 0 none) { S with boxes:=S.boxes ++ [some (newS t S.boxes.length z)] }
   | none=>none
  | _,_=>none
 | .box t x =>
  match g,tiOf tt t,S.opnd x with
  | none,some ti,some s =>
   bif ti.agg then
    match s with
    | .val a=>cellsX none ti.sz a S fun l S'=>k (.ptr S'.boxes.length 0 none) { S' with boxes:=S'.boxes ++ [some (l.map .val)] }
    | .stv a nl=>cellsX none ti.sz a S fun l S'=>k (.ptr S'.boxes.length 0 none) { S' with boxes:=S'.boxes ++ [some (l.zipIdx.map fun p=>bif hasN nl p.2 then .nils else .val p.1)] }
    | _=>none
   else
    match s with
    | .val a=>cell1X none a S fun a' S'=>k (.ptr S'.boxes.length 0 none) { S' with boxes:=S'.boxes ++ [some [.val a']] }
    | .grow q sz a=>k (.ptr S.boxes.length 0 none) { S with boxes:=S.boxes ++ [some [.grow q sz a]] }
    | .nils=>k (.ptr S.boxes.length 0 none) { S with boxes:=S.boxes ++ [some [.nils]] }
    | _=>none
  | _,_,_=>none
 | .store t x y =>
  match g,tiOf tt t,S.opnd x,S.opnd y with
  | none,some ti,some (.ptr b off none),some s =>
   match S.boxes[b]? with
   | some (some cells) =>
    bif Nat.ble (off + ti.sz) cells.length then
     bif ti.agg then
      match s with
      | .val a=>cellsX none ti.sz a S fun l S'=>k undefS { S' with boxes:=S'.boxes.set b (some (putCells cells off (l.map .val))) }
      | .stv a nl=>cellsX none ti.sz a S fun l S'=>k undefS { S' with boxes:=S'.boxes.set b (some (putCells cells off (l.zipIdx.map fun p=>bif hasN nl p.2 then .nils else .val p.1))) }
      | _=>none
     else bif Nat.beq ti.sz 1 then
      match s with
      | .val a=>cell1X none a S fun a' S'=>k undefS { S' with boxes:=S'.boxes.set b (some (putCells cells off [.val a'])) }
      | .grow q sz a=>k undefS { S with boxes:=S.boxes.set b (some (putCells cells off [.grow q sz a])) }
      | .nils=>k undefS { S with boxes:=S.boxes.set b (some (putCells cells off [.nils])) }
      | _=>none
     else none
    else none
   | _=>none
  | _,_,_,_=>none
 | .makeSlice t l c =>
  match g,tiOf tt t,S.opA l,S.opA c with
  | none,some ti,some a,some b =>
   match ti.d with
   | .sl e =>
    match tiOf tt e with
    | some ei =>
     match ei.z with
     | some z=>bif Nat.blt 0 ei.sz && Nat.beq z.length ei.sz && (ei.agg || Nat.beq ei.sz 1) then
       emit none (.make ei.sz (bif ei.agg then .agg (z.map V.erA) else (z.map V.erA).headD .undef) ei.by_ a b) S fun y S'=>bif Nat.beq (cdT e ei.sz) 1 && !zeroA a then k (.val y) S' else k (.grow S'.nk (cdT e ei.sz) y) { S' with nk:=S'.nk + 1 } else none
     | none=>none
    | none=>none
   | _=>none
  | _,_,_,_=>none
 | .call c =>
  match c.callee,c.argTypes.toList with
  | .builtin .len,[t] =>
   match tiOf tt t,S.opAsg g c.args.toList with
   | some ti,some [a]=>(match ti.d with | .str=>emitT g [a] (.lenS a) S k | .sl _=>emitT g [a] (.lenL a) S k | _=>none)
   | _,_=>none
  | .builtin .min,_=>(match S.opAsg g c.args.toList with | some [a,b]=>emitT g [a,b] (.mm false a b) S k | _=>none)
  | .builtin .max,_=>(match S.opAsg g c.args.toList with | some [a,b]=>emitT g [a,b] (.mm true a b) S k | _=>none)
  | .builtin .append,[t,u] =>
   match g,tiOf tt t,tiOf tt u,c.args.toList with
   | none,some ti,some ui,[x,y] =>
    match ti.d,S.opnd x,S.opA y with
    | .sl e,some sx,some b =>
     match tiOf tt e with
     | some ei =>
      match ei.z with
      | some z =>
      bif Nat.blt 0 ei.sz && Nat.beq z.length ei.sz then
       let cd:=cdT e ei.sz
       let go:=fun (e : E) (S : SS)=>emit none e S fun y S'=>k (.grow S'.nk cd y) { S' with nk:=S'.nk + 1 }
       let with_:=fun (a : A) (S : SS) =>
        match ui.d with
        | .sl _=>go (.app ei.sz ei.by_ a b) S
        | .str=>bif Nat.beq ei.sz 1 then go (.appS ei.by_ a b) S else none
        | _=>none
       match sx with
       | .grow q sz a=>bif Nat.beq sz cd then with_ a (S.demote q) else none
       | .nils=>with_ nilA S
       | _=>none
      else none
      | none=>none
     | none=>none
    | _,_,_=>none
   | _,_,_,_=>none
  | .value (.func f),_ =>
   bif isE tt f then (match g with | none=>callE tt f (c.args.toList.map .op) S k | some _=>none)
   else (match S.opAsg g c.args.toList with | some as=>bif Nat.blt f EOFF then emitV g (.call f as) S k else none | none=>none)
  | .value (.tmp t),_ =>
   bif hasN tt.dyn t then
    match g,S.look t with
    | none,some (.clo f caps)=>bif isE tt f then callE tt f (c.args.toList.map .op ++ caps.map fun q=>.bx q.2) S k else none
    | _,_=>none
   else (match S.opAg g (.tmp t),S.opAsg g c.args.toList with | some a,some as=>emitV g (.callv a as) S k | _,_=>none)
  | .value x,_=>(match S.opAg g x,S.opAsg g c.args.toList with | some a,some as=>emitV g (.callv a as) S k | _,_=>none)
  | _,_=>none
 | _=>none
def SS.put (N : Nat) (S : SS) (d : Option Tmp) (s : SV) : Option SS :=
 match d with
 | none=>some S
 | some d=>bif Nat.blt d N then some { S with slots:=(d,s) :: S.slots.filter (fun p=>!Nat.beq p.1 d) } else none
def matOps (S : SS) (g : Gd) : Op → List Operand
 | .pick c a b =>
  match S.opAg g c with
  | some c'=>c :: ((bif (S.opPk g (some (c',true)) a).isSome then [] else [a]) ++ (bif (S.opPk g (some (c',false)) b).isSome then [] else [b]))
  | none=>[c,a,b]
 | o=>o.operands.toList
def matX (g : Gd) : List Operand → SS → (SS → OL) → OL
 | [],S,k=>k S
 | .tmp t :: r,S,k =>
  match S.look t with
  | some (.gval a g')=>bif g'.same g then matX g r S k else emit g' (.id a) S fun y S'=>matX g r { S' with slots:=(t,.val y) :: S'.slots.filter (fun p=>!Nat.beq p.1 t) } k
  | _=>matX g r S k
 | _ :: r,S,k=>matX g r S k
def guardX (ops : List Oper) (S : SS) (o : Oper) (k : Gd → SS → OL) : OL :=
 match o.guard with
 | none=>k none S
 | some (j,want) =>
  match (ops[j]?).bind (·.dst) with
  | some d=>matX none [.tmp d] S fun S =>
   match S.look d with
   | some s =>
    match s.a? with
    | some a=>bif S.isB a then k (some (a,want)) S else emit none (.chkB a) S fun _ S'=>k (some (a,want)) { S' with bools:=S'.addB a }
    | none=>none
   | none=>none
  | none=>none
def SV.unG (g : Gd) : SV → SV
 | .gval a g'=>bif g'.same g then .val a else .gval a g'
 | .ptr b off g'=>bif g'.same g then .ptr b off none else .ptr b off g'
 | s=>s
def SS.unG (S : SS) (g : Gd) : SS:={ S with slots:=S.slots.map fun p=>(p.1,p.2.unG g) }
def isSplit (tt : TT) : Op → Bool
 | .call c=>(match c.callee with | .value (.func f)=>isE tt f | .value (.tmp t)=>hasN tt.dyn t | _=>false)
 | .store ..=>true
 | _=>false
def knOf : List (A × Bool) → A → Option Bool
 | [],_=>none
 | (x,b) :: r,a=>bif x.same a then some b else knOf r a
def litB : A → Option Bool
 | .k (.bool b)=>some b
 | _=>none
def knB (kn : List (A × Bool)) (a : A) : Option Bool :=
 match litB a with
 | some b=>some b
 | none=>knOf kn a
def knU (kn : List (A × Bool)) (a : A) (want : Bool) : Option Bool :=
 match a with
 | .k .undef=>some (!want)
 | a=>knB kn a
def pickN (kn : List (A × Bool)) (S : SS) (op : Op) : Op :=
 match op with
 | .pick c a b =>
  match S.opA c with
  | some c' =>
   match knB kn c' with
   | some true=>bif (S.opnd b).isSome then .move a else .pick c a b
   | some false=>bif (S.opnd a).isSome then .move b else .pick c a b
   | none=>.pick c a b
  | none=>.pick c a b
 | op=>op
def opsN (tt : TT) (N : Nat) (ops : List Oper) : List (A × Bool) → List Oper → SS → (SS → OL) → OL
 | _,[],S,k=>k S
 | kn,o :: rest,S,k =>
  guardX ops S o fun g S =>
   match g with
   | some (a,want) =>
    match knU kn a want with
    | some b =>
     bif b == want then matX none (matOps S none (pickN kn S o.op)) S fun S1=>opX tt none (pickN kn S o.op) S1 fun s S'=>match S'.put N o.dst s with | some S''=>opsN tt N ops kn rest S'' k | none=>none
     else match S.put N o.dst undefS with | some S'=>opsN tt N ops kn rest S' k | none=>none
    | none =>
     bif isSplit tt o.op then
      match opX tt none o.op (S.unG (some (a,want))) (fun s S'=>match S'.put N o.dst s with | some S''=>opsN tt N ops ((a,want) :: kn) rest S'' k | none=>none),(match S.put N o.dst undefS with | some S'=>opsN tt N ops ((a,!want) :: kn) rest S' k | none=>none) with
      | some x,some y=>some (.ite a (bif want then x else y) (bif want then y else x))
      | _,_=>none
     else matX (some (a,want)) (matOps S (some (a,want)) o.op) S fun S=>opX tt (some (a,want)) o.op S fun s S'=>match S'.put N o.dst s with | some S''=>opsN tt N ops kn rest S'' k | none=>none
   | none=>matX none (matOps S none (pickN kn S o.op)) S fun S1=>opX tt none (pickN kn S o.op) S1 fun s S'=>match S'.put N o.dst s with | some S''=>opsN tt N ops kn rest S'' k | none=>none
def opsX (tt : TT) (N : Nat) (ops rest : List Oper) (S : SS) (k : SS → OL) : OL:=opsN tt N ops [] rest S k
inductive Loc where
 | s (t : Nat)
 | c (b j : Nat)
 deriving Inhabited
inductive LK where
 | val (n : Option Nat)
 | grow (sz : Nat)
 | self (t b : Nat)
 deriving Inhabited
inductive OK where
 | loop (r : Nat) | block (id : Nat) | cond (t r : Nat)
 deriving Inhabited
abbrev Vars:=List (Loc × LK)
def OK.same : OK → OK → Bool
 | .loop a,.loop b=>Nat.beq a b
 | .block a,.block b=>Nat.beq a b
 | .cond a q,.cond b r=>Nat.beq a b && Nat.beq q r
 | _,_=>false
def orcOf : List (OK × Vars) → OK → Option Vars
 | [],_=>none
 | (j,v) :: r,i=>bif j.same i then some v else orcOf r i
def firstR : Code → Option Nat
 | .region id _ _=>some id
 | .seq a b=>(match firstR a with | some r=>some r | none=>firstR b)
 | .cond _ a b=>(match firstR a with | some r=>some r | none=>firstR b)
 | .block _ b=>firstR b
 | .loop b=>firstR b
 | .scope b=>firstR b
 | _=>none
def condR (a b : Code) : Nat:=match firstR a with | some r=>r | none=>(match firstR b with | some r=>r | none=>0)
def dsts : Code → List Nat
 | .region _ ops _=>ops.toList.filterMap (·.dst)
 | .seq a b=>dsts a ++ dsts b
 | .cond _ a b=>dsts a ++ dsts b
 | .block _ b=>dsts b
 | .loop b=>dsts b
 | .scope b=>dsts b
 | _=>[]
def freshSV (S : SS) (i : Nat) : LK → SV
 | .val _=>.val (.v (S.nv + i))
 | .grow sz=>.grow (S.nk + i) sz (.v (S.nv + i))
 | .self t b=>.self t b (.v (S.nv + i))
def freshSlots (S : SS) : Nat → Vars → List (Nat × SV)
 | _,[]=>[]
 | i,(.s t,q) :: r=>(t,freshSV S i q) :: freshSlots S (i + 1) r
 | i,(.c _ _,_) :: r=>freshSlots S (i + 1) r
def freshBoxes (S : SS) : Nat → Vars → List (Option (List SV)) → List (Option (List SV))
 | _,[],bs=>bs
 | i,(.s _,_) :: r,bs=>freshBoxes S (i + 1) r bs
 | i,(.c b j,q) :: r,bs =>
  freshBoxes S (i + 1) r (match bs[b]? with
   | some (some cells)=>bs.set b (some (cells.set j (freshSV S i q)))
   | _=>bs)
def freshKnown (S : SS) : Nat → Vars → List (Nat × Nat)
 | _,[]=>[]
 | i,(_,.val (some n)) :: r=>(S.nv + i,n) :: freshKnown S (i + 1) r
 | i,_ :: r=>freshKnown S (i + 1) r
def varSlots : Vars → List Nat
 | []=>[]
 | (.s t,_) :: r=>t :: varSlots r
 | _ :: r=>varSlots r
def varCells : Vars → List (Nat × Nat)
 | []=>[]
 | (.c b j,_) :: r=>(b,j) :: varCells r
 | _ :: r=>varCells r
def plainSV : SV → SV
 | .grow _ _ a=>.val a
 | .stv a _=>.val a
 | s=>s
def SV.inb (n : Nat) : SV → Bool
 | .ptr b _ _=>Nat.blt b n
 | .pix b _ _ _ _=>Nat.blt b n
 | .gval _ _=>false
 | .clo _ caps=>caps.all fun q=>Nat.blt q.2 n
 | .self _ b _=>Nat.blt b n
 | _=>true
def SS.keeps (S : SS) (s : SV) : Bool:=s.below S.nv && s.inb S.boxes.length
def headOf (S : SS) (ds : List Nat) (vars : Vars) : SS :=
 let vs:=varSlots vars
 {slots:=freshSlots S 0 vars ++ ((S.slots.filter fun p=>!hasN ds p.1 && !hasN vs p.1 && S.keeps p.2).map fun p=>(p.1,plainSV p.2))
  boxes:=freshBoxes S 0 vars (S.boxes.map fun b=>match b with
   | some cells=>if cells.all S.keeps then some (cells.map plainSV) else none
   | none=>none)
  known:=freshKnown S 0 vars ++ (S.known.filter fun p=>Nat.blt p.1 S.nv)
  bools:=S.bools.filter fun i=>Nat.blt i S.nv
  gvars:=S.gvars
  nv:=S.nv + vars.length
  nk:=S.nk + vars.length
  dep:=S.dep
  own:=S.own }
def SS.at_ (S : SS) : Loc → Option SV
 | .s t=>S.look t
 | .c b j =>
  match S.boxes[b]? with
  | some (some cells)=>cells[j]?
  | _=>none
def SS.knowsO (S : SS) : Option Nat → A → Bool
 | none,_=>true
 | some n,a=>S.knows a n
def isLocC (b : Nat) : Loc → Bool
 | .c b' _=>Nat.beq b' b
 | .s _=>false
def argsX (S : SS) : Vars → Option (List A × List Nat)
 | []=>some ([],[])
 | (l,q) :: r =>
  match S.at_ l,argsX S r with
  | some s,some (as,ids) =>
   match q,s with
   | .val n,s =>
    match s.a? with
    | some a=>bif S.knowsO n a then some (a :: as,ids) else none
    | none=>none
   | .grow sz,.grow k sz' a=>bif Nat.beq sz sz' && !hasN ids k then some (a :: as,k :: ids) else none
   | .grow _,.nils=>some (nilA :: as,ids)
   | .self t b,s=>bif isLocC b l then (match selfA t b s with | some a=>some (a :: as,ids) | none=>none) else none
   | _,_=>none
  | _,_=>none
def cellsFit (vc : List (Nat × Nat)) (b : Nat) : Nat → List SV → List SV → Bool
 | _,[],[]=>true
 | j,s :: r,t :: q=>(vc.any (fun p=>Nat.beq p.1 b && Nat.beq p.2 j) || SV.fits (some s) t) && cellsFit vc b (j + 1) r q
 | _,_,_=>false
def boxesFit (vc : List (Nat × Nat)) : Nat → List (Option (List SV)) → List (Option (List SV)) → Bool
 | _,_,[]=>true
 | b,_ :: r,none :: q=>boxesFit vc (b + 1) r q
 | b,some c :: r,some d :: q=>cellsFit vc b 0 c d && boxesFit vc (b + 1) r q
 | _,_,_=>false
def matchX (S H : SS) (vars : Vars) : Option (List A) :=
 match argsX S vars with
 | some (as,_) =>
  bif H.slots.all (fun p=>hasN (varSlots vars) p.1 || SV.fits (S.look p.1) p.2) && boxesFit (varCells vars) 0 S.boxes H.boxes && (Nat.beq S.own H.own && Nat.ble H.own H.boxes.length) then some as else none
 | none=>none
def noGr : List GK → Bool
 | []=>true
 | _=>false
def flatT (tt : TT) (f : FuncId) : Bool:=tt.sg.all fun q=>!(Nat.beq q.2.1 f) || noGr q.2.2.gr
def CK0 (tt : TT) : Callees:=⟨isE tt,fun _ _=>none,noE,hasN tt.dyn,flatT tt⟩
def drawN (tt : TT) (ops : List Oper) : Nat → Nat
 | 0=>0
 | n + 1=>bif drawOk ops (n + 1) && (ops.take (n + 1)).all (fun o=>isQ (CK0 tt) o.op || (isA o.op && o.guard.isNone)) then n + 1 else drawN tt ops n
def slX (tt : TT) (t : TypeId) : Bool:=match tiOf tt t with | some ti=>(match ti.d with | .sl _=>true | _=>false) | none=>false
def SV.boxOf : SV → Option (Option Nat)
 | .ptr b _ _=>some (some b)
 | .pix b _ _ _ _=>some (some b)
 | .elem ..=>some none
 | _=>none
def SS.apart (S : SS) : Rt → Rt → Bool
 | .tm t,.tm t' =>
  match (S.look t).bind SV.boxOf,(S.look t').bind SV.boxOf with
  | some (some b),some (some b')=>!Nat.beq b b'
  | some none,some _=>true
  | _,_=>false
 | .tm t,.nw _=>((S.look t).bind SV.boxOf).isSome
 | .nw _,.tm t=>((S.look t).bind SV.boxOf).isSome
 | .nw i,.nw j=>!Nat.beq i j
 | _,_=>true
abbrev KX:=SS → OL
def isMv (o : Oper) : Option (Nat × Operand) :=
 match o.guard,o.dst,o.op with
 | none,some d,.move x=>some (d,x)
 | none,some d,.assign x=>some (d,x)
 | _,_,_=>none
def isMk (o : Oper) : Option (Nat × TypeId × Operand × Operand) :=
 match o.guard,o.dst,o.op with
 | none,some d,.makeSlice t l c=>some (d,t,l,c)
 | _,_,_=>none
def isLn (o : Oper) : Option (Nat × Operand × TypeId) :=
 match o.guard,o.dst,o.op with
 | none,some d,.call ⟨.builtin .len,args,ts⟩ =>
  (match args.toList,ts.toList with
  | [x],[t]=>some (d,x,t)
  | _,_=>none)
 | _,_,_=>none
def isBn (o : Oper) : Option (Nat × BinOp × Operand × Operand) :=
 match o.guard,o.dst,o.op with
 | none,some d,.binOp op _ x y _=>some (d,op,x,y)
 | _,_,_=>none
def isIx (o : Oper) : Option (Nat × TypeId × Operand × Operand) :=
 match o.guard,o.dst,o.op with
 | none,some d,.indexAddr t x i=>some (d,t,x,i)
 | _,_,_=>none
def isSo (o : Oper) : Option (TypeId × Operand × Operand) :=
 match o.guard,o.dst,o.op with
 | none,none,.store t x v=>some (t,x,v)
 | _,_,_=>none
def isT (x : Operand) (t : Nat) : Bool :=
 match x with
 | .tmp s=>Nat.beq s t
 | _=>false
def isZ (x : Operand) (n : Nat) : Bool :=
 match x with
 | .const (.int .i64 (.ofNat m))=>Nat.beq m n
 | _=>false
def isLss : BinOp → Bool
 | .lss=>true
 | _=>false
def isAdd : BinOp → Bool
 | .add=>true
 | _=>false
def byteC (x : Operand) : Option Nat :=
 match x with
 | .const (.int .u8 (.ofNat c))=>some c
 | _=>none
def fCv (o : Oper) : Option (Nat × TypeId × TypeId × Operand) :=
 match o.guard,o.dst,o.op with
 | none,some d,.convert src dst x=>some (d,src,dst,x)
 | _,_,_=>none
def fLd (o : Oper) : Option (Nat × TypeId × Operand) :=
 match o.guard,o.dst,o.op with
 | none,some d,.load t x=>some (d,t,x)
 | _,_,_=>none
def fZ (x : Operand) : Option Nat :=
 match x with
 | .const (.int .i64 (.ofNat m))=>some m
 | _=>none
def fOp : BinOp → Nat
 | .gtr=>1
 | .and=>2
 | .rem=>3
 | .xor=>4
 | _=>0
def fOut (D : List Nat) (x : Operand) : Bool :=
 match x with
 | .tmp s=>!D.any (Nat.beq s)
 | .const _=>true
 | _=>false
structure FJ where
 s : Operand
 i : Operand
 c : Operand
 m1 : Nat
 m2 : Nat
 ts : TypeId
 tb : TypeId
 tl : TypeId
 tw : TypeId
 tr : TypeId
 b : Nat
 D : List Nat
def flipO (N m : Nat) (o1 o2 o3 o4 o5 o6 o7 o8 o9 oA oB oC oD oE oF oG oH oI oJ oK oL oM : Oper) : Option FJ:=do
 let v1 ← isMv o1
 let v2 ← fCv o2
 let v3 ← isMv o3
 let v4 ← isMv o4
 let v5 ← isLn o5
 let v6 ← isBn o6
 let v7 ← isMv o7
 let v8 ← isMv o8
 let v9 ← isBn o9
 let vA ← isMv oA
 let vB ← isLn oB
 let vC ← isBn oC
 let vD ← isIx oD
 let vE ← fLd oE
 let vF ← isMv oF
 let vG ← isBn oG
 let vH ← isBn oH
 let vI ← isIx oI
 let vJ ← isSo oJ
 let vK ← isMv oK
 let vL ← fCv oL
 let vM ← isMv oM
 let m0 ← fZ v6.2.2.2
 let m1 ← fZ v9.2.2.2
 let m2 ← byteC vG.2.2.2
 let D:=[v1.1,v2.1,v3.1,v4.1,v5.1,v6.1,v7.1,v8.1,v9.1,vA.1,vB.1,vC.1,vD.1,vE.1,vF.1,vG.1,vH.1,vI.1,vK.1,vL.1,vM.1]
 bif (isT v2.2.2.2 v1.1 && isT v3.2 v2.1 && isT v4.2 v3.1 && isT v5.2.1 v4.1 && Nat.beq v5.2.2 v2.2.2.1 && Nat.beq (fOp v6.2.1) 1 && isT v6.2.2.1 v5.1 && Nat.beq m0 0 && Nat.beq v6.1 m) &&
  (isT v7.2 v3.1 && Nat.beq (fOp v9.2.1) 2 && isT v9.2.2.1 v8.1 && isT vA.2 v3.1 && isT vB.2.1 vA.1 && Nat.beq vB.2.2 v2.2.2.1 && Nat.beq (fOp vC.2.1) 3 && isT vC.2.2.1 v9.1 && isT vC.2.2.2 vB.1) &&
  (isT vD.2.2.1 v7.1 && isT vD.2.2.2 vC.1 && Nat.beq vD.2.1 v2.2.2.1 && isT vE.2.2 vD.1 && Nat.beq (fOp vG.2.1) 2 && isT vG.2.2.1 vF.1 && Nat.beq (fOp vH.2.1) 4 && isT vH.2.2.1 vE.1 && isT vH.2.2.2 vG.1) &&
  (isT vI.2.2.1 v7.1 && isT vI.2.2.2 vC.1 && Nat.beq vI.2.1 v2.2.2.1 && isT vJ.2.1 vI.1 && isT vJ.2.2 vH.1 && isT vK.2 v3.1 && isT vL.2.2.2 vK.1 && Nat.beq vL.2.1 v2.2.2.1 && isT vM.2 vL.1) &&
  (fOut D v8.2 && fOut D vF.2 && D.all (fun d=>Nat.blt d N) && onesN D) then some ⟨v1.2,v8.2,vF.2,m1,m2,v2.2.1,v2.2.2.1,vE.2.1,vJ.1,vL.2.2.1,vM.1,D⟩ else none
def flipX (N : Nat) : Code → Code → Option FJ
 | .region _ r1 false,.seq (.seq (.region _ r2 false) (.cond (.tmp m) (.region _ r3 false) .skip)) (.region _ r4 false) =>
  match r1.toList,r2.toList,r3.toList,r4.toList with
  | [o1,o2,o3],[o4,o5,o6],[o7,o8,o9,oA,oB,oC,oD,oE,oF,oG,oH,oI,oJ],[oK,oL,oM]=>flipO N m o1 o2 o3 o4 o5 o6 o7 o8 o9 oA oB oC oD oE oF oG oH oI oJ oK oL oM
  | _,_,_,_=>none
 | _,_=>none
def tdStr : TD → Bool
 | .str=>true
 | _=>false
def tdU8 : TD → Bool
 | .int .u8=>true
 | _=>false
def flipT (tt : TT) (f : FJ) : Bool :=
 match tiOf tt f.ts,tiOf tt f.tb,tiOf tt f.tl,tiOf tt f.tw,tiOf tt f.tr with
 | some ts,some tb,some tl,some tw,some tr =>
  match tb.d with
  | .sl e =>
   match tiOf tt e with
   | some te=>tdStr ts.d && tdU8 te.d && Nat.beq te.sz 1 && tdU8 tl.d && Nat.beq tl.sz 1 && !tl.agg && Nat.beq tw.sz 1 && tdStr tr.d
   | none=>false
  | _=>false
 | _,_,_,_,_=>false
def flipS (tt : TT) (N : Nat) (S : SS) (a b : Code) : Option (FJ × A × A × A) :=
 match flipX N a b with
 | some f =>
  match S.opA f.s,S.opA f.i,S.opA f.c with
  | some s,some i,some c=>bif flipT tt f then some (f,s,i,c) else none
  | _,_,_=>none
 | none=>none
def flipE (f : FJ) (S : SS) (y : A) : SS:={ S with slots:=(f.b,.val y) :: S.slots.filter (fun p=>!hasN f.D p.1) }
def jmpK (H : SS) (dep : Nat) (vars : Vars) : KX:=fun S=>(matchX S H vars).map (L.jmp (S.dep - 1 - dep))
def exOf : List (Nat × KX) → Nat → Option KX
 | [],_=>none
 | (j,k) :: r,i=>bif Nat.beq j i then some k else exOf r i
def codeX (tt : TT) (N : Nat) (orc : List (OK × Vars)) : Code → SS → List (Nat × KX) → KX → KX → OL
 | .skip,S,_,k,_=>k S
 | .label _,S,_,k,_=>k S
 | .region _ ops d,S,_,k,_ =>
  bif d then (bif (let n:=drawN tt ops.toList ops.toList.length; drawOk ops.toList n && (ops.toList.take n).all (fun o=>isQ (CK0 tt) o.op || (isA o.op && o.guard.isNone))) then opsX tt N ops.toList ops.toList S k else bif drawOk3 (CK0 tt) (slX tt) S.apart ops.toList then opsX tt N ops.toList ops.toList S k else none)
  else opsX tt N ops.toList ops.toList S k
 | .seq a b,S,xs,k,r =>
  match flipS tt N S a b with
  | some (f,s,i,c)=>emit none (.flip f.m1 f.m2 s i c) S fun y S'=>k (flipE f S' y)
  | none=>codeX tt N orc a S xs (fun S'=>codeX tt N orc b S' xs k r) r
 | .cond c a b,S,xs,k,r =>
  match S.opA c with
  | some q =>
   match litB q with
   | some true=>codeX tt N orc a S xs k r
   | some false=>codeX tt N orc b S xs k r
   | none =>
   match (match c with | .tmp t=>orcOf orc (.cond t (condR a b)) | _=>none) with
   | none =>
    let S1:={ S with bools:=S.addB q }
    match codeX tt N orc a S1 xs k r,codeX tt N orc b S1 xs k r with
    | some x,some y=>some (.ite q x y)
    | _,_=>none
   | some vars =>
    let H:=headOf S (dsts a ++ dsts b) vars
    let S1:={ S with dep:=S.dep + 1,bools:=S.addB q }
    match k H,codeX tt N orc a S1 xs (jmpK H S.dep vars) r,codeX tt N orc b S1 xs (jmpK H S.dep vars) r with
    | some z,some x,some y=>some (.join vars.length (.ite q x y) z)
    | _,_,_=>none
  | none=>none
 | .block id c,S,xs,k,r =>
  match orcOf orc (.block id) with
  | none=>codeX tt N orc c S ((id,k) :: xs) k r
  | some vars =>
   let H:=headOf S (dsts c) vars
   match k H,codeX tt N orc c { S with dep:=S.dep + 1 } ((id,jmpK H S.dep vars) :: xs) (jmpK H S.dep vars) r with
   | some z,some x=>some (.join vars.length x z)
   | _,_=>none
 | .loop c,S,xs,_,r =>
  match (firstR c).bind (fun q=>orcOf orc (.loop q)) with
  | some vars =>
   let H:=headOf S (dsts c) vars
   match matchX S H vars,codeX tt N orc c { H with dep:=S.dep + 1 } xs (jmpK H S.dep vars) r with
   | some init,some x=>some (.loop init x)
   | _,_=>none
  | none=>none
 | .exit id,S,xs,_,_ =>
  match exOf xs id with
  | some k=>k S
  | none=>none
 | .ret,S,_,_,r=>r S
 | _,_,_,_,_=>none
def retX (tt : TT) : List ResultVar → List A → SS → OL
 | [],[a],_=>some (.ret a)
 | [],as,_=>some (.rets as)
 | .tmp t :: r,as,S =>
  match (S.look t).bind SV.a? with
  | some a=>retX tt r (as ++ [a]) S
  | none=>none
 | .cell t ty :: r,as,S =>
  match S.look t,tiOf tt ty with
  | some (.ptr b off none),some ti =>
   match S.boxes[b]? with
   | some (some cells)=>loadX ti none cells off S fun s S'=>match s.a? with | some a=>retX tt r (as ++ [a]) S' | none=>none
   | _=>none
  | _,_=>none
def argSlots : Nat → Nat → List (Nat × SV)
 | _,0=>[]
 | i,n + 1=>(i,.val (.v i)) :: argSlots (i + 1) n
structure FI where
 ks : Operand
 ty : TypeId
 ety : TypeId
 c : Nat
 b : Nat
 D : List Nat
def fillO (N out out' m : Nat) (o1 o2 o3 o4 o5 o6 o7 o8 o9 oA oB oC oD oE oF : Oper) : Option FI:=do
 let v1 ← isMv o1
 let v2 ← isMk o2
 let v3 ← isMv o3
 let v4 ← isMv o4
 let v5 ← isLn o5
 let v6 ← isMv o6
 let v7 ← isBn o7
 let v8 ← isMv o8
 let v9 ← isMv o9
 let vA ← isMv oA
 let vB ← isMv oB
 let vC ← isIx oC
 let vD ← isSo oD
 let vE ← isBn oE
 let vF ← isMv oF
 let c ← byteC vD.2.2
 let D:=[v1.1,v2.1,v3.1,v4.1,v5.1,v6.1,v7.1,v8.1,v9.1,vA.1,vB.1,vC.1,vE.1]
 bif isT v2.2.2.1 v1.1 && isT v2.2.2.2 v1.1 && isT v3.2 v2.1 && isT v4.2 v3.1 && isT v5.2.1 v4.1 && Nat.beq v5.2.2 v2.2.1 && isZ v6.2 0 &&
  Nat.beq v7.1 m && isLss v7.2.1 && isT v7.2.2.1 v6.1 && isT v7.2.2.2 v5.1 && isT v8.2 v6.1 && isT v9.2 v8.1 && isT vA.2 v3.1 && isT vB.2 v9.1 &&
  isT vC.2.2.1 vA.1 && isT vC.2.2.2 vB.1 && Nat.beq vC.2.1 v2.2.1 && isT vD.2.1 vC.1 && isAdd vE.2.1 && isT vE.2.2.1 v6.1 && isZ vE.2.2.2 1 && isT vF.2 vE.1 && Nat.beq vF.1 v6.1 &&
  Nat.beq out out' && D.all (fun d=>Nat.blt d N) && onesN D then some ⟨v1.2,v2.2.1,vD.1,c,v3.1,D⟩ else none
def fillX (N : Nat) : Code → Code → Option (FI × Code)
 | .region _ mk false,.seq (.seq (.region _ pre false) (.block out (.loop (.seq (.region _ tst false) (.seq (.cond (.tmp m) .skip (.exit out')) (.seq (.block _ (.seq (.region _ asg false) (.region _ st false))) (.region _ stp false))))))) rest =>
  match mk.toList,pre.toList,tst.toList,asg.toList,st.toList,stp.toList with
  | [o1,o2,o3],[o4,o5,o6],[o7],[o8,o9],[oA,oB,oC,oD],[oE,oF]=>(fillO N out out' m o1 o2 o3 o4 o5 o6 o7 o8 o9 oA oB oC oD oE oF).map fun f=>(f,rest)
  | _,_,_,_,_,_=>none
 | _,_=>none
def fillS (tt : TT) (N : Nat) (S : SS) (a b : Code) : Option (FI × A × Nat) :=
 match fillX N a b with
 | some (f,_) =>
  match S.opA f.ks,tiOf tt f.ty,tiOf tt f.ety with
  | some x,some ti,some si =>
   match ti.d with
   | .sl e =>
    match tiOf tt e with
    | some ei =>
     match ei.z with
     | some [_]=>bif Nat.beq ei.sz 1 && !ei.agg && Nat.beq si.sz 1 then some (f,x,ei.by_) else none
     | _=>none
    | none=>none
   | _=>none
  | _,_,_=>none
 | none=>none
def codeT (tt : TT) (N : Nat) (orc : List (OK × Vars)) : Bool → Code → SS → KX → KX → OL
 | sk,.seq a b,S,k,r =>
  bif sk then codeT tt N orc false b S k r else
  match fillS tt N S a b with
  | some (f,x,q)=>emit none (.make 1 (.int .u8 f.c) q x x) S fun y S'=>codeT tt N orc true b { S' with slots:=(f.b,.val y) :: S'.slots.filter (fun p=>!hasN f.D p.1) } k r
  | none=>codeX tt N orc a S [] (fun S'=>codeT tt N orc false b S' k r) r
 | sk,c,S,k,r=>bif sk then none else codeX tt N orc c S [] k r
def funX (tt : TT) (N : Nat) (orc : List (OK × Vars)) (rs : List ResultVar) (nargs : Nat) (c : Code) : OL :=
 let S : SS:=⟨argSlots 0 nargs,[],[],[],[],nargs,0,0,0⟩
 codeT tt N orc false c S (retX tt rs []) (retX tt rs [])
def entrySlots : Nat → Nat → List AK → List (Nat × SV)
 | _,_,[]=>[]
 | i,b,.v :: r=>(i,.val (.v i)) :: entrySlots (i + 1) b r
 | i,b,.b off _ :: r=>(i,.ptr b off none) :: entrySlots (i + 1) (b + 1) r
def entryBoxes : Nat → Nat → Nat → List AK → List (Option (List SV))
 | _,_,_,[]=>[]
 | b,i,q,.v :: r=>entryBoxes b (i + 1) q r
 | b,i,q,.b _ ks :: r=>some (freshCells b i 0 q ks) :: entryBoxes (b + 1) (i + 1) (q + grN ks) r
def entryKnown : Nat → List AK → List (Nat × Nat)
 | _,[]=>[]
 | i,.v :: r=>entryKnown (i + 1) r
 | i,.b _ ks :: r=>(i,ks.length) :: entryKnown (i + 1) r
def grsN : List (List CK) → Nat
 | []=>0
 | ks :: r=>grN ks + grsN r
def boxedOk : List AK → Bool
 | []=>true
 | .v :: r=>boxedOk r
 | .b _ ks :: r=>Nat.blt 0 ks.length && selfOk ks && boxedOk r
def endX : Nat → List (List CK) → List Nat → List A → SS → OL
 | _,[],_,as,_=>some (.rets as)
 | b,ks :: r,ids,as,S =>
  match S.boxes[b]? with
  | some (some cells) =>
   match cellsIn b ks cells with
   | some (ws,is)=>bif onesN is && is.all (fun i=>!hasNat ids i) then emit none (.agg ws) S fun y S'=>endX (b + 1) r (is ++ ids) (as ++ [y]) S' else none
   | none=>none
  | _=>none
def retXE (tt : TT) (kss : List (List CK)) : List ResultVar → List A → SS → OL
 | [],as,S=>bif Nat.beq S.own kss.length then endX 0 kss [] as S else none
 | .tmp t :: r,as,S =>
  match (S.look t).bind SV.a? with
  | some a=>retXE tt kss r (as ++ [a]) S
  | none=>none
 | .cell t ty :: r,as,S =>
  match S.look t,tiOf tt ty with
  | some (.ptr b off none),some ti =>
   match S.boxes[b]? with
   | some (some cells)=>loadX ti none cells off S fun s S'=>match s.a? with | some a=>retXE tt kss r (as ++ [a]) S' | none=>none
   | _=>none
  | _,_=>none
def ptrsOf : List SV → Option (List (Nat × Nat))
 | []=>some []
 | .ptr b 0 none :: r=>(ptrsOf r).map ((0,b) :: ·)
 | _ :: _=>none
def regrp : List GK → List SV → Option (List SV)
 | [],l=>some l
 | .one :: gs,s :: l=>(regrp gs l).map (s :: ·)
 | .one :: _,[]=>none
 | .clo f n :: gs,l =>
  match ptrsOf (l.take n),regrp gs (l.drop n) with
  | some bs,some r=>bif Nat.ble n l.length then some (.clo f bs :: r) else none
  | _,_=>none
def enumS : Nat → List SV → List (Nat × SV)
 | _,[]=>[]
 | i,s :: l=>(i,s) :: enumS (i + 1) l
def slotsG (sg : Sig) : List (Nat × SV) :=
 match sg.gr with
 | []=>entrySlots 0 0 sg.as
 | _ :: _=>(match regrp sg.gr ((entrySlots 0 0 sg.as).map (·.2)) with | some l=>enumS 0 l | none=>[])
def grOk : List GK → Nat → Bool
 | [],_=>true
 | .one :: r,k=>Nat.blt 0 k && grOk r (k - 1)
 | .clo _ n :: r,k=>Nat.blt 0 n && Nat.ble n k && grOk r (k - n)
def funXE (tt : TT) (N : Nat) (orc : List (OK × Vars)) (rs : List ResultVar) (sg : Sig) (c : Code) : OL :=
 bif boxedOk sg.as then
  let S : SS:=⟨slotsG sg,entryBoxes 0 0 0 sg.as,entryKnown 0 sg.as,[],[],sg.as.length,grsN (boxKs sg.as),0,(boxKs sg.as).length⟩
  codeX tt N orc c S [] (retXE tt (outKs sg.as) rs []) (retXE tt (outKs sg.as) rs [])
 else none
end Go.Fbs

/- The words answer what the operations do. -/
namespace Go.Fbs
def KnownV : Nat → V → Prop
 | 0,v=>sc v = true
 | n + 1,v=>∃ cs,v = .agg cs ∧ cs.length = n + 1 ∧ cs.all sc = true
section
variable {x y i w : V}
theorem c_lenS (h : lenS x.erA = some w) : ∃ v,lenS x = some v ∧ v.erA = w:=by
 cases x <;> simp [V.erA,lenS] at h ⊢; subst h; rfl
theorem c_lenL (h : lenL x.erA = some w) : ∃ v,lenL x = some v ∧ v.erA = w:=by
 cases x <;> simp [V.erA,lenL,erAs_map] at h ⊢; subst h; rfl
theorem erA_int {k : IntKind} {n : Int} (h : x.erA = .int k n) : x = .int k n:=by cases x <;> simp_all [V.erA]
theorem erA_bool {b : Bool} (h : x.erA = .bool b) : x = .bool b:=by cases x <;> simp_all [V.erA]
theorem erA_str {s : List UInt8} (h : x.erA = .str s) : x = .str s:=by cases x <;> simp_all [V.erA]
theorem erA_undef (h : x.erA = .undef) : x = .undef:=by cases x <;> simp_all [V.erA]
theorem erA_sl {g : Tag} {es : List V} (h : x.erA = .sl g es) : ∃ g' es',x = .sl g' es' ∧ es = es'.map V.erA:=by
 cases x <;> simp [V.erA,erAs_map] at h; exact ⟨_,_,rfl,h.2.symm⟩
theorem erA_agg {cs : List V} (h : x.erA = .agg cs) : ∃ cs',x = .agg cs' ∧ cs = cs'.map V.erA:=by
 cases x <;> simp [V.erA,erAs_map] at h; exact ⟨_,rfl,h.symm⟩
theorem erA_tup {cs : List V} (h : x.erA = .tup cs) : ∃ cs',x = .tup cs' ∧ cs = cs'.map V.erA:=by
 cases x <;> simp [V.erA,erAs_map] at h; exact ⟨_,rfl,h.symm⟩
theorem erA_func {f : Nat} {cs : List V} (h : x.erA = .func f cs) : ∃ cs',x = .func f cs' ∧ cs = cs'.map V.erA:=by
 cases x <;> simp [V.erA,erAs_map] at h; exact ⟨_,by rw [h.1],h.2.symm⟩
theorem intBin_sc {op : BinOp} {k : IntKind} {a b : Int} {v : V} (h : intBin op k a b = some v) : v.erA = v ∧ sc v = true:=by
 cases op <;> simp only [intBin] at h <;> (try split at h) <;> simp at h <;> subst h <;> exact ⟨rfl,rfl⟩
theorem strBin_sc {op : BinOp} {a b : List UInt8} {v : V} (h : strBin op a b = some v) : v.erA = v ∧ sc v = true:=by
 cases op <;> simp only [strBin] at h <;> (try split at h) <;> simp at h <;> subst h <;> exact ⟨rfl,rfl⟩
theorem shiftBin_sc {op : BinOp} {k : IntKind} {a b : Int} {v : V} (h : shiftBin op k a b = some v) : v.erA = v ∧ sc v = true:=by
 unfold shiftBin at h
 split at h
 ·simp at h
 ·cases op <;> simp at h <;> subst h <;> exact ⟨rfl,rfl⟩
theorem binK_sc {op : BinOp} {v : V} (h : binK op x y = some v) : v.erA = v ∧ sc v = true:=by
 unfold binK at h
 split at h
 ·split at h
  ·exact shiftBin_sc h
  ·exact shiftBin_sc h
  ·split at h
   ·exact intBin_sc h
   ·simp at h
 ·exact strBin_sc h
 ·simp at h
theorem c_bin {P : Program} {op : BinOp} {t : TypeId} (h : binK op x.erA y.erA = some w) : ∃ v,binV P op t x y = some v ∧ v.erA = w:=by
 have hw:=(binK_sc h).1
 refine ⟨w,?_,hw⟩
 unfold binK at h
 split at h
 ·rename_i k a k' b h1 h2
  rw [erA_int h1,erA_int h2]
  cases op <;> exact h
 ·rename_i a b h1 h2
  rw [erA_str h1,erA_str h2]
  exact h
 ·simp at h
theorem c_eqB {P : Program} {t : TypeId} {neg : Bool} (hu : P.underlying t = some .bool) (he : P.eqGuardType P.depth t = false) (h : eqBK neg x.erA y.erA = some w) : ∃ v,binV P (if neg then .neq else .eql) t x y = some v ∧ v.erA = w:=by
 unfold eqBK at h
 split at h
 ·rename_i a b h1 h2
  simp only [Option.some.injEq] at h
  subst h
  rw [erA_bool h1,erA_bool h2]
  cases neg <;> simp [binV,he,eqT,hu,V.erA]
 ·simp at h
theorem eqS_erA {q : Nat} {r : Bool} (h : eqS q x.erA y.erA = some r) : eqS q x y = some r:=by
 unfold eqS at h
 split at h
 ·rename_i h1 h2; rw [erA_bool h1,erA_bool h2]; exact h
 ·rename_i h1 h2; rw [erA_int h1,erA_int h2]; exact h
 ·rename_i h1 h2; rw [erA_str h1,erA_str h2]; exact h
 ·simp at h
theorem eqCells_erA : ∀ {qs : List Nat} {xs ys : List V} {r : Bool},eqCells qs (xs.map V.erA) (ys.map V.erA) = some r → eqCells qs xs ys = some r
 | [],[],[],r,h=>h
 | q :: qs,x :: xs,y :: ys,r,h=>by
  simp only [List.map_cons,eqCells] at h ⊢
  split at h
  ·rename_i a b h1 h2
   rw [eqS_erA h1,eqCells_erA h2]; exact h
  ·simp at h
 | [],_ :: _,_,_,h=>by simp [eqCells] at h
 | [],[],_ :: _,_,h=>by simp [eqCells] at h
 | _ :: _,[],_,_,h=>by simp [eqCells] at h
 | _ :: _,_ :: _,[],_,h=>by simp [eqCells] at h
theorem eqCells_len : ∀ {qs : List Nat} {xs ys : List V} {r : Bool},eqCells qs xs ys = some r → xs.length = qs.length ∧ ys.length = qs.length
 | [],[],[],r,h=>⟨rfl,rfl⟩
 | q :: qs,x :: xs,y :: ys,r,h=>by
  simp only [eqCells] at h
  split at h
  ·rename_i a b h1 h2
   have:=eqCells_len h2
   simp [this]
  ·simp at h
 | [],_ :: _,_,_,h=>by simp [eqCells] at h
 | [],[],_ :: _,_,h=>by simp [eqCells] at h
 | _ :: _,[],_,_,h=>by simp [eqCells] at h
 | _ :: _,_ :: _,[],_,h=>by simp [eqCells] at h
theorem eqCells_append : ∀ {qs qs' : List Nat} {xs ys : List V} {r : Bool},eqCells (qs ++ qs') xs ys = some r →
  ∃ a b,eqCells qs (xs.take qs.length) (ys.take qs.length) = some a ∧ eqCells qs' (xs.drop qs.length) (ys.drop qs.length) = some b ∧ r = (a && b)
 | [],qs',xs,ys,r,h=>⟨true,r,by simp [eqCells],h,by simp⟩
 | q :: qs,qs',x :: xs,y :: ys,r,h=>by
  simp only [List.cons_append,eqCells] at h
  split at h
  ·rename_i a b h1 h2
   simp only [Option.some.injEq] at h
   obtain ⟨a',b',h3,h4,rfl⟩:=eqCells_append h2
   refine ⟨a && a',b',by simp [eqCells,h1,h3],by simpa using h4,by rw [← h,Bool.and_assoc]⟩
  ·simp at h
 | _ :: _,_,[],_,_,h=>by simp [eqCells] at h
 | _ :: _,_,_ :: _,[],_,h=>by simp [eqCells] at h
end
section
variable {P : Program} {tt : TT} (hT : ∀ t ti,tiOf tt t = some ti → TOk P ti ∧ ti.t = t)
include hT
omit hT in
theorem leaves_one {d : Nat} {t : TypeId} {ti : TI} {qs : List Nat} (h1 : tiOf tt t = some ti) (h2 : leaves tt d t = some qs) (h3 : ti.agg = false) : qs.length = 1:=by
 cases d with
 | zero=>simp [leaves] at h2
 | succ d =>
  unfold leaves at h2
  rw [h1] at h2
  simp only [h3,Bool.and_false,Bool.not_false,Bool.and_true,cond_false] at h2
  split at h2 <;> (try (simp at h2; done))
  all_goals (cases hb : Nat.beq ti.sz 1 <;> rw [hb] at h2 <;> simp at h2; subst h2; rfl)
theorem eq_flat_fs {d : Nat} (ih : ∀ t ti qs,tiOf tt t = some ti → leaves tt d t = some qs → qs.length = ti.sz ∧ ∀ (X Y : List V) (r : Bool),eqCells qs X Y = some r → eqT P d t (if ti.agg then .agg X else X.headD .undef) (if ti.agg then .agg Y else Y.headD .undef) = some r)
  (i1 : ∀ t ti qs,tiOf tt t = some ti → leaves tt d t = some qs → ti.agg = false → qs.length = 1) :
  ∀ (fs : List Field) (n : Nat) (qs : List Nat), leavesF tt (leaves tt d) n (fs.map fun f => (f.offset, f.type)) = some qs → fs.all (fun f => f.name != "_") = true → ∀ (xs ys : List V) (r : Bool),
   eqCells qs (xs.drop n) (ys.drop n) = some r → eqFs P (eqT P d) xs ys fs = some r
 | [],n,qs,h,_,xs,ys,r,he=>by
  simp only [List.map_nil,leavesF,Option.some.injEq] at h
  subst h
  have:=eqCells_len he
  rw [List.eq_nil_of_length_eq_zero this.1,List.eq_nil_of_length_eq_zero this.2] at he
  simp only [eqCells,Option.some.injEq] at he
  subst he
  rfl
 | f :: fs,n,qs,h,hn,xs,ys,r,he=>by
  simp only [List.map_cons,leavesF] at h
  split at h
  ·rename_i ti q1 hti hq1
   cases hc : (Nat.beq f.offset n && Nat.blt 0 ti.sz) with
   | false=>simp [hc] at h
   | true =>
    rw [hc] at h
    simp only [cond_true,Option.map_eq_some_iff] at h
    obtain ⟨q2,h,rfl⟩:=h
    simp only [Bool.and_eq_true] at hc
    have ho:=Nat.eq_of_beq_eq_true hc.1
    have hpos : 0 < ti.sz:=Nat.le_of_ble_eq_true hc.2
    simp only [List.all_cons,Bool.and_eq_true] at hn
    obtain ⟨hl,h0⟩:=ih f.type ti q1 hti hq1
    have hlen:=eqCells_len he
    obtain ⟨a,b,h1,h2,rfl⟩:=eqCells_append he
    rw [hl,List.drop_drop,List.drop_drop] at h2
    have h3:=eq_flat_fs ih i1 fs (n + ti.sz) q2 h hn.2 xs ys b h2
    rw [hl] at h1
    have h4:=h0 _ _ a h1
    obtain ⟨tok,htt⟩:=hT f.type ti hti
    have hp : ∀ zs : List V,(zs.drop n).length = (q1 ++ q2).length → partT P f.type zs f.offset = some (if ti.agg then .agg ((zs.drop n).take ti.sz) else ((zs.drop n).take ti.sz).headD .undef):=by
     intro zs hz
     simp only [List.length_drop,List.length_append,hl] at hz
     unfold partT
     have hag:=tok.agg; have hsz:=tok.sz
     rw [htt] at hag hsz
     rw [hag,hsz,ho]
     cases hg : ti.agg with
     | true =>
      simp only [if_true]
      rw [if_pos (by omega)]
     | false =>
      have h1 : ti.sz = 1:=by rw [← hl]; exact i1 f.type ti q1 hti hq1 hg
      simp only [h1]
      have : n < zs.length:=by omega
      rw [List.getElem?_eq_getElem this,List.drop_eq_getElem_cons this]
      rfl
    simp only [eqFs]
    have hne : (f.name = "_") = False := by
     have:=hn.1
     simp only [bne_iff_ne,ne_eq] at this
     exact eq_false this
    simp only [hne,if_false,hp xs hlen.1,hp ys hlen.2,h4]
    cases a <;> simp [h3]
  ·simp at h
theorem eq_flat : ∀ (d : Nat) (t : TypeId) (ti : TI) (qs : List Nat),tiOf tt t = some ti → leaves tt d t = some qs → qs.length = ti.sz ∧ ∀ (X Y : List V) (r : Bool),eqCells qs X Y = some r →
  eqT P d t (if ti.agg then .agg X else X.headD .undef) (if ti.agg then .agg Y else Y.headD .undef) = some r
 | 0,t,ti,qs,hti,hf=>by simp [leaves] at hf
 | d + 1,t,ti,qs,hti,hf=>by
  obtain ⟨tok,htt⟩:=hT t ti hti
  have hdd:=tok.d
  rw [htt] at hdd
  simp only [leaves,hti] at hf
  have key : ∀ q : Nat,(bif Nat.beq ti.sz 1 && !ti.agg then some [q] else none) = some qs → ti.sz = 1 ∧ ti.agg = false ∧ qs = [q]:=by
   intro q h
   cases hc : (Nat.beq ti.sz 1 && !ti.agg) with
   | false=>simp [hc] at h
   | true =>
    rw [hc] at h
    simp only [cond_true,Option.some.injEq] at h
    simp only [Bool.and_eq_true,Bool.not_eq_true'] at hc
    exact ⟨Nat.eq_of_beq_eq_true hc.1,hc.2,h.symm⟩
  have one : ∀ {q : Nat} {X Y : List V} {r : Bool},eqCells [q] X Y = some r → ∃ x y,X = [x] ∧ Y = [y] ∧ eqS q x y = some r:=by
   intro q X Y r h
   have:=eqCells_len h
   obtain ⟨x,rfl⟩:=List.length_eq_one_iff.1 this.1
   obtain ⟨y,rfl⟩:=List.length_eq_one_iff.1 this.2
   refine ⟨x,y,rfl,rfl,?_⟩
   simp only [eqCells] at h
   cases hq : eqS q x y <;> simp [hq] at h
   rw [h]
  cases hd : ti.d with
  | bool =>
   rw [hd] at hf hdd
   simp only [tdOk] at hdd
   obtain ⟨h1,h2,rfl⟩:=key 0 hf
   refine ⟨h1.symm,fun X Y r he=>?_⟩
   obtain ⟨x,y,rfl,rfl,hs⟩:=one he
   simp only [h2,eqT,hdd]
   clear one key tok hf hdd hd he
   cases x <;> cases y <;> simp [eqS] at hs ⊢ <;> exact hs
  | int k =>
   rw [hd] at hf hdd
   simp only [tdOk] at hdd
   obtain ⟨h1,h2,rfl⟩:=key 1 hf
   refine ⟨h1.symm,fun X Y r he=>?_⟩
   obtain ⟨x,y,rfl,rfl,hs⟩:=one he
   simp only [h2,eqT,hdd]
   clear one key tok hf hdd hd he
   cases x <;> cases y <;> simp [eqS] at hs ⊢ <;> exact hs
  | str =>
   rw [hd] at hf hdd
   simp only [tdOk] at hdd
   obtain ⟨h1,h2,rfl⟩:=key 2 hf
   refine ⟨h1.symm,fun X Y r he=>?_⟩
   obtain ⟨x,y,rfl,rfl,hs⟩:=one he
   simp only [h2,eqT,hdd]
   clear one key tok hf hdd hd he
   cases x <;> cases y <;> simp [eqS] at hs ⊢ <;> exact hs
  | st fs =>
   rw [hd] at hf hdd
   obtain ⟨a,hu,hfs,hbl⟩:=hdd
   cases hc : (ti.eq && ti.agg) with
   | false=>simp [hc] at hf
   | true =>
    simp only [hc,cond_true] at hf
    simp only [Bool.and_eq_true] at hc
    split at hf
    ·rename_i q hq
     cases hl : Nat.beq q.length ti.sz with
     | false=>simp [hl] at hf
     | true =>
      simp only [hl,cond_true,Option.some.injEq] at hf
      subst hf
      refine ⟨Nat.eq_of_beq_eq_true hl,fun X Y r he=>?_⟩
      have hst:=(tok.eq hc.1).1
      rw [htt] at hst
      simp only [hc.2,if_true,eqT,hu,hst,Bool.false_eq_true,if_false]
      rw [← hfs] at hq
      refine eq_flat_fs hT (fun t ti qs h1 h2=>eq_flat d t ti qs h1 h2) (fun t ti qs h1 h2 h3=>?_) a.toList 0 q hq hbl X Y r (by simpa using he)
      exact leaves_one h1 h2 h3
    ·simp at hf
  | _=>rw [hd] at hf; simp at hf
end
end Go.Fbs

/- The words answer what the operations do: one by one. -/
namespace Go.Fbs
section
variable {x y i w : V}
theorem c_un {op : UnOp} (h : unV op x.erA = some w) : ∃ v,unV op x = some v ∧ v.erA = w:=by
 unfold unV at h
 split at h
 ·rename_i h1
  rw [erA_int h1]
  simp only [Option.some.injEq] at h
  subst h
  exact ⟨_,rfl,rfl⟩
 ·rename_i h1
  rw [erA_bool h1]
  simp only [Option.some.injEq] at h
  subst h
  exact ⟨_,rfl,rfl⟩
 ·simp at h
theorem c_convI {k : IntKind} (h : convI k x.erA = some w) : ∃ v,convI k x = some v ∧ v.erA = w:=by
 unfold convI at h
 split at h
 ·rename_i h1
  rw [erA_int h1]
  simp only [Option.some.injEq] at h
  subst h
  exact ⟨_,rfl,rfl⟩
 ·simp at h
theorem c_convSS (h : convSS x.erA = some w) : ∃ v,convSS x = some v ∧ v.erA = w:=by
 unfold convSS at h
 split at h
 ·rename_i h1
  rw [erA_str h1]
  simp only [Option.some.injEq] at h
  subst h
  exact ⟨_,rfl,rfl⟩
 ·simp at h
theorem mapM_u8_erA : ∀ {es : List V} {bs : List UInt8},(es.map V.erA).mapM (fun (v : V)=>match v with | .int .u8 n=>some (UInt8.ofNat n.toNat) | _=>none) = some bs →
  es.mapM (fun (v : V)=>match v with | .int .u8 n=>some (UInt8.ofNat n.toNat) | _=>none) = some bs
 | [],bs,h=>h
 | e :: es,bs,h=>by
  simp only [List.map_cons,List.mapM_cons,Option.bind_eq_bind,Option.bind_eq_some_iff] at h ⊢
  obtain ⟨b,h1,bs',h2,h3⟩:=h
  refine ⟨b,?_,bs',mapM_u8_erA h2,h3⟩
  split at h1
  ·rename_i h4; rw [erA_int h4]; exact h1
  ·simp at h1
theorem c_convBS (h : convBS x.erA = some w) : ∃ v,convBS x = some v ∧ v.erA = w:=by
 unfold convBS at h
 split at h
 ·rename_i g es h1
  obtain ⟨g',es',rfl,rfl⟩:=erA_sl h1
  simp only [Option.map_eq_some_iff] at h
  obtain ⟨bs,h2,rfl⟩:=h
  exact ⟨.str bs,congrArg (Option.map V.str) (mapM_u8_erA h2),rfl⟩
 ·simp at h
theorem bound_erA {x : Option V} {d t n : Nat} (h : boundV (x.map V.erA) d t = some n) : boundV x d t = some n:=by
 cases x with
 | none=>exact h
 | some v =>
  simp only [Option.map_some,boundV] at h
  split at h
  ·rename_i h1; simp at h1
  ·rename_i h1
   simp only [Option.some.injEq] at h1
   rw [erA_int h1]; exact h
  ·simp at h
theorem c_slS {lo hi : Option V} (h : sliceS x.erA (lo.map V.erA) (hi.map V.erA) = some w) : ∃ v,sliceS x lo hi = some v ∧ v.erA = w:=by
 unfold sliceS at h
 split at h
 ·rename_i s h1
  rw [erA_str h1]
  split at h
  ·rename_i hh h2
   split at h
   ·rename_i l h3
    simp only [Option.some.injEq] at h
    subst h
    exact ⟨_,by simp only [sliceS,bound_erA h2,bound_erA h3]; rfl,rfl⟩
   ·simp at h
  ·simp at h
 ·simp at h
theorem all_len_erA (es : List V) (n : Nat) : (es.map V.erA).all (fun e=>e.cells.length == n) = es.all (fun e=>e.cells.length == n):=by
 rw [List.all_map]; congr 1; funext v; simp only [Function.comp_def,erA_cells_len]
theorem c_slL {n : Nat} {lo hi : Option V} (h : slLK n x.erA (lo.map V.erA) (hi.map V.erA) = some w) : ∃ v,sliceL n x lo hi = some v ∧ v.erA = w:=by
 unfold slLK at h
 split at h
 ·rename_i g es h1
  obtain ⟨g',es,rfl,rfl⟩:=erA_sl h1
  rw [List.length_map] at h
  split at h
  ·rename_i hh h2
   split at h
   ·rename_i l h3
    rw [all_len_erA] at h
    split at h
    ·rename_i h4
     simp only [Option.some.injEq] at h
     subst h
     refine ⟨_,by simp only [sliceL,bound_erA h2,bound_erA h3]; exact if_pos h4,?_⟩
     simp [V.erA,erAs_map,List.map_take,List.map_drop]
    ·simp at h
   ·simp at h
  ·simp at h
 ·simp at h
theorem c_idxS (h : indexS x.erA i.erA = some w) : ∃ v,indexS x i = some v ∧ v.erA = w:=by
 unfold indexS at h
 split at h
 ·rename_i s k n h1 h2
  rw [erA_str h1,erA_int h2]
  split at h
  ·rename_i hn
   simp only [Option.map_eq_some_iff] at h
   obtain ⟨b,h3,rfl⟩:=h
   exact ⟨_,by simp only [indexS]; rw [if_pos hn,h3]; rfl,rfl⟩
  ·simp at h
 ·simp at h
theorem c_partT {g : Bool} {n off : Nat} {cs : List V} (h : partT' g n (cs.map V.erA) off = some w) : ∃ v,partT' g n cs off = some v ∧ v.erA = w:=by
 unfold partT' at h ⊢
 cases g with
 | true =>
  simp only [if_true,List.length_map] at h ⊢
  split at h
  ·rename_i hl
   simp only [Option.some.injEq] at h
   subst h
   refine ⟨_,if_pos hl,?_⟩
   simp [V.erA,erAs_map,List.map_take,List.map_drop]
  ·simp at h
 | false =>
  simp only [Bool.false_eq_true,if_false,List.getElem?_map,Option.map_eq_some_iff] at h ⊢
  exact h
theorem c_idxA {len n : Nat} {g : Bool} (h : indexA len g n x.erA i.erA = some w) : ∃ v,indexA len g n x i = some v ∧ v.erA = w:=by
 unfold indexA at h
 split at h
 ·rename_i cs k m h1 h2
  obtain ⟨cs,rfl,rfl⟩:=erA_agg h1
  rw [erA_int h2]
  split at h
  ·rename_i hn
   obtain ⟨v,h3,h4⟩:=c_partT h
   exact ⟨v,by simp only [indexA]; rw [if_pos hn,h3],h4⟩
  ·simp at h
 ·simp at h
theorem chk_spec {n : Nat} {v u : V} (h : chkK n v = some u) : u = v ∧ ∃ cs,v = .agg cs ∧ cs.length = n ∧ cs.all sc = true:=by
 unfold chkK at h
 split at h
 ·split at h
  ·rename_i hc
   simp only [Option.some.injEq] at h
   exact ⟨h.symm,_,rfl,hc.1,hc.2⟩
  ·simp at h
 ·simp at h
theorem chk1_spec {v u : V} (h : chk1K v = some u) : u = v ∧ sc v = true:=by
 unfold chk1K at h
 split at h
 ·rename_i hs
  simp only [Option.some.injEq] at h
  exact ⟨h.symm,hs⟩
 ·simp at h
theorem c_part {g : Bool} {n off : Nat} (h : partK g n off x.erA = some w) : ∃ cs v,x = .agg cs ∧ partT' g n cs off = some v ∧ v.erA = w ∧ (if g then chkK n w = some w else sc w = true):=by
 unfold partK at h
 split at h
 ·rename_i cs h1
  obtain ⟨cs,rfl,rfl⟩:=erA_agg h1
  cases g with
  | true =>
   simp only [if_true] at h ⊢
   split at h
   ·rename_i hl
    obtain ⟨rfl,cs',h2,h3⟩:=chk_spec h
    obtain ⟨v,h4,h5⟩:=c_partT (g:=true) (n:=n) (off:=off) (cs:=cs) (w:=.agg ((cs.map V.erA).drop off |>.take n)) (by unfold partT'; simp only [if_true]; rw [if_pos hl])
    exact ⟨cs,v,rfl,h4,h5,h⟩
   ·simp at h
  | false =>
   simp only [Bool.false_eq_true,if_false] at h ⊢
   split at h
   ·rename_i c hc
    obtain ⟨rfl,h2⟩:=chk1_spec h
    obtain ⟨v,h4,h5⟩:=c_partT (g:=false) (n:=n) (off:=off) (cs:=cs) (w:=w) (by unfold partT'; simp only [Bool.false_eq_true,if_false]; exact hc)
    exact ⟨cs,v,rfl,h4,h5,h2⟩
   ·simp at h
 ·simp at h
theorem KnownV_agg {n : Nat} (hn : 0 < n) {v : V} (h : chkK n v = some v) : KnownV n v:=by
 obtain ⟨_,cs,h1,h2,h3⟩:=chk_spec h
 cases n with
 | zero=>omega
 | succ n=>exact ⟨cs,h1,h2,h3⟩
theorem c_idxL {g : Bool} {n : Nat} (h : idxLK g n x.erA i.erA = some w) (hn : 0 < n) (h1 : g = false → n = 1) : ∃ cs,indexAddrL n x i = some (.ro cs) ∧ cs.map V.erA = w.cells ∧ KnownV (if g then n else 0) w:=by
 unfold idxLK at h
 split at h
 ·rename_i t es k m h2 h3
  obtain ⟨t,es,rfl,rfl⟩:=erA_sl h2
  rw [erA_int h3]
  split at h
  ·rename_i hm
   rw [List.getElem?_map] at h
   cases he : es[m.toNat]? with
   | none=>simp [he] at h
   | some e =>
    simp only [he,Option.map_some] at h
    have hlen : e.cells.length = n ∧ w = e.erA ∧ KnownV (if g then n else 0) w:=by
     cases g with
     | true =>
      simp only [if_true] at h ⊢
      obtain ⟨rfl,cs,h4,h5,h6⟩:=chk_spec h
      refine ⟨?_,rfl,KnownV_agg hn h⟩
      rw [← erA_cells_len,h4]; exact h5
     | false =>
      simp only [Bool.false_eq_true,if_false] at h ⊢
      obtain ⟨rfl,h4⟩:=chk1_spec h
      refine ⟨?_,rfl,h4⟩
      rw [← erA_cells_len,sc_cells h4,h1 rfl]; rfl
    obtain ⟨h4,rfl,h5⟩:=hlen
    refine ⟨e.cells,?_,(erA_cells e).symm,h5⟩
    simp only [indexAddrL]
    rw [if_pos hm,he]
    simp [h4]
  ·simp at h
 ·simp at h
theorem c_ext {j : Nat} (h : extractV x.erA j = some w) : ∃ v,extractV x j = some v ∧ v.erA = w:=by
 unfold extractV at h
 split at h
 ·rename_i vs h1
  obtain ⟨vs,rfl,rfl⟩:=erA_tup h1
  simp only [List.getElem?_map,Option.map_eq_some_iff] at h
  exact h
 ·simp at h
theorem c_mm {P : Program} {g : Bool} {ts : List TypeId} (h : mmK g x.erA y.erA = some w) : ∃ v,builtinQ P (if g then .max else .min) ts [x,y] = some v ∧ v.erA = w:=by
 unfold mmK at h
 split at h
 ·rename_i k a k' b h1 h2
  rw [erA_int h1,erA_int h2]
  simp only [Option.some.injEq] at h
  subst h
  cases g <;> exact ⟨_,rfl,rfl⟩
 ·simp at h
theorem c_nilF (h : nilFK x.erA = some w) : ∃ v,nilV x = some v ∧ v.erA = w:=by
 unfold nilFK at h
 split at h
 ·rename_i f cs h1
  obtain ⟨cs,rfl,rfl⟩:=erA_func h1
  simp only [Option.some.injEq] at h
  exact ⟨_,rfl,by rw [← h]; simp [V.erA,erAs_map]⟩
 ·simp at h
def ptrD (m : Hp) (v : V) : Option (Nat × List V) :=
 match v with
 | .ptr l o =>
  match m.H[l]? with
  | some (.cells _ cs)=>some (o,cs)
  | _=>none
 | _=>none
def isSelf : V → Bool
 | .nilp=>true
 | .ptr _ _=>true
 | _=>false
def cellsFitD : List CK → List V → Bool
 | [],[]=>true
 | .pl :: ks,_ :: ss=>cellsFitD ks ss
 | .self _ :: ks,s :: ss=>cellsFitD ks ss && isSelf s
 | .gr _ _ :: ks,s :: ss=>cellsFitD ks ss && isSl s
 | _,_=>false
def fitsD (m : Hp) : List AK → List V → Bool
 | [],[]=>true
 | .v :: ks,_ :: xs=>fitsD m ks xs
 | .b off cks :: ks,x :: xs=>(match ptrD m x with | some q=>(Nat.beq q.1 off && fitsD m ks xs) && cellsFitD cks q.2 | none=>false)
 | _,_=>false
def fitGD (m : Hp) (sg : Sig) (xs : List V) : Bool :=
 match flA sg.gr xs with
 | some ys=>fitsD m sg.as ys
 | none=>false
def findD (tt : TT) (m : Hp) (f : FuncId) (xs : List V) : List FuncId → Option (FuncId × Sig)
 | []=>none
 | e :: r =>
  match sigOf tt e with
  | some q=>bif Nat.beq q.1 f && fitGD m q.2 xs then some (e,q.2) else findD tt m f xs r
  | none=>findD tt m f xs r
noncomputable def effE (tt : TT) (p : PT) : ET:=fun f args m =>
 match findD tt m f args (tt.sg.map (·.1)) with
 | some (e,sg)=>effV sg (p e) args m
 | none=>none
theorem findD_spec {tt : TT} {m : Hp} {f : FuncId} {xs : List V} {e : FuncId} {sg : Sig} : ∀ {l : List FuncId},findD tt m f xs l = some (e,sg) → sigOf tt e = some (f,sg)
 | [],h=>by simp [findD] at h
 | e' :: r,h=>by
  simp only [findD] at h
  split at h
  ·rename_i q hq
   cases hc : (Nat.beq q.1 f && fitGD m q.2 xs) with
   | true =>
    rw [hc] at h
    simp only [cond_true,Option.some.injEq,Prod.mk.injEq] at h
    obtain ⟨rfl,rfl⟩:=h
    simp only [Bool.and_eq_true] at hc
    rw [hq,← Nat.eq_of_beq_eq_true hc.1]
   | false=>rw [hc] at h; exact findD_spec h
  ·exact findD_spec h
noncomputable abbrev CE (tt : TT) (p : PT) : Callees:=⟨isE tt,fun f a=>bif Nat.blt f EOFF then p f (a.map V.erA) else none,effE tt p,hasN tt.dyn,flatT tt⟩
theorem c_callv {tt : TT} {p : PT} {l : List V} (h : callvK p x.erA (l.map V.erA) = some w) : ∃ v,callQ (CE tt p) x l = some v ∧ v = w:=by
 unfold callvK at h
 split at h
 ·rename_i f cs h1
  obtain ⟨cs,rfl,rfl⟩:=erA_func h1
  refine ⟨w,?_,rfl⟩
  simp only [callQ]
  rw [List.map_append]; exact h
 ·simp at h
end
def onG (ρ : Nat → V) : Gd → Prop
 | none=>True
 | some (a,b)=>a.den ρ = .bool b
def RelSV (ρ : Nat → V) (gk : Nat → Option Nat) (gb : List Nat) (T : List (Nat × Nat)) : SV → V → Prop
 | .val a,v=>v.erA = a.den ρ
 | .gval a g,v=>(onG ρ g → v.erA = a.den ρ) ∧ (¬ onG ρ g → v = .undef)
 | .grow k sz a,v=>∃ es,a.den ρ = .sl .ro (es.map V.erA) ∧ ((v = .sl .full es ∧ (sz = 1 → es.length = 0)) ∨ ∃ i,gk k = some i ∧ v = .sl (.own i) es ∧ T[i]? = some (es.length,sz))
 | .nils,v=>v = .sl .full []
 | .elem a n off g,v=>(onG ρ g → ∃ cs : List V,v = .ro (cs.drop off) ∧ cs.map V.erA = (a.den ρ).cells ∧ KnownV n (a.den ρ)) ∧ (¬ onG ρ g → v = .undef)
 | .ptr b off g,v=>(onG ρ g → ∃ l : Nat,gb[b]? = some l ∧ v = .ptr l off) ∧ (¬ onG ρ g → v = .undef)
 | .pix b off n i g,v=>(onG ρ g → ∃ (l : Nat) (q : IntKind) (z : Nat),gb[b]? = some l ∧ i.den ρ = .int q z ∧ z < n ∧ v = .ptr l (off + z)) ∧ (¬ onG ρ g → v = .undef)
 | .stv a nl,v=>v.erA = a.den ρ ∧ ∃ cs,v = .agg cs ∧ ∀ j ∈ nl,cs[j]? = some (.sl .full [])
 | .self _ b a,v=>∃ l : Nat,gb[b]? = some l ∧ ((a.den ρ = .bool false ∧ v = .nilp) ∨ (a.den ρ = .bool true ∧ v = .ptr l 0))
 | .clo f caps,v=>∃ cs,v = .func f cs ∧ cs.length = caps.length ∧ ∀ (i : Nat) q c,caps[i]? = some q → cs[i]? = some c → ∃ l,gb[q.2]? = some l ∧ c = .ptr l 0
def Cells (ρ : Nat → V) (gk : Nat → Option Nat) (gb : List Nat) (T : List (Nat × Nat)) (nv : Nat) (cells : List SV) (cs : List V) : Prop :=
 cells.length = cs.length ∧ ∀ (j : Nat) s c,cells[j]? = some s → cs[j]? = some c → RelSV ρ gk gb T s c ∧ s.below nv = true
def STy (cells : List SV) (e : Option Nat) : Prop:=∀ (j t b : Nat) a,cells[j]? = some (.self t b a) → e = some t
def HAt (m : Hp) (l : Nat) (cells : List SV) (cs : List V) : Prop:=∃ e,m.H[l]? = some (.cells e cs) ∧ STy cells e
structure Conc (N : Nat) (gk : Nat → Option Nat) (gb : List Nat) (S : SS) (ρ : Nat → V) (env : Env) (m : Hp) : Prop where
 n : env.n = N
 slots : ∀ t s,S.look t = some s → t < N ∧ RelSV ρ gk gb m.T s (env.f t) ∧ s.below S.nv = true
 boxes : ∀ (b : Nat) cells,S.boxes[b]? = some (some cells) → ∃ (l : Nat) (cs : List V),gb[b]? = some l ∧ HAt m l cells cs ∧ Cells ρ gk gb m.T S.nv cells cs
 blen : gb.length = S.boxes.length
 binj : ∀ (b b' l : Nat),gb[b]? = some l → gb[b']? = some l → b = b'
 blt : ∀ l ∈ gb,l < m.H.length
 kinj : ∀ k k' i,gk k = some i → gk k' = some i → k = k'
 klt : ∀ k i,gk k = some i → k < S.nk ∧ i < m.T.length
 known : ∀ i n,assoc S.known i = some n → i < S.nv ∧ KnownV n (ρ i)
 bools : ∀ i ∈ S.bools,i < S.nv ∧ isBU (ρ i) = true
 own : ∀ b,b < S.own → gb[b]? = some b
def AgreeN (ρ ρ' : Nat → V) (n : Nat) : Prop:=∀ i,i < n → ρ' i = ρ i
theorem AgreeN.refl (ρ : Nat → V) (n : Nat) : AgreeN ρ ρ n:=fun _ _=>rfl
theorem AgreeN.trans {ρ ρ' ρ'' : Nat → V} {n n' : Nat} (h : AgreeN ρ ρ' n) (h' : AgreeN ρ' ρ'' n') (hn : n ≤ n') : AgreeN ρ ρ'' n:=fun i hi=>(h' i (by omega)).trans (h i hi)
theorem agree_ext (ρ : Nat → V) (n : Nat) (y : V) : AgreeN ρ (ext ρ n y) n:=by
 intro i hi
 unfold ext
 have : Nat.beq i n = false:=by
  cases h : Nat.beq i n with
  | false=>rfl
  | true=>have:=Nat.eq_of_beq_eq_true h; omega
 rw [this]; rfl
theorem ext_at (ρ : Nat → V) (n : Nat) (y : V) : ext ρ n y n = y:=by simp [ext]
theorem blt_lt {i n : Nat} (h : Nat.blt i n = true) : i < n:=Nat.le_of_ble_eq_true h
theorem den_agree {ρ ρ' : Nat → V} {n : Nat} (h : AgreeN ρ ρ' n) {a : A} (ha : a.below n = true) : a.den ρ' = a.den ρ:=by
 cases a with
 | v i=>exact h i (blt_lt ha)
 | k x=>rfl
 | c i j=>show cellD (ρ' i) j = cellD (ρ i) j; rw [h i (blt_lt ha)]
theorem onG_agree {ρ ρ' : Nat → V} {n : Nat} (h : AgreeN ρ ρ' n) {g : Gd} (hg : g.below n = true) : onG ρ' g ↔ onG ρ g:=by
 cases g with
 | none=>exact Iff.rfl
 | some q=>obtain ⟨a,b⟩:=q; simp only [onG]; rw [den_agree h hg]
theorem RelSV.agree {ρ ρ' : Nat → V} {n : Nat} (h : AgreeN ρ ρ' n) {gk : Nat → Option Nat} {gb : List Nat} {T : List (Nat × Nat)} {s : SV} {v : V} (hs : s.below n = true) (r : RelSV ρ gk gb T s v) : RelSV ρ' gk gb T s v:=by
 cases s with
 | val a=>simp only [RelSV]; rw [den_agree h hs]; exact r
 | gval a g =>
  simp only [SV.below,Bool.and_eq_true] at hs
  simp only [RelSV]; rw [den_agree h hs.1,onG_agree h hs.2]; exact r
 | grow k sz a=>simp only [RelSV]; rw [den_agree h hs]; exact r
 | nils=>exact r
 | elem a m off g =>
  simp only [SV.below,Bool.and_eq_true] at hs
  simp only [RelSV]; rw [den_agree h hs.1,onG_agree h hs.2]; exact r
 | ptr b off g=>simp only [RelSV]; rw [onG_agree h hs]; exact r
 | pix b off n i g =>
  simp only [SV.below,Bool.and_eq_true] at hs
  simp only [RelSV]; rw [den_agree h hs.1,onG_agree h hs.2]; exact r
 | stv a nl=>exact ⟨by rw [den_agree h hs]; exact r.1,r.2⟩
 | clo f caps=>exact r
 | self t b a=>simp only [RelSV]; rw [den_agree h hs]; exact r
theorem A.below_mono {a : A} {n n' : Nat} (h : a.below n = true) (hn : n ≤ n') : a.below n' = true:=by
 cases a with
 | v i=>exact Nat.ble_eq_true_of_le (Nat.le_trans (blt_lt h) hn)
 | k x=>rfl
 | c i j=>exact Nat.ble_eq_true_of_le (Nat.le_trans (blt_lt h) hn)
theorem Gd.below_mono {g : Gd} {n n' : Nat} (h : Gd.below n g = true) (hn : n ≤ n') : Gd.below n' g = true:=by
 cases g with
 | none=>rfl
 | some q=>exact A.below_mono (a:=q.1) h hn
theorem SV.below_mono {s : SV} {n n' : Nat} (h : s.below n = true) (hn : n ≤ n') : s.below n' = true:=by
 cases s with
 | val a=>exact A.below_mono (a:=a) h hn
 | gval a g =>
  simp only [SV.below,Bool.and_eq_true] at h ⊢
  exact ⟨A.below_mono h.1 hn,Gd.below_mono h.2 hn⟩
 | grow k sz a=>exact A.below_mono (a:=a) h hn
 | nils=>rfl
 | elem a m off g =>
  simp only [SV.below,Bool.and_eq_true] at h ⊢
  exact ⟨A.below_mono h.1 hn,Gd.below_mono h.2 hn⟩
 | ptr b off g=>exact Gd.below_mono (g:=g) h hn
 | pix b off m i g =>
  simp only [SV.below,Bool.and_eq_true] at h ⊢
  exact ⟨A.below_mono h.1 hn,Gd.below_mono h.2 hn⟩
 | stv a nl=>exact A.below_mono (a:=a) h hn
 | clo f caps=>rfl
 | self t b a=>exact A.below_mono (a:=a) h hn
theorem Cells.agree {ρ ρ' : Nat → V} {n n' : Nat} (h : AgreeN ρ ρ' n) (hn : n ≤ n') {gk : Nat → Option Nat} {gb : List Nat} {T : List (Nat × Nat)} {cells : List SV} {cs : List V} (r : Cells ρ gk gb T n cells cs) : Cells ρ' gk gb T n' cells cs :=
 ⟨r.1,fun j s c h1 h2=>let ⟨h3,h4⟩:=r.2 j s c h1 h2; ⟨h3.agree h h4,SV.below_mono h4 hn⟩⟩
theorem Conc.more {N : Nat} {gk : Nat → Option Nat} {gb : List Nat} {S : SS} {ρ ρ' : Nat → V} {env : Env} {m : Hp} (c : Conc N gk gb S ρ env m) (h : AgreeN ρ ρ' S.nv) {nv : Nat} (hn : S.nv ≤ nv) {kn : List (Nat × Nat)}
  (hk : ∀ i n,assoc kn i = some n → i < nv ∧ KnownV n (ρ' i)) {bl : List Nat × List Nat} (hl : ∀ i ∈ bl.1,i < nv ∧ isBU (ρ' i) = true) : Conc N gk gb (S.wit nv kn bl) ρ' env m where
 n:=c.n
 slots t s hs:=let ⟨h1,h2,h3⟩:=c.slots t s hs; ⟨h1,h2.agree h h3,SV.below_mono h3 hn⟩
 boxes b cells hb:=let ⟨l,cs,h0,h1,h2⟩:=c.boxes b cells hb; ⟨l,cs,h0,h1,h2.agree h hn⟩
 blen:=c.blen
 binj:=c.binj
 blt:=c.blt
 kinj:=c.kinj
 klt:=c.klt
 known:=hk
 bools:=hl
 own:=c.own
section
variable {N : Nat} {gk : Nat → Option Nat} {gb : List Nat} {S : SS} {ρ : Nat → V} {env : Env} {m : Hp}
theorem rel_a {T : List (Nat × Nat)} {s : SV} {v : V} {a : A} (r : RelSV ρ gk gb T s v) (h : s.a? = some a) : v.erA = a.den ρ:=by
 cases s <;> simp [SV.a?] at h
 ·subst h; exact r
 ·subst h
  obtain ⟨es,h1,h2⟩:=r
  rw [h1]
  rcases h2 with ⟨rfl,_⟩ | ⟨i,_,rfl,_⟩ <;> simp [V.erA,erAs_map]
 ·subst h
  have : v = .sl .full []:=r
  rw [this]; rfl
 ·subst h; exact r.1
theorem selfA_spec {t b : Nat} {s : SV} {a : A} (h : selfA t b s = some a) : s = .self t b a:=by
 unfold selfA at h
 split at h
 ·rename_i t' b' a'
  cases hc : (Nat.beq t' t && Nat.beq b' b) with
  | false=>rw [hc] at h; simp at h
  | true =>
   rw [hc] at h
   simp only [cond_true,Option.some.injEq] at h
   simp only [Bool.and_eq_true] at hc
   rw [h,Nat.eq_of_beq_eq_true hc.1,Nat.eq_of_beq_eq_true hc.2]
 ·simp at h
theorem self_rel {T : List (Nat × Nat)} {t b l : Nat} {s : SV} {a : A} {v : V} (h : selfA t b s = some a) (hb : gb[b]? = some l) (r : RelSV ρ gk gb T s v) :
  (a.den ρ = .bool false ∧ v = .nilp) ∨ (a.den ρ = .bool true ∧ v = .ptr l 0):=by
 obtain ⟨rfl⟩:=selfA_spec h
 obtain ⟨l',h1,h2⟩:=r
 rw [hb] at h1
 simp only [Option.some.injEq] at h1
 subst h1
 exact h2
theorem self_below {t b : Nat} {s : SV} {a : A} {n : Nat} (hb : s.below n = true) (h : selfA t b s = some a) : a.below n = true:=by
 obtain ⟨rfl⟩:=selfA_spec h
 exact hb
theorem below_a {s : SV} {a : A} {n : Nat} (hb : s.below n = true) (h : s.a? = some a) : a.below n = true:=by
 cases s <;> simp [SV.a?] at h <;> subst h <;> first | exact hb | rfl
theorem constSV_ok (v : V) : (∀ T,RelSV ρ gk gb T (constSV v) v) ∧ ∀ n,(constSV v).below n = true:=by
 unfold constSV
 split
 ·exact ⟨fun _=>rfl,fun _=>rfl⟩
 ·exact ⟨fun _=>rfl,fun _=>rfl⟩
theorem Conc.opnd (c : Conc N gk gb S ρ env m) {x : Operand} {s : SV} (h : S.opnd x = some s) : ∃ v,Fbs.ev env x = some v ∧ RelSV ρ gk gb m.T s v ∧ s.below S.nv = true:=by
 cases x with
 | tmp t =>
  obtain ⟨h1,h2,h3⟩:=c.slots t s h
  refine ⟨env.f t,?_,h2,h3⟩
  simp only [Fbs.ev,Env.get]
  rw [if_pos (by rw [c.n]; exact h1)]
 | const v =>
  simp only [SS.opnd,Option.map_eq_some_iff] at h
  obtain ⟨u,h1,rfl⟩:=h
  exact ⟨u,h1,(constSV_ok (ρ:=ρ) (gk:=gk) (gb:=gb) u).1 _,(constSV_ok (ρ:=ρ) (gk:=gk) (gb:=gb) u).2 _⟩
 | func f =>
  simp only [SS.opnd,Option.some.injEq] at h
  subst h
  exact ⟨_,rfl,rfl,rfl⟩
 | global g=>simp [SS.opnd] at h
theorem Conc.opA (c : Conc N gk gb S ρ env m) {x : Operand} {a : A} (h : S.opA x = some a) : ∃ v,Fbs.ev env x = some v ∧ v.erA = a.den ρ ∧ a.below S.nv = true:=by
 simp only [SS.opA,Option.bind_eq_some_iff] at h
 obtain ⟨s,h1,h2⟩:=h
 obtain ⟨v,h3,h4,h5⟩:=c.opnd h1
 exact ⟨v,h3,rel_a h4 h2,below_a h5 h2⟩
theorem rel_ag {T : List (Nat × Nat)} {s : SV} {v : V} {a : A} {g : Gd} (hsame : ∀ a b : Gd,Gd.same a b = true → a = b) (r : RelSV ρ gk gb T s v) (h : s.ag g = some a) : onG ρ g → v.erA = a.den ρ:=by
 cases s with
 | gval a' g' =>
  simp only [SV.ag] at h
  cases hg : Gd.same g' g with
  | false=>rw [hg] at h; simp at h
  | true =>
   rw [hg] at h
   simp only [cond_true,Option.some.injEq] at h
   subst h
   rw [← hsame g' g hg]; exact r.1
 | _=>exact fun _=>rel_a r h
theorem below_ag {s : SV} {a : A} {g : Gd} {n : Nat} (hb : s.below n = true) (h : s.ag g = some a) : a.below n = true:=by
 cases s with
 | gval a' g' =>
  simp only [SV.ag] at h
  simp only [SV.below,Bool.and_eq_true] at hb
  cases hg : Gd.same g' g with
  | false=>rw [hg] at h; simp at h
  | true=>rw [hg] at h; simp only [cond_true,Option.some.injEq] at h; subst h; exact hb.1
 | _=>exact below_a hb h
theorem sameV_spec {x y : V} (h : sameV x y = true) : x = y:=by
 unfold sameV at h
 split at h <;> simp_all
theorem A.same_spec {a b : A} (h : a.same b = true) : a = b:=by
 unfold A.same at h
 split at h
 ·rw [Nat.eq_of_beq_eq_true h]
 ·simp only [Bool.and_eq_true] at h
  rw [Nat.eq_of_beq_eq_true h.1,Nat.eq_of_beq_eq_true h.2]
 ·rw [sameV_spec h]
 ·simp at h
theorem Gd.same_spec {a b : Gd} (h : Gd.same a b = true) : a = b:=by
 unfold Gd.same at h
 split at h
 ·rfl
 ·simp only [Bool.and_eq_true,beq_iff_eq] at h
  rw [A.same_spec h.1,h.2]
 ·simp at h
theorem Conc.opAg (c : Conc N gk gb S ρ env m) {g : Gd} {x : Operand} {a : A} (h : S.opAg g x = some a) : ∃ v,Fbs.ev env x = some v ∧ (onG ρ g → v.erA = a.den ρ) ∧ a.below S.nv = true:=by
 simp only [SS.opAg,Option.bind_eq_some_iff] at h
 obtain ⟨s,h1,h2⟩:=h
 obtain ⟨v,h3,h4,h5⟩:=c.opnd h1
 exact ⟨v,h3,rel_ag (fun _ _=>Gd.same_spec) h4 h2,below_ag h5 h2⟩
theorem Conc.opAsg (c : Conc N gk gb S ρ env m) {g : Gd} : ∀ {xs : List Operand} {as : List A},S.opAsg g xs = some as → ∃ vs,Fbs.evs env xs = some vs ∧ (onG ρ g → vs.map V.erA = as.map (A.den ρ)) ∧ as.all (A.below S.nv) = true ∧ vs.length = as.length
 | [],as,h=>by simp [SS.opAsg] at h; subst h; exact ⟨[],rfl,fun _=>rfl,rfl,rfl⟩
 | x :: xs,as,h=>by
  simp only [SS.opAsg] at h
  split at h
  ·rename_i a as' h1 h2
   simp only [Option.some.injEq] at h
   subst h
   obtain ⟨v,h3,h4,h5⟩:=c.opAg h1
   obtain ⟨vs,h6,h7,h8,h9⟩:=c.opAsg h2
   exact ⟨v :: vs,by simp only [Fbs.evs,h3,h6],fun hon=>by simp [h4 hon,h7 hon],by simp only [List.all_cons,h5,h8]; rfl,by simp [h9]⟩
  ·simp at h
theorem Conc.opAg? (c : Conc N gk gb S ρ env m) {g : Gd} {x : Option Operand} {a : Option A} (h : S.opAg? g x = some a) : ∃ v,optEv env x = some v ∧ (onG ρ g → v.map V.erA = a.map (A.den ρ)) ∧ (∀ b,a = some b → b.below S.nv = true):=by
 cases x with
 | none=>simp [SS.opAg?] at h; subst h; exact ⟨none,rfl,fun _=>rfl,fun _ h=>by simp at h⟩
 | some x =>
  simp only [SS.opAg?,Option.map_eq_some_iff] at h
  obtain ⟨a,h1,rfl⟩:=h
  obtain ⟨v,h3,h4,h5⟩:=c.opAg h1
  exact ⟨some v,by simp [optEv,h3],fun hon=>by simp [h4 hon],fun b hb=>by simp at hb; subst hb; exact h5⟩
theorem Conc.opPk (c : Conc N gk gb S ρ env m) {g side : Gd} {x : Operand} {a : A} (h : S.opPk g side x = some a) : ∃ v,Fbs.ev env x = some v ∧ (onG ρ g → onG ρ side → v.erA = a.den ρ) ∧ a.below S.nv = true:=by
 simp only [SS.opPk,Option.bind_eq_some_iff] at h
 obtain ⟨s,h1,h2⟩:=h
 obtain ⟨v,h3,h4,h5⟩:=c.opnd h1
 unfold SV.pk at h2
 split at h2
 ·rename_i a' ha
  simp only [Option.some.injEq] at h2
  subst h2
  exact ⟨v,h3,fun hg _=>rel_ag (fun _ _=>Gd.same_spec) h4 ha hg,below_ag h5 ha⟩
 ·exact ⟨v,h3,fun _ hs=>rel_ag (fun _ _=>Gd.same_spec) h4 h2 hs,below_ag h5 h2⟩
theorem Conc.knows (c : Conc N gk gb S ρ env m) {a : A} {n : Nat} (h : S.knows a n = true) : KnownV n (a.den ρ):=by
 cases a with
 | v i =>
  simp only [SS.knows] at h
  split at h
  ·rename_i q hq
   have:=Nat.eq_of_beq_eq_true h
   subst this
   exact (c.known i q hq).2
  ·simp at h
 | c i j =>
  simp only [SS.knows,Bool.and_eq_true] at h
  obtain ⟨h0,h⟩:=h
  have:=Nat.eq_of_beq_eq_true h0
  subst this
  split at h
  ·rename_i q hq
   have hj:=blt_lt h
   have:=(c.known i q hq).2
   cases q with
   | zero=>omega
   | succ q =>
    obtain ⟨cs,h1,h2,h3⟩:=this
    show sc (cellD (ρ i) j) = true
    rw [h1]
    simp only [cellD,V.cells]
    rw [List.getD_eq_getElem?_getD,List.getElem?_eq_getElem (by omega)]
    exact List.all_eq_true.1 h3 _ (List.getElem_mem _)
  ·simp at h
 | k x =>
  simp only [SS.knows,Bool.and_eq_true] at h
  have:=Nat.eq_of_beq_eq_true h.1
  subst this
  exact h.2
theorem hasN_mem {l : List Nat} {i : Nat} (h : hasN l i = true) : i ∈ l:=by
 unfold hasN at h
 rw [List.any_eq_true] at h
 obtain ⟨j,h1,h2⟩:=h
 rw [Nat.eq_of_beq_eq_true h2]; exact h1
theorem Conc.isB (c : Conc N gk gb S ρ env m) {a : A} (h : S.isB a = true) : isBU (a.den ρ) = true:=by
 cases a with
 | v i=>exact (c.bools i (hasN_mem h)).2
 | k x=>exact h
 | c i j=>simp [SS.isB] at h
theorem Conc.addB (c : Conc N gk gb S ρ env m) {a : A} (ha : a.below S.nv = true) (h : isBU (a.den ρ) = true) : ∀ i ∈ S.addB a,i < S.nv ∧ isBU (ρ i) = true:=by
 cases a with
 | v i =>
  intro j hj
  simp only [SS.addB] at hj
  cases hb : hasN S.bools i with
  | true=>rw [hb] at hj; exact c.bools j hj
  | false =>
   rw [hb] at hj
   simp only [cond_false,List.mem_cons] at hj
   rcases hj with rfl | hj
   ·exact ⟨blt_lt ha,h⟩
   ·exact c.bools j hj
 | k x=>exact c.bools
 | c i j=>exact c.bools
theorem Conc.knows_lt (c : Conc N gk gb S ρ env m) {i n : Nat} (h : S.knows (.v i) n = true) : i < S.nv:=by
 simp only [SS.knows] at h
 split at h
 ·rename_i q hq; exact (c.known i q hq).1
 ·simp at h
end
end Go.Fbs

/- A word is spoken: what is known behind it. -/
namespace Go.Fbs
def guardO (ρ : Nat → V) (g : Gd) (o : Option V) : Option V :=
 match g with
 | none=>o
 | some (a,b)=>guardV (a.den ρ) b o
theorem bindG_eq (p : PT) (ρ : Nat → V) (e : E) (g : Gd) : bindG p ρ e g = guardO ρ g (e.ev p ρ):=by
 cases g <;> rfl
theorem guardV_some {x : V} {b : Bool} {o : Option V} {y : V} (h : guardV x b o = some y) : (x = .bool b ∧ o = some y) ∨ (x ≠ .bool b ∧ y = .undef ∧ ∀ o' : Option V,guardV x b o' = some .undef):=by
 unfold guardV at h
 cases x with
 | bool t =>
  simp only at h
  by_cases ht : t = b
  ·subst ht; simp at h; exact .inl ⟨rfl,h⟩
  ·have : (t == b) = false:=by simpa using ht
   rw [this] at h
   simp at h
   exact .inr ⟨by simp [ht],h.symm,fun o'=>by simp [guardV,ht]⟩
 | undef=>simp at h; exact .inr ⟨by simp,h.symm,fun _=>rfl⟩
 | _=>simp at h
theorem guardO_some {ρ : Nat → V} {g : Gd} {o : Option V} {y : V} (h : guardO ρ g o = some y) : (onG ρ g ∧ o = some y) ∨ (¬ onG ρ g ∧ y = .undef ∧ ∀ o',guardO ρ g o' = some .undef):=by
 cases g with
 | none=>exact .inl ⟨trivial,h⟩
 | some q =>
  obtain ⟨a,b⟩:=q
  rcases guardV_some h with ⟨h1,h2⟩ | ⟨h1,h2,h3⟩
  ·exact .inl ⟨h1,h2⟩
  ·exact .inr ⟨h1,h2,h3⟩
theorem guardO_on {ρ : Nat → V} {g : Gd} (h : onG ρ g) (o : Option V) : guardO ρ g o = o:=by
 cases g with
 | none=>rfl
 | some q =>
  obtain ⟨a,b⟩:=q
  simp only [onG] at h
  simp [guardO,h,guardV]
theorem aggN_spec {n k : Nat} (h : aggN n = some k) : k = n ∧ 0 < n:=by
 unfold aggN at h
 cases hb : Nat.beq n 0 with
 | true=>rw [hb] at h; simp at h
 | false =>
  rw [hb] at h
  simp at h
  refine ⟨h.symm,Nat.pos_of_ne_zero fun e=>?_⟩
  subst e; simp at hb
theorem kind_ok {p : PT} {ρ : Nat → V} {e : E} {y : V} {n : Nat} (h : e.ev p ρ = some y) (hk : kindE e = some n) : KnownV n y:=by
 have s0 : ∀ {o : Option V},o = some y → some 0 = some n → (∀ z,o = some z → sc z = true) → KnownV n y:=fun ho h0 hs=>by
  simp only [Option.some.injEq] at h0; subst h0; exact hs _ ho
 cases e with
 | id a=>simp [kindE] at hk
 | pre n a=>simp [kindE] at hk
 | flip m1 m2 s i c =>
  simp only [E.ev] at h
  refine s0 h hk fun z hz=>?_
  unfold flipK at hz
  split at hz
  ·split at hz
   ·split at hz
    ·simp only [Option.some.injEq] at hz; subst hz; rfl
    ·simp only [Option.map_eq_some_iff] at hz; obtain ⟨_,_,rfl⟩:=hz; rfl
   ·simp at hz
  ·simp at hz
 | lenS a=>simp only [E.ev] at h; exact s0 h hk fun z hz=>by unfold lenS at hz; split at hz <;> simp at hz; subst hz; rfl
 | lenL a=>simp only [E.ev] at h; exact s0 h hk fun z hz=>by unfold lenL at hz; split at hz <;> simp at hz; subst hz; rfl
 | bin op a b=>simp only [E.ev] at h; exact s0 h hk fun z hz=>(binK_sc hz).2
 | eqB q a b=>simp only [E.ev] at h; exact s0 h hk fun z hz=>by unfold eqBK at hz; split at hz <;> simp at hz; subst hz; rfl
 | eqA q g a b =>
  simp only [E.ev] at h
  refine s0 h hk fun z hz=>?_
  unfold eqAK at hz
  split at hz
  ·simp only [Option.map_eq_some_iff] at hz; obtain ⟨_,_,rfl⟩:=hz; rfl
  ·simp at hz
 | un op a =>
  simp only [E.ev] at h
  refine s0 h hk fun z hz=>?_
  unfold unV at hz
  split at hz <;> simp at hz <;> subst hz <;> rfl
 | mm g a b=>simp only [E.ev] at h; exact s0 h hk fun z hz=>by unfold mmK at hz; split at hz <;> simp at hz; subst hz; rfl
 | convI q a=>simp only [E.ev] at h; exact s0 h hk fun z hz=>by unfold convI at hz; split at hz <;> simp at hz; subst hz; rfl
 | convSS a=>simp only [E.ev] at h; exact s0 h hk fun z hz=>by unfold convSS at hz; split at hz <;> simp at hz; subst hz; rfl
 | convBS a =>
  simp only [E.ev] at h
  refine s0 h hk fun z hz=>?_
  unfold convBS at hz
  split at hz
  ·simp only [Option.map_eq_some_iff] at hz; obtain ⟨_,_,rfl⟩:=hz; rfl
  ·simp at hz
 | slS a lo hi =>
  simp only [E.ev] at h
  refine s0 h hk fun z hz=>?_
  unfold sliceS at hz
  split at hz <;> (try (simp at hz; done))
  split at hz <;> (try (simp at hz; done))
  split at hz <;> simp at hz; subst hz; rfl
 | slL q a lo hi =>
  simp only [E.ev] at h
  refine s0 h hk fun z hz=>?_
  unfold slLK at hz
  split at hz <;> (try (simp at hz; done))
  split at hz <;> (try (simp at hz; done))
  split at hz <;> (try (simp at hz; done))
  split at hz <;> simp at hz; subst hz; rfl
 | idxS a i =>
  simp only [E.ev] at h
  refine s0 h hk fun z hz=>?_
  unfold indexS at hz
  split at hz <;> (try (simp at hz; done))
  split at hz <;> (try (simp at hz; done))
  simp only [Option.map_eq_some_iff] at hz; obtain ⟨_,_,rfl⟩:=hz; rfl
 | idxL g q a i =>
  simp only [E.ev] at h
  unfold idxLK at h
  split at h <;> (try (simp at h; done))
  split at h <;> (try (simp at h; done))
  split at h <;> (try (simp at h; done))
  cases g with
  | true =>
   simp only [kindE,cond_true] at hk
   obtain ⟨rfl,hp⟩:=aggN_spec hk
   simp only [if_true] at h
   have:=(chk_spec h).1
   subst this
   exact KnownV_agg hp h
  | false =>
   simp only [kindE,cond_false,Option.some.injEq] at hk
   subst hk
   simp only [Bool.false_eq_true,if_false] at h
   obtain ⟨rfl,h2⟩:=chk1_spec h
   exact h2
 | idxA len g q a i=>simp [kindE] at hk
 | inb q i =>
  simp only [E.ev] at h
  refine s0 h hk fun z hz=>?_
  unfold inbK at hz
  split at hz <;> (try (simp at hz; done))
  split at hz <;> simp at hz; subst hz; rfl
 | nth l i =>
  simp only [E.ev] at h
  refine s0 h hk fun z hz=>?_
  unfold nthK at hz
  split at hz <;> (try (simp at hz; done))
  split at hz <;> (try (simp at hz; done))
  split at hz <;> (try (simp at hz; done))
  exact (chk1_spec hz).1 ▸ (chk1_spec hz).2
 | part g q off a =>
  simp only [E.ev] at h
  unfold partK at h
  split at h <;> (try (simp at h; done))
  cases g with
  | true =>
   simp only [kindE,cond_true] at hk
   obtain ⟨rfl,hp⟩:=aggN_spec hk
   simp only [if_true] at h
   split at h <;> (try (simp at h; done))
   have:=(chk_spec h).1
   subst this
   exact KnownV_agg hp h
  | false =>
   simp only [kindE,cond_false,Option.some.injEq] at hk
   subst hk
   simp only [Bool.false_eq_true,if_false] at h
   split at h <;> (try (simp at h; done))
   obtain ⟨rfl,h2⟩:=chk1_spec h
   exact h2
 | agg l =>
  simp only [kindE] at hk
  obtain ⟨rfl,hp⟩:=aggN_spec hk
  simp only [E.ev,aggK] at h
  split at h
  ·rename_i hs
   simp only [Option.some.injEq] at h
   subst h
   cases hl : l.length with
   | zero=>omega
   | succ q=>exact ⟨_,rfl,by rw [List.length_map,hl],hs⟩
  ·simp at h
 | lit q l=>simp only [E.ev] at h; exact s0 h hk fun z hz=>by unfold litK at hz; split at hz <;> simp at hz; subst hz; rfl
 | make q z b l c =>
  simp only [E.ev] at h
  refine s0 h hk fun z hz=>?_
  unfold makeK at hz
  split at hz <;> (try (simp at hz; done))
  split at hz <;> simp at hz; subst hz; rfl
 | app q b x y =>
  simp only [E.ev] at h
  refine s0 h hk fun z hz=>?_
  unfold appK at hz
  split at hz <;> (try (simp at hz; done))
  split at hz <;> simp at hz; subst hz; rfl
 | appS b x y =>
  simp only [E.ev] at h
  refine s0 h hk fun z hz=>?_
  unfold appSK at hz
  split at hz <;> (try (simp at hz; done))
  unfold appK at hz
  split at hz <;> (try (simp at hz; done))
  split at hz <;> simp at hz; subst hz; rfl
 | call f l=>simp [kindE] at hk
 | callv f l=>simp [kindE] at hk
 | fn f l=>simp only [E.ev] at h; exact s0 h hk fun z hz=>by simp at hz; subst hz; rfl
 | nilF a=>simp only [E.ev] at h; exact s0 h hk fun z hz=>by unfold nilFK at hz; split at hz <;> simp at hz; subst hz; rfl
 | ext a i=>simp [kindE] at hk
 | pick c a b=>simp [kindE] at hk
 | chk q a =>
  simp only [kindE] at hk
  obtain ⟨rfl,hp⟩:=aggN_spec hk
  have:=(chk_spec h).1
  subst this
  exact KnownV_agg hp h
 | chk1 a=>simp only [E.ev] at h; exact s0 h hk fun z hz=>by obtain ⟨rfl,h2⟩:=chk1_spec hz; exact h2
 | chkB a=>simp [kindE] at hk
section
variable {p : PT} {Q : V → Prop} {ks : List (List V → Prop)} {N : Nat} {gk : Nat → Option Nat} {gb : List Nat} {S : SS} {ρ : Nat → V} {env : Env} {m : Hp}
theorem intBin_cmp {op : BinOp} {k : IntKind} {a b : Int} {v : V} (h : intBin op k a b = some v) (hc : cmpOp op = true) : isBU v = true:=by
 cases op <;> simp [cmpOp] at hc <;> simp [intBin] at h <;> subst h <;> rfl
theorem strBin_cmp {op : BinOp} {a b : List UInt8} {v : V} (h : strBin op a b = some v) (hc : cmpOp op = true) : isBU v = true:=by
 cases op <;> simp [cmpOp] at hc <;> simp [strBin] at h <;> subst h <;> rfl
theorem bool_ok (c : Conc N gk gb S ρ env m) {e : E} {y : V} (h : e.ev p ρ = some y) (hb : boolE S e = true) : isBU y = true:=by
 cases e with
 | bin op a b =>
  simp only [boolE] at hb
  simp only [E.ev] at h
  unfold binK at h
  split at h
  ·cases op <;> simp only [cmpOp,Bool.false_eq_true] at hb <;> (simp only at h; split at h) <;> first | exact intBin_cmp h rfl | (simp at h)
  ·exact strBin_cmp h hb
  ·simp at h
 | eqB q a b=>simp only [E.ev] at h; unfold eqBK at h; split at h <;> simp at h; subst h; rfl
 | eqA q g a b =>
  simp only [E.ev] at h; unfold eqAK at h
  split at h
  ·simp only [Option.map_eq_some_iff] at h; obtain ⟨_,_,rfl⟩:=h; rfl
  ·simp at h
 | un op a =>
  cases op <;> simp [boolE] at hb
  simp only [E.ev] at h; unfold unV at h
  split at h <;> simp_all <;> subst h <;> rfl
 | pick q a b =>
  simp only [boolE,Bool.and_eq_true] at hb
  simp only [E.ev] at h; unfold pickV at h
  split at h
  ·rename_i t _
   simp only [Option.some.injEq] at h
   subst h
   cases t
   ·exact c.isB hb.2
   ·exact c.isB hb.1
  ·simp at h
 | _=>simp [boolE] at hb
theorem emit_ok (c : Conc N gk gb S ρ env m) {g : Gd} {e : E} {k : A → SS → OL} {L : L} (h : emit g e S k = some L) (hw : L.wp p Q S.nv ρ ks) :
  ∃ y L' kn bl,guardO ρ g (e.ev p ρ) = some y ∧ k (.v S.nv) (S.wit (S.nv + 1) kn bl) = some L' ∧ L'.wp p Q (S.nv + 1) (ext ρ S.nv y) ks ∧ Conc N gk gb (S.wit (S.nv + 1) kn bl) (ext ρ S.nv y) env m:=by
 simp only [emit,Option.map_eq_some_iff] at h
 obtain ⟨L',h1,rfl⟩:=h
 simp only [L.wp,bindG_eq] at hw
 cases hy : guardO ρ g (e.ev p ρ) with
 | none=>rw [hy] at hw; exact hw.elim
 | some y =>
  rw [hy] at hw
  refine ⟨y,L',_,_,rfl,h1,hw,?_⟩
  refine c.more (agree_ext ρ S.nv y) (Nat.le_succ _) ?_ ?_
  rotate_left
  ·have old : ∀ i ∈ S.bools,i < S.nv + 1 ∧ isBU (ext ρ S.nv y i) = true:=fun i hi=>by
    obtain ⟨h2,h3⟩:=c.bools i hi
    exact ⟨by omega,by rw [agree_ext ρ S.nv y i h2]; exact h3⟩
   intro i hi
   cases hbe : boolE S e with
   | false=>rw [hbe] at hi; exact old i hi
   | true =>
    rw [hbe] at hi
    simp only [cond_true,List.mem_cons] at hi
    rcases hi with rfl | hi
    ·refine ⟨by omega,?_⟩
     rw [ext_at]
     rcases guardO_some hy with ⟨_,h5⟩ | ⟨_,rfl,_⟩
     ·exact bool_ok c h5 hbe
     ·rfl
    ·exact old i hi
  have old : ∀ i n,assoc S.known i = some n → i < S.nv + 1 ∧ KnownV n (ext ρ S.nv y i):=fun i n hi=>by
   obtain ⟨h2,h3⟩:=c.known i n hi
   exact ⟨by omega,by rw [agree_ext ρ S.nv y i h2]; exact h3⟩
  intro i n hi
  split at hi
  ·rename_i q hk
   simp only [assoc] at hi
   by_cases hb : Nat.beq S.nv i = true
   ·rw [hb] at hi
    simp only [cond_true,Option.some.injEq] at hi
    subst hi
    have:=Nat.eq_of_beq_eq_true hb
    subst this
    exact ⟨by omega,by rw [ext_at]; exact kind_ok hy hk⟩
   ·have hb' : Nat.beq S.nv i = false:=by
     cases hc : Nat.beq S.nv i with
     | false=>rfl
     | true=>exact absurd hc hb
    rw [hb'] at hi
    exact old i n hi
  ·exact old i n hi
def Fin (p : PT) (Q : V → Prop) (ks : List (List V → Prop)) (N : Nat) (ρ : Nat → V) (S : SS) (env : Env) (k : SV → SS → OL) (o : V → Hp → Prop) : Prop :=
 ∃ v m' s S' ρ' L' gk' gb',o v m' ∧ k s S' = some L' ∧ L'.wp p Q S'.nv ρ' ks ∧ Conc N gk' gb' S' ρ' env m' ∧ RelSV ρ' gk' gb' m'.T s v ∧ s.below S'.nv = true ∧ AgreeN ρ ρ' S.nv ∧ S.nv ≤ S'.nv ∧ S'.dep = S.dep
theorem Fin.step {S1 : SS} {ρ1 : Nat → V} {k : SV → SS → OL} {o : V → Hp → Prop} (h : Fin p Q ks N ρ1 S1 env k o) (ha : AgreeN ρ ρ1 S.nv) (hn : S.nv ≤ S1.nv) (hd : S1.dep = S.dep) : Fin p Q ks N ρ S env k o:=by
 obtain ⟨v,m',s,S',ρ',L',gk',gb',h1,h2,h3,h4,h5,h6,h7,h8,h9⟩:=h
 exact ⟨v,m',s,S',ρ',L',gk',gb',h1,h2,h3,h4,h5,h6,ha.trans h7 hn,Nat.le_trans hn h8,h9.trans hd⟩
theorem Fin.mono {k : SV → SS → OL} {o o' : V → Hp → Prop} (h : Fin p Q ks N ρ S env k o) (ho : ∀ v m,o v m → o' v m) : Fin p Q ks N ρ S env k o':=by
 obtain ⟨v,m',s,S',ρ',L',gk',gb',h1,h2⟩:=h
 exact ⟨v,m',s,S',ρ',L',gk',gb',ho _ _ h1,h2⟩
theorem fin_alias (c : Conc N gk gb S ρ env m) {k : SV → SS → OL} {L : L} {s : SV} {v : V} {o : V → Hp → Prop} (h : k s S = some L) (hw : L.wp p Q S.nv ρ ks) (ho : o v m) (hr : RelSV ρ gk gb m.T s v) (hb : s.below S.nv = true) : Fin p Q ks N ρ S env k o :=
 ⟨v,m,s,S,ρ,L,gk,gb,ho,h,hw,c,hr,hb,AgreeN.refl _ _,Nat.le_refl _,rfl⟩
theorem v_below (n : Nat) : A.below (n + 1) (.v n) = true:=Nat.ble_eq_true_of_le (Nat.le_refl _)
theorem fin_emit (c : Conc N gk gb S ρ env m) {g : Gd} {e : E} {k : SV → SS → OL} {L : L} {o : Option V} (h : emitV g e S k = some L) (hw : L.wp p Q S.nv ρ ks)
  (hq : onG ρ g → ∀ w,e.ev p ρ = some w → ∃ v,o = some v ∧ v.erA = w) : Fin p Q ks N ρ S env k (fun v m'=>m' = m ∧ guardO ρ g o = some v):=by
 obtain ⟨y,L',kn,bl,h1,h2,h3,h4⟩:=emit_ok c h hw
 have : ∃ v,guardO ρ g o = some v ∧ v.erA = y:=by
  rcases guardO_some h1 with ⟨hon,h5⟩ | ⟨hoff,rfl,h6⟩
  ·obtain ⟨v,h7,h8⟩:=hq hon y h5
   exact ⟨v,by rw [guardO_on hon]; exact h7,h8⟩
  ·exact ⟨.undef,h6 o,rfl⟩
 obtain ⟨v,h5,h6⟩:=this
 refine ⟨v,m,_,_,_,L',gk,gb,⟨rfl,h5⟩,h2,h3,h4,?_,v_below _,agree_ext _ _ _,Nat.le_succ _,rfl⟩
 show v.erA = ext ρ S.nv y S.nv
 rw [ext_at]; exact h6
theorem cellsOf_get (i n : Nat) : ∀ (j q : Nat),q < n → (cellsOf i n j)[q]? = some (.c i (j + q)):=by
 induction n with
 | zero=>intro j q h; omega
 | succ n ih =>
  intro j q h
  cases q with
  | zero=>rfl
  | succ q=>simp only [cellsOf,List.getElem?_cons_succ]; rw [ih (j + 1) q (by omega)]; congr 2; omega
theorem cellsOf_len (i n : Nat) : ∀ j,(cellsOf i n j).length = n:=by
 induction n with
 | zero=>intro j; rfl
 | succ n ih=>intro j; simp [cellsOf,ih]
theorem cellsOf_den (ρ : Nat → V) {i n : Nat} {cs : List V} (h : (ρ i).cells = cs) (hl : cs.length = n) : (cellsOf i n 0).map (A.den ρ) = cs:=by
 apply List.ext_getElem?
 intro q
 by_cases hq : q < n
 ·rw [List.getElem?_map,cellsOf_get i n 0 q hq,List.getElem?_eq_getElem (by omega)]
  simp only [Option.map_some,A.den,cellD,Nat.zero_add,h]
  rw [List.getD_eq_getElem?_getD,List.getElem?_eq_getElem (by omega)]; rfl
 ·rw [List.getElem?_eq_none (by simp [cellsOf_len]; omega),List.getElem?_eq_none (by omega)]
theorem cellsOf_below {i n nv : Nat} (h : i < nv) : ∀ j,(cellsOf i n j).all (A.below nv) = true:=by
 induction n with
 | zero=>intro j; rfl
 | succ n ih=>intro j; simp only [cellsOf,List.all_cons,ih,Bool.and_true]; exact Nat.ble_eq_true_of_le h
theorem KnownV_pos {n : Nat} {v : V} (hn : 0 < n) (h : KnownV n v) : ∃ cs,v = .agg cs ∧ cs.length = n ∧ cs.all sc = true:=by
 cases n with
 | zero=>omega
 | succ n=>exact h
theorem cellsX_ok (c : Conc N gk gb S ρ env m) {g : Gd} {n : Nat} {a : A} {k : List A → SS → OL} {L : L} (h : cellsX g n a S k = some L) (hw : L.wp p Q S.nv ρ ks) :
  ∃ i nv kn bl ρ' L',k (cellsOf i n 0) (S.wit nv kn bl) = some L' ∧ L'.wp p Q nv ρ' ks ∧ Conc N gk gb (S.wit nv kn bl) ρ' env m ∧ 0 < n ∧ i < nv ∧ S.nv ≤ nv ∧ AgreeN ρ ρ' S.nv ∧ (onG ρ g → ρ' i = a.den ρ ∧ KnownV n (ρ' i)):=by
 unfold cellsX at h
 cases hn0 : Nat.beq n 0 with
 | true=>rw [hn0] at h; simp at h
 | false =>
  rw [hn0] at h
  simp only [cond_false] at h
  have hn : 0 < n:=Nat.pos_of_ne_zero fun e=>by subst e; simp at hn0
  have viaChk : ∀ {L : Go.Fbs.L} (_ : L.wp p Q S.nv ρ ks),emit g (.chk n a) S (fun _ S'=>k (cellsOf S.nv n 0) S') = some L → ∃ i nv kn bl ρ' L',k (cellsOf i n 0) (S.wit nv kn bl) = some L' ∧ L'.wp p Q nv ρ' ks ∧ Conc N gk gb (S.wit nv kn bl) ρ' env m ∧ 0 < n ∧ i < nv ∧ S.nv ≤ nv ∧ AgreeN ρ ρ' S.nv ∧ (onG ρ g → ρ' i = a.den ρ ∧ KnownV n (ρ' i)):=by
   intro L hw he
   obtain ⟨y,L',kn,bl,h1,h2,h3,h4⟩:=emit_ok c he hw
   refine ⟨S.nv,S.nv + 1,kn,bl,_,L',h2,h3,h4,hn,Nat.lt_succ_self _,Nat.le_succ _,agree_ext _ _ _,fun hon=>?_⟩
   rw [guardO_on hon] at h1
   rw [ext_at]
   simp only [E.ev] at h1
   have:=(chk_spec h1).1
   subst this
   exact ⟨rfl,KnownV_agg hn h1⟩
  split at h
  ·rename_i i
   cases hk : S.knows (.v i) n with
   | true =>
    rw [hk] at h
    simp only [cond_true] at h
    exact ⟨i,S.nv,S.known,(S.bools,S.gvars),ρ,L,h,hw,c,hn,c.knows_lt hk,Nat.le_refl _,AgreeN.refl _ _,fun _=>⟨rfl,c.knows hk⟩⟩
   | false =>
    rw [hk] at h
    exact viaChk hw h
  ·exact viaChk hw h
theorem cell1X_ok (c : Conc N gk gb S ρ env m) {g : Gd} {a : A} (hab : a.below S.nv = true) {k : A → SS → OL} {L : L} (h : cell1X g a S k = some L) (hw : L.wp p Q S.nv ρ ks) :
  ∃ a' nv kn bl ρ' L',k a' (S.wit nv kn bl) = some L' ∧ L'.wp p Q nv ρ' ks ∧ Conc N gk gb (S.wit nv kn bl) ρ' env m ∧ a'.below nv = true ∧ S.nv ≤ nv ∧ AgreeN ρ ρ' S.nv ∧ (onG ρ g → a'.den ρ' = a.den ρ ∧ sc (a.den ρ) = true):=by
 unfold cell1X at h
 cases hk : S.knows a 0 with
 | true =>
  rw [hk] at h
  simp only [cond_true] at h
  exact ⟨a,S.nv,S.known,(S.bools,S.gvars),ρ,L,h,hw,c,hab,Nat.le_refl _,AgreeN.refl _ _,fun _=>⟨rfl,c.knows hk⟩⟩
 | false =>
  rw [hk] at h
  simp only [cond_false] at h
  obtain ⟨y,L',kn,bl,h1,h2,h3,h4⟩:=emit_ok c h hw
  refine ⟨.v S.nv,S.nv + 1,kn,bl,_,L',h2,h3,h4,v_below _,Nat.le_succ _,agree_ext _ _ _,fun hon=>?_⟩
  rw [guardO_on hon] at h1
  simp only [E.ev] at h1
  obtain ⟨rfl,h5⟩:=chk1_spec h1
  exact ⟨ext_at _ _ _,h5⟩
end
end Go.Fbs

/- Operations that leave the memory as it is. -/
namespace Go.Fbs
def GOk (S : SS) (ρ : Nat → V) (g : Gd) : Prop:=Gd.below S.nv g = true ∧ ∀ a b,g = some (a,b) → isBU (a.den ρ) = true
theorem guardO_off {S : SS} {ρ : Nat → V} {g : Gd} (hg : GOk S ρ g) (h : ¬ onG ρ g) (o : Option V) : guardO ρ g o = some .undef:=by
 cases g with
 | none=>exact absurd trivial h
 | some q =>
  obtain ⟨a,b⟩:=q
  have:=hg.2 a b rfl
  simp only [onG] at h
  simp only [guardO]
  cases hd : a.den ρ with
  | bool t =>
   rw [hd] at h
   simp only [guardV]
   have : (t == b) = false:=by
    cases t <;> cases b <;> simp_all
   rw [this]; rfl
  | undef=>rfl
  | _=>rw [hd] at this; simp [isBU] at this
theorem GOk.more {S : SS} {ρ ρ' : Nat → V} {g : Gd} (hg : GOk S ρ g) {nv : Nat} (hn : S.nv ≤ nv) (ha : AgreeN ρ ρ' S.nv) {kn : List (Nat × Nat)} {bl : List Nat × List Nat} : GOk (S.wit nv kn bl) ρ' g :=
 ⟨Gd.below_mono hg.1 hn,fun a b h=>by
  have hb : a.below S.nv = true:=by have:=hg.1; rw [h] at this; exact this
  rw [den_agree ha hb]; exact hg.2 a b h⟩
section
variable {P : Program} {tt : TT} (hT : ∀ t ti,tiOf tt t = some ti → TOk P ti ∧ ti.t = t)
variable {p : PT} {Q : V → Prop} {ks : List (List V → Prop)} {N : Nat} {gk : Nat → Option Nat} {gb : List Nat} {S : SS} {ρ : Nat → V} {env : Env} {m : Hp}
abbrev QO (P : Program) (tt : TT) (p : PT) (ρ : Nat → V) (g : Gd) (env : Env) (m : Hp) (op : Op) : V → Hp → Prop:=fun v m'=>m' = m ∧ guardO ρ g (evalQ P (CE tt p) env m.H op) = some v
theorem fin_id (c : Conc N gk gb S ρ env m) {g : Gd} {k : SV → SS → OL} {L : L} {o : Option V} {s : SV} {v : V} {a : A}
  (h : (match g with | none=>k s S | some _=>k (.gval a g) S) = some L) (hg : GOk S ρ g) (hw : L.wp p Q S.nv ρ ks) (ho : onG ρ g → o = some v) (hr : g = none → RelSV ρ gk gb m.T s v) (hb : s.below S.nv = true) (hab : a.below S.nv = true) (ha : onG ρ g → v.erA = a.den ρ) :
  Fin p Q ks N ρ S env k (fun v m'=>m' = m ∧ guardO ρ g o = some v):=by
 cases g with
 | none=>exact fin_alias c h hw ⟨rfl,ho trivial⟩ (hr rfl) hb
 | some q =>
  have hbel : SV.below S.nv (.gval a (some q)) = true:=by simp only [SV.below,hab,Bool.true_and]; exact hg.1
  by_cases hon : onG ρ (some q)
  ·exact fin_alias c h hw ⟨rfl,by rw [guardO_on hon]; exact ho hon⟩ ⟨fun _=>ha hon,fun h=>absurd hon h⟩ hbel
  ·exact fin_alias c h hw ⟨rfl,guardO_off hg hon o⟩ ⟨fun h=>absurd h hon,fun _=>rfl⟩ hbel
theorem fin_emitT (c : Conc N gk gb S ρ env m) {g : Gd} {as : List A} {e : E} {k : SV → SS → OL} {L : L} {o : Option V} (h : emitT g as e S k = some L) (hg : GOk S ρ g) (hw : L.wp p Q S.nv ρ ks)
  (hq : onG ρ g → ∀ w,e.ev p ρ = some w → ∃ v,o = some v ∧ v.erA = w) : Fin p Q ks N ρ S env k (fun v m'=>m' = m ∧ guardO ρ g o = some v):=by
 cases g with
 | none=>exact fin_emit c h hw hq
 | some q =>
  simp only [emitT] at h
  cases hs : as.all S.sure with
  | false=>rw [hs] at h; exact fin_emit c h hw hq
  | true =>
   rw [hs] at h
   simp only [cond_true] at h
   obtain ⟨y,L',kn,bl,h1,h2,h3,h4⟩:=emit_ok c h hw
   have hgi : onG (ext ρ S.nv y) (some q) ↔ onG ρ (some q):=onG_agree (agree_ext _ _ _) hg.1
   have hbel : SV.below (S.nv + 1) (.gval (.v S.nv) (some q)) = true:=by
    simp only [SV.below,Bool.and_eq_true]
    exact ⟨v_below _,Gd.below_mono hg.1 (Nat.le_succ _)⟩
   by_cases hon : onG ρ (some q)
   ·obtain ⟨v,h5,h6⟩:=hq hon y h1
    exact ⟨v,m,_,_,_,L',gk,gb,⟨rfl,by rw [guardO_on hon]; exact h5⟩,h2,h3,h4,⟨fun _=>by show v.erA = ext ρ S.nv y S.nv; rw [ext_at]; exact h6,fun h=>absurd (hgi.2 hon) h⟩,hbel,agree_ext _ _ _,Nat.le_succ _,rfl⟩
   ·exact ⟨.undef,m,_,_,_,L',gk,gb,⟨rfl,guardO_off hg hon o⟩,h2,h3,h4,⟨fun h=>absurd (hgi.1 h) hon,fun _=>rfl⟩,hbel,agree_ext _ _ _,Nat.le_succ _,rfl⟩
theorem q_move (c : Conc N gk gb S ρ env m) {g : Gd} {x : Operand} {k : SV → SS → OL} {L : L}
  (h : (match S.opnd x with | some s=>(match g with | none=>k s S | some _=>(match s.ag g with | some a=>k (.gval a g) S | none=>(match s with | .ptr b off none=>k (.ptr b off g) S | _=>none))) | none=>none) = some L) (hg : GOk S ρ g) (hw : L.wp p Q S.nv ρ ks) :
  Fin p Q ks N ρ S env k (fun v m'=>m' = m ∧ guardO ρ g (Fbs.ev env x) = some v):=by
 split at h
 ·rename_i s hs
  obtain ⟨v,h1,h2,h3⟩:=c.opnd hs
  cases g with
  | none=>exact fin_alias c h hw ⟨rfl,h1⟩ h2 h3
  | some q =>
   simp only at h
   split at h
   ·rename_i a ha
    exact fin_id c (s:=s) h hg hw (fun _=>h1) (fun h=>by simp at h) h3 (below_ag h3 ha) (rel_ag (fun _ _=>Gd.same_spec) h2 ha)
   ·split at h
    ·rename_i b off hno
     obtain ⟨l,h4,rfl⟩:=h2.1 trivial
     by_cases hon : onG ρ (some q)
     ·exact ⟨.ptr l off,m,_,S,ρ,L,gk,gb,⟨rfl,by rw [guardO_on hon]; exact h1⟩,h,hw,c,⟨fun _=>⟨l,h4,rfl⟩,fun hn=>absurd hon hn⟩,hg.1,AgreeN.refl _ _,Nat.le_refl _,rfl⟩
     ·exact ⟨.undef,m,_,S,ρ,L,gk,gb,⟨rfl,guardO_off hg hon _⟩,h,hw,c,⟨fun h=>absurd h hon,fun _=>rfl⟩,hg.1,AgreeN.refl _ _,Nat.le_refl _,rfl⟩
    ·simp at h
 ·simp at h
theorem q_pick (c : Conc N gk gb S ρ env m) {g : Gd} (hg : GOk S ρ g) {x y z : Operand} {k : SV → SS → OL} {L : L}
  (h : opX tt g (.pick x y z) S k = some L) (hw : L.wp p Q S.nv ρ ks) :
  Fin p Q ks N ρ S env k (QO P tt p ρ g env m (.pick x y z)):=by
 simp only [opX] at h
 split at h
 ·rename_i a1 e1
  split at h
  ·rename_i a2 a3 e2 e3
   obtain ⟨v1,h1,h1',_⟩:=c.opAg e1
   obtain ⟨v2,h2,h2',_⟩:=c.opPk e2
   obtain ⟨v3,h3,h3',_⟩:=c.opPk e3
   refine fin_emitT c h hg hw fun hon w hw'=>?_
   simp only [E.ev] at hw'
   simp only [evalQ,h1,h2,h3]
   unfold pickV at hw'
   split at hw'
   ·rename_i t ht
    simp only [Option.some.injEq] at hw'
    have hv1 : v1 = .bool t:=erA_bool (by rw [h1' hon]; exact ht)
    subst hv1
    refine ⟨_,rfl,?_⟩
    cases t with
    | true=>simp only [if_true] at hw' ⊢; rw [← hw']; exact h2' hon ht
    | false=>simp only [Bool.false_eq_true,if_false] at hw' ⊢; rw [← hw']; exact h3' hon ht
   ·simp at hw'
  ·simp at h
 ·simp at h
theorem rels_a {T : List (Nat × Nat)} : ∀ {l : List SV} {as : List A} {cs : List V},aList l = some as → l.length = cs.length → (∀ (j : Nat) s v,l[j]? = some s → cs[j]? = some v → RelSV ρ gk gb T s v) → cs.map V.erA = as.map (A.den ρ)
 | [],as,cs,h,hl,_=>by
  simp [aList] at h; subst h
  cases cs with
  | nil=>rfl
  | cons=>simp at hl
 | s :: l,as,cs,h,hl,hr=>by
  simp only [aList] at h
  split at h
  ·rename_i a as' h1 h2
   simp only [Option.some.injEq] at h
   subst h
   cases cs with
   | nil=>simp at hl
   | cons v cs =>
    simp only [List.map_cons]
    rw [rel_a (hr 0 s v rfl rfl) h1,rels_a h2 (by simpa using hl) (fun j s v h3 h4=>hr (j + 1) s v (by simpa using h3) (by simpa using h4))]
  ·simp at h
theorem isWhole_spec {i : Nat} : ∀ (as : List A) (j : Nat),isWhole i j as = true → as = cellsOf i as.length j
 | [],j,_=>rfl
 | .c i' j' :: r,j,h=>by
  simp only [isWhole,Bool.and_eq_true] at h
  have h1:=Nat.eq_of_beq_eq_true h.1.1
  have h2:=Nat.eq_of_beq_eq_true h.1.2
  subst h1; subst h2
  simp only [List.length_cons,cellsOf]
  rw [← isWhole_spec r (j + 1) h.2]
 | .v _ :: r,j,h=>by simp [isWhole] at h
 | .k _ :: r,j,h=>by simp [isWhole] at h
theorem loadX_ok (c : Conc N gk gb S ρ env m) {t : TypeId} {ti : TI} (tok : TOk P ti) (htt : ti.t = t) {g : Gd} (hgk : GOk S ρ g) {cells : List SV} {cs : List V} (hc : Cells ρ gk gb m.T S.nv cells cs) {off : Nat} {k : SV → SS → OL} {L : L} {o : Option V}
  (h : loadX ti g cells off S k = some L) (hw : L.wp p Q S.nv ρ ks) (ho : onG ρ g → o = loadT P t (cs.drop off)) : Fin p Q ks N ρ S env k (fun v m'=>m' = m ∧ guardO ρ g o = some v):=by
 have hag:=tok.agg; have hsz:=tok.sz
 rw [htt] at hag hsz
 have hload : loadT P t (cs.drop off) = loadT' ti.agg ti.sz (cs.drop off):=loadT_K hag hsz _
 rw [hload] at ho
 unfold loadX at h
 cases hg : ti.agg with
 | true =>
  rw [hg] at h ho
  simp only [cond_true] at h
  cases hle : Nat.ble (off + ti.sz) cells.length with
  | false=>rw [hle] at h; simp at h
  | true =>
   rw [hle] at h
   simp only [cond_true] at h
   have hle':=Nat.le_of_ble_eq_true hle
   split at h
   ·rename_i as has
    have hlen : ((cells.drop off).take ti.sz).length = ((cs.drop off).take ti.sz).length:=by simp [hc.1]
    have hden:=rels_a (ρ:=ρ) (gk:=gk) (gb:=gb) (T:=m.T) has hlen (fun j s v h1 h2=>by
     rw [List.getElem?_take] at h1 h2
     split at h1
     ·rename_i hj
      rw [if_pos hj] at h2
      rw [List.getElem?_drop] at h1 h2
      exact (hc.2 _ s v h1 h2).1
     ·simp at h1)
    have hval : loadT' true ti.sz (cs.drop off) = some (.agg ((cs.drop off).take ti.sz)):=by
     unfold loadT'
     rw [if_pos rfl,if_pos (by rw [List.length_drop,← hc.1]; omega)]
    have viaAgg : ∀ {L : Go.Fbs.L},L.wp p Q S.nv ρ ks → emitT g as (.agg as) S k = some L → Fin p Q ks N ρ S env k (fun v m'=>m' = m ∧ guardO ρ g o = some v):=fun hw he=>by
     refine fin_emitT c he hgk hw fun hon w hw'=>⟨_,(ho hon).trans hval,?_⟩
     simp only [E.ev,aggK] at hw'
     split at hw'
     ·simp only [Option.some.injEq] at hw'
      rw [← hw']
      simp only [V.erA,erAs_map]
      rw [hden]
     ·simp at hw'
    split at h
    ·rename_i i hi
     cases hwh : (isWhole i 0 as && S.knows (.v i) ti.sz && Nat.beq as.length ti.sz) with
     | false=>rw [hwh] at h; exact viaAgg hw h
     | true =>
      rw [hwh] at h
      simp only [cond_true] at h
      simp only [Bool.and_eq_true] at hwh
      have hl:=Nat.eq_of_beq_eq_true hwh.2
      have hk:=c.knows hwh.1.2
      have hpos : 0 < ti.sz:=by
       rw [← hl]
       cases as with
       | nil=>simp [wholeOf] at hi
       | cons=>simp
      obtain ⟨ds,hd1,hd2,hd3⟩:=KnownV_pos hpos hk
      have has2:=isWhole_spec as 0 hwh.1.1
      refine fin_alias c h hw ⟨rfl,(ho trivial).trans hval⟩ ?_ ?_
      ·show V.erA _ = A.den ρ (.v i)
       rw [hd1]
       simp only [V.erA,erAs_map]
       rw [hden,has2,hl,cellsOf_den ρ (cs:=ds) (by show (A.den ρ (.v i)).cells = ds; rw [hd1]; rfl) hd2]
      ·exact Nat.ble_eq_true_of_le (c.knows_lt hwh.1.2)
    ·exact viaAgg hw h
   ·simp at h
 | false =>
  rw [hg] at h ho
  simp only [cond_false] at h
  split at h
  ·rename_i s hs
   have hlt : off < cells.length:=(List.getElem?_eq_some_iff.1 hs).1
   obtain ⟨v,hv⟩ : ∃ v,cs[off]? = some v:=⟨cs[off]'(by rw [← hc.1]; exact hlt),List.getElem?_eq_getElem _⟩
   obtain ⟨h1,h2⟩:=hc.2 off s v hs hv
   have hval : loadT' false ti.sz (cs.drop off) = some v:=by
    unfold loadT'
    rw [if_neg (by simp),List.getElem?_drop]; exact hv
   cases g with
   | none=>exact fin_alias c h hw ⟨rfl,(ho trivial).trans hval⟩ h1 h2
   | some q =>
    simp only at h
    split at h
    ·rename_i a ha
     exact fin_id c (s:=s) h hgk hw (fun hon=>(ho hon).trans hval) (fun h=>by simp at h) h2 (below_a h2 ha) (fun _=>rel_a h1 ha)
    ·simp at h
  ·simp at h
theorem guardFits_on {hv g : Gd} (h : guardFits hv g = true) (hon : onG ρ g) : onG ρ hv:=by
 unfold guardFits at h
 cases hv with
 | none=>trivial
 | some q=>rw [Gd.same_spec h]; exact hon
theorem KnownV_zero {v : V} (h : KnownV 0 v) : sc v = true:=h
include hT in
theorem q_load (c : Conc N gk gb S ρ env m) {g : Gd} (hgk : GOk S ρ g) {t : TypeId} {x : Operand} {k : SV → SS → OL} {L : L} (h : opX tt g (.load t x) S k = some L) (hw : L.wp p Q S.nv ρ ks) :
  Fin p Q ks N ρ S env k (QO P tt p ρ g env m (.load t x)):=by
 simp only [opX] at h
 split at h
 ·rename_i b off hv ti hx hti
  obtain ⟨tok,htt⟩:=hT t ti hti
  obtain ⟨v,h1,h2,h3⟩:=c.opnd hx
  cases hf : guardFits hv g with
  | false=>rw [hf] at h; simp at h
  | true =>
   rw [hf] at h
   simp only [cond_true] at h
   split at h
   ·rename_i cells hb
    obtain ⟨l,cs,h0,⟨e9,h4,_⟩,h5⟩:=c.boxes b cells hb
    refine loadX_ok c tok htt hgk h5 h hw fun hon=>?_
    obtain ⟨l',hl,hv'⟩:=h2.1 (guardFits_on hf hon)
    rw [h0] at hl
    simp only [Option.some.injEq] at hl
    subst hl
    simp only [evalQ,ev1,h1,hv',loadV,h4]
   ·simp at h
 ·rename_i a n off hv ti hx hti
  obtain ⟨tok,htt⟩:=hT t ti hti
  have hag:=tok.agg; have hsz:=tok.sz
  rw [htt] at hag hsz
  obtain ⟨v,h1,h2,h3⟩:=c.opnd hx
  have hbel : a.below S.nv = true:=by simp only [SV.below,Bool.and_eq_true] at h3; exact h3.1
  cases hf : guardFits hv g with
  | false=>rw [hf] at h; simp at h
  | true =>
   rw [hf] at h
   simp only [cond_true] at h
   have hev : onG ρ g → ∃ cs : List V,cs.map V.erA = (a.den ρ).cells ∧ KnownV n (a.den ρ) ∧ evalQ P (CE tt p) env m.H (.load t x) = loadT' ti.agg ti.sz (cs.drop off):=fun hon=>by
    obtain ⟨cs,h4,h5,h6⟩:=h2.1 (guardFits_on hf hon)
    refine ⟨cs,h5,h6,?_⟩
    simp only [evalQ,ev1,h1,h4,loadV]
    exact loadT_K hag hsz _
   have part : ∀ {pg : Bool} {pn : Nat} {L : Go.Fbs.L},L.wp p Q S.nv ρ ks → 0 < n → ti.agg = pg → (pg = true → pn = ti.sz) → emitT g [a] (.part pg pn off a) S k = some L → Fin p Q ks N ρ S env k (QO P tt p ρ g env m (.load t x)):=by
    intro pg pn L hw hn hpg hpn he
    refine fin_emitT c he hgk hw fun hon w hw'=>?_
    obtain ⟨cs,h5,h6,h7⟩:=hev hon
    rw [h7,hpg]
    obtain ⟨ds,hd1,hd2,hd3⟩:=KnownV_pos hn h6
    simp only [E.ev] at hw'
    have : a.den ρ = (V.agg cs).erA:=by rw [hd1]; simp only [V.erA,erAs_map,h5,hd1]; rfl
    rw [this] at hw'
    obtain ⟨cs',v',e1,e2,e3,_⟩:=c_part hw'
    simp only [V.agg.injEq] at e1
    subst e1
    refine ⟨v',?_,e3⟩
    rw [← e2]
    cases pg with
    | true=>simp only [loadT',partT',if_true,hpn rfl,List.length_drop]; split <;> split <;> first | rfl | (exfalso; rename_i q1 q2; simp [partT',hpn rfl] at e2; omega)
    | false=>simp only [loadT',partT',Bool.false_eq_true,if_false,List.getElem?_drop]; rfl
   cases hn0 : Nat.beq n 0 with
   | true =>
    have hn : n = 0:=Nat.eq_of_beq_eq_true hn0
    subst hn
    rw [hn0] at h
    simp only [cond_true] at h
    cases hcond : (Nat.beq off 0 && !ti.agg) with
    | false=>rw [hcond] at h; simp at h
    | true =>
     rw [hcond] at h
     simp only [cond_true] at h
     simp only [Bool.and_eq_true,Bool.not_eq_true'] at hcond
     have ho:=Nat.eq_of_beq_eq_true hcond.1
     subst ho
     by_cases hon : onG ρ g
     ·obtain ⟨cs,h5,h6,h7⟩:=hev hon
      have hs:=KnownV_zero h6
      rw [sc_cells hs] at h5
      obtain ⟨u,rfl⟩ : ∃ u,cs = [u]:=by
       have:=congrArg List.length h5
       simp only [List.length_map,List.length_singleton] at this
       exact List.length_eq_one_iff.1 this
      simp only [List.map_cons,List.map_nil,List.cons.injEq,and_true] at h5
      have h8 : evalQ P (CE tt p) env m.H (.load t x) = some u:=by rw [h7,hcond.2]; rfl
      exact fin_id c (s:=.val a) (v:=u) h hgk hw (fun _=>h8) (fun _=>h5) hbel hbel (fun _=>h5)
     ·cases g with
      | none=>exact absurd trivial hon
      | some q=>exact fin_id c (v:=.undef) (s:=.val a) h hgk hw (fun hon'=>absurd hon' hon) (fun h=>by simp at h) hbel hbel (fun hon'=>absurd hon' hon)
   | false =>
    have hn : 0 < n:=Nat.pos_of_ne_zero fun e=>by subst e; simp at hn0
    rw [hn0] at h
    simp only [cond_false] at h
    cases hg : ti.agg with
    | true =>
     rw [hg] at h
     simp only [cond_true] at h
     cases hcond : (Nat.beq off 0 && Nat.beq ti.sz n) with
     | false =>
      rw [hcond] at h
      exact part hw hn hg (fun _=>rfl) h
     | true =>
      rw [hcond] at h
      simp only [cond_true] at h
      simp only [Bool.and_eq_true] at hcond
      have ho:=Nat.eq_of_beq_eq_true hcond.1
      have hz:=Nat.eq_of_beq_eq_true hcond.2
      subst ho
      by_cases hon : onG ρ g
      ·obtain ⟨cs,h5,h6,h7⟩:=hev hon
       obtain ⟨ds,hd1,hd2,hd3⟩:=KnownV_pos hn h6
       have hl : cs.length = n:=by rw [← hd2]; have:=congrArg List.length h5; rw [hd1] at this; simpa [V.cells] using this
       have h8 : evalQ P (CE tt p) env m.H (.load t x) = some (.agg cs):=by
        rw [h7,hg]
        simp only [List.drop_zero,loadT',if_true]
        rw [if_pos (by omega),List.take_of_length_le (by omega)]
       have h9 : (V.agg cs).erA = a.den ρ:=by simp only [V.erA,erAs_map,h5]; rw [hd1]; rfl
       exact fin_id c (s:=.val a) (v:=.agg cs) h hgk hw (fun _=>h8) (fun _=>h9) hbel hbel (fun _=>h9)
      ·cases g with
       | none=>exact absurd trivial hon
       | some q=>exact fin_id c (v:=.undef) (s:=.val a) h hgk hw (fun hon'=>absurd hon' hon) (fun h=>by simp at h) hbel hbel (fun hon'=>absurd hon' hon)
    | false =>
     rw [hg] at h
     simp only [cond_false] at h
     split at h
     ·rename_i i
      cases hcond : (S.knows (.v i) n && Nat.blt off n) with
      | false=>rw [hcond] at h; exact part hw hn hg (by simp) h
      | true =>
       rw [hcond] at h
       simp only [cond_true] at h
       simp only [Bool.and_eq_true] at hcond
       obtain ⟨cs,h5,h6,h7⟩:=hev trivial
       obtain ⟨ds,hd1,hd2,hd3⟩:=KnownV_pos hn h6
       have hl : cs.length = n:=by rw [← hd2]; have:=congrArg List.length h5; rw [hd1] at this; simpa [V.cells] using this
       have hlt:=blt_lt hcond.2
       refine fin_alias c h hw ⟨rfl,show evalQ P (CE tt p) env m.H (.load t x) = some (cs[off]'(by omega)) from ?_⟩ ?_ ?_
       ·rw [h7,hg]
        simp only [loadT',Bool.false_eq_true,if_false,List.getElem?_drop]
        exact List.getElem?_eq_getElem _
       ·show V.erA _ = cellD (A.den ρ (.v i)) off
        unfold cellD
        rw [← h5,List.getD_eq_getElem?_getD,List.getElem?_map,List.getElem?_eq_getElem (by omega)]
        rfl
       ·exact Nat.ble_eq_true_of_le (c.knows_lt hcond.1)
     ·exact part hw hn hg (by simp) h
 ·rename_i b off n i hv ti hx hti
  obtain ⟨tok,htt⟩:=hT t ti hti
  have hag:=tok.agg; have hsz:=tok.sz
  rw [htt] at hag hsz
  obtain ⟨v,h1,h2,h3⟩:=c.opnd hx
  cases hf : (guardFits hv g && !ti.agg) with
  | false=>rw [hf] at h; simp at h
  | true =>
   rw [hf] at h
   simp only [cond_true] at h
   simp only [Bool.and_eq_true,Bool.not_eq_true'] at hf
   split at h
   ·rename_i cells hb
    split at h
    ·rename_i as has
     obtain ⟨l,cs,h0,⟨e9,h4,_⟩,h5⟩:=c.boxes b cells hb
     refine fin_emit c h hw fun hon w hw'=>?_
     obtain ⟨l',q,z,e1,e2,e3,e4⟩:=h2.1 (guardFits_on hf.1 hon)
     rw [h0] at e1
     simp only [Option.some.injEq] at e1
     subst e1
     have hev : evalQ P (CE tt p) env m.H (.load t x) = cs[off + z]?:=by
      simp only [evalQ,ev1,h1,e4,loadV,h4]
      rw [loadT_K hag hsz,hf.2]
      simp only [loadT',Bool.false_eq_true,if_false,List.getElem?_drop,Nat.add_zero]
     have hcs : ((cs.drop off).take n).map V.erA = as.map (A.den ρ):=rels_a has (by simp [h5.1]) fun j s u g1 g2=>by
      rw [List.getElem?_take] at g1 g2
      split at g1
      ·rw [if_pos (by assumption)] at g2
       rw [List.getElem?_drop] at g1 g2
       exact (h5.2 _ s u g1 g2).1
      ·simp at g1
     simp only [E.ev,e2,← hcs] at hw'
     unfold nthK at hw'
     simp only at hw'
     rw [if_pos (by omega)] at hw'
     split at hw'
     ·rename_i u hu
      obtain ⟨rfl,_⟩:=chk1_spec hw'
      simp only [Int.toNat_natCast,List.getElem?_map,Option.map_eq_some_iff] at hu
      obtain ⟨u0,g1,g2⟩:=hu
      rw [List.getElem?_take,if_pos e3,List.getElem?_drop] at g1
      exact ⟨u0,by rw [hev]; exact g1,g2⟩
     ·simp at hw'
    ·simp at h
   ·simp at h
 ·simp at h
end
end Go.Fbs

/- The other operations that leave the memory as it is. -/
namespace Go.Fbs
section
variable {P : Program} {tt : TT} (hT : ∀ t ti,tiOf tt t = some ti → TOk P ti ∧ ti.t = t)
variable {p : PT} {Q : V → Prop} {ks : List (List V → Prop)} {N : Nat} {gk : Nat → Option Nat} {gb : List Nat} {S : SS} {ρ : Nat → V} {env : Env} {m : Hp}
theorem fin_addr (c : Conc N gk gb S ρ env m) {g : Gd} (hg : GOk S ρ g) {k : SV → SS → OL} {L : L} {o : Option V} {s : SV} (h : k s S = some L) (hw : L.wp p Q S.nv ρ ks) (hb : s.below S.nv = true)
  (hon : onG ρ g → ∃ v,o = some v ∧ RelSV ρ gk gb m.T s v) (hoff : ¬ onG ρ g → RelSV ρ gk gb m.T s .undef) : Fin p Q ks N ρ S env k (fun v m'=>m' = m ∧ guardO ρ g o = some v):=by
 by_cases ho : onG ρ g
 ·obtain ⟨v,h1,h2⟩:=hon ho
  exact fin_alias c h hw ⟨rfl,by rw [guardO_on ho]; exact h1⟩ h2 hb
 ·exact fin_alias c h hw ⟨rfl,guardO_off hg ho o⟩ (hoff ho) hb
theorem q_nilCheck (c : Conc N gk gb S ρ env m) {g : Gd} (hg : GOk S ρ g) {x : Operand} {k : SV → SS → OL} {L : L} (h : opX tt g (.nilCheck x) S k = some L) (hw : L.wp p Q S.nv ρ ks) :
  Fin p Q ks N ρ S env k (QO P tt p ρ g env m (.nilCheck x)):=by
 simp only [opX] at h
 have cnd : ∀ {hv : Gd},(g.same hv || hv.same none && g.same none) = true → g = hv:=fun {hv} e=>by
  simp only [Bool.or_eq_true,Bool.and_eq_true] at e
  rcases e with e | ⟨e1,e2⟩
  ·exact Gd.same_spec e
  ·rw [Gd.same_spec e1,Gd.same_spec e2]
 split at h
 ·rename_i b off hv hx
  obtain ⟨v,h1,h2,h3⟩:=c.opnd hx
  cases hc : (g.same hv || hv.same none && g.same none) with
  | false=>rw [hc] at h; simp at h
  | true =>
   rw [hc] at h
   have:=cnd hc
   subst this
   refine fin_addr c hg h hw h3 (fun ho=>⟨v,?_,h2⟩) (fun ho=>?_)
   ·obtain ⟨l,_,h4⟩:=h2.1 ho
    simp only [evalQ,ev1,h1,h4,nilV]
   ·rw [h2.2 ho] at h2; exact h2
 ·rename_i a n off hv hx
  obtain ⟨v,h1,h2,h3⟩:=c.opnd hx
  cases hc : (g.same hv || hv.same none && g.same none) with
  | false=>rw [hc] at h; simp at h
  | true =>
   rw [hc] at h
   have:=cnd hc
   subst this
   refine fin_addr c hg h hw h3 (fun ho=>⟨v,?_,h2⟩) (fun ho=>?_)
   ·obtain ⟨cs,h4,_⟩:=h2.1 ho
    simp only [evalQ,ev1,h1,h4,nilV]
   ·rw [h2.2 ho] at h2; exact h2
 ·rename_i s hx
  split at h
  ·rename_i a ha
   obtain ⟨v,h1,h2,h3⟩:=c.opnd hx
   refine fin_emit c h hw fun hon w hw'=>?_
   simp only [E.ev,← rel_ag (fun _ _=>Gd.same_spec) h2 ha hon] at hw'
   simp only [evalQ,ev1,h1]
   exact c_nilF hw'
  ·simp at h
 ·simp at h
include hT in
theorem q_binOp (c : Conc N gk gb S ρ env m) {g : Gd} (hgk : GOk S ρ g) {op : BinOp} {t u : TypeId} {x y : Operand} {k : SV → SS → OL} {L : L} (h : opX tt g (.binOp op t x y u) S k = some L) (hw : L.wp p Q S.nv ρ ks) :
  Fin p Q ks N ρ S env k (QO P tt p ρ g env m (.binOp op t x y u)):=by
 simp only [opX] at h
 split at h
 ·rename_i ti a b hti ha hb
  obtain ⟨tok,htt⟩:=hT t ti hti
  obtain ⟨v1,h1,h1',_⟩:=c.opAg ha
  obtain ⟨v2,h2,h2',_⟩:=c.opAg hb
  have hdd:=tok.d
  have hee:=tok.eq
  rw [htt] at hdd hee
  have hev : evalQ P (CE tt p) env m.H (.binOp op t x y u) = binV P op t v1 v2:=by simp only [evalQ,ev2,h1,h2]
  have cor : onG ρ g → ∀ w,(E.bin op a b).ev p ρ = some w → ∃ v,evalQ P (CE tt p) env m.H (.binOp op t x y u) = some v ∧ v.erA = w:=fun hon w hw'=>by
   simp only [E.ev,← h1' hon,← h2' hon] at hw'
   rw [hev]; exact c_bin hw'
  have int : ∀ {L : Go.Fbs.L},L.wp p Q S.nv ρ ks → emitB g op a b S k = some L → Fin p Q ks N ρ S env k (QO P tt p ρ g env m (.binOp op t x y u)):=fun hw he=>by
   unfold emitB at he
   cases op <;> first | exact fin_emit c he hw cor | exact fin_emitT c he hgk hw cor
  split at h
  ·exact int hw h
  ·exact int hw h
  ·rename_i hd
   rw [hd] at hdd
   cases he : ti.eq with
   | false=>rw [he] at h; simp at h
   | true =>
    rw [he] at h
    simp only [cond_true] at h
    have hgd:=(hee he).2
    split at h
    ·refine fin_emitT c h hgk hw fun hon w hw'=>?_
     simp only [E.ev,← h1' hon,← h2' hon] at hw'
     rw [hev]; exact c_eqB (neg:=false) hdd hgd hw'
    ·refine fin_emitT c h hgk hw fun hon w hw'=>?_
     simp only [E.ev,← h1' hon,← h2' hon] at hw'
     rw [hev]; exact c_eqB (neg:=true) hdd hgd hw'
    ·simp at h
  ·rename_i fs hd
   cases he : (ti.eq && ti.agg) with
   | false=>rw [he] at h; simp at h
   | true =>
    rw [he] at h
    simp only [cond_true] at h
    simp only [Bool.and_eq_true] at he
    have hgd:=(hee he.1).2
    split at h
    ·rename_i qs hqs
     have key : ∀ (neg : Bool) (w : V),eqAK qs neg v1.erA v2.erA = some w → ∃ v,binV P (if neg then .neq else .eql) t v1 v2 = some v ∧ v.erA = w:=by
      intro neg w hw'
      unfold eqAK at hw'
      split at hw'
      ·rename_i xs ys e1 e2
       obtain ⟨xs,rfl,rfl⟩:=erA_agg e1
       obtain ⟨ys,rfl,rfl⟩:=erA_agg e2
       simp only [Option.map_eq_some_iff] at hw'
       obtain ⟨r,e3,rfl⟩:=hw'
       have e4:=(eq_flat hT 20 t ti qs hti hqs).2 xs ys r (eqCells_erA e3)
       simp only [he.2,if_true] at e4
       cases neg <;> simp [binV,hgd,e4,V.erA]
      ·simp at hw'
     split at h
     ·refine fin_emitT c h hgk hw fun hon w hw'=>?_
      simp only [E.ev,← h1' hon,← h2' hon] at hw'
      rw [hev]; exact key false w hw'
     ·refine fin_emitT c h hgk hw fun hon w hw'=>?_
      simp only [E.ev,← h1' hon,← h2' hon] at hw'
      rw [hev]; exact key true w hw'
     ·simp at h
    ·simp at h
  ·simp at h
 ·simp at h
theorem q_unOp (c : Conc N gk gb S ρ env m) {g : Gd} (hgk : GOk S ρ g) {op : UnOp} {t : TypeId} {x : Operand} {k : SV → SS → OL} {L : L} (h : opX tt g (.unOp op t x) S k = some L) (hw : L.wp p Q S.nv ρ ks) :
  Fin p Q ks N ρ S env k (QO P tt p ρ g env m (.unOp op t x)):=by
 simp only [opX] at h
 split at h
 ·rename_i a ha
  obtain ⟨v1,h1,h1',_⟩:=c.opAg ha
  refine fin_emitT c h hgk hw fun hon w hw'=>?_
  simp only [E.ev,← h1' hon] at hw'
  simp only [evalQ,ev1,h1]
  exact c_un hw'
 ·simp at h
include hT in
theorem q_convert (c : Conc N gk gb S ρ env m) {g : Gd} (hgk : GOk S ρ g) {s d : TypeId} {x : Operand} {k : SV → SS → OL} {L : L} (h : opX tt g (.convert s d x) S k = some L) (hw : L.wp p Q S.nv ρ ks) :
  Fin p Q ks N ρ S env k (QO P tt p ρ g env m (.convert s d x)):=by
 simp only [opX] at h
 split at h
 ·rename_i si di a hsi hdi ha
  obtain ⟨stok,hst⟩:=hT s si hsi
  obtain ⟨dtok,hdt⟩:=hT d di hdi
  obtain ⟨v1,h1,h1',_⟩:=c.opAg ha
  have hs:=stok.d
  have hd:=dtok.d
  rw [hst] at hs
  rw [hdt] at hd
  have hev : evalQ P (CE tt p) env m.H (.convert s d x) = convQ P s d v1:=by simp only [evalQ,ev1,h1]
  split at h
  ·rename_i q1 q2 e1 e2
   rw [e1] at hs; rw [e2] at hd
   refine fin_emitT c h hgk hw fun hon w hw'=>?_
   simp only [E.ev,← h1' hon] at hw'
   rw [hev,convI_K hs hd]; exact c_convI hw'
  ·rename_i e1 e2
   rw [e1] at hs; rw [e2] at hd
   refine fin_emitT c h hgk hw fun hon w hw'=>?_
   simp only [E.ev,← h1' hon] at hw'
   rw [hev,convSS_K hs hd]; exact c_convSS hw'
  ·rename_i e e1 e2
   rw [e1] at hs; rw [e2] at hd
   split at h
   ·rename_i ei hei
    split at h
    ·rename_i e3
     obtain ⟨etok,het⟩:=hT e ei hei
     have he:=etok.d
     rw [het,e3] at he
     refine fin_emit c h hw fun hon w hw'=>?_
     simp only [E.ev,← h1' hon] at hw'
     rw [hev,convBS_K hs he hd]; exact c_convBS hw'
    ·simp at h
   ·simp at h
  ·simp at h
 ·simp at h
include hT in
theorem q_slice (c : Conc N gk gb S ρ env m) {g : Gd} {t : TypeId} {x : Operand} {lo hi : Option Operand} {k : SV → SS → OL} {L : L} (h : opX tt g (.slice t x lo hi none) S k = some L) (hw : L.wp p Q S.nv ρ ks) :
  Fin p Q ks N ρ S env k (QO P tt p ρ g env m (.slice t x lo hi none)):=by
 simp only [opX] at h
 split at h
 ·rename_i ti a l hh hti ha hl hhi
  obtain ⟨tok,htt⟩:=hT t ti hti
  obtain ⟨v1,h1,h1',_⟩:=c.opAg ha
  obtain ⟨v2,h2,h2',_⟩:=c.opAg? hl
  obtain ⟨v3,h3,h3',_⟩:=c.opAg? hhi
  have hd:=tok.d
  rw [htt] at hd
  have hev : evalQ P (CE tt p) env m.H (.slice t x lo hi none) = sliceV P t v1 v2 v3:=by simp only [evalQ,h1,h2,h3]
  split at h
  ·rename_i e1
   rw [e1] at hd
   refine fin_emit c h hw fun hon w hw'=>?_
   simp only [E.ev,← h1' hon,← h2' hon,← h3' hon] at hw'
   rw [hev,sliceS_K hd]; exact c_slS hw'
  ·rename_i e e1
   rw [e1] at hd
   split at h
   ·rename_i ei hei
    obtain ⟨etok,het⟩:=hT e ei hei
    have hz:=etok.sz
    rw [het] at hz
    cases hp : Nat.blt 0 ei.sz with
    | false=>rw [hp] at h; simp at h
    | true =>
     rw [hp] at h
     refine fin_emit c h hw fun hon w hw'=>?_
     simp only [E.ev,← h1' hon,← h2' hon,← h3' hon] at hw'
     rw [hev,sliceL_K hd hz (blt_lt hp)]; exact c_slL hw'
   ·simp at h
  ·simp at h
 ·simp at h
include hT in
theorem fieldOf {t : TypeId} {ti : TI} (hti : tiOf tt t = some ti) {fs : List (Nat × TypeId)} (hd : ti.d = .st fs) {f off : Nat} {ft : TypeId} (hf : fs[f]? = some (off,ft)) :
  ∃ (a : Array Field) (fd : Field),P.underlying t = some (.struct a) ∧ a[f]? = some fd ∧ fd.offset = off ∧ fd.type = ft:=by
 obtain ⟨tok,htt⟩:=hT t ti hti
 have hdd:=tok.d
 rw [htt,hd] at hdd
 obtain ⟨a,h1,h2,_⟩:=hdd
 rw [← h2,List.getElem?_map,Option.map_eq_some_iff] at hf
 obtain ⟨fd,h3,h4⟩:=hf
 simp only [Prod.mk.injEq] at h4
 exact ⟨a,fd,h1,by rw [← Array.getElem?_toList]; exact h3,h4.1,h4.2⟩
include hT in
theorem q_field (c : Conc N gk gb S ρ env m) {g : Gd} (hgk : GOk S ρ g) {t : TypeId} {x : Operand} {f : Nat} {k : SV → SS → OL} {L : L} (h : opX tt g (.field t x f) S k = some L) (hw : L.wp p Q S.nv ρ ks) :
  Fin p Q ks N ρ S env k (QO P tt p ρ g env m (.field t x f)):=by
 simp only [opX] at h
 split at h
 ·rename_i ti a hti ha
  obtain ⟨v1,h1,h1',hbel⟩:=c.opAg ha
  split at h
  ·rename_i fs hd
   split at h
   ·rename_i off ft hf
    split at h
    ·rename_i fi hfi
     obtain ⟨A',fd,hu,hfd,ho,hft⟩:=fieldOf hT hti hd hf
     obtain ⟨ftok,hftt⟩:=hT ft fi hfi
     have hag:=ftok.agg; have hsz:=ftok.sz
     rw [hftt] at hag hsz
     have hev : evalQ P (CE tt p) env m.H (.field t x f) = fieldK fi.agg fi.sz off v1:=by
      simp only [evalQ,ev1,h1]
      exact field_K hu hfd (by rw [hft]; exact hag) (by rw [hft]; exact hsz) ho v1
     have part : ∀ {pg : Bool} {pn : Nat} {L : Go.Fbs.L},L.wp p Q S.nv ρ ks → fi.agg = pg → (pg = true → pn = fi.sz) → emitT g [a] (.part pg pn off a) S k = some L → Fin p Q ks N ρ S env k (QO P tt p ρ g env m (.field t x f)):=by
      intro pg pn L hw hpg hpn he
      refine fin_emitT c he hgk hw fun hon w hw'=>?_
      simp only [E.ev,← h1' hon] at hw'
      obtain ⟨cs,v',e1,e2,e3,_⟩:=c_part hw'
      refine ⟨v',?_,e3⟩
      rw [hev,e1,hpg]
      simp only [fieldK]
      cases pg with
      | true=>rw [← hpn rfl]; exact e2
      | false=>simp only [partT',Bool.false_eq_true,if_false] at e2 ⊢; exact e2
     cases hg : fi.agg with
     | true=>rw [hg] at h; exact part hw hg (fun _=>rfl) h
     | false =>
      rw [hg] at h
      simp only [cond_false] at h
      cases hz1 : Nat.beq fi.sz 1 with
      | false=>rw [hz1] at h; simp at h
      | true =>
       rw [hz1] at h
       simp only [cond_true] at h
       split at h
       ·rename_i i
        cases hc : (S.knows (.v i) ti.sz && Nat.blt off ti.sz && Nat.blt 0 ti.sz) with
        | false=>rw [hc] at h; exact part hw hg (by simp) h
        | true =>
         rw [hc] at h
         simp only [cond_true] at h
         simp only [Bool.and_eq_true] at hc
         obtain ⟨ds,hd1,hd2,hd3⟩:=KnownV_pos (blt_lt hc.2) (c.knows hc.1.1)
         have hlt:=blt_lt hc.1.2
         replace h1':=h1' trivial
         rw [hd1] at h1'
         obtain ⟨cs,rfl,rfl⟩:=erA_agg h1'
         rw [List.length_map] at hd2
         refine fin_alias c h hw ⟨rfl,show evalQ P (CE tt p) env m.H (.field t x f) = some (cs[off]'(by omega)) from ?_⟩ ?_ ?_
         ·rw [hev,hg]
          simp only [fieldK,partT',Bool.false_eq_true,if_false]
          exact List.getElem?_eq_getElem _
         ·show V.erA _ = cellD (A.den ρ (.v i)) off
          rw [hd1]
          simp only [cellD,V.cells]
          rw [List.getD_eq_getElem?_getD,List.getElem?_map,List.getElem?_eq_getElem (by omega)]
          rfl
         ·exact Nat.ble_eq_true_of_le (c.knows_lt hc.1.1)
       ·exact part hw hg (by simp) h
    ·simp at h
   ·simp at h
  ·simp at h
 ·simp at h
include hT in
theorem q_fieldAddr (c : Conc N gk gb S ρ env m) {g : Gd} (hgk : GOk S ρ g) {t : TypeId} {x : Operand} {f : Nat} {k : SV → SS → OL} {L : L} (h : opX tt g (.fieldAddr t x f) S k = some L) (hw : L.wp p Q S.nv ρ ks) :
  Fin p Q ks N ρ S env k (QO P tt p ρ g env m (.fieldAddr t x f)):=by
 simp only [opX] at h
 split at h
 ·rename_i ti s hti hs
  obtain ⟨v1,h1,h2,hbel⟩:=c.opnd hs
  split at h
  ·rename_i fs hd
   split at h
   ·rename_i off ft hf
    split at h
    ·rename_i fi hfi
     obtain ⟨A',fd,hu,hfd,ho,hft⟩:=fieldOf hT hti hd hf
     obtain ⟨ftok,hftt⟩:=hT ft fi hfi
     have hsz:=ftok.sz
     rw [hftt] at hsz
     cases hp : Nat.blt 0 fi.sz with
     | false=>rw [hp] at h; simp at h
     | true =>
      rw [hp] at h
      simp only [cond_true] at h
      obtain ⟨q,hq⟩ : ∃ q,fi.sz = q + 1:=⟨fi.sz - 1,by have:=blt_lt hp; omega⟩
      have hev : evalQ P (CE tt p) env m.H (.fieldAddr t x f) = fieldAddrK off v1:=by
       simp only [evalQ,ev1,h1]
       exact fieldAddr_K hu hfd (by rw [hft,hsz,hq]) ho v1
      split at h
      ·rename_i b o hv
       cases hgf : guardFits hv g with
       | false=>rw [hgf] at h; simp at h
       | true =>
        rw [hgf] at h
        refine fin_addr c hgk h hw hgk.1 (fun hon=>?_) (fun hoff=>⟨fun h=>absurd h hoff,fun _=>rfl⟩)
        obtain ⟨l,hl,hv'⟩:=h2.1 (guardFits_on hgf hon)
        rw [hev,hv']
        exact ⟨_,rfl,fun _=>⟨l,hl,rfl⟩,fun h=>absurd hon h⟩
      ·rename_i a n o hv
       cases hgf : (guardFits hv g && Nat.blt 0 n) with
       | false=>rw [hgf] at h; simp at h
       | true =>
        rw [hgf] at h
        simp only [Bool.and_eq_true] at hgf
        refine fin_addr c hgk h hw ?_ (fun hon=>?_) (fun hoff=>⟨fun h=>absurd h hoff,fun _=>rfl⟩)
        ·simp only [SV.below,Bool.and_eq_true] at hbel ⊢
         exact ⟨hbel.1,hgk.1⟩
        ·obtain ⟨cs,h3,h4,h5⟩:=h2.1 (guardFits_on hgf.1 hon)
         rw [hev,h3]
         exact ⟨_,rfl,fun _=>⟨cs,by simp,h4,h5⟩,fun h=>absurd hon h⟩
      ·simp at h
    ·simp at h
   ·simp at h
  ·simp at h
 ·simp at h
include hT in
theorem q_indexAddr (c : Conc N gk gb S ρ env m) {g : Gd} (hgk : GOk S ρ g) {t : TypeId} {x i : Operand} {k : SV → SS → OL} {L : L} (h : opX tt g (.indexAddr t x i) S k = some L) (hw : L.wp p Q S.nv ρ ks) :
  Fin p Q ks N ρ S env k (QO P tt p ρ g env m (.indexAddr t x i)):=by
 simp only [opX] at h
 split at h
 ·rename_i b o hv hx
  obtain ⟨v1,h1,h1',h1b⟩:=c.opnd hx
  split at h
  ·rename_i ti j hti hj
   obtain ⟨tok,htt⟩:=hT t ti hti
   obtain ⟨v2,h2,h2',_⟩:=c.opAg hj
   have hd:=tok.d
   rw [htt] at hd
   split at h
   ·rename_i n e e1
    rw [e1] at hd
    split at h
    ·rename_i ei hei
     obtain ⟨etok,het⟩:=hT e ei hei
     have hz:=etok.sz
     rw [het] at hz
     cases hp : (guardFits hv g && Nat.blt 1 n && Nat.beq ei.sz 1) with
     | false=>rw [hp] at h; simp at h
     | true =>
      rw [hp] at h
      simp only [cond_true] at h
      simp only [Bool.and_eq_true] at hp
      have hn1:=blt_lt hp.1.2
      have hs1:=Nat.eq_of_beq_eq_true hp.2
      have hev : evalQ P (CE tt p) env m.H (.indexAddr t x i) = indexAddrA n ei.sz v1 v2:=by
       simp only [evalQ,ev2,h1,h2]
       exact indexAddrA_K hd hz v1 v2
      obtain ⟨y,L',kn,bl,e2,e3,e4,e5⟩:=emit_ok c h hw
      have hbel : SV.below (S.nv + 1) (.pix b o n (.v S.nv) g) = true:=by
       simp only [SV.below,Bool.and_eq_true]
       exact ⟨v_below _,Gd.below_mono hgk.1 (Nat.le_succ _)⟩
      have hgi : onG (ext ρ S.nv y) g ↔ onG ρ g:=onG_agree (agree_ext _ _ _) hgk.1
      rcases guardO_some e2 with ⟨hon,e6⟩ | ⟨hoff,rfl,e6⟩
      ·simp only [E.ev,← h2' hon] at e6
       obtain ⟨l,hl,hv1⟩:=h1'.1 (guardFits_on hp.1.1 hon)
       unfold inbK at e6
       split at e6
       ·rename_i q z hq
        split at e6
        ·rename_i hzn
         simp only [Option.some.injEq] at e6
         have hv2:=erA_int hq
         refine ⟨.ptr l (o + z.toNat),m,_,_,_,L',gk,gb,⟨rfl,?_⟩,e3,e4,e5,⟨fun _=>⟨l,q,z.toNat,hl,?_,by omega,rfl⟩,fun h=>absurd (hgi.2 hon) h⟩,hbel,agree_ext _ _ _,Nat.le_succ _,rfl⟩
         ·rw [guardO_on hon,hev,hv1,hv2]
          simp only [indexAddrA,hs1,Nat.mul_one]
          rw [if_pos ⟨hzn.1,hzn.2,hn1⟩]
         ·show ext ρ S.nv y S.nv = _
          rw [ext_at,← e6]
          congr 1; omega
        ·simp at e6
       ·simp at e6
      ·exact ⟨.undef,m,_,_,_,L',gk,gb,⟨rfl,e6 _⟩,e3,e4,e5,⟨fun h=>absurd (hgi.1 h) hoff,fun _=>rfl⟩,hbel,agree_ext _ _ _,Nat.le_succ _,rfl⟩
    ·simp at h
   ·simp at h
  ·simp at h
 ·split at h
  ·rename_i ti a j hti ha hj
   obtain ⟨tok,htt⟩:=hT t ti hti
   obtain ⟨v1,h1,h1',_⟩:=c.opAg ha
   obtain ⟨v2,h2,h2',_⟩:=c.opAg hj
   have hd:=tok.d
   rw [htt] at hd
   split at h
   ·rename_i e e1
    rw [e1] at hd
    split at h
    ·rename_i ei hei
     obtain ⟨etok,het⟩:=hT e ei hei
     have hz:=etok.sz
     rw [het] at hz
     cases hp : (Nat.blt 0 ei.sz && (ei.agg || Nat.beq ei.sz 1)) with
     | false=>rw [hp] at h; simp at h
     | true =>
      rw [hp] at h
      simp only [cond_true] at h
      simp only [Bool.and_eq_true,Bool.or_eq_true] at hp
      have hpos:=blt_lt hp.1
      obtain ⟨q,hq⟩ : ∃ q,ei.sz = q + 1:=⟨ei.sz - 1,by omega⟩
      have hev : evalQ P (CE tt p) env m.H (.indexAddr t x i) = indexAddrL ei.sz v1 v2:=by
       simp only [evalQ,ev2,h1,h2,hq]
       exact indexAddrL_K hd (by rw [hz,hq]) v1 v2
      obtain ⟨y,L',kn,bl,e2,e3,e4,e5⟩:=emit_ok c h hw
      have hbel : SV.below (S.nv + 1) (.elem (.v S.nv) (bif ei.agg then ei.sz else 0) 0 g) = true:=by
       simp only [SV.below,Bool.and_eq_true]
       exact ⟨v_below _,Gd.below_mono hgk.1 (Nat.le_succ _)⟩
      have hgi : onG (ext ρ S.nv y) g ↔ onG ρ g:=onG_agree (agree_ext _ _ _) hgk.1
      rcases guardO_some e2 with ⟨hon,e6⟩ | ⟨hoff,rfl,e6⟩
      ·simp only [E.ev,← h1' hon,← h2' hon] at e6
       obtain ⟨cs,e7,e8,e9⟩:=c_idxL e6 hpos (fun hg=>by
        rcases hp.2 with h | h
        ·rw [hg] at h; simp at h
        ·exact Nat.eq_of_beq_eq_true h)
       refine ⟨.ro cs,m,_,_,_,L',gk,gb,⟨rfl,?_⟩,e3,e4,e5,⟨fun _=>⟨cs,rfl,?_,?_⟩,fun h=>absurd (hgi.2 hon) h⟩,hbel,agree_ext _ _ _,Nat.le_succ _,rfl⟩
       ·rw [guardO_on hon,hev]; exact e7
       ·show _ = (ext ρ S.nv y S.nv).cells; rw [ext_at]; exact e8
       ·show KnownV _ (ext ρ S.nv y S.nv); rw [ext_at]
        cases hg : ei.agg <;> rw [hg] at e9 <;> exact e9
      ·exact ⟨.undef,m,_,_,_,L',gk,gb,⟨rfl,e6 _⟩,e3,e4,e5,⟨fun h=>absurd (hgi.1 h) hoff,fun _=>rfl⟩,hbel,agree_ext _ _ _,Nat.le_succ _,rfl⟩
    ·simp at h
   ·simp at h
  ·simp at h
include hT in
theorem q_index (c : Conc N gk gb S ρ env m) {g : Gd} {t : TypeId} {x i : Operand} {k : SV → SS → OL} {L : L} (h : opX tt g (.index t x i) S k = some L) (hw : L.wp p Q S.nv ρ ks) :
  Fin p Q ks N ρ S env k (QO P tt p ρ g env m (.index t x i)):=by
 simp only [opX] at h
 split at h
 ·rename_i ti a j hti ha hj
  obtain ⟨tok,htt⟩:=hT t ti hti
  obtain ⟨v1,h1,h1',_⟩:=c.opAg ha
  obtain ⟨v2,h2,h2',_⟩:=c.opAg hj
  have hd:=tok.d
  rw [htt] at hd
  have hev : evalQ P (CE tt p) env m.H (.index t x i) = indexV P t v1 v2:=by simp only [evalQ,ev2,h1,h2]
  split at h
  ·rename_i e1
   rw [e1] at hd
   refine fin_emit c h hw fun hon w hw'=>?_
   simp only [E.ev,← h1' hon,← h2' hon] at hw'
   rw [hev,indexS_K hd]; exact c_idxS hw'
  ·rename_i n e e1
   rw [e1] at hd
   split at h
   ·rename_i ei hei
    obtain ⟨etok,het⟩:=hT e ei hei
    have hz:=etok.sz; have hag:=etok.agg
    rw [het] at hz hag
    refine fin_emit c h hw fun hon w hw'=>?_
    simp only [E.ev,← h1' hon,← h2' hon] at hw'
    rw [hev,indexA_K hd hag hz]; exact c_idxA hw'
   ·simp at h
  ·simp at h
 ·simp at h
theorem q_extract (c : Conc N gk gb S ρ env m) {g : Gd} (hgk : GOk S ρ g) {x : Operand} {i : Nat} {k : SV → SS → OL} {L : L} (h : opX tt g (.extract x i) S k = some L) (hw : L.wp p Q S.nv ρ ks) :
  Fin p Q ks N ρ S env k (QO P tt p ρ g env m (.extract x i)):=by
 simp only [opX] at h
 split at h
 ·rename_i a ha
  obtain ⟨v1,h1,h1',_⟩:=c.opAg ha
  refine fin_emitT c h hgk hw fun hon w hw'=>?_
  simp only [E.ev,← h1' hon] at hw'
  simp only [evalQ,ev1,h1]
  exact c_ext hw'
 ·simp at h
theorem capsX_ok (c : Conc N gk gb S ρ env m) : ∀ {xs : List Operand} {l : List (Nat × Nat)},capsX S xs = some l → xs = l.map (fun q=>Operand.tmp q.1) ∧ ∃ cs,Fbs.evs env xs = some cs ∧ cs.length = l.length ∧ ∀ (i : Nat) q v,l[i]? = some q → cs[i]? = some v → ∃ l',gb[q.2]? = some l' ∧ v = .ptr l' 0
 | [],l,h=>by
  simp only [capsX,Option.some.injEq] at h
  subst h
  exact ⟨rfl,[],rfl,rfl,fun i q v hq _=>by simp at hq⟩
 | .tmp t :: r,l,h=>by
  simp only [capsX] at h
  split at h
  ·rename_i b l' h1 h2
   simp only [Option.some.injEq] at h
   subst h
   obtain ⟨e0,cs,e1,e2,e3⟩:=capsX_ok c h2
   obtain ⟨g1,g2,_⟩:=c.slots t _ h1
   obtain ⟨a,g3,g4⟩:=g2.1 trivial
   have hev : Fbs.ev env (.tmp t) = some (.ptr a 0):=by
    simp only [Fbs.ev,Env.get]
    rw [if_pos (by rw [c.n]; exact g1),g4]
   refine ⟨by simp [← e0],.ptr a 0 :: cs,by simp only [Fbs.evs,hev,e1],by simp [e2],fun i q v hq hv=>?_⟩
   cases i with
   | zero =>
    simp only [List.getElem?_cons_zero,Option.some.injEq] at hq hv
    subst hq hv
    exact ⟨a,g3,rfl⟩
   | succ i=>exact e3 i q v (by simpa using hq) (by simpa using hv)
  ·simp at h
 | .const _ :: _,_,h=>by simp [capsX] at h
 | .func _ :: _,_,h=>by simp [capsX] at h
 | .global _ :: _,_,h=>by simp [capsX] at h
theorem q_makeFunc (c : Conc N gk gb S ρ env m) {g : Gd} {fn : Fn} {first caps : Array Operand} {k : SV → SS → OL} {L : L} (h : opX tt g (.makeFunc fn first caps) S k = some L) (hw : L.wp p Q S.nv ρ ks) :
  Fin p Q ks N ρ S env k (QO P tt p ρ g env m (.makeFunc fn first caps)):=by
 cases fn with
 | func f =>
  simp only [opX] at h
  split at h
  ·rename_i t b l hcap
   cases hf : (first.isEmpty && isE tt f) with
   | false=>rw [hf] at h; simp at h
   | true =>
    rw [hf] at h
    simp only [cond_true] at h
    simp only [Bool.and_eq_true] at hf
    obtain ⟨_,cs,e1,e2,e3⟩:=capsX_ok c hcap
    have hfirst : first = #[]:=by simpa using hf.1
    refine fin_alias (v:=.func f cs) c h hw ⟨rfl,?_⟩ ⟨cs,rfl,e2,e3⟩ rfl
    show evalQ P (CE tt p) env m.H (.makeFunc (.func f) first caps) = _
    simp only [evalQ,e1,hfirst,if_true]
  split at h
  ·rename_i as has
   obtain ⟨vs,h1,h2,_⟩:=c.opAsg has
   cases hf : first.isEmpty with
   | false=>rw [hf] at h; simp at h
   | true =>
    rw [hf] at h
    refine fin_emit c h hw fun hon w hw'=>⟨.func f vs,?_,?_⟩
    ·have : first = #[]:=by simpa using hf
     simp only [evalQ,h1,this,if_true]
    ·simp only [E.ev,Option.some.injEq] at hw'
     rw [← hw',← h2 hon]; simp [V.erA,erAs_map]
  ·simp at h
 | _=>simp [opX] at h
end
end Go.Fbs

/- Structs,slices written out,calls. -/
namespace Go.Fbs
section
variable {P : Program} {tt : TT} (hT : ∀ t ti,tiOf tt t = some ti → TOk P ti ∧ ti.t = t)
variable {p : PT} {Q : V → Prop} {ks : List (List V → Prop)} {N : Nat} {gk : Nat → Option Nat} {gb : List Nat} {S : SS} {ρ : Nat → V} {env : Env} {m : Hp}
theorem putCells_len {α : Type} {cs new : List α} {off : Nat} (h : off + new.length ≤ cs.length) : (putCells cs off new).length = cs.length:=by
 simp [putCells]; omega
theorem putCells_map {α β : Type} (f : α → β) (cs new : List α) (off : Nat) : (putCells cs off new).map f = putCells (cs.map f) off (new.map f):=by
 simp [putCells,List.map_take,List.map_drop]
theorem all_below_put {cs new : List A} {off nv : Nat} (h1 : cs.all (A.below nv) = true) (h2 : new.all (A.below nv) = true) : (putCells cs off new).all (A.below nv) = true:=by
 rw [List.all_eq_true] at *
 intro a ha
 simp only [putCells,List.mem_append] at ha
 rcases ha with (ha | ha) | ha
 ·exact h1 a (List.mem_of_mem_take ha)
 ·exact h2 a ha
 ·exact h1 a (List.mem_of_mem_drop ha)
theorem all_below_mono {l : List A} {n n' : Nat} (h : l.all (A.below n) = true) (hn : n ≤ n') : l.all (A.below n') = true:=by
 rw [List.all_eq_true] at *
 exact fun a ha=>A.below_mono (h a ha) hn
theorem map_den_agree {ρ' : Nat → V} {n : Nat} (h : AgreeN ρ ρ' n) : ∀ {l : List A},l.all (A.below n) = true → l.map (A.den ρ') = l.map (A.den ρ)
 | [],_=>rfl
 | a :: l,hl=>by
  simp only [List.all_cons,Bool.and_eq_true] at hl
  simp only [List.map_cons]
  rw [den_agree h hl.1,map_den_agree h hl.2]
theorem partsX_ok {g : Gd} {place : Nat → Option (Nat × TypeId)} {place' : Nat → Option (Nat × Nat)} (hpl : ∀ i off t ti,place i = some (off,t) → tiOf tt t = some ti → place' i = some (off,ti.sz)) :
  ∀ {parts : List (Nat × Operand)} {S : SS} {ρ : Nat → V} {cs : List A} {k : List A → SS → OL} {L : L} (c : Conc N gk gb S ρ env m) (hgk : GOk S ρ g) (hcs : cs.all (A.below S.nv) = true) {zs : List V} (hz : onG ρ g → zs.map V.erA = cs.map (A.den ρ))
   (h : partsX tt g place parts cs S k = some L) (hw : L.wp p Q S.nv ρ ks),
   ∃ cs' nv kn bl ρ' L',k cs' (S.wit nv kn bl) = some L' ∧ L'.wp p Q nv ρ' ks ∧ Conc N gk gb (S.wit nv kn bl) ρ' env m ∧ S.nv ≤ nv ∧ AgreeN ρ ρ' S.nv ∧
    (onG ρ g → ∃ ps zs',partsV env parts = some ps ∧ partsOk ps = true ∧ fillV place' zs ps = some zs' ∧ zs'.map V.erA = cs'.map (A.den ρ'))
 | [],S,ρ,cs,k,L,c,hgk,hcs,zs,hz,h,hw=>⟨cs,S.nv,S.known,(S.bools,S.gvars),ρ,L,h,hw,c,Nat.le_refl _,AgreeN.refl _ _,fun hon=>⟨[],zs,rfl,rfl,rfl,hz hon⟩⟩
 | (i,x) :: r,S,ρ,cs,k,L,c,hgk,hcs,zs,hz,h,hw=>by
  simp only [partsX] at h
  split at h
  ·rename_i off t a hp ha
   split at h
   ·rename_i ti hti
    obtain ⟨v,h1,h1',hab⟩:=c.opAg ha
    have hpl':=hpl i off t ti hp hti
    cases hle : Nat.ble (off + ti.sz) cs.length with
    | false=>rw [hle] at h; simp at h
    | true =>
     rw [hle] at h
     simp only [cond_true] at h
     have hle':=Nat.le_of_ble_eq_true hle
     have go : ∀ {new : List A} {nv1 : Nat} {kn1 : List (Nat × Nat)} {bl1 : List Nat × List Nat} {ρ1 : Nat → V} {L1 : Go.Fbs.L},partsX tt g place r (putCells cs off new) (S.wit nv1 kn1 bl1) k = some L1 → L1.wp p Q nv1 ρ1 ks → Conc N gk gb (S.wit nv1 kn1 bl1) ρ1 env m → S.nv ≤ nv1 → AgreeN ρ ρ1 S.nv →
       new.all (A.below nv1) = true → (onG ρ g → v.cells.map V.erA = new.map (A.den ρ1) ∧ v.cells.length = ti.sz ∧ v.ok1 = true) →
       ∃ cs' nv kn bl ρ' L',k cs' (S.wit nv kn bl) = some L' ∧ L'.wp p Q nv ρ' ks ∧ Conc N gk gb (S.wit nv kn bl) ρ' env m ∧ S.nv ≤ nv ∧ AgreeN ρ ρ' S.nv ∧
        (onG ρ g → ∃ ps zs',partsV env ((i,x) :: r) = some ps ∧ partsOk ps = true ∧ fillV place' zs ps = some zs' ∧ zs'.map V.erA = cs'.map (A.den ρ')):=by
      intro new nv1 kn1 bl1 ρ1 L1 k1 k2 k3 k6 k7 hnew hval
      have hon1 : onG ρ1 g ↔ onG ρ g:=onG_agree k7 hgk.1
      obtain ⟨cs',nv,kn,bl,ρ',L',q1,q2,q3,q4,q5,q6⟩:=partsX_ok hpl k3 (hgk.more k6 k7) (cs:=putCells cs off new) (zs:=putCells zs off v.cells)
       (all_below_put (all_below_mono hcs k6) hnew) (fun ho=>by
        have ho:=hon1.1 ho
        rw [putCells_map,putCells_map,hz ho,(hval ho).1,map_den_agree k7 hcs]) k1 k2
      refine ⟨cs',nv,kn,bl,ρ',L',q1,q2,q3,Nat.le_trans k6 q4,k7.trans q5 k6,fun hon=>?_⟩
      obtain ⟨ps,zs',p1,p2,p3,p4⟩:=q6 (hon1.2 hon)
      obtain ⟨v1,v2,v3⟩:=hval hon
      have hzl : zs.length = cs.length:=by have:=congrArg List.length (hz hon); simpa using this
      refine ⟨(i,v) :: ps,zs',by simp only [partsV,h1,p1],by simp only [partsOk,List.all_cons,v3,Bool.true_and]; exact p2,?_,p4⟩
      simp only [fillV,hpl']
      have : (v.cells.length ≠ ti.sz || off + v.cells.length > zs.length) = false:=by simp [v2]; omega
      rw [if_neg (by rw [this]; simp)]; exact p3
     cases hag : ti.agg with
     | true =>
      rw [hag] at h
      simp only [cond_true] at h
      obtain ⟨j,nv1,kn1,bl1,ρ1,L1,k1,k2,k3,k4,k5,k6,k7,k8⟩:=cellsX_ok c h hw
      have hcl : (cellsOf j ti.sz 0).length = ti.sz:=cellsOf_len _ _ _
      refine go k1 k2 k3 k6 k7 (cellsOf_below k5 0) fun hon=>?_
      obtain ⟨e1,e2⟩:=k8 hon
      obtain ⟨ds,d1,d2,d3⟩:=KnownV_pos k4 e2
      have hvc : v.cells.map V.erA = (cellsOf j ti.sz 0).map (A.den ρ1):=by
       rw [cellsOf_den ρ1 (cs:=ds) (by rw [d1]; rfl) d2,← erA_cells,h1' hon,← e1,d1]; rfl
      exact ⟨hvc,by have:=congrArg List.length hvc; simpa [hcl] using this,by rw [← erA_ok1,h1' hon,← e1,d1]; rfl⟩
     | false =>
      rw [hag] at h
      simp only [cond_false] at h
      cases hz1 : Nat.beq ti.sz 1 with
      | false=>rw [hz1] at h; simp at h
      | true =>
       rw [hz1] at h
       simp only [cond_true] at h
       obtain ⟨a',nv1,kn1,bl1,ρ1,L1,k1,k2,k3,k5,k6,k7,k8⟩:=cell1X_ok c hab h hw
       refine go k1 k2 k3 k6 k7 (by simp [k5]) fun hon=>?_
       obtain ⟨e1,e2⟩:=k8 hon
       have hsv : sc v = true:=by rw [← sc_erA,h1' hon]; exact e2
       rw [sc_cells hsv]
       exact ⟨by simp [h1' hon,e1],by rw [Nat.eq_of_beq_eq_true hz1]; rfl,sc_ok1 hsv⟩
   ·simp at h
  ·simp at h
include hT in
theorem placesT_ok {fs : List Field} {fs' : List (Nat × TypeId)} (hf : fs.map (fun f=>(f.offset,f.type)) = fs') (hall : ∀ q ∈ fs',∃ ti,tiOf tt q.2 = some ti) : ∃ ps,placesT P fs = some ps ∧ ∀ (i off : Nat) t ti,fs'[i]? = some (off,t) → tiOf tt t = some ti → ps[i]? = some (off,ti.sz):=by
 induction fs generalizing fs' with
 | nil=>subst hf; exact ⟨[],rfl,fun i off t ti h=>by simp at h⟩
 | cons f fs ih =>
  subst hf
  obtain ⟨ps,h1,h2⟩:=ih rfl (fun q hq=>hall q (by simp only [List.map_cons]; exact List.mem_cons_of_mem _ hq))
  obtain ⟨ti,hti⟩:=hall (f.offset,f.type) (by simp)
  obtain ⟨tok,htt⟩:=hT f.type ti hti
  have hsz:=tok.sz
  rw [htt] at hsz
  refine ⟨(f.offset,ti.sz) :: ps,by simp only [placesT,hsz,h1],fun i off t ti' h3 h4=>?_⟩
  cases i with
  | zero =>
   simp only [List.map_cons,List.getElem?_cons_zero,Option.some.injEq,Prod.mk.injEq] at h3
   obtain ⟨rfl,rfl⟩:=h3
   rw [hti] at h4
   simp only [Option.some.injEq] at h4
   subst h4; rfl
  | succ i =>
   simp only [List.map_cons,List.getElem?_cons_succ] at h3
   exact h2 i off t ti' h3 h4
theorem map_k_den (z : List V) : (z.map fun v=>A.k v.erA).map (A.den ρ) = z.map V.erA:=by simp [List.map_map,Function.comp_def,A.den]
theorem map_k_below (z : List V) (n : Nat) : (z.map fun v=>A.k v.erA).all (A.below n) = true:=by simp [List.all_map,Function.comp_def,A.below]
theorem aggK_some {l : List V} {w : V} (h : aggK l = some w) : w = .agg l ∧ l.all sc = true:=by
 unfold aggK at h
 split at h
 ·rename_i hs
  simp only [Option.some.injEq] at h
  exact ⟨h.symm,hs⟩
 ·simp at h
theorem fillV_keep {place : Nat → Option (Nat × Nat)} {j : Nat} : ∀ {ps : List (Nat × V)} {zs zs' : List V},fillV place zs ps = some zs' → (∀ q ∈ ps,∀ off sz,place q.1 = some (off,sz) → j < off ∨ off + sz ≤ j) → zs'[j]? = zs[j]?
 | [],zs,zs',h,_=>by simp only [fillV,Option.some.injEq] at h; rw [h]
 | (i,v) :: r,zs,zs',h,hk=>by
  simp only [fillV] at h
  split at h
  ·simp at h
  ·rename_i off size hp
   split at h
   ·simp at h
   ·rename_i hc
    have hc : v.cells.length = size ∧ ¬ off + v.cells.length > zs.length:=by simpa using hc
    rw [fillV_keep h fun q hq=>hk q (by simp [hq])]
    rcases hk (i,v) (by simp) off size hp with h1 | h1
    ·rw [List.append_assoc,List.getElem?_append_left (by simp; omega),List.getElem?_take,if_pos h1]
    ·rw [List.getElem?_append_right (by simp; omega),List.getElem?_drop]
     congr 1; simp; omega
theorem partsV_keys {env : Env} : ∀ {parts : List (Nat × Operand)} {ps : List (Nat × V)},partsV env parts = some ps → ∀ q ∈ ps,∃ x,(q.1,x) ∈ parts
 | [],ps,h,q,hq=>by simp only [partsV,Option.some.injEq] at h; subst h; simp at hq
 | (i,x) :: r,ps,h,q,hq=>by
  simp only [partsV] at h
  split at h
  ·rename_i v vs h1 h2
   simp only [Option.some.injEq] at h
   subst h
   rcases List.mem_cons.1 hq with rfl | hq
   ·exact ⟨x,by simp⟩
   ·obtain ⟨y,hy⟩:=partsV_keys h2 q hq
    exact ⟨y,by simp [hy]⟩
  ·simp at h
include hT in
theorem q_build (c : Conc N gk gb S ρ env m) {g : Gd} (hgk : GOk S ρ g) {t : TypeId} {parts : Array (Nat × Operand)} {k : SV → SS → OL} {L : L} (h : opX tt g (.build t parts) S k = some L) (hw : L.wp p Q S.nv ρ ks) :
  Fin p Q ks N ρ S env k (QO P tt p ρ g env m (.build t parts)):=by
 simp only [opX] at h
 split at h
 ·rename_i ti hti
  obtain ⟨tok,htt⟩:=hT t ti hti
  have hd:=tok.d
  rw [htt] at hd
  have fin : ∀ {pl : Nat → Option (Nat × TypeId)} {pl' : Nat → Option (Nat × Nat)} {z : List V} {L : Go.Fbs.L},ti.z = some z → (∀ i off t ti,pl i = some (off,t) → tiOf tt t = some ti → pl' i = some (off,ti.sz)) →
    (∀ ps,partsOk ps = true → buildQ P t ps = (fillV pl' z ps).map V.agg) → L.wp p Q S.nv ρ ks → partsX tt g pl parts.toList (z.map fun v=>.k v.erA) S (fun cs S'=>emitT g cs (.agg cs) S' k) = some L → Fin p Q ks N ρ S env k (QO P tt p ρ g env m (.build t parts)):=by
   intro pl pl' z L hz hpl hb hw h
   obtain ⟨cs',nv,kn,bl,ρ',L',q1,q2,q3,q4,q5,q6⟩:=partsX_ok hpl c hgk (map_k_below z _) (zs:=z) (fun _=>(map_k_den z).symm) h hw
   have hon1 : onG ρ' g ↔ onG ρ g:=onG_agree q5 hgk.1
   have hgo : ∀ o : Option V,guardO ρ' g o = guardO ρ g o:=fun o=>by
    cases g with
    | none=>rfl
    | some q =>
     obtain ⟨a,b⟩:=q
     simp only [guardO]
     rw [den_agree q5 (show a.below S.nv = true from hgk.1)]
   refine Fin.step (Fin.mono (fin_emitT q3 (o:=evalQ P (CE tt p) env m.H (.build t parts)) q1 (hgk.more q4 q5) q2 fun hon w hw'=>?_) fun v m' ⟨e1,e2⟩=>⟨e1,by rw [← hgo]; exact e2⟩) q5 q4 rfl
   obtain ⟨ps,zs',p1,p2,p3,p4⟩:=q6 (hon1.1 hon)
   simp only [E.ev] at hw'
   obtain ⟨rfl,_⟩:=aggK_some hw'
   refine ⟨.agg zs',?_,?_⟩
   ·simp only [evalQ,p1]
    rw [hb ps p2,p3]; rfl
   ·simp only [V.erA,erAs_map,p4]
  split at h
  ·rename_i fs z hdd hz
   rw [hdd] at hd
   obtain ⟨a,hu,hfs,_⟩:=hd
   obtain ⟨zv,hz1,hz2,_⟩:=tok.z z hz
   rw [htt] at hz1
   cases hall : fs.all (fun q=>(tiOf tt q.2).isSome) with
   | false=>rw [hall] at h; simp at h
   | true =>
    rw [hall] at h
    simp only [cond_true] at h
    obtain ⟨ps,hp1,hp2⟩:=placesT_ok hT (fs:=a.toList) hfs (fun q hq=>Option.isSome_iff_exists.1 (List.all_eq_true.1 hall q hq))
    have hb : ∀ ps',partsOk ps' = true → buildQ P t ps' = (fillV (fun i=>ps[i]?) z ps').map V.agg:=fun ps' hok=>by
     unfold buildQ buildV
     rw [if_pos hok]
     simp only [hu,hz1,hp1,hz2]
    cases g with
    | some q=>exact fin (pl':=fun i=>ps[i]?) hz hp2 hb hw h
    | none =>
     obtain ⟨cs',nv,kn,bl,ρ',L',q1,q2,q3,q4,q5,q6⟩:=partsX_ok (place':=fun i=>ps[i]?) hp2 c hgk (map_k_below z _) (zs:=z) (fun _=>(map_k_den z).symm) h hw
     obtain ⟨y,L2,kn2,bl2,r1,r2,r3,r4⟩:=emit_ok q3 q1 q2
     obtain ⟨pv,zs',p1,p2,p3,p4⟩:=q6 trivial
     have r1 : aggK (cs'.map (A.den ρ')) = some y:=r1
     obtain ⟨rfl,_⟩:=aggK_some r1
     have hev : evalQ P (CE tt p) env m.H (.build t parts) = some (.agg zs'):=by
      simp only [evalQ,p1]
      rw [hb pv p2,p3]; rfl
     have her : (V.agg zs').erA = .agg (cs'.map (A.den ρ')):=by simp only [V.erA,erAs_map,p4]
     have hrel : RelSV (ext ρ' nv (.agg (cs'.map (A.den ρ')))) gk gb m.T (stvOf (.v nv) (nlOf tt fs parts.toList z)) (.agg zs'):=by
      have h0 : (V.agg zs').erA = A.den (ext ρ' nv (.agg (cs'.map (A.den ρ')))) (.v nv):=by
       show _ = ext ρ' nv _ nv
       rw [ext_at]; exact her
      unfold stvOf
      split
      ·exact h0
      ·refine ⟨h0,zs',rfl,fun j hj=>?_⟩
       unfold nlOf at hj
       rw [List.mem_filter] at hj
       obtain ⟨_,hj⟩:=hj
       simp only [Bool.and_eq_true] at hj
       obtain ⟨hj1,hj2⟩:=hj
       rw [fillV_keep (j:=j) p3 fun q hq off sz hpl=>?_]
       ·split at hj1
        ·rename_i hzj; exact hzj
        ·simp at hj1
       ·obtain ⟨x,hx⟩:=partsV_keys p1 q hq
        have h5:=List.all_eq_true.1 hj2 _ hx
        simp only at h5
        split at h5
        ·rename_i off' t' hfq
         split at h5
         ·rename_i ti' hti'
          have h6:=hp2 q.1 off' t' ti' hfq hti'
          have hpl : ps[q.1]? = some (off,sz):=hpl
          rw [hpl] at h6
          simp only [Option.some.injEq,Prod.mk.injEq] at h6
          obtain ⟨rfl,rfl⟩:=h6
          simp only [Bool.or_eq_true] at h5
          rcases h5 with h5 | h5
          ·exact .inl (blt_lt h5)
          ·exact .inr (Nat.le_of_ble_eq_true h5)
         ·simp at h5
        ·simp at h5
     refine Fin.step ⟨.agg zs',m,stvOf (.v nv) (nlOf tt fs parts.toList z),_,ext ρ' nv (.agg (cs'.map (A.den ρ'))),L2,gk,gb,⟨rfl,hev⟩,r2,r3,r4,hrel,?_,agree_ext _ _ _,Nat.le_succ _,rfl⟩ q5 q4 rfl
     unfold stvOf
     split <;> exact v_below _
  ·rename_i n e z hdd hz
   rw [hdd] at hd
   obtain ⟨zv,hz1,hz2,_⟩:=tok.z z hz
   rw [htt] at hz1
   split at h
   ·rename_i ei hei
    obtain ⟨etok,het⟩:=hT e ei hei
    have hsz:=etok.sz
    rw [het] at hsz
    refine fin (pl':=fun i=>some (i * ei.sz,ei.sz)) hz (fun i off t ti h1 h2=>?_) (fun ps' hok=>?_) hw h
    ·simp only [Option.some.injEq,Prod.mk.injEq] at h1
     obtain ⟨rfl,rfl⟩:=h1
     rw [hei] at h2
     simp only [Option.some.injEq] at h2
     subst h2; rfl
    ·unfold buildQ buildV
     rw [if_pos hok]
     have hu : P.underlying t = some (.array n e):=hd
     simp only [hu,hz1,hsz,hz2]
   ·simp at h
  ·simp at h
 ·simp at h
theorem order_elems : ∀ {parts : List (Nat × Operand)} {n : Nat} {vs : List V},inOrder n parts = true → Fbs.evs env (parts.map (·.2)) = some vs → ∃ ps,partsV env parts = some ps ∧ elemsV n ps = some vs ∧ ps.map (·.2) = vs
 | [],n,vs,_,h=>by simp [Fbs.evs] at h; subst h; exact ⟨[],rfl,rfl,rfl⟩
 | (i,x) :: r,n,vs,ho,h=>by
  simp only [inOrder,Bool.and_eq_true] at ho
  have hi:=Nat.eq_of_beq_eq_true ho.1
  subst hi
  simp only [List.map_cons,Fbs.evs] at h
  split at h
  ·rename_i v vs' h1 h2
   simp only [Option.some.injEq] at h
   subst h
   obtain ⟨ps,e1,e2,e3⟩:=order_elems ho.2 h2
   exact ⟨(i,v) :: ps,by simp only [partsV,h1,e1],by simp only [elemsV,if_true,e2]; rfl,by simp [e3]⟩
  ·simp at h
theorem litK_some {n : Nat} {vs : List V} {w : V} (h : litK n (vs.map V.erA) = some w) : w = .sl .ro (vs.map V.erA) ∧ vs.length * n ≤ 1000000 ∧ vs.all (fun e=>e.cells.length == n) = true ∧ vs.all V.ok1 = true:=by
 unfold litK at h
 split at h
 ·rename_i hc
  simp only [Option.some.injEq] at h
  obtain ⟨h1,h2⟩:=hc
  rw [List.length_map] at h1
  rw [List.all_map] at h2
  refine ⟨h.symm,h1,?_,?_⟩
  ·rw [List.all_eq_true] at h2 ⊢
   intro e he
   have:=h2 e he
   simp only [Function.comp_def,erA_cells_len,Bool.and_eq_true] at this
   exact this.1
  ·rw [List.all_eq_true] at h2 ⊢
   intro e he
   have:=h2 e he
   simp only [Function.comp_def,erA_ok1,Bool.and_eq_true] at this
   exact this.2
 ·simp at h
theorem Conc.newk (c : Conc N gk gb S ρ env m) : Conc N gk gb { S with nk:=S.nk + 1 } ρ env m :=
 ⟨c.n,c.slots,c.boxes,c.blen,c.binj,c.blt,c.kinj,fun k i h=>let ⟨h1,h2⟩:=c.klt k i h; ⟨Nat.lt_succ_of_lt h1,h2⟩,c.known,c.bools,c.own⟩
include hT in
theorem q_buildSlice (c : Conc N gk gb S ρ env m) {g : Gd} (hgk : GOk S ρ g) {t : TypeId} {len : Nat} {parts : Array (Nat × Operand)} {k : SV → SS → OL} {L : L} (h : opX tt g (.buildSlice t len parts) S k = some L) (hw : L.wp p Q S.nv ρ ks) :
  Fin p Q ks N ρ S env k (QO P tt p ρ g env m (.buildSlice t len parts)):=by
 simp only [opX] at h
 split at h
 ·rename_i ti as hti has
  obtain ⟨tok,htt⟩:=hT t ti hti
  have hd:=tok.d
  rw [htt] at hd
  obtain ⟨vs,h1,h2,_,h2l⟩:=c.opAsg has
  split at h
  ·rename_i e hdd
   rw [hdd] at hd
   have hu : P.underlying t = some (.slice e):=hd
   split at h
   ·rename_i ei hei
    obtain ⟨etok,het⟩:=hT e ei hei
    have hsz:=etok.sz
    rw [het] at hsz
    split at h
    ·rename_i z hz
     obtain ⟨zv,hz1,hz2,_⟩:=etok.z z hz
     rw [het] at hz1
     cases hc : (inOrder 0 parts.toList && Nat.beq as.length len && Nat.blt 0 ei.sz && Nat.beq z.length ei.sz) with
     | false=>rw [hc] at h; simp at h
     | true =>
      rw [hc] at h
      simp only [cond_true] at h
      simp only [Bool.and_eq_true] at hc
      have hlen:=Nat.eq_of_beq_eq_true hc.1.1.2
      have hpos:=blt_lt hc.1.2
      have hzl:=Nat.eq_of_beq_eq_true hc.2
      obtain ⟨ps,p1,p2,p3⟩:=order_elems hc.1.1.1 h1
      have hvl : vs.length = len:=by omega
      have hev : onG ρ g → ∀ w,litK ei.sz (as.map (A.den ρ)) = some w → evalQ P (CE tt p) env m.H (.buildSlice t len parts) = some (.sl .full (vs.map V.er)) ∧ w = .sl .ro (vs.map V.erA):=by
       intro hon w hw'
       rw [← h2 hon] at hw'
       obtain ⟨e1,e2,e3,e4⟩:=litK_some hw'
       refine ⟨?_,e1⟩
       simp only [evalQ,p1]
       have hok : partsOk ps = true:=by
        unfold partsOk
        rw [← p3,List.all_map] at e4
        exact e4
       rw [buildSlice_K hu hsz hz1 (by rw [hz2]; exact hzl) hpos len ps]
       unfold buildSliceK
       rw [if_pos hok,p2]
       simp only
       rw [if_pos ⟨hvl,by rw [← hvl]; exact e2,e3⟩]
      obtain ⟨y,L',kn,bl,e2,e3,e4,e5⟩:=emit_ok c h hw
      cases g with
      | none =>
       simp only at e3
       obtain ⟨h6,h7⟩:=hev trivial y e2
       have hden : ext ρ S.nv y S.nv = .sl .ro ((vs.map V.er).map V.erA):=by
        rw [ext_at,h7,List.map_map]
        congr 2
        funext v; exact (erA_er v).symm
       cases hz : (Nat.beq (cdT e ei.sz) 1 && Nat.blt 0 len) with
       | true =>
        rw [hz] at e3
        refine ⟨.sl .full (vs.map V.er),m,_,_,_,L',gk,gb,⟨rfl,h6⟩,e3,e4,e5,?_,v_below _,agree_ext _ _ _,Nat.le_succ _,rfl⟩
        show V.erA _ = ext ρ S.nv y S.nv
        rw [hden]
        simp only [V.erA,erAs_map]
       | false =>
        rw [hz] at e3
        refine ⟨.sl .full (vs.map V.er),m,_,_,_,L',gk,gb,⟨rfl,h6⟩,e3,e4,e5.newk,⟨vs.map V.er,hden,.inl ⟨rfl,fun h1=>?_⟩⟩,v_below _,agree_ext _ _ _,Nat.le_succ _,rfl⟩
        rw [h1] at hz
        simp only [Nat.beq_refl,Bool.true_and] at hz
        rw [List.length_map,hvl]
        rcases Nat.eq_zero_or_pos len with h | h
        ·exact h
        ·rw [show Nat.blt 0 len = true from Nat.ble_eq_true_of_le h] at hz; simp at hz
      | some q =>
       simp only at e3
       rcases guardO_some e2 with ⟨hon,e6⟩ | ⟨hoff,rfl,e6⟩
       ·obtain ⟨h6,h7⟩:=hev hon y e6
        refine ⟨.sl .full (vs.map V.er),m,_,_,_,L',gk,gb,⟨rfl,by rw [guardO_on hon]; exact h6⟩,e3,e4,e5,?_,v_below _,agree_ext _ _ _,Nat.le_succ _,rfl⟩
        show V.erA _ = ext ρ S.nv y S.nv
        rw [ext_at,h7]
        simp only [V.erA,erAs_map,List.map_map]
        congr 2
        funext v; exact erA_er v
       ·exact ⟨.undef,m,_,_,_,L',gk,gb,⟨rfl,e6 _⟩,e3,e4,e5,by show V.erA _ = ext ρ S.nv .undef S.nv; rw [ext_at]; rfl,v_below _,agree_ext _ _ _,Nat.le_succ _,rfl⟩
    ·simp at h
   ·simp at h
  ·simp at h
 ·simp at h
end
end Go.Fbs

/- Calls; what makes boxes,writes,grows. -/
namespace Go.Fbs
def Canon (tt : TT) (p : PT) : Prop:=∀ f args v,p f args = some v → v.erA = v ∧ ∀ g sg,sigOf tt f = some (g,sg) → AnsOk sg v
theorem RelSV.up {ρ : Nat → V} {gk gk' : Nat → Option Nat} {gb gb' : List Nat} {T T' : List (Nat × Nat)} (hk : ∀ k i,gk k = some i → gk' k = some i) (hb : ∀ (b l : Nat),gb[b]? = some l → gb'[b]? = some l)
  (hT : ∀ (k i : Nat) x,gk k = some i → T[i]? = some x → T'[i]? = some x) {s : SV} {v : V} (r : RelSV ρ gk gb T s v) : RelSV ρ gk' gb' T' s v:=by
 cases s with
 | val a=>exact r
 | gval a g=>exact r
 | grow k sz a =>
  obtain ⟨es,h1,h2⟩:=r
  refine ⟨es,h1,?_⟩
  rcases h2 with h2 | ⟨i,h3,h4,h5⟩
  ·exact .inl h2
  ·exact .inr ⟨i,hk k i h3,h4,hT k i _ h3 h5⟩
 | nils=>exact r
 | elem a n off g=>exact r
 | ptr b off g=>exact ⟨fun h=>let ⟨l,h1,h2⟩:=r.1 h; ⟨l,hb b l h1,h2⟩,r.2⟩
 | pix b off n i g=>exact ⟨fun h=>let ⟨l,q,z,h1,h2⟩:=r.1 h; ⟨l,q,z,hb b l h1,h2⟩,r.2⟩
 | stv a nl=>exact r
 | clo f caps=>exact let ⟨cs,h1,h2,h3⟩:=r; ⟨cs,h1,h2,fun i q c h4 h5=>let ⟨l,h6,h7⟩:=h3 i q c h4 h5; ⟨l,hb _ _ h6,h7⟩⟩
 | self b a=>exact let ⟨l,h1,h2⟩:=r; ⟨l,hb _ _ h1,h2⟩
theorem Cells.up {ρ : Nat → V} {gk gk' : Nat → Option Nat} {gb gb' : List Nat} {T T' : List (Nat × Nat)} {nv : Nat} (hk : ∀ k i,gk k = some i → gk' k = some i) (hb : ∀ (b l : Nat),gb[b]? = some l → gb'[b]? = some l)
  (hT : ∀ (k i : Nat) x,gk k = some i → T[i]? = some x → T'[i]? = some x) {cells : List SV} {cs : List V} (r : Cells ρ gk gb T nv cells cs) : Cells ρ gk' gb' T' nv cells cs :=
 ⟨r.1,fun j s c h1 h2=>let ⟨h3,h4⟩:=r.2 j s c h1 h2; ⟨h3.up hk hb hT,h4⟩⟩
section
variable {P : Program} {tt : TT} (hT : ∀ t ti,tiOf tt t = some ti → TOk P ti ∧ ti.t = t)
variable {p : PT} {Q : V → Prop} {ks : List (List V → Prop)} {N : Nat} {gk : Nat → Option Nat} {gb : List Nat} {S : SS} {ρ : Nat → V} {env : Env} {m : Hp}
theorem Conc.newbox' (c : Conc N gk gb S ρ env m) {cells : List SV} {cs : List V} {e : Option Nat} (hty : STy cells e) (h : Cells ρ gk (gb ++ [m.H.length]) m.T S.nv cells cs) :
  Conc N gk (gb ++ [m.H.length]) { S with boxes:=S.boxes ++ [some cells] } ρ env { m with H:=m.H ++ [.cells e cs] } ∧ RelSV ρ gk (gb ++ [m.H.length]) m.T (.ptr S.boxes.length 0 none) (.ptr m.H.length 0):=by
 have hb : ∀ (b l : Nat),gb[b]? = some l → (gb ++ [m.H.length])[b]? = some l:=fun b l h=>by
  rw [List.getElem?_append_left (List.getElem?_eq_some_iff.1 h).1]; exact h
 have hl : ∀ (b l : Nat),gb[b]? = some l → l < m.H.length:=fun b l h=>c.blt l (List.mem_of_getElem? h)
 refine ⟨⟨c.n,fun t s hs=>?_,fun b cs' hc=>?_,by simp [c.blen],fun b b' l h1 h2=>?_,fun l hl'=>?_,c.kinj,c.klt,c.known,c.bools,fun b hb'=>hb b b (c.own b hb')⟩,fun _=>⟨m.H.length,?_,rfl⟩,fun h=>absurd trivial h⟩
 ·obtain ⟨h1,h2,h3⟩:=c.slots t s hs
  exact ⟨h1,h2.up (fun _ _ h=>h) hb (fun _ _ _ _ h=>h),h3⟩
 ·by_cases hlt : b < S.boxes.length
  ·rw [List.getElem?_append_left hlt] at hc
   obtain ⟨l,ds,h1,h2,h3⟩:=c.boxes b cs' hc
   refine ⟨l,ds,hb b l h1,?_,h3.up (fun _ _ h=>h) hb (fun _ _ _ _ h=>h)⟩
   obtain ⟨e1,h2,h4⟩:=h2
   refine ⟨e1,?_,h4⟩
   show (m.H ++ _)[l]? = _
   rw [List.getElem?_append_left (hl b l h1)]; exact h2
  ·have : b = S.boxes.length:=by
    have:=(List.getElem?_eq_some_iff.1 hc).1; simp at this; omega
   subst this
   rw [List.getElem?_append_right (Nat.le_refl _)] at hc
   simp at hc
   subst hc
   refine ⟨m.H.length,cs,?_,⟨e,?_,hty⟩,h⟩
   ·rw [← c.blen]; simp
   ·simp
 ·by_cases h3 : b < gb.length
  ·rw [List.getElem?_append_left h3] at h1
   by_cases h4 : b' < gb.length
   ·rw [List.getElem?_append_left h4] at h2
    exact c.binj b b' l h1 h2
   ·rw [List.getElem?_append_right (by omega)] at h2
    have:=hl b l h1
    have : b' - gb.length = 0:=by have:=(List.getElem?_eq_some_iff.1 h2).1; simp at this; omega
    rw [this] at h2; simp at h2; omega
  ·rw [List.getElem?_append_right (by omega)] at h1
   have e1 : b - gb.length = 0:=by have:=(List.getElem?_eq_some_iff.1 h1).1; simp at this; omega
   rw [e1] at h1; simp at h1
   by_cases h4 : b' < gb.length
   ·rw [List.getElem?_append_left h4] at h2
    have:=hl b' l h2; omega
   ·rw [List.getElem?_append_right (by omega)] at h2
    have e2 : b' - gb.length = 0:=by have:=(List.getElem?_eq_some_iff.1 h2).1; simp at this; omega
    omega
 ·simp only [List.mem_append,List.mem_singleton] at hl'
  simp only [List.length_append,List.length_singleton]
  rcases hl' with h | rfl
  ·have:=c.blt l h; omega
  ·omega
 ·rw [← c.blen]; simp
theorem Conc.newbox (c : Conc N gk gb S ρ env m) {cells : List SV} {cs : List V} {e : Option Nat} (hty : STy cells e) (h : Cells ρ gk gb m.T S.nv cells cs) :
  Conc N gk (gb ++ [m.H.length]) { S with boxes:=S.boxes ++ [some cells] } ρ env { m with H:=m.H ++ [.cells e cs] } ∧ RelSV ρ gk (gb ++ [m.H.length]) m.T (.ptr S.boxes.length 0 none) (.ptr m.H.length 0) :=
 c.newbox' hty (h.up (fun _ _ h=>h) (fun b l h=>by rw [List.getElem?_append_left (List.getElem?_eq_some_iff.1 h).1]; exact h) (fun _ _ _ _ h=>h))
theorem Conc.setbox (c : Conc N gk gb S ρ env m) {b l : Nat} {cells : List SV} (hl : gb[b]? = some l) {cs : List V} {e : Option Nat} (hty : STy cells e) (h : Cells ρ gk gb m.T S.nv cells cs) :
  Conc N gk gb { S with boxes:=S.boxes.set b (some cells) } ρ env { m with H:=m.H.set l (.cells e cs) }:=by
 have hlt : l < m.H.length:=c.blt l (List.mem_of_getElem? hl)
 refine ⟨c.n,c.slots,fun b' cs' hc=>?_,by simp [c.blen],c.binj,fun l' h'=>by simp only [List.length_set]; exact c.blt l' h',c.kinj,c.klt,c.known,c.bools,c.own⟩
 by_cases hbb : b = b'
 ·subst hbb
  have hbl : b < S.boxes.length:=by rw [← c.blen]; exact (List.getElem?_eq_some_iff.1 hl).1
  rw [List.getElem?_set_self hbl] at hc
  simp only [Option.some.injEq] at hc
  subst hc
  exact ⟨l,cs,hl,⟨e,by show (m.H.set l _)[l]? = _; rw [List.getElem?_set_self hlt],hty⟩,h⟩
 ·rw [List.getElem?_set_ne hbb] at hc
  obtain ⟨l',ds,h1,h2,h3⟩:=c.boxes b' cs' hc
  refine ⟨l',ds,h1,?_,h3⟩
  have : l ≠ l':=fun e=>by subst e; exact hbb (c.binj b b' l hl h1)
  obtain ⟨e1,h2,h4⟩:=h2
  refine ⟨e1,?_,h4⟩
  show (m.H.set l _)[l']? = _
  rw [List.getElem?_set_ne this]; exact h2
abbrev LO' (P : Program) (tt : TT) (p : PT) (g : Gd) (env : Env) (m : Hp) (op : Op) : V → Hp → Prop:=fun v m'=>g = none ∧ isQ (CE tt p) op = false ∧ evalOp P (CE tt p) env m op = some (v,m')
theorem evalOp_A {op : Op} {cs : List V} (hq : isQ (CE tt p) op = false) (ha : isA op = true) (h : evalA P env op = some cs) : evalOp P (CE tt p) env m op = some (.ptr m.H.length 0,{ m with H:=m.H ++ [.cells (opTy op) cs] }):=by
 unfold evalOp
 rw [if_neg (by rw [hq]; simp),if_pos ha,h]; rfl
theorem evalOp_W {op : Op} {v : V} {m' : Hp} (hq : isQ (CE tt p) op = false) (ha : isA op = false) (h : evalW P (CE tt p) env m op = some (v,m')) : evalOp P (CE tt p) env m op = some (v,m'):=by
 unfold evalOp
 rw [if_neg (by rw [hq]; simp),if_neg (by rw [ha]; simp)]; exact h
theorem newS_ok {T : List (Nat × Nat)} {nv t b l : Nat} {z : List V} (h : gb[b]? = some l) : Cells ρ gk gb T nv (newS t b z) z:=by
 unfold newS
 split
 ·refine ⟨rfl,fun j s v h1 h2=>?_⟩
  match j with
  | 0=>simp at h1 h2; subst h1; subst h2; exact ⟨⟨l,h,.inl ⟨rfl,rfl⟩⟩,rfl⟩
  | 1=>simp at h1 h2; subst h1; subst h2; exact ⟨rfl,rfl⟩
  | j + 2=>simp at h1
 ·exact ⟨by simp,fun j s v h1 h2=>by
   rw [List.getElem?_map,h2] at h1
   simp only [Option.map_some,Option.some.injEq] at h1
   subst h1
   exact ⟨(constSV_ok v).1 _,(constSV_ok (ρ:=ρ) (gk:=gk) (gb:=gb) v).2 _⟩⟩
theorem newS_ty (t b : Nat) (z : List V) : STy (newS t b z) (some t):=by
 intro j t' b' a hj
 unfold newS at hj
 split at hj
 ·match j with
  | 0=>simp at hj; rw [hj.1]
  | 1=>simp at hj
  | j + 2=>simp at hj
 ·rw [List.getElem?_map,Option.map_eq_some_iff] at hj
  obtain ⟨v,_,hj⟩:=hj
  unfold constSV at hj
  split at hj <;> simp at hj
include hT in
theorem x_alloc (c : Conc N gk gb S ρ env m) {g : Gd} {t : TypeId} {k : SV → SS → OL} {L : L} (h : opX tt g (.alloc t) S k = some L) (hw : L.wp p Q S.nv ρ ks) : Fin p Q ks N ρ S env k (LO' P tt p g env m (.alloc t)):=by
 simp only [opX] at h
 split at h
 ·rename_i ti hti
  obtain ⟨tok,htt⟩:=hT t ti hti
  split at h
  ·rename_i z hz
   obtain ⟨zv,hz1,hz2,_⟩:=tok.z z hz
   rw [htt] at hz1
   have hcells : Cells ρ gk (gb ++ [m.H.length]) m.T S.nv (newS t S.boxes.length z) z:=newS_ok (l:=m.H.length) (by rw [← c.blen]; simp)
   obtain ⟨c',r'⟩:=c.newbox' (newS_ty t S.boxes.length z) hcells
   exact ⟨_,_,_,_,ρ,L,gk,_,⟨rfl,rfl,evalOp_A rfl rfl (by simp only [evalA,hz1,Option.map_some,hz2])⟩,h,hw,c',r',rfl,AgreeN.refl _ _,Nat.le_refl _,rfl⟩
  ·simp at h
 ·simp at h
theorem cells_of_as {T : List (Nat × Nat)} {nv : Nat} {as : List A} {cs : List V} (h : cs.map V.erA = as.map (A.den ρ)) (hb : as.all (A.below nv) = true) : Cells ρ gk gb T nv (as.map .val) cs:=by
 refine ⟨by have:=congrArg List.length h; simpa using this.symm,fun j s v h1 h2=>?_⟩
 rw [List.getElem?_map,Option.map_eq_some_iff] at h1
 obtain ⟨a,h3,rfl⟩:=h1
 have e : (cs.map V.erA)[j]? = (as.map (A.den ρ))[j]?:=by rw [h]
 rw [List.getElem?_map,List.getElem?_map,h2,h3] at e
 simp only [Option.map_some,Option.some.injEq] at e
 exact ⟨e,List.all_eq_true.1 hb a (List.mem_of_getElem? h3)⟩
def NoSelf (cells : List SV) : Prop:=∀ (j t b : Nat) a,cells[j]? ≠ some (.self t b a)
theorem NoSelf.sty {cells : List SV} (h : NoSelf cells) (e : Option Nat) : STy cells e:=fun j t b a hj=>absurd hj (h j t b a)
theorem noSelf_vals (l : List A) : NoSelf (l.map .val):=fun j t b a h=>by
 rw [List.getElem?_map,Option.map_eq_some_iff] at h
 obtain ⟨x,_,h⟩:=h
 simp at h
def CellsOf (ρ : Nat → V) (gk : Nat → Option Nat) (gb : List Nat) (T : List (Nat × Nat)) (nv : Nat) (n : Nat) (v : V) (cells : List SV) : Prop:=Cells ρ gk gb T nv cells v.cells ∧ v.ok1 = true ∧ v.cells.length = n ∧ NoSelf cells
theorem single_cells {T : List (Nat × Nat)} {nv : Nat} {s : SV} {v : V} (hns : ∀ t b a,s ≠ .self t b a) (h : v.cells = [v]) (ho : v.ok1 = true) (r : RelSV ρ gk gb T s v) (hb : s.below nv = true) : CellsOf ρ gk gb T nv 1 v [s]:=by
 refine ⟨⟨by rw [h]; rfl,fun j s' v' h1 h2=>?_⟩,ho,by rw [h]; rfl,fun j t b a hj=>by
  cases j with
  | zero=>simp at hj; exact hns t b a hj
  | succ j=>simp at hj⟩
 rw [h] at h2
 cases j with
 | zero=>simp at h1 h2; subst h1; subst h2; exact ⟨r,hb⟩
 | succ j=>simp at h1
theorem agg_cells (c : Conc N gk gb S ρ env m) {n : Nat} {a : A} {v : V} (hv : v.erA = a.den ρ) {k : List A → SS → OL} {L : L} (h : cellsX none n a S k = some L) (hw : L.wp p Q S.nv ρ ks) :
  ∃ l nv kn bl ρ' L',k l (S.wit nv kn bl) = some L' ∧ L'.wp p Q nv ρ' ks ∧ Conc N gk gb (S.wit nv kn bl) ρ' env m ∧ S.nv ≤ nv ∧ AgreeN ρ ρ' S.nv ∧ CellsOf ρ' gk gb m.T nv n v (l.map .val):=by
 obtain ⟨j,nv1,kn1,bl1,ρ1,L1,k1,k2,k3,k4,k5,k6,k7,k8⟩:=cellsX_ok c h hw
 obtain ⟨e1,e2⟩:=k8 trivial
 obtain ⟨ds,d1,d2,d3⟩:=KnownV_pos k4 e2
 have hvc : v.cells.map V.erA = (cellsOf j n 0).map (A.den ρ1):=by
  rw [cellsOf_den ρ1 (cs:=ds) (by rw [d1]; rfl) d2,← erA_cells,hv,← e1,d1]; rfl
 exact ⟨_,nv1,kn1,bl1,ρ1,L1,k1,k2,k3,k6,k7,cells_of_as hvc (cellsOf_below k5 0),by rw [← erA_ok1,hv,← e1,d1]; rfl,by have:=congrArg List.length hvc; simpa [cellsOf_len] using this,noSelf_vals _⟩
theorem agg_cellsN (c : Conc N gk gb S ρ env m) {n : Nat} {a : A} {v : V} {nl : List Nat} (hv : v.erA = a.den ρ) (hs : ∃ cs,v = .agg cs ∧ ∀ j ∈ nl,cs[j]? = some (.sl .full [])) {k : List A → SS → OL} {L : L} (h : cellsX none n a S k = some L) (hw : L.wp p Q S.nv ρ ks) :
  ∃ l nv kn bl ρ' L',k l (S.wit nv kn bl) = some L' ∧ L'.wp p Q nv ρ' ks ∧ Conc N gk gb (S.wit nv kn bl) ρ' env m ∧ S.nv ≤ nv ∧ AgreeN ρ ρ' S.nv ∧ CellsOf ρ' gk gb m.T nv n v (l.zipIdx.map fun p=>bif hasN nl p.2 then .nils else .val p.1):=by
 obtain ⟨l,nv,kn,bl,ρ',L',q1,q2,q3,q4,q5,⟨q6,q7⟩,q8⟩:=agg_cells c hv h hw
 obtain ⟨cs,rfl,hcs⟩:=hs
 refine ⟨l,nv,kn,bl,ρ',L',q1,q2,q3,q4,q5,⟨by simpa using q6,fun j s x h1 h2=>?_⟩,q8.1,q8.2.1,fun j t b a hj=>?_⟩
 case refine_2 =>
  rw [List.getElem?_map,Option.map_eq_some_iff] at hj
  obtain ⟨x,_,hj⟩:=hj
  revert hj
  cases hasN nl x.2 <;> simp
 rw [List.getElem?_map,Option.map_eq_some_iff] at h1
 obtain ⟨⟨b,j'⟩,h3,rfl⟩:=h1
 rw [List.getElem?_zipIdx,Option.map_eq_some_iff] at h3
 obtain ⟨b',h4,h5⟩:=h3
 simp only [Nat.zero_add,Prod.mk.injEq] at h5
 obtain ⟨rfl,rfl⟩:=h5
 have h6:=q7 j (.val b') x (by rw [List.getElem?_map,h4]; rfl) h2
 simp only
 cases hn : hasN nl j with
 | false=>exact h6
 | true =>
  have hm : j ∈ nl:=hasN_mem hn
  have:=hcs j hm
  have h2 : cs[j]? = some x:=h2
  rw [h2] at this
  exact ⟨Option.some.inj this,rfl⟩
theorem grow_one {T : List (Nat × Nat)} {q sz : Nat} {a : A} {v : V} (r : RelSV ρ gk gb T (.grow q sz a) v) : v.cells = [v] ∧ v.ok1 = true:=by
 obtain ⟨es,_,h⟩:=r
 rcases h with ⟨rfl,_⟩ | ⟨i,_,rfl,_⟩ <;> exact ⟨rfl,rfl⟩
theorem x_box (c : Conc N gk gb S ρ env m) {g : Gd} {t : TypeId} {x : Operand} {k : SV → SS → OL} {L : L} (h : opX tt g (.box t x) S k = some L) (hw : L.wp p Q S.nv ρ ks) : Fin p Q ks N ρ S env k (LO' P tt p g env m (.box t x)):=by
 simp only [opX] at h
 split at h
 ·rename_i ti s hti hs
  obtain ⟨v,h1,h2,hbel⟩:=c.opnd hs
  have fin : ∀ {S1 : SS} {ρ1 : Nat → V} {L1 : Go.Fbs.L} {cells : List SV} {n : Nat},k (.ptr S1.boxes.length 0 none) { S1 with boxes:=S1.boxes ++ [some cells] } = some L1 → L1.wp p Q S1.nv ρ1 ks → Conc N gk gb S1 ρ1 env m → CellsOf ρ1 gk gb m.T S1.nv n v cells →
    S.nv ≤ S1.nv → AgreeN ρ ρ1 S.nv → S1.dep = S.dep → Fin p Q ks N ρ S env k (LO' P tt p none env m (.box t x)):=by
   intro S1 ρ1 L1 cells n hk hw c1 hc hn ha hd
   obtain ⟨c',r'⟩:=c1.newbox (hc.2.2.2.sty (some t)) hc.1
   refine ⟨_,_,_,_,ρ1,L1,gk,_,⟨rfl,rfl,evalOp_A rfl rfl ?_⟩,hk,hw,c',r',rfl,ha,hn,hd⟩
   simp only [evalA,h1]
   rw [if_pos hc.2.1]
  cases hag : ti.agg with
  | true =>
   rw [hag] at h
   simp only [cond_true] at h
   split at h
   ·rename_i a
    obtain ⟨l,nv,kn,bl,ρ',L',q1,q2,q3,q4,q5,q6⟩:=agg_cells c (v:=v) h2 h hw
    exact fin (S1:=S.wit nv kn bl) q1 q2 q3 q6 q4 q5 rfl
   ·rename_i a nl
    obtain ⟨l,nv,kn,bl,ρ',L',q1,q2,q3,q4,q5,q6⟩:=agg_cellsN c (v:=v) h2.1 h2.2 h hw
    exact fin (S1:=S.wit nv kn bl) q1 q2 q3 q6 q4 q5 rfl
   ·simp at h
  | false =>
   rw [hag] at h
   simp only [cond_false] at h
   split at h
   ·rename_i a
    obtain ⟨a',nv,kn,bl,ρ',L',q1,q2,q3,q4,q5,q6,q7⟩:=cell1X_ok c hbel h hw
    obtain ⟨e1,e2⟩:=q7 trivial
    have h2' : v.erA = a.den ρ:=h2
    have hsv : sc v = true:=by rw [← sc_erA,h2']; exact e2
    exact fin (S1:=S.wit nv kn bl) q1 q2 q3 (single_cells (by simp) (sc_cells hsv) (sc_ok1 hsv) (show v.erA = a'.den ρ' by rw [e1]; exact h2') q4) q5 q6 rfl
   ·have:=grow_one h2
    exact fin h hw c (single_cells (by simp) this.1 this.2 h2 hbel) (Nat.le_refl _) (AgreeN.refl _ _) rfl
   ·have h2' : v = .sl .full []:=h2
    subst h2'
    exact fin h hw c (single_cells (by simp) rfl rfl h2 hbel) (Nat.le_refl _) (AgreeN.refl _ _) rfl
   ·simp at h
 ·simp at h
theorem putCells_get {α : Type} {cs new : List α} {off j : Nat} (h : off + new.length ≤ cs.length) : (putCells cs off new)[j]? = if off ≤ j ∧ j < off + new.length then new[j - off]? else cs[j]?:=by
 unfold putCells
 by_cases h1 : j < off
 ·rw [if_neg (by omega),List.append_assoc,List.getElem?_append_left (by simp; omega),List.getElem?_take,if_pos h1]
 ·by_cases h2 : j < off + new.length
  ·rw [if_pos ⟨by omega,h2⟩,List.append_assoc,List.getElem?_append_right (by simp; omega),List.getElem?_append_left (by simp; omega)]
   congr 1; simp; omega
  ·rw [if_neg (by omega),List.getElem?_append_right (by simp; omega),List.getElem?_drop]
   congr 1; simp; omega
theorem Cells.put {T : List (Nat × Nat)} {nv : Nat} {cells new : List SV} {cs ns : List V} {off : Nat} (h : Cells ρ gk gb T nv cells cs) (h' : Cells ρ gk gb T nv new ns) (hl : off + new.length ≤ cells.length) :
  Cells ρ gk gb T nv (putCells cells off new) (putCells cs off ns):=by
 have e1:=h.1; have e2:=h'.1
 refine ⟨by rw [putCells_len hl,putCells_len (by omega)]; exact h.1,fun j s v h1 h2=>?_⟩
 rw [putCells_get hl] at h1
 rw [putCells_get (by omega)] at h2
 by_cases hj : off ≤ j ∧ j < off + new.length
 ·rw [if_pos hj] at h1
  rw [if_pos (by omega)] at h2
  exact h'.2 _ s v h1 h2
 ·rw [if_neg hj] at h1
  rw [if_neg (by omega)] at h2
  exact h.2 j s v h1 h2
include hT in
theorem x_store (c : Conc N gk gb S ρ env m) {g : Gd} {t : TypeId} {x y : Operand} {k : SV → SS → OL} {L : L} (h : opX tt g (.store t x y) S k = some L) (hw : L.wp p Q S.nv ρ ks) : Fin p Q ks N ρ S env k (LO' P tt p g env m (.store t x y)):=by
 simp only [opX] at h
 split at h
 ·rename_i ti b off s hti hx hs
  obtain ⟨tok,htt⟩:=hT t ti hti
  have hsz:=tok.sz
  rw [htt] at hsz
  obtain ⟨u,h1,h2,_⟩:=c.opnd hx
  obtain ⟨v,h3,h4,hbel⟩:=c.opnd hs
  obtain ⟨l,hl,rfl⟩:=h2.1 trivial
  split at h
  ·rename_i cells hb
   cases hle : Nat.ble (off + ti.sz) cells.length with
   | false=>rw [hle] at h; simp at h
   | true =>
    rw [hle] at h
    simp only [cond_true] at h
    have hle':=Nat.le_of_ble_eq_true hle
    have fin : ∀ {S1 : SS} {ρ1 : Nat → V} {L1 : Go.Fbs.L} {new : List SV},k undefS { S1 with boxes:=S1.boxes.set b (some (putCells cells off new)) } = some L1 → L1.wp p Q S1.nv ρ1 ks → Conc N gk gb S1 ρ1 env m → CellsOf ρ1 gk gb m.T S1.nv ti.sz v new →
      S1.boxes = S.boxes → S.nv ≤ S1.nv → AgreeN ρ ρ1 S.nv → S1.dep = S.dep → Fin p Q ks N ρ S env k (LO' P tt p none env m (.store t x y)):=by
     intro S1 ρ1 L1 new hk hw c1 hc hbx hn ha hd
     obtain ⟨l',cs,e1,⟨e9,e2,e8⟩,e3⟩:=c1.boxes b cells (by rw [hbx]; exact hb)
     rw [hl] at e1
     simp only [Option.some.injEq] at e1
     subst e1
     have hnl : new.length = ti.sz:=by rw [hc.1.1]; exact hc.2.2.1
     have hp:=e3.put (off:=off) hc.1 (by omega)
     have c':=c1.setbox hl (e:=e9) (fun j t b a hj=>by
      rw [putCells_get (by omega)] at hj
      split at hj
      ·exact absurd hj (hc.2.2.2 _ t b a)
      ·exact e8 j t b a hj) hp
     refine ⟨.undef,_,undefS,_,ρ1,L1,gk,gb,⟨rfl,rfl,evalOp_W rfl rfl ?_⟩,hk,hw,c',rfl,rfl,ha,hn,hd⟩
     simp only [evalW,h1,h3,storeV,hsz,e2]
     have:=e3.1
     rw [if_pos ⟨hc.2.1,hc.2.2.1,by omega⟩]
     rfl
    cases hag : ti.agg with
    | true =>
     rw [hag] at h
     simp only [cond_true] at h
     split at h
     ·rename_i a
      obtain ⟨as,nv,kn,bl,ρ',L',q1,q2,q3,q4,q5,q6⟩:=agg_cells c (v:=v) h4 h hw
      exact fin (S1:=S.wit nv kn bl) q1 q2 q3 q6 rfl q4 q5 rfl
     ·rename_i a nl
      obtain ⟨as,nv,kn,bl,ρ',L',q1,q2,q3,q4,q5,q6⟩:=agg_cellsN c (v:=v) h4.1 h4.2 h hw
      exact fin (S1:=S.wit nv kn bl) q1 q2 q3 q6 rfl q4 q5 rfl
     ·simp at h
    | false =>
     rw [hag] at h
     simp only [cond_false] at h
     cases hz1 : Nat.beq ti.sz 1 with
     | false=>rw [hz1] at h; simp at h
     | true =>
      rw [hz1] at h
      simp only [cond_true] at h
      have hone:=Nat.eq_of_beq_eq_true hz1
      rw [hone] at fin
      split at h
      ·rename_i a
       obtain ⟨a',nv,kn,bl,ρ',L',q1,q2,q3,q4,q5,q6,q7⟩:=cell1X_ok c hbel h hw
       obtain ⟨e1,e2⟩:=q7 trivial
       have h4' : v.erA = a.den ρ:=h4
       have hsv : sc v = true:=by rw [← sc_erA,h4']; exact e2
       exact fin (S1:=S.wit nv kn bl) q1 q2 q3 (single_cells (by simp) (sc_cells hsv) (sc_ok1 hsv) (show v.erA = a'.den ρ' by rw [e1]; exact h4') q4) rfl q5 q6 rfl
      ·have:=grow_one h4
       exact fin h hw c (single_cells (by simp) this.1 this.2 h4 hbel) rfl (Nat.le_refl _) (AgreeN.refl _ _) rfl
      ·have h4' : v = .sl .full []:=h4
       subst h4'
       exact fin h hw c (single_cells (by simp) rfl rfl h4 hbel) rfl (Nat.le_refl _) (AgreeN.refl _ _) rfl
      ·simp at h
  ·simp at h
 ·simp at h
theorem demote_below {q n : Nat} {s : SV} (h : s.below n = true) : (Fbs.demote q s).below n = true:=by
 cases s with
 | grow k sz a=>simp only [Fbs.demote]; cases Nat.beq q k <;> exact h
 | _=>exact h
theorem RelSV.demote {T : List (Nat × Nat)} {q : Nat} {s : SV} {v : V} (r : RelSV ρ gk gb T s v) : RelSV ρ (fun k=>if k = q then none else gk k) gb T (Fbs.demote q s) v:=by
 cases s with
 | grow k sz a =>
  simp only [Fbs.demote]
  cases hb : Nat.beq q k with
  | true=>exact rel_a r rfl
  | false =>
   have hne : ¬ k = q:=fun e=>by subst e; simp at hb
   obtain ⟨es,h1,h2⟩:=r
   refine ⟨es,h1,?_⟩
   rcases h2 with h2 | ⟨i,h3,h4,h5⟩
   ·exact .inl h2
   ·exact .inr ⟨i,by show (if k = q then none else gk k) = some i; rw [if_neg hne]; exact h3,h4,h5⟩
 | _=>exact r
theorem assoc_map {α β : Type} (f : α → β) : ∀ (l : List (Nat × α)) (t : Nat),assoc (l.map fun p=>(p.1,f p.2)) t = (assoc l t).map f
 | [],t=>rfl
 | (j,x) :: r,t=>by
  simp only [List.map_cons,assoc]
  cases Nat.beq j t with
  | true=>rfl
  | false=>exact assoc_map f r t
theorem Conc.demote (c : Conc N gk gb S ρ env m) (q : Nat) : Conc N (fun k=>if k = q then none else gk k) gb (S.demote q) ρ env m:=by
 refine ⟨c.n,fun t s hs=>?_,fun b cells hb=>?_,by simp [SS.demote,c.blen],c.binj,c.blt,fun k k' i h1 h2=>?_,fun k i h=>?_,c.known,c.bools,c.own⟩
 ·simp only [SS.look,SS.demote] at hs
  rw [assoc_map (Fbs.demote q),Option.map_eq_some_iff] at hs
  obtain ⟨s',h1,rfl⟩:=hs
  obtain ⟨h2,h3,h4⟩:=c.slots t s' h1
  exact ⟨h2,h3.demote,demote_below h4⟩
 ·simp only [SS.demote,List.getElem?_map,Option.map_eq_some_iff] at hb
  obtain ⟨o,h1,h2⟩:=hb
  obtain ⟨cs',rfl,rfl⟩:=h2
  obtain ⟨l,cs,h3,⟨e9,h4,e8⟩,h5⟩:=c.boxes b cs' h1
  refine ⟨l,cs,h3,⟨e9,h4,fun j t b a hj=>by
   rw [List.getElem?_map,Option.map_eq_some_iff] at hj
   obtain ⟨s,h6,h7⟩:=hj
   refine e8 j t b a (h6.trans (congrArg some ?_))
   cases s <;> simp [Fbs.demote] at h7
   ·rename_i k _ _
    cases hq : Nat.beq q k <;> rw [hq] at h7 <;> simp at h7
   ·simp [h7]⟩,by rw [List.length_map]; exact h5.1,fun j s v h6 h7=>?_⟩
  rw [List.getElem?_map,Option.map_eq_some_iff] at h6
  obtain ⟨s',h8,rfl⟩:=h6
  obtain ⟨h9,h10⟩:=h5.2 j s' v h8 h7
  exact ⟨h9.demote,demote_below h10⟩
 ·split at h1
  ·simp at h1
  ·split at h2
   ·simp at h2
   ·exact c.kinj k k' i h1 h2
 ·split at h
  ·simp at h
  ·exact c.klt k i h
theorem Conc.setT (c : Conc N gk gb S ρ env m) {T' : List (Nat × Nat)} (hl : m.T.length ≤ T'.length) (h : ∀ (k i : Nat) x,gk k = some i → m.T[i]? = some x → T'[i]? = some x) : Conc N gk gb S ρ env { m with T:=T' } :=
 ⟨c.n,fun t s hs=>let ⟨h1,h2,h3⟩:=c.slots t s hs; ⟨h1,h2.up (fun _ _ h=>h) (fun _ _ h=>h) h,h3⟩,fun b cells hb=>let ⟨l,cs,h1,h2,h3⟩:=c.boxes b cells hb; ⟨l,cs,h1,h2,h3.up (fun _ _ h=>h) (fun _ _ h=>h) h⟩,
  c.blen,c.binj,c.blt,c.kinj,fun k i hk=>let ⟨h1,h2⟩:=c.klt k i hk; ⟨h1,Nat.lt_of_lt_of_le h2 hl⟩,c.known,c.bools,c.own⟩
theorem Conc.newgrow (c : Conc N gk gb S ρ env m) {i : Nat} (hi : i < m.T.length) (hn : ∀ k,gk k ≠ some i) : Conc N (fun k=>if k = S.nk then some i else gk k) gb { S with nk:=S.nk + 1 } ρ env m:=by
 have up : ∀ k j,gk k = some j → (if k = S.nk then some i else gk k) = some j:=fun k j h=>by
  rw [if_neg (by have:=(c.klt k j h).1; omega)]; exact h
 refine ⟨c.n,fun t s hs=>let ⟨h1,h2,h3⟩:=c.slots t s hs; ⟨h1,h2.up up (fun _ _ h=>h) (fun _ _ _ _ h=>h),h3⟩,fun b cells hb=>let ⟨l,cs,h1,h2,h3⟩:=c.boxes b cells hb; ⟨l,cs,h1,h2,h3.up up (fun _ _ h=>h) (fun _ _ _ _ h=>h)⟩,
  c.blen,c.binj,c.blt,fun k k' j h1 h2=>?_,fun k j h=>?_,c.known,c.bools,c.own⟩
 ·split at h1 <;> split at h2
  ·omega
  ·simp only [Option.some.injEq] at h1; subst h1; exact absurd h2 (hn k')
  ·simp only [Option.some.injEq] at h2; subst h2; exact absurd h1 (hn k)
  ·exact c.kinj k k' j h1 h2
 ·split at h
  ·simp only [Option.some.injEq] at h; subst h; rename_i e; subst e; exact ⟨Nat.lt_succ_self _,hi⟩
  ·obtain ⟨h1,h2⟩:=c.klt k j h; exact ⟨Nat.lt_succ_of_lt h1,h2⟩
theorem appK_some {n b : Nat} {x y w : V} (h : appK n b x.erA y.erA = some w) : ∃ g es g' ys,x = .sl g es ∧ y = .sl g' ys ∧ w = .sl .ro ((es ++ ys).map V.erA) ∧ (es.length + ys.length) * (b + 1) ≤ 70368744177664 ∧ es.all (fun e=>e.cells.length == n) = true ∧ ys.all (fun e=>e.cells.length == n) = true:=by
 unfold appK at h
 split at h
 ·rename_i h1 h2
  obtain ⟨g,es,rfl,rfl⟩:=erA_sl h1
  obtain ⟨g',ys,rfl,rfl⟩:=erA_sl h2
  split at h
  ·rename_i hc
   rw [List.length_map,List.length_map,all_len_erA,all_len_erA] at hc
   simp only [Option.some.injEq] at h
   exact ⟨g,es,g',ys,rfl,rfl,by rw [← h,List.map_append],hc⟩
  ·simp at h
 ·simp at h
def SS.dropS (S : SS) : SV → SS
 | .grow q _ _=>S.demote q
 | _=>S
theorem grow_append (c : Conc N gk gb S ρ env m) {sx : SV} {x : V} (hx : RelSV ρ gk gb m.T sx x) {n cd b : Nat} {es ys : List V} {g0 : Tag} (hxe : x = .sl g0 es)
  (hcase : (∃ q a,sx = .grow q cd a) ∨ sx = .nils) (hb : (es.length + ys.length) * (b + 1) ≤ 70368744177664) (h1 : es.all (fun e=>e.cells.length == n) = true) (h2 : ys.all (fun e=>e.cells.length == n) = true) :
  ∃ v m' gk',appendT n cd b x ys m = some (v,m') ∧ m'.H = m.H ∧
   Conc N gk' gb { (S.dropS sx) with nk:=S.nk + 1 } ρ env m' ∧
   (∀ (a : A) (ρ' : Nat → V),a.den ρ' = .sl .ro ((es ++ ys).map V.erA) → RelSV ρ' gk' gb m'.T (.grow S.nk cd a) v):=by
 subst hxe
 obtain ⟨S0,hS0,gk0,c0,hgk0,hnk,hown⟩ : ∃ S0,S0 = (S.dropS sx) ∧ ∃ gk0,Conc N gk0 gb S0 ρ env m ∧ (∀ k i,gk0 k = some i → gk k = some i) ∧ S0.nk = S.nk ∧ (∀ i,g0 = .own i → ∀ k,gk0 k ≠ some i):=by
  rcases hcase with ⟨q,a,rfl⟩ | rfl
  ·refine ⟨_,rfl,_,c.demote q,fun k i h=>?_,rfl,fun i hi k hk=>?_⟩
   ·split at h
    ·simp at h
    ·exact h
   ·obtain ⟨es',_,h3⟩:=hx
    rcases h3 with ⟨h3,_⟩ | ⟨i',h4,h5,_⟩
    ·simp only [V.sl.injEq] at h3; rw [h3.1] at hi; simp at hi
    ·simp only [V.sl.injEq] at h5
     rw [h5.1] at hi
     simp only [Tag.own.injEq] at hi
     subst hi
     split at hk
     ·simp at hk
     ·rename_i hne; exact hne (c.kinj k q i' hk h4)
  ·refine ⟨_,rfl,gk,c,fun _ _ h=>h,rfl,fun i hi=>?_⟩
   have : V.sl g0 es = .sl .full []:=hx
   simp only [V.sl.injEq] at this
   rw [this.1] at hi; simp at hi
 have htag : (g0 = .full ∧ (cd = 1 → es.length = 0)) ∨ ∃ i,g0 = .own i ∧ m.T[i]? = some (es.length,cd):=by
  rcases hcase with ⟨q,a,rfl⟩ | rfl
  ·obtain ⟨es',_,h3⟩:=hx
   rcases h3 with ⟨h3,h9⟩ | ⟨i',h4,h5,h6⟩
   ·simp only [V.sl.injEq] at h3; exact .inl ⟨h3.1,h3.2 ▸ h9⟩
   ·simp only [V.sl.injEq] at h5; obtain ⟨rfl,rfl⟩:=h5; exact .inr ⟨i',rfl,h6⟩
  ·have : V.sl g0 es = .sl .full []:=hx
   simp only [V.sl.injEq] at this
   exact .inl ⟨this.1,fun _=>by rw [this.2]; rfl⟩
 rw [← hS0]
 unfold appendT
 simp only
 rw [if_pos ⟨hb,h1,h2⟩]
 by_cases hy : ys = []
 ·subst hy
  rw [if_pos rfl]
  rcases htag with ⟨rfl,h9⟩ | ⟨i,rfl,hi⟩
  ·refine ⟨_,_,gk0,rfl,rfl,hnk ▸ c0.newk,fun a ρ' ha=>⟨es,by rw [ha]; simp,.inl ⟨rfl,h9⟩⟩⟩
  ·have hlt : i < m.T.length:=(List.getElem?_eq_some_iff.1 hi).1
   refine ⟨_,_,_,rfl,rfl,hnk ▸ c0.newgrow hlt (hown i rfl),fun a ρ' ha=>⟨es,by rw [ha]; simp,.inr ⟨i,?_,rfl,hi⟩⟩⟩
   simp [hnk]
 ·rw [if_neg hy]
  rcases htag with ⟨rfl,h9⟩ | ⟨i,rfl,hi⟩
  ·simp only
   have c1:=c0.setT (T':=m.T ++ [(es.length + ys.length,cd)]) (by simp) (fun k i x hk hx=>by
    rw [List.getElem?_append_left (List.getElem?_eq_some_iff.1 hx).1]; exact hx)
   have c2:=c1.newgrow (i:=m.T.length) (by simp) (fun k hk=>by have:=(c0.klt k _ hk).2; omega)
   refine ⟨_,_,_,rfl,rfl,hnk ▸ c2,fun a ρ' ha=>⟨es ++ ys,ha,.inr ⟨m.T.length,by simp [hnk],rfl,by simp⟩⟩⟩
  ·simp only [hi,if_true]
   have hlt : i < m.T.length:=(List.getElem?_eq_some_iff.1 hi).1
   have c1:=c0.setT (T':=m.T.set i (es.length + ys.length,cd)) (by simp) (fun k j x hk hx=>by
    rw [List.getElem?_set_ne (fun e=>by subst e; exact hown i rfl k hk)]; exact hx)
   have c2:=c1.newgrow (i:=i) (by simpa using hlt) (hown i rfl)
   refine ⟨_,_,_,rfl,rfl,hnk ▸ c2,fun a ρ' ha=>⟨es ++ ys,ha,.inr ⟨i,by simp [hnk],rfl,by simp [hlt]⟩⟩⟩
end
end Go.Fbs

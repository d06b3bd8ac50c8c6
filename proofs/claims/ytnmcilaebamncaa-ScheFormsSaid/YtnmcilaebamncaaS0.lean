/- Common texts: values, words, what they answer; no statement of the seat. -/
import Derived.Test.YtnmcilaebamncaaR0
import Derived.LoopN
set_option linter.unusedVariables false
set_option linter.unusedSimpArgs false
set_option linter.unusedSectionVars false
/- Code: what holds behind it; functions. -/
namespace Go.Fbs
def AW (P:Program) (c:Code) (s:St) (Q:Exit→St→Prop):Prop :=
 ∀ (κ:Ctx) (w:World) (a:Act),Mem κ w.heap s.m→cC κ w.heap s.env a→∀ R:Exit→Act→World→Prop,
  (∀ e s' κ' w' a',Q e s'→Ext κ w s.m κ' w' s'.m→cC κ' w'.heap s'.env a'→R e a' w')→c.wp P R a w
section
variable {P:Program} {C:dG} {s:St} {Q:Exit→St→Prop}
theorem AW.mono {c:Code} {Q':Exit→St→Prop} (h:AW P c s Q) (hq:∀ e s,Q e s→Q' e s):AW P c s Q' :=
 fun κ w a k re R hR=>h κ w a k re R (fun e s' κ' w' a' q=>hR e s' κ' w' a' (hq e s' q))
theorem b6t (h:Q .normal s):AW P .skip s Q:=fun κ w a k re R hR=>wp_skip (hR _ _ κ w a h (Ext.refl k) re)
theorem b2l {l:Nat} (h:Q .normal s):AW P (.label l) s Q:=fun κ w a k re R hR=>wp_label (hR _ _ κ w a h (Ext.refl k) re)
theorem b6u {id:Nat} (h:Q (.exit id) s):AW P (.exit id) s Q:=fun κ w a k re R hR=>wp_exit (hR _ _ κ w a h (Ext.refl k) re)
theorem bAg (h:Q .ret s):AW P .ret s Q:=fun κ w a k re R hR=>wp_ret (hR _ _ κ w a h (Ext.refl k) re)
def b4m (next:St→Prop) (Q:Exit→St→Prop):Exit→St→Prop
 | .normal,s=>next s
 | e,s=>Q e s
theorem aZs {x y:Code} (h:AW P x s (b4m (fun s'=>AW P y s' Q) Q)):AW P (.seq x y) s Q:=by
 intro κ w a k re R hR
 refine wp_seq (h κ w a k re _ fun e s' κ' w' a' hq hx hr=>?_)
 cases e with
 | normal=>exact hq κ' w' a' hx.mem hr R (fun e2 s2 κ2 w2 a2 q2 hx2 hr2=>hR e2 s2 κ2 w2 a2 q2 (hx.trans hx2) hr2)
 | _=>exact hR _ s' κ' w' a' hq hx hr
theorem aKw {c:Operand} {x y:Code} {t:Bool} (hc:ev s.env c=some (.bool t)) (h:AW P (if t then x else y) s Q):AW P (.cond c x y) s Q :=
 fun κ w a k re R hR=>wp_cond (jM (re.ev hc)) (h κ w a k re R hR)
def aJh (id:Nat) (Q:Exit→St→Prop):Exit→St→Prop
 | .exit j,s=>if j=id then Q .normal s else Q (.exit j) s
 | e,s=>Q e s
theorem aP5 {id:Nat} {c:Code} (h:AW P c s (aJh id Q)):AW P (.block id c) s Q:=by
 intro κ w a k re R hR
 refine wp_block (h κ w a k re _ fun e s' κ' w' a' hq hx hr=>?_)
 cases e with
 | exit j =>
  simp only [Exit.inBlock]
  simp only [aJh] at hq
  split
  ·rename_i hj; rw [if_pos hj] at hq; exact hR _ s' κ' w' a' hq hx hr
  ·rename_i hj; rw [if_neg hj] at hq; exact hR _ s' κ' w' a' hq hx hr
 | _=>exact hR _ s' κ' w' a' hq hx hr
theorem aZt (hC:Sound P C) {id:Nat} {ops:List Oper} {env':Env} {m':Hp} (e:kU P C ops ops s.env s.m=some (env',m')) (h:Q .normal ⟨env',m'⟩):AW P (.region id ops.toArray false) s Q :=
 fun κ w a k re R hR=>wp_region_lit (aDs hC e κ w a k re (fun κ' w' a' hx hr=>hR _ ⟨env',m'⟩ κ' w' a' h hx hr))
theorem b2m (hC:Sound P C) (n:Nat) {id:Nat} {ops:List Oper} {env':Env} {m':Hp} (hm:P.follows .mixedOrders=true) (hd:nF ops n=true) (e:a68 P C ops n s.env s.m=some (env',m'))
  (h:Q .normal ⟨env',m'⟩):AW P (.region id ops.toArray true) s Q :=
 fun κ w a k re R hR=>a8i hC hd hm e k re (fun κ' w' a' hx hr=>hR _ ⟨env',m'⟩ κ' w' a' h hx hr)
def mU (P:Program) (env:Env) (H:List LO):List ResultVar→Option (List V)
 | []=>some []
 | .tmp t::r =>
  match env.get t,mU P env H r with
  | some v,some vs=>some (v::vs)
  | _,_=>none
 | .cell t ty::r =>
  match env.get t,mU P env H r with
  | some u,some vs=>(nX P ty H u).map (· :: vs)
  | _,_=>none
def sP (P:Program) (rs:List ResultVar) (s:St):Option V :=
 match mU P s.env s.m.H rs with
 | some [v]=>some v
 | some vs=>some (.aG vs)
 | none=>none
theorem xK {κ:Ctx} {w:World} {a:Act} {env:Env} {m:Hp} (k:Mem κ w.heap m) (re:cC κ w.heap env a):∀ {rs:List ResultVar} {vs:List V},mU P env m.H rs=some vs →
  ∃ xs:List Value,(rs.mapM (fun r=>match r with | .tmp t=>pure (a.tmps.getD t undef) | .cell b t=>do loadVar t (← asAddr (a.tmps.getD b undef))):Sem (List Value)).run P w = .ok xs w∧aB κ w.heap vs xs
 | [],vs,e=>by simp [mU] at e; subst e; exact ⟨[],by simp,aB.nil⟩
 | .tmp t::rs,vs,e=>by
  simp only [mU] at e
  split at e <;> simp at e
  rename_i v vs' h1 h2
  subst e
  obtain ⟨xs,h3,h4⟩:=xK k re h2
  refine ⟨a.tmps.getD t undef::xs,?_,aB.cons (by have:=re.ev (x:=.tmp t) h1; simpa [Act.eval] using this) h4⟩
  simp only [List.mapM_cons,Sem.run_bind,Sem.run_pure,Result.andThen_ok]
  rw [h3]; rfl
 | .cell t ty::rs,vs,e=>by
  simp only [mU] at e
  split at e
  ·rename_i u vs' h1 h2
   simp only [Option.map_eq_some_iff] at e
   obtain ⟨v,h5,rfl⟩:=e
   obtain ⟨xs,h3,h4⟩:=xK k re h2
   have hu:aD κ w.heap u (a.tmps.getD t undef):=by have:=re.ev (x:=.tmp t) h1; simpa [Act.eval] using this
   obtain ⟨y,hy,ry⟩:=aOi (P:=P) k hu h5
   refine ⟨y::xs,?_,aB.cons ry h4⟩
   have hload:(do loadVar ty (← asAddr (a.tmps.getD t undef)):Sem Value).run P w = .ok y w:=by
    cases u <;> simp only [nX] at h5 <;> try (simp at h5; done)
    ·obtain ⟨b,_,he⟩:=hZ hu
     rw [he] at hy ⊢
     simpa [Instr.loadAt,Instr.sureAddr,asAddr] using hy
    ·obtain ⟨b,off,ys,_,_,he⟩:=aIe hu
     rw [he] at hy ⊢
     simpa [Instr.loadAt,Instr.sureAddr,asAddr] using hy
   simp only [List.mapM_cons,Sem.run_bind]
   simp only [Sem.run_bind] at hload
   rw [hload]
   simp only [Result.andThen_ok]
   rw [h3]; rfl
  ·simp at e
theorem a6e {κ:Ctx} {w:World} {a:Act} {s:St} {fn:Func} {v:V} (k:Mem κ w.heap s.m) (re:cC κ w.heap s.env a) (e:sP P fn.results.toList s=some v) :
  ∃ x,(results fn a.tmps).run P w = .ok x w∧aD κ w.heap v x:=by
 unfold sP at e
 cases hv:mU P s.env s.m.H fn.results.toList with
 | none=>simp [hv] at e
 | some vs =>
  obtain ⟨xs,h1,h2⟩:=xK k re hv
  have hrun:(results fn a.tmps).run P w = .ok (if h:(⟨xs⟩:Array Value).size=1 then (⟨xs⟩:Array Value)[0] else .tuple ⟨xs⟩) w:=by
   unfold results
   rw [Array.mapM_eq_mapM_toList]
   simp only [Sem.run_bind,Sem.run_map]
   exact (congrArg (fun r:Result (List Value)=>(r.andThen fun a w'=>Result.ok a.toArray w').andThen fun a w'=>Sem.run P (pure (if h:a.size=1 then a[0] else Value.tuple a)) w') h1).trans (by simp)
  rw [hv] at e
  cases vs with
  | nil =>
   simp at e; subst e
   obtain rfl:=h2.lC
   exact ⟨.tuple ⟨[]⟩,by rw [hrun]; rfl,.aG _ _ rfl (by simp)⟩
  | cons u us =>
   obtain ⟨x,xs',rfl,rx,r'⟩:=h2.fP
   cases us with
   | nil =>
    simp at e; subst e
    obtain rfl:=r'.lC
    exact ⟨x,by rw [hrun]; rfl,rx⟩
   | cons u' us' =>
    simp at e; subst e
    refine ⟨.tuple ⟨x::xs'⟩,?_,.aG _ _ h2.1 h2.2⟩
    rw [hrun,dif_neg]
    have:=h2.1
    simp at this ⊢
    intro h; subst h; simp at this
end
end Go.Fbs

/- Functions that only read: from what the evaluator says of the body to what a call does,in whatever memory. -/
namespace Go.Fbs
mutual
def V.plain:V→Bool
 | .ptr _ _=>false
 | .map (some _)=>false
 | .slr ..=>false
 | .sl (.own _) _=>false
 | .sl _ es=>qL es
 | .agg cs=>qL cs
 | .ro cs=>qL cs
 | .func _ cs=>qL cs
 | .aG vs=>qL vs
 | _=>true
def qL:List V→Bool
 | []=>true
 | v::vs=>v.plain && qL vs
end
theorem rM:∀ {vs:List V},qL vs=true↔∀ v ∈ vs,v.plain=true
 | []=>by simp [qL]
 | v::vs=>by simp [qL,rM (vs:=vs)]
theorem aSa {v:V} (h:v.plain=true):∀ c ∈ v.cells,c.plain=true:=by
 cases v with
 | agg cs=>simp only [V.plain] at h; exact rM.1 h
 | _=>intro c hc; simp [V.cells] at hc; subst hc; exact h
theorem aBm {es:List V} (h:qL es=true):∀ c ∈ flat es,c.plain=true:=by
 intro c hc
 simp only [flat,List.mem_flatMap] at hc
 obtain ⟨e,he,hc⟩:=hc
 exact aSa (rM.1 h e he) c hc
theorem a0n {κ κ':Ctx} {h:bX} (hw:∀ b,κ.hw b≤κ'.hw b) {v:V} {x:Value} (r:aD κ h v x) (hp:v.plain=true):aD κ' h v x:=by
 have hb:∀ {b off:Nat} {xs:List Value},Block κ h b off xs→Block κ' h b off xs:=fun hx i y hy=>let ⟨h1,h2⟩:=hx i y hy; ⟨Nat.lt_of_lt_of_le h1 (hw _),h2⟩
 induction r with
 | bool b=>exact .bool b
 | int k n=>exact .int k n
 | str s=>exact .str s
 | ptr l off b _=>simp [V.plain] at hp
 | ro cs b off xs hx hl _ ih =>
  simp only [V.plain] at hp
  exact .ro cs b off xs (hb hx) hl (fun i c x h1 h2=>ih i c x h1 h2 (rM.1 hp c (List.mem_of_getElem? h1)))
 | dK=>exact .dK
 | slnil g hg =>
  cases g with
  | own i=>simp [V.plain] at hp
  | ro=>exact .slnil _ (by simp)
  | full=>exact .slnil _ (by simp)
 | sl g es b off cap sz xs hx hu hl _ hc ht ih =>
  cases g with
  | own i=>simp [V.plain] at hp
  | ro =>
   simp only [V.plain] at hp
   exact .sl .ro es b off cap sz xs (hb hx) hu hl (fun i c x h1 h2=>ih i c x h1 h2 (aBm hp c (List.mem_of_getElem? h1))) hc trivial
  | full =>
   simp only [V.plain] at hp
   exact .sl .full es b off cap sz xs (hb hx) hu hl (fun i c x h1 h2=>ih i c x h1 h2 (aBm hp c (List.mem_of_getElem? h1))) hc ht
 | j5=>exact .j5
 | map l b _=>simp [V.plain] at hp
 | slr l off n c b cap _ _ _=>simp [V.plain] at hp
 | func f caps xs hl _ ih =>
  simp only [V.plain] at hp
  exact .func f caps xs hl (fun i c x h1 h2=>ih i c x h1 h2 (rM.1 hp c (List.mem_of_getElem? h1)))
 | agg cs xs hl ho _ ih =>
  simp only [V.plain] at hp
  exact .agg cs xs hl ho (fun i c x h1 h2=>ih i c x h1 h2 (rM.1 hp c (List.mem_of_getElem? h1)))
 | aG cs xs hl _ ih =>
  simp only [V.plain] at hp
  exact .aG cs xs hl (fun i c x h1 h2=>ih i c x h1 h2 (rM.1 hp c (List.mem_of_getElem? h1)))
 | undef=>exact .undef
 | any x=>exact .any x
theorem aJi {κ κ':Ctx} {h:bX} (hw:∀ b,κ.hw b≤κ'.hw b) {vs:List V} {xs:List Value} (r:aB κ h vs xs) (hp:qL vs=true):aB κ' h vs xs :=
 ⟨r.1,fun i c x h1 h2=>a0n hw (r.2 i c x h1 h2) (rM.1 hp c (List.mem_of_getElem? h1))⟩
def bare (κ:Ctx):Ctx:=⟨κ.hw,fun _=>none,[]⟩
def empty:Hp:=⟨[],[]⟩
theorem aP6 {κ:Ctx} {h:bX} {m:Hp} (k:Mem κ h m):Mem (bare κ) h empty:=by
 refine ⟨⟨?_,?_,?_,?_,?_,?_,?_,?_,k.1.fresh⟩,⟨?_,?_⟩,rfl⟩ <;> intros <;> simp_all [bare,boxed]
theorem aJj {κ:Ctx} {b:Nat} : ¬ owned (bare κ) b:=by
 rintro (⟨l,h⟩ | ⟨L,h,_⟩) <;> simp [bare] at h
theorem aSb {κ κ1:Ctx} {h h1:bX} {m m1:Hp} (k:Mem κ h m) (le:Le (bare κ) h κ1 h1) (mem:Mem κ1 h1 m1):∃ κ',LeB κ h κ' h1∧Mem κ' h1 m∧κ'.hw=κ1.hw:=by
 let κ':Ctx:=⟨κ1.hw,κ.box,κ.aU⟩
 obtain ⟨ok,hp,hT⟩:=k
 have hsame : ∀ b,b < h.size → h1[b]? = h[b]?:=fun b hb=>le.same b hb aJj
 have hhw:∀ b,b < h.size→κ1.hw b=κ.hw b:=fun b hb=>le.a07 b hb aJj
 have l:Le κ h κ' h1:=⟨le.size,fun b hb _=>hsame b hb,fun b hb _=>hhw b hb,le.a3m,le.hw,fun _ _ h=>h,fun _ h=>.inl h,fun _ L h=>⟨L,h,.inl rfl⟩,fun L h hk=>.inl ⟨L,h,hk,rfl⟩⟩
 refine ⟨κ',⟨l,rfl⟩,⟨?_,hp.mono l rfl (fun b hb=>hsame b (ok.kW b hb)),hT⟩,rfl⟩
 constructor
 ·intro b hb; exact Nat.lt_of_lt_of_le (ok.kW b hb) le.size
 ·intro b hb; exact (hhw b (ok.kW b hb)).trans (ok.uI b hb)
 ·exact ok.xT
 ·intro L hL hk; exact Nat.lt_of_lt_of_le (ok.lW L hL hk) le.size
 ·intro L hL hlv; exact (hhw L.cV (ok.lW L hL (nf hlv))).trans (ok.lhw L hL hlv)
 ·exact ok.lnd
 ·exact ok.wG
 ·intro L hL hlv
  obtain ⟨c,E,h2,h3⟩:=ok.tE L hL hlv
  exact ⟨c,E,by rw [hsame _ (ok.lW L hL (nf hlv))]; exact h2,h3⟩
 ·exact mem.1.fresh
theorem aJk {κ κ1:Ctx} {w w1:World} {m m1:Hp} (k:Mem κ w.heap m) (x:Ext (bare κ) w empty κ1 w1 m1):∃ κ',LeW κ w κ' w1∧Mem κ' w1.heap m∧κ'.hw=κ1.hw :=
 let ⟨κ',l,k',h⟩:=aSb k x.le x.mem
 ⟨κ',⟨l,x.os,x.out⟩,k',h⟩
section
variable {P:Program}
def entry (n:Nat) (args:List V):Env:=⟨n,fun i=>args.getD i .undef⟩
theorem yW {κ:Ctx} {h:bX} {args:List V} {xs:List Value} (r:aB κ h args xs) {n:Nat} (hn:args.length≤n) :
  cC κ h (entry n args) { tmps:=(⟨xs⟩:Array Value)++Array.replicate (n - (⟨xs⟩:Array Value).size) Go.undef,defers:=[] }:=by
 have hl:(⟨xs⟩:Array Value).size=args.length:=r.1
 refine ⟨rfl,by simp [entry]; have:=r.1; omega,fun i v x h1 h2=>?_⟩
 have hi:i < n:=Env.yQ h1
 unfold Env.get entry at h1
 simp only at h1
 rw [if_pos hi] at h1
 simp only [Option.some.injEq] at h1
 rw [Array.getElem?_append,hl] at h2
 by_cases hia:i < args.length
 ·rw [if_pos hia] at h2
  rw [List.getD_eq_getElem?_getD,List.getElem?_eq_getElem hia] at h1
  simp only [Option.getD_some] at h1
  exact r.2 i v x (by rw [List.getElem?_eq_getElem hia,h1]) (by simpa using h2)
 ·rw [if_neg hia] at h2
  rw [List.getD_eq_getElem?_getD,List.getElem?_eq_none (by omega)] at h1
  simp only [Option.getD_none] at h1
  rw [Array.getElem?_replicate] at h2
  split at h2 <;> simp at h2
  subst h1; subst h2
  exact .undef
theorem aKs {f : FuncId} {fn : Func} {c : Code} (hf : P.funcs[f]? = some fn) (hb : fn.body = some c) {args : List V} {v : V}
  (hn:args.length≤fn.ntmps) (h:AW P c ⟨entry fn.ntmps args,empty⟩ (fun e s=>(e = .normal∨e = .ret)∧∃ v0,sP P fn.results.toList s=some v0∧v0.er=v))
  (ha:qL args=true) (hv:v.plain=true) (m:Hp):xE P f args m v m:=by
 intro κ w xs k ra
 have ra0:aB (bare κ) w.heap args xs:=aJi (κ:=κ) (κ':=bare κ) (fun _=>Nat.le_refl _) ra ha
 refine calls_of_wp hf hb (h (bare κ) w _ (aP6 k) (yW ra0 hn) _ fun e s κ1 w1 a1 hq hx hr=>?_)
 obtain ⟨he,v0,hv0,hv1⟩:=hq
 obtain ⟨x,hx1,hx2⟩:=a6e hx.mem hr hv0
 obtain ⟨κ',l,k',hhw⟩:=aJk k hx
 have hR:aD κ' w1.heap v x:=a0n (κ:=κ1) (fun b=>by rw [hhw]; exact Nat.le_refl _) (by rw [← hv1]; exact b9o hx2) hv
 have fin:a1.defers=[]∧∃ v',(results fn a1.tmps).run P w1 = .ok v' w1∧∃ x' κ',Ending.returned v' = .returned x'∧Ext κ w m κ' w1 m∧aD κ' w1.heap v x' :=
  ⟨hr.1,x,hx1,x,κ',rfl,l.ext k' (Nat.le_refl _),hR⟩
 rcases he with rfl | rfl
 ·exact fin
 ·exact fin
end
end Go.Fbs

/- The evaluator,stepped: what is left to show behind a region,as one formula over its cR. -/
namespace Go.Fbs
def opt (o:Option V) (k:V→Prop):Prop :=
 match o with
 | some v=>k v
 | none=>False
def bE6 (o:Option (List V)) (k:List V→Prop):Prop :=
 match o with
 | some v=>k v
 | none=>False
def bE7 (o:Option (V×Hp)) (k:V→Hp→Prop):Prop :=
 match o with
 | some (v,m)=>k v m
 | none=>False
def fD (g:V) (want:Bool) (o:Option V):Option V :=
 match g with
 | .bool b=>if b == want then o else some .undef
 | .undef=>some .undef
 | _=>none
def a3z (g:V) (want:Bool) (A B:Prop):Prop :=
 match g with
 | .bool b=>if b == want then A else B
 | .undef=>B
 | _=>False
def mL (ops:List Oper) (env:Env) (j:Nat):Option V:=((ops[j]?).bind (·.dst)).bind env.get
theorem aD9 {ops:List Oper} {env:Env} {o:Oper} {j:Nat} {want:Bool} (hg:o.guard=some (j,want)) :
  n5 ops env o=match mL ops env j with | some (.bool b)=>some (b == want) | some .undef=>some false | _=>none:=by
 unfold n5 mL; rw [hg]
 rfl
def a1g (P:Program) (C:dG) (op:Op) (env:Env) (m:Hp) (k:V→Hp→Prop):Prop :=
 if nR C op then opt (bV P C env m.H op) fun v=>k v m
 else if pB op then bE6 (wK P env op) fun cs=>k (.ptr m.H.length 0) { m with H:=m.H++[.cells cs] }
 else bE7 (evalW P C env m op) k
def kB (P:Program) (C:dG) (ops:List Oper):List Oper→Env→Hp→(Env→Hp→Prop)→Prop
 | [],env,m,K=>K env m
 | o::rest,env,m,K =>
  match o.guard with
  | none=>a1g P C o.op env m fun v m'=>kB P C ops rest (fR env o.dst v) m' K
  | some (j,want) =>
   match mL ops env j with
   | some g =>
    if nR C o.op then opt (fD g want (bV P C env m.H o.op)) fun v=>kB P C ops rest (fR env o.dst v) m K
    else a3z g want (a1g P C o.op env m fun v m'=>kB P C ops rest (fR env o.dst v) m' K) (kB P C ops rest (fR env o.dst .undef) m K)
   | none=>False
theorem aJl {P:Program} {C:dG} {op:Op} {env:Env} {m:Hp} {k:V→Hp→Prop} (h:a1g P C op env m k):∃ v m',evalOp P C env m op=some (v,m')∧k v m':=by
 unfold a1g at h
 unfold evalOp
 split at h
 ·rename_i hq
  rw [if_pos hq]
  cases he:bV P C env m.H op with
  | none=>rw [he] at h; exact h.elim
  | some v=>rw [he] at h; exact ⟨v,m,rfl,h⟩
 ·rename_i hq
  rw [if_neg hq]
  split at h
  ·rename_i ha
   rw [if_pos ha]
   cases he:wK P env op with
   | none=>rw [he] at h; exact h.elim
   | some cs=>rw [he] at h; exact ⟨_,_,rfl,h⟩
  ·rename_i ha
   rw [if_neg ha]
   cases he:evalW P C env m op with
   | none=>rw [he] at h; exact h.elim
   | some r=>rw [he] at h; exact ⟨r.1,r.2,rfl,h⟩
theorem pV {P:Program} {C:dG} {ops:List Oper} {K:Env→Hp→Prop} : ∀ {rest:List Oper} {env:Env} {m:Hp},kB P C ops rest env m K→∃ env' m',kU P C ops rest env m=some (env',m')∧K env' m'
 | [],env,m,h=>⟨env,m,rfl,h⟩
 | o::rest,env,m,h=>by
  simp only [kB] at h
  simp only [kU]
  split at h
  ·rename_i hg
   have:n5 ops env o=some true:=by unfold n5; rw [hg]
   rw [this]
   obtain ⟨v,m',h1,h2⟩:=aJl h
   simp only [h1]
   exact pV h2
  ·rename_i j want hg
   rw [aD9 hg]
   split at h
   ·rename_i g hgv
    rw [hgv]
    split at h
    ·rename_i hq
     unfold fD at h
     cases g with
     | bool b =>
      simp only at h ⊢
      by_cases hb:(b == want)=true
      ·rw [if_pos hb] at h
       rw [hb]
       simp only
       unfold evalOp
       rw [if_pos hq]
       cases he:bV P C env m.H o.op with
       | none=>rw [he] at h; exact h.elim
       | some v=>rw [he] at h; simp only [Option.map_some]; exact pV h
      ·rw [if_neg hb] at h
       have hb':(b == want)=false:=by simpa using hb
       rw [hb']
       simp only
       exact pV h
     | undef=>exact pV h
     | _=>exact h.elim
    ·unfold a3z at h
     cases g with
     | bool b =>
      simp only at h ⊢
      by_cases hb:(b == want)=true
      ·rw [if_pos hb] at h
       rw [hb]
       obtain ⟨v,m',h1,h2⟩:=aJl h
       simp only [h1]
       exact pV h2
      ·rw [if_neg hb] at h
       have hb':(b == want)=false:=by simpa using hb
       rw [hb']
       simp only
       exact pV h
     | undef=>exact pV h
     | _=>exact h.elim
   ·exact h.elim
theorem a5j {P:Program} {C:dG} {ops:List Oper} {T:List (Nat×Nat)} : ∀ {rest tail:List Oper} {env:Env} {H:List LO} {K:Env→Hp→Prop},rest.all (fun o=>nR C o.op || (pB o.op && o.guard.isNone))=true →
  kB P C ops (rest++tail) env ⟨H,T⟩ K→∃ env' H',a55 P C ops rest (env,H)=some (env',H')∧kB P C ops tail env' ⟨H',T⟩ K
 | [],tail,env,H,K,_,h=>⟨env,H,rfl,h⟩
 | o::rest,tail,env,H,K,ha,h=>by
  simp only [List.all_cons,Bool.and_eq_true] at ha
  obtain ⟨ha1,ha2⟩:=ha
  simp only [List.cons_append,kB] at h
  simp only [a55,a54]
  split at h
  ·rename_i hg
   have:n5 ops env o=some true:=by unfold n5; rw [hg]
   rw [this]
   simp only
   unfold a1g at h
   split at h
   ·rename_i hq
    rw [if_pos hq]
    cases he:bV P C env H o.op with
    | none=>simp only at h; rw [he] at h; exact h.elim
    | some v=>simp only at h; rw [he] at h; simp only [Option.map_some]; exact a5j ha2 h
   ·rename_i hq
    rw [if_neg hq]
    have hA:pB o.op=true:=by
     have:=ha1
     simp only [Bool.or_eq_true,Bool.and_eq_true] at this
     rcases this with h1 | h1
     ·exact absurd h1 hq
     ·exact h1.1
    rw [if_pos hA] at h
    cases he:wK P env o.op with
    | none=>rw [he] at h; exact h.elim
    | some cs=>rw [he] at h; simp only [Option.map_some]; exact a5j ha2 h
  ·rename_i j want hg
   rw [aD9 hg]
   have hq:nR C o.op=true:=by
    simpa [hg] using ha1
   split at h
   ·rename_i g hgv
    rw [hgv]
    rw [if_pos hq] at h
    unfold fD at h
    cases g with
    | bool b =>
     simp only at h ⊢
     by_cases hb:(b == want)=true
     ·rw [if_pos hb] at h
      rw [hb]
      simp only
      rw [if_pos hq]
      cases he:bV P C env H o.op with
      | none=>rw [he] at h; exact h.elim
      | some v=>rw [he] at h; simp only [Option.map_some]; exact a5j ha2 h
     ·rw [if_neg hb] at h
      have hb':(b == want)=false:=by simpa using hb
      rw [hb']
      simp only
      exact a5j ha2 h
    | undef=>exact a5j ha2 h
    | _=>exact h.elim
   ·exact h.elim
structure aWq (p:Prop):Prop where
 out:p
section
variable {P:Program} {C:dG} {s:St} {Q:Exit→St→Prop}
theorem aWr (hC:Sound P C) {id:Nat} {ops:List Oper} (h:∀ K:Env→Hp→Prop,aWq (∀ env m,Q .normal ⟨env,m⟩→K env m)→kB P C ops ops s.env s.m K):AW P (.region id ops.toArray false) s Q:=by
 obtain ⟨env',m',h1,h2⟩:=pV (h (fun env m=>Q .normal ⟨env,m⟩) ⟨fun _ _ h=>h⟩)
 exact aZt hC h1 h2
theorem aZu (hC:Sound P C) (n:Nat) {id:Nat} {ops:List Oper} (hm:P.follows .mixedOrders=true) (hd:nF ops n=true) (ha:(ops.take n).all (fun o=>nR C o.op || (pB o.op && o.guard.isNone))=true)
  (h:∀ K:Env→Hp→Prop,aWq (∀ env m,Q .normal ⟨env,m⟩→K env m)→kB P C ops ops s.env s.m K):AW P (.region id ops.toArray true) s Q:=by
 have h0:=h (fun env m=>Q .normal ⟨env,m⟩) ⟨fun _ _ h=>h⟩
 rw [show kB P C ops ops s.env s.m=kB P C ops (ops.take n++ops.drop n) s.env s.m by rw [List.take_append_drop]] at h0
 obtain ⟨env1,H1,h1,h2⟩:=a5j (T:=s.m.T) ha h0
 obtain ⟨env',m',h3,h4⟩:=pV h2
 exact b2m hC n hm hd (by unfold a68; rw [h1]; exact h3) h4
end
abbrev PT:=FuncId→List V→Option V
abbrev ET:=FuncId→List V→Hp→Option (V×Hp)
def pt (t:Nat→V) (d:Nat) (v:V):Nat→V:=fun i=>bif Nat.beq i d then v else t i
end Go.Fbs

/- Rules for simp over the regions' formulas; the steps of a proof. -/
namespace Go.Fbs
section
variable (P:Program) (t:TypeId) (k:IntKind) (a b:Int) (s u:List UInt8)
end
theorem vQ {x:Int} (h1 : -9223372036854775808≤x) (h2:x≤9223372036854775807):IntKind.i64.wrap x=x:=by
 rw [IntKind.wrap_i64]; omega
section
variable {P:Program} {C:dG} {s:St} {Q:Exit→St→Prop}
end
end Go.Fbs

/- The small functions without a program: what a type's number says is written in. -/
namespace Go.Fbs
def pE:V→Option V
 | .str s=>some (.int .i64 s.length)
 | _=>none
def gD:V→Option V
 | .sl _ es=>some (.int .i64 es.length)
 | _=>none
def qM (a:Bool) (n:Nat) (cs:List V):Option V:=if a then (if n≤cs.length then some (.agg (cs.take n)) else none) else cs[0]?
def qN (a:Bool) (n:Nat) (cs:List V) (off:Nat):Option V:=if a then (if off+n≤cs.length then some (.agg ((cs.drop off).take n)) else none) else cs[off]?
def bF4 (a:Bool) (n:Nat) (H:List LO) (x:V):Option V :=
 match x with
 | .ptr l off =>
  match H[l]? with
  | some (.cells cs)=>qM a n (cs.drop off)
  | _=>none
 | .ro cs=>qM a n cs
 | _=>none
def bF0 (n:Nat) (x y:V) (m:Hp):Option (V×Hp) :=
 match x with
 | .ptr l off =>
  match m.H[l]? with
  | some (.cells cs)=>if y.iW=true∧y.cells.length=n∧off+n≤cs.length then some (.undef,{ m with H:=m.H.set l (.cells (a9c cs y.cells off)) }) else none
  | _=>none
 | _=>none
def a8o (n:Nat) (len:Nat) (ps:List (Nat×V)):Option V :=
 if pZ ps then
  match vH 0 ps with
  | some es=>if es.length=len∧len*n≤1000000∧es.all (fun e=>e.cells.length == n)=true then some (.sl .full (es.map V.er)) else none
  | none=>none
 else none
def lF (x:V) (lo hi:Option V):Option V :=
 match x with
 | .str s =>
  match lR hi s.length s.length with
  | some h =>
   match lR lo 0 h with
   | some l=>some (.str ((s.take h).drop l))
   | none=>none
  | none=>none
 | _=>none
def aJm (n:Nat) (x:V) (lo hi:Option V):Option V :=
 match x with
 | .sl g es =>
  match lR hi es.length es.length with
  | some h =>
   match lR lo 0 h with
   | some l=>if es.all (fun e=>e.cells.length == n)=true then some (.sl (sN g l hi.isSome) ((es.take h).drop l)) else none
   | none=>none
  | none=>none
 | _=>none
def tB (x i:V):Option V :=
 match x,i with
 | .str s,.int _ n=>if 0≤n then s[n.toNat]?.map fun b=>.int .u8 b.toNat else none
 | _,_=>none
def a6g (len:Nat) (a:Bool) (sz:Nat) (x i:V):Option V :=
 match x,i with
 | .agg cs,.int _ n=>if 0≤n∧n < len then qN a sz cs (n.toNat*sz) else none
 | _,_=>none
def aBn (off:Nat) (x:V):Option V :=
 match x with
 | .ptr l o=>some (.ptr l (o+off))
 | .ro cs=>some (.ro (cs.drop off))
 | _=>none
def aEa (a:Bool) (n off:Nat) (x:V):Option V :=
 match x with
 | .agg cs=>qN a n cs off
 | _=>none
def a1h (sz:Nat) (x i:V):Option V :=
 match x,i with
 | .sl _ es,.int _ n=>if 0≤n then (es[n.toNat]?).bind fun e=>if e.cells.length=sz then some (.ro e.cells) else none else none
 | _,_=>none
def a43 (len sz:Nat) (x i:V):Option V :=
 match x,i with
 | .ptr l off,.int _ n=>if 0≤n∧n < len∧1 < len then some (.ptr l (off+n.toNat*sz)) else none
 | _,_=>none
def xZ (k:IntKind) (x:V):Option V :=
 match x with
 | .int _ n=>some (.int k (k.wrap n))
 | _=>none
def vM (x:V):Option V :=
 match x with
 | .str s=>some (.str s)
 | _=>none
def vN (x:V):Option V :=
 match x with
 | .sl _ es=>(es.mapM (fun (v:V)=>match v with | .int .u8 n=>some (UInt8.ofNat n.toNat) | _=>none)).map V.str
 | _=>none
def aBo (sz:Nat) (z:V) (dI:Nat) (l c:V) (m:Hp):Option (V×Hp) :=
 match l,c with
 | .int _ n,.int _ k =>
  if 0≤n∧n≤k∧k≤9223372036854775807∧dI*k≤140737488355328 then
   if n=k then some (.sl .full (List.replicate n.toNat z),m)
   else some (.sl (.own m.T.length) (List.replicate n.toNat z),{ m with T:=m.T++[(n.toNat,sz)] })
  else none
 | _,_=>none
def a2j (sz dI:Nat) (x:V) (ys:List V) (m:Hp):Option (V×Hp) :=
 match x with
 | .sl g es =>
  if (es.length+ys.length)*(dI+1)≤70368744177664∧es.all (fun e=>e.cells.length == sz)=true∧ys.all (fun e=>e.cells.length == sz)=true then
   if ys=[] then some (.sl g es,m) else
   match g with
   | .full=>some (.sl (.own m.T.length) (es++ys),{ m with T:=m.T++[(es.length+ys.length,sz)] })
   | .own i=>if m.T[i]? = some (es.length,sz) then some (.sl (.own i) (es ++ ys),{ m with T:=m.T.set i (es.length + ys.length,sz) }) else none
   | .ro=>none
  else none
 | _=>none
def aT2 (sz dI:Nat) (x y:V) (m:Hp):Option (V×Hp) :=
 match y with
 | .sl _ ys=>a2j sz dI x ys m
 | _=>none
def aP7 (dI:Nat) (x y:V) (m:Hp):Option (V×Hp) :=
 match y with
 | .str s=>a2j 1 dI x (s.map fun b=>.int .u8 b.toNat) m
 | _=>none
section
variable {P:Program}
theorem aKx {t:TypeId} {a:Bool} {n:Nat} (ha:lH P t=some a) (hn:fB P t=some n) (cs:List V):loadT P t cs=qM a n cs:=by
 unfold loadT qM
 rw [ha,hn]
 cases a <;> rfl
theorem a5k {t:TypeId} {a:Bool} {n:Nat} (ha:lH P t=some a) (hn:fB P t=some n) (cs:List V) (off:Nat):a2z P t cs off=qN a n cs off:=by
 unfold a2z qN
 rw [ha,hn]
 cases a <;> rfl
theorem bAh {t:TypeId} (hu:P.underlying t=some .string) (x:V):uJ P .len [t] [x]=pE x:=by
 unfold uJ pE
 simp only [hu]
 cases x <;> rfl
theorem bAi {t e:TypeId} (hu:P.underlying t=some (.slice e)) (x:V):uJ P .len [t] [x]=gD x:=by
 unfold uJ gD
 simp only [hu]
 cases x <;> rfl
theorem aP8 {t e:TypeId} {n:Nat} {z:V} (hu:P.underlying t=some (.slice e)) (hn:fB P e=some n) (hz:jY P e=some z) (hc:z.cells.length=n) (hpos:0 < n) (len:Nat) (ps:List (Nat×V)) :
  a22 P t len ps=a8o n len ps:=by
 unfold a22 a8o nW
 simp only [hu,hz,hn]
 cases vH 0 ps with
 | none=>rfl
 | some es=>simp only [hc,hpos,true_and]
theorem b2n {t:TypeId} (hu:P.underlying t=some .string) (x:V) (lo hi:Option V):rG P t x lo hi=lF x lo hi:=by
 unfold rG lF
 simp only [hu]
 cases x <;> rfl
theorem b2o {t e:TypeId} {n:Nat} (hu:P.underlying t=some (.slice e)) (hn:fB P e=some n) (hpos:0 < n) (x:V) (lo hi:Option V):rG P t x lo hi=aJm n x lo hi:=by
 unfold rG aJm
 simp only [hu,hn,hpos,true_and]
 cases x <;> try rfl
 rename_i g es
 simp only [hn]
 cases lR hi es.length es.length <;> first | rfl | (simp only [hpos,true_and]; done) | (simp only [hpos,true_and]; rfl)
theorem b2p {t:TypeId} (hu:P.underlying t=some .string) (x i:V):qF P t x i=tB x i:=by
 unfold qF tB
 simp only [hu]
 cases x <;> cases i <;> rfl
theorem b2q {t e:TypeId} {len n:Nat} {a:Bool} (hu:P.underlying t=some (.array len e)) (ha:lH P e=some a) (hn:fB P e=some n) (x i:V):qF P t x i=a6g len a n x i:=by
 unfold qF a6g
 simp only [hu,hn,a5k ha hn]
 cases x <;> cases i <;> first | rfl | (simp only [hn,a5k ha hn]; done) | (simp only [hn,a5k ha hn]; rfl)
theorem aSc {s : TypeId} {fs : Array Field} {f n off : Nat} {fd : Field} (hu : P.underlying s = some (.struct fs)) (hf : fs[f]? = some fd) (hn : fB P fd.type = some (n + 1)) (ho : fd.offset = off) (x : V) : lB P s x f = aBn off x:=by
 unfold lB aBn
 simp only [hu,hf,hn,ho]
 cases x <;> first | rfl | (simp only [hf,hn,ho]; done) | (simp only [hf,hn,ho]; rfl)
theorem b6v {s : TypeId} {fs : Array Field} {f n off : Nat} {a : Bool} {fd : Field} (hu : P.underlying s = some (.struct fs)) (hf : fs[f]? = some fd) (ha : lH P fd.type = some a) (hn : fB P fd.type = some n) (ho : fd.offset = off) (x : V) : vJ P s x f = aEa a n off x:=by
 unfold vJ aEa
 simp only [hu,hf,a5k ha hn,ho]
 cases x <;> first | rfl | (simp only [hf,a5k ha hn,ho]; done) | (simp only [hf,a5k ha hn,ho]; rfl)
theorem aP9 {t e:TypeId} {n:Nat} (hu:P.underlying t=some (.slice e)) (hn:fB P e=some (n+1)) (x i:V):jF P t x i=a1h (n+1) x i:=by
 unfold jF a1h
 simp only [hu,hn]
 cases x <;> cases i <;> first | rfl | (simp only [hn]; done) | (simp only [hn]; rfl)
theorem aQa {t e:TypeId} {len n:Nat} (hu:P.underlying t=some (.array len e)) (hn:fB P e=some n) (x i:V):jF P t x i=a43 len n x i:=by
 unfold jF a43
 simp only [hu,hn]
 cases x <;> cases i <;> first | rfl | (simp only [hn]; done) | (simp only [hn]; rfl)
theorem b6w {s d:TypeId} {k k':IntKind} (hs:P.underlying s=some (.int k')) (hd:P.underlying d=some (.int k)) (x:V):a4u P s d x=xZ k x:=by
 unfold a4u xZ a9d kL
 simp only [hs,hd]
 cases x <;> rfl
theorem b2r {s d:TypeId} (hs:P.underlying s=some .string) (hd:P.underlying d=some .string) (x:V):a4u P s d x=vM x:=by
 unfold a4u vM a9d kL
 simp only [hs,hd]
 cases x <;> rfl
theorem b2s {s d e:TypeId} (hs:P.underlying s=some (.slice e)) (he:P.underlying e=some (.int .u8)) (hd:P.underlying d=some .string) (x:V):a4u P s d x=vN x:=by
 unfold a4u vN a9d kL
 simp only [hs,hd,he]
 cases x <;> try rfl
 rename_i g es
 simp only
 cases es.mapM (fun (v:V)=>match v with | .int .u8 n=>some (UInt8.ofNat n.toNat) | _=>none) <;> (simp only [he]; rfl)
theorem aSd {t e:TypeId} {n dI:Nat} {z:V} (hu:P.underlying t=some (.slice e)) (hn:fB P e=some n) (hz:jY P e=some z) (hb:kY P e=some dI) (hc:z.cells.length=n) (hpos:0 < n) (l c:V) (m:Hp) :
  kN P t l c m=aBo n z dI l c m:=by
 unfold kN aBo
 simp only [hu,hn,hz,hb,hc,hpos,and_true]
 cases l <;> cases c <;> first | rfl | (simp only [hn,hz,hb,hc,hpos,and_true]; done) | (simp only [hn,hz,hb,hc,hpos,and_true]; rfl)
theorem a0o {t e:TypeId} {n dI:Nat} {z:V} (hu:P.underlying t=some (.slice e)) (hn:fB P e=some n) (hz:jY P e=some z) (hb:kY P e=some dI) (hc:z.cells.length=n) (hpos:0 < n) (x:V) (ys:List V) (m:Hp) :
  mG P t x ys m=a2j n dI x ys m:=by
 unfold mG a2j
 simp only [hu,hn,hz,hb,hc,hpos,true_and]
 cases x <;> first | rfl | (simp only [hn,hz,hb,hc,hpos,true_and]; done) | (simp only [hn,hz,hb,hc,hpos,true_and]; rfl)
theorem b2t {t u e e':TypeId} {n dI:Nat} {z:V} (hu:P.underlying t=some (.slice e)) (hu':P.underlying u=some (.slice e')) (hn:fB P e=some n) (hz:jY P e=some z) (hb:kY P e=some dI) (hc:z.cells.length=n) (hpos:0 < n) (x y:V) (m:Hp) :
  oY P .append [t,u] [x,y] m=aT2 n dI x y m:=by
 unfold oY aT2
 simp only [hu,hu',a0o hu hn hz hb hc hpos]
 cases y <;> first | rfl | (simp only [a0o hu hn hz hb hc hpos]; done) | (simp only [a0o hu hn hz hb hc hpos]; rfl)
theorem aZv {t u e:TypeId} {dI:Nat} {z:V} (hu:P.underlying t=some (.slice e)) (hu':P.underlying u=some .string) (hn:fB P e=some 1) (hz:jY P e=some z) (hb:kY P e=some dI) (hc:z.cells.length=1) (x y:V) (m:Hp) :
  oY P .append [t,u] [x,y] m=aP7 dI x y m:=by
 unfold oY aP7
 simp only [hu,hu',a0o hu hn hz hb hc (by omega),hn,if_true]
 cases y <;> first | rfl | (simp only [hn,if_true,a0o hu hn hz hb hc (by omega:0 < 1)]; done) | (simp only [hn,if_true,a0o hu hn hz hb hc (by omega:0 < 1)]; rfl)
end
end Go.Fbs

/- Tables of callees; what a function is said to answer. -/
namespace Go.Fbs
abbrev Spec:=List V→Option V
def aBl (P : Program) (f : FuncId) : Prop := ∃ fn c, P.funcs[f]? = some fn ∧ fn.body = some c ∧ (fn.name == "runtime.NumGoroutine") = false
structure bF1 (P:Program) (f:FuncId) (F:Spec):Prop where
 enter:aBl P f
 call:∀ args v,F args=some v→∀ m,xE P f args m v m
def bO:List (FuncId×Spec)→PT
 | []=>fun _ _=>none
 | (g,F)::r=>fun f args=>bif Nat.beq f g then F args else bO r f args
def noE:ET:=fun _ _ _=>none
abbrev vI (n:Int):V:=.int .i64 n
abbrev vB (c:UInt8):V:=.int .u8 c.toNat
def big:Nat:=4611686018427387904
def a0v:V→Nat
 | .int _ n=>n.toNat
 | _=>0
theorem a7w {l:List UInt8} {k:Nat} (h:k≤l.length) (kk:IntKind):lF (.str l) (some (.int kk k)) none=some (.str (l.drop k)):=by
 simp [lF,lR,h]
theorem a6v {l:List UInt8} {k:Nat} (h:k≤l.length) (kk:IntKind):lF (.str l) none (some (.int kk k))=some (.str (l.take k)):=by
 simp [lF,lR,h]
theorem aRk {P:Program} {f:FuncId} {args:List V} {m:Hp} {v:V} (h:∀ (κ:Ctx) (w:World) (xs:List Value),aB κ w.heap args xs→∃ x,Calls P f ⟨xs⟩ w (fun e w'=>e = .returned x∧w'=w)∧aD κ w.heap v x):xE P f args m v m:=by
 intro κ w xs k r
 obtain ⟨x,c,rx⟩:=h κ w xs r
 refine c.mono fun e w' ⟨he,hw⟩=>?_
 subst hw
 exact ⟨x,κ,he,Ext.refl k,rx⟩
theorem aZw {κ:Ctx} {h:bX} {a:List UInt8} {xs:List Value} (r:aB κ h [.str a] xs):xs=[.string ⟨⟨a⟩⟩]:=by
 obtain ⟨x,ys,rfl,r1,r2⟩:=r.fP
 rw [r2.lC,iT r1]
theorem aXv {κ:Ctx} {h:bX} {a b:List UInt8} {xs:List Value} (r:aB κ h [.str a,.str b] xs):xs=[.string ⟨⟨a⟩⟩,.string ⟨⟨b⟩⟩]:=by
 obtain ⟨x,ys,rfl,r1,r2⟩:=r.fP
 rw [aZw r2,iT r1]
end Go.Fbs

/- From what a function is said to answer to the kit's 'Calls .. Grown'. -/
namespace Go.Fbs
open Go.RowKit
def lL (h : bX) : Ctx:=⟨fun b=>match h[b]? with | some (.cells c _ _)=>c.size | _=>0,fun _=>none,[]⟩
theorem aWs (h:bX):Mem (lL h) h empty:=by
 refine ⟨⟨?_,?_,?_,?_,?_,?_,?_,?_,?_⟩,⟨?_,?_⟩,rfl⟩
 case refine_9 =>
  intro b hb
  have : h[b]? = none:=by simpa using hb
  simp [lL,this]
 all_goals intros
 all_goals simp_all [lL,boxed,empty]
theorem aEb {h:bX} {b:Nat} : ¬ owned (lL h) b:=by
 rintro (⟨l,h⟩ | ⟨L,h,_⟩) <;> simp [lL] at h
def aQb (w w' : World) : Prop:=w.keptBut w' (fun _=>False) ∧ (∀ a : Addr,a.block < w.heap.size → w'.frozen? a = w.frozen? a) ∧ w.heap.size ≤ w'.heap.size
theorem aD8 {w w':World} {κ':Ctx} {m':Hp} (x:Ext (lL w.heap) w empty κ' w' m'):aQb w w':=by
 have same : ∀ i,i < w.heap.size → w'.heap[i]? = w.heap[i]?:=fun i hi=>x.le.same i hi aEb
 refine ⟨⟨x.os,x.out.output,fun i hi=>?_⟩,fun a ha=>by unfold World.frozen?; rw [same _ ha],x.le.size⟩
 rw [same i hi]
 cases w.heap[i]? with
 | none=>rfl
 | some o=>cases o <;> simp
end Go.Fbs

/- Regions whose order is drawn,with stores: what is not bound does not meet. -/
namespace Go.Fbs
def hG (C:dG) (op:Op):Bool:=!nR C op && !pB op
def a2k:Op→Bool
 | .load ..=>true
 | _=>false
inductive Rt where
 | tm (t:Nat)
 | ro
 | nw (i:Nat)
def pK (sl:TypeId→Bool) (ops:List Oper):Nat→Operand→Option Rt
 | 0,.tmp t=>some (.tm t)
 | j+1,.tmp t =>
  match ops[j]? with
  | some o =>
   bif (match o.dst with | some d=>Nat.beq d t | none=>false) then
    match o.op with
    | .fieldAddr _ y _=>pK sl ops j y
    | .move y=>pK sl ops j y
    | .nilCheck y=>pK sl ops j y
    | .indexAddr ty y _=>bif sl ty then some .ro else pK sl ops j y
    | .alloc _=>some (.nw j)
    | .box ..=>some (.nw j)
    | _=>none
   else pK sl ops j (.tmp t)
  | none=>none
 | _,_=>none
def addrOf:Op→Operand
 | .load _ x=>x
 | .store _ x _=>x
 | _=>.tmp 0
def aZx (sl:TypeId→Bool) (ex:Rt→Rt→Bool) (ops:List Oper) (r:Rt) (j:Nat) (l:List Operand):Bool :=
 l.all fun x=>match x with
  | .const _=>true
  | .func _=>true
  | _=>(match pK sl ops j x with | some r'=>ex r r' | none=>false)
def xL (sl:TypeId→Bool) (ex:Rt→Rt→Bool) (ops:List Oper) (i j:Nat):Bool :=
 match ops[i]?,ops[j]? with
 | some x,some y =>
  a2k x.op && (match y.op with
   | .store _ a _=>(match pK sl ops i (addrOf x.op),pK sl ops j a with
    | some r,some r'=>ex r r'
    | some .ro,none=>true
    | _,_=>false)
   | .call c=>(match c.callee with
    | .builtin .append=>true
    | .value (.func _)=>(match pK sl ops i (addrOf x.op) with
     | some .ro=>true
     | some r=>aZx sl ex ops r j c.args.toList
     | none=>false)
    | .value _=>(match pK sl ops i (addrOf x.op) with
     | some .ro=>true
     | _=>false)
    | _=>false)
   | _=>false)
 | _,_=>false
def a2l (C:dG) (sl:TypeId→Bool) (ex:Rt→Rt→Bool) (ops:List Oper):Bool :=
 let ms:=masksFrom [] ops
 noDup (ops.map (·.dst)) && (List.range ops.length).all (fun j=>edgesBack j (ops.getD j default)) && ops.all (fun o=>nR C o.op || hG C o.op || (pB o.op && o.guard.isNone)) &&
 (List.range ops.length).all (fun j=>(List.range j).all fun i=>pairOk ops ms i j &&
  ((ms.getD j 0).testBit i || (match ops[i]?,ops[j]? with | some x,some y=>!((hG C x.op && (hG C y.op || a2k y.op)) || (a2k x.op && hG C y.op)) || xL sl ex ops i j || xL sl ex ops j i | _,_=>false)) &&
  (match ops[i]?,ops[j]? with | some x,some y=>!(hG C x.op && pB y.op) && (!(pB x.op && hG C y.op) || (ms.getD j 0).testBit i) | _,_=>true))
structure DF3 (C:dG) (sl:TypeId→Bool) (ex:Rt→Rt→Bool) (ops:List Oper):Prop where
 nd : ∀ (i j : Nat) x y d,ops[i]? = some x → ops[j]? = some y → x.dst = some d → y.dst = some d → i = j
 back : ∀ (j : Nat) o,ops[j]? = some o → ∀ e ∈ o.after,Region.binds .any e = true → e.on < j
 cls : ∀ (j : Nat) o,ops[j]? = some o → nR C o.op = true ∨ hG C o.op = true ∨ (pB o.op = true ∧ o.guard = none)
 bE8 : ∀ (i j : Nat) x y,i < j → ops[i]? = some x → ops[j]? = some y → hG C x.op = true → pB y.op = false
 als : ∀ (i j : Nat) x y,i < j → ops[i]? = some x → ops[j]? = some y → pB x.op = true → hG C y.op = true → ((masksFrom [] ops).getD j 0).testBit i = true
 pair : ∀ (i j : Nat) x y,i < j → ops[i]? = some x → ops[j]? = some y → ((masksFrom [] ops).getD j 0).testBit i = true ∨ Oper.apart ops.toArray x y = true
 bAj : ∀ (i j : Nat) x y,i < j → ops[i]? = some x → ops[j]? = some y → (hG C x.op = true ∧ (hG C y.op = true ∨ a2k y.op = true)) ∨ (a2k x.op = true ∧ hG C y.op = true) →
  ((masksFrom [] ops).getD j 0).testBit i=true∨xL sl ex ops i j=true∨xL sl ex ops j i=true
theorem aWt {C:dG} {sl:TypeId→Bool} {ex:Rt→Rt→Bool} {ops:List Oper} (h:a2l C sl ex ops=true):DF3 C sl ex ops:=by
 unfold a2l at h
 simp only [Bool.and_eq_true,List.all_eq_true,List.mem_range] at h
 obtain ⟨⟨⟨h1,h2⟩,h3⟩,h4⟩:=h
 have lt : ∀ {j : Nat} {o : Oper},ops[j]? = some o → j < ops.length:=fun h=>(List.getElem?_eq_some_iff.1 h).1
 refine ⟨fun i j x y d hx hy hxd hyd=>?_,fun j o ho e he hb=>?_,fun j o ho=>?_,fun i j x y hij hx hy hs=>?_,fun i j x y hij hx hy ha hs=>?_,fun i j x y hij hx hy=>?_,fun i j x y hij hx hy hc=>?_⟩
 ·exact noDup_spec _ h1 i j d (by rw [List.getElem?_map,hx]; simp [hxd]) (by rw [List.getElem?_map,hy]; simp [hyd])
 ·have:=h2 j (lt ho)
  rw [List.getD_eq_getElem?_getD,ho] at this
  simp only [Option.getD_some,edgesBack,List.all_eq_true] at this
  have:=this e (by simpa using he)
  simpa [hb] using this
 ·have:=h3 o (List.mem_of_getElem? ho)
  simp only [Bool.or_eq_true,Bool.and_eq_true,Option.isNone_iff_eq_none] at this
  rcases this with (h | h) | h
  ·exact .inl h
  ·exact .inr (.inl h)
  ·exact .inr (.inr h)
 ·have:=(h4 j (lt hy) i hij).2
  rw [hx,hy] at this
  simp only [Bool.and_eq_true,Bool.not_eq_true',hs,Bool.true_and] at this
  exact this.1
 ·have:=(h4 j (lt hy) i hij).2
  rw [hx,hy] at this
  simp only [Bool.and_eq_true,ha,hs,Bool.true_and,Bool.not_true,Bool.false_or] at this
  exact this.2
 ·have:=(h4 j (lt hy) i hij).1.1
  unfold pairOk at this
  rw [hx,hy] at this
  simpa using this
 ·have:=(h4 j (lt hy) i hij).1.2
  rw [hx,hy] at this
  simp only [Bool.or_eq_true,Bool.not_eq_true',Bool.or_eq_false_iff,Bool.and_eq_false_iff] at this
  rcases this with h5 | ((⟨h5,h6⟩ | h5) | h5)
  ·exact .inl h5
  ·rcases hc with ⟨c1,c2⟩ | ⟨c1,c2⟩
   ·rcases h5 with h5 | h5
    ·rw [c1] at h5; simp at h5
    ·rcases c2 with c2 | c2 <;> simp [c2] at h5
   ·rcases h6 with h6 | h6
    ·rw [c1] at h6; simp at h6
    ·rw [c2] at h6; simp at h6
  ·exact .inr (.inl h5)
  ·exact .inr (.inr h5)
section
variable {P:Program} {C:dG} {sl:TypeId→Bool} {ex:Rt→Rt→Bool} {ops:List Oper}
def rN (P:Program) (C:dG) (ops:List Oper) (s:Env×Hp) (o:Oper):Option ((Env×Hp)×V) :=
 match n5 ops s.1 o with
 | some true =>
  match evalOp P C s.1 s.2 o.op with
  | some (v,m')=>some ((fR s.1 o.dst v,m'),v)
  | none=>none
 | some false=>some ((fR s.1 o.dst .undef,s.2),.undef)
 | none=>none
theorem aT3:∀ {rest:List Oper} {env env':Env} {m m':Hp},kU P C ops rest env m=some (env',m') →
  ∃ (σ : Nat → Env × Hp) (val : Nat → V),σ 0 = (env,m) ∧ σ rest.length = (env',m') ∧ ∀ (j : Nat) o,rest[j]? = some o → rN P C ops (σ j) o = some (σ (j + 1),val j)
 | [],env,env',m,m',e=>by
  simp [kU] at e
  obtain ⟨rfl,rfl⟩:=e
  exact ⟨fun _=>(env,m),fun _=>.undef,rfl,rfl,by simp⟩
 | o::rest,env,env',m,m',e=>by
  simp only [kU] at e
  have key : ∀ (env1 : Env) (m1 : Hp) (v : V),rN P C ops (env,m) o = some ((env1,m1),v) → kU P C ops rest env1 m1 = some (env',m') → ∃ (σ : Nat → Env × Hp) (val : Nat → V),σ 0 = (env,m) ∧ σ (o :: rest).length = (env',m') ∧ ∀ (j : Nat) o',(o :: rest)[j]? = some o' → rN P C ops (σ j) o' = some (σ (j + 1),val j):=by
   intro env1 m1 v h1 h2
   obtain ⟨σ,val,h3,h4,h5⟩:=aT3 h2
   refine ⟨fun i=>match i with | 0=>(env,m) | i+1=>σ i,fun i=>match i with | 0=>v | i+1=>val i,rfl,h4,fun j o' ho=>?_⟩
   cases j with
   | zero=>simp at ho; subst ho; simpa [h3] using h1
   | succ j=>exact h5 j o' (by simpa using ho)
  split at e
  ·rename_i hw
   split at e
   ·rename_i v m1 h1
    exact key _ _ v (by unfold rN; simp only [hw,h1]) e
   ·simp at e
  ·rename_i hw
   exact key _ _ .undef (by unfold rN; simp only [hw]) e
  ·simp at e
structure yX (P:Program) (C:dG) (ops:List Oper) (σ:Nat→Env×Hp) (val:Nat→V):Prop where
 step : ∀ (j : Nat) o,ops[j]? = some o → rN P C ops (σ j) o = some (σ (j + 1),val j)
variable {σ:Nat→Env×Hp} {val:Nat→V}
theorem a7j {s s':Env×Hp} {o:Oper} {v:V} (e:rN P C ops s o=some (s',v)):s'.1=fR s.1 o.dst v:=by
 unfold rN at e
 split at e
 ·split at e
  ·simp at e; obtain ⟨rfl,rfl⟩:=e; rfl
  ·simp at e
 ·simp at e; obtain ⟨rfl,rfl⟩:=e; rfl
 ·simp at e
def kC (C:dG):List Oper→Nat
 | []=>0
 | o::r=>bif hG C o.op then 0 else kC C r+1
theorem a7k:∀ ops:List Oper,kC C ops≤ops.length
 | []=>Nat.le_refl _
 | o::r=>by
  simp only [kC]
  have:=a7k r
  cases hG C o.op <;> simp; omega
theorem zY : ∀ {ops : List Oper} {j : Nat} {o : Oper},ops[j]? = some o → hG C o.op = true → kC C ops ≤ j
 | [],j,o,h,_=>by simp at h
 | x::r,0,o,h,hs=>by
  simp only [List.getElem?_cons_zero,Option.some.injEq] at h
  subst h
  simp [kC,hs]
 | x::r,j+1,o,h,hs=>by
  have:=zY (ops:=r) (j:=j) (by simpa using h) hs
  simp only [kC]
  cases hG C x.op <;> simp; omega
theorem aL1 : ∀ {ops : List Oper},kC C ops < ops.length → ∃ o,ops[kC C ops]? = some o ∧ hG C o.op = true
 | [],h=>by simp at h
 | x::r,h=>by
  cases hx:hG C x.op with
  | true=>exact ⟨x,by simp [kC,hx],hx⟩
  | false =>
   simp only [kC,hx,cond_false,List.length_cons] at h ⊢
   obtain ⟨o,h1,h2⟩:=aL1 (ops:=r) (by omega)
   exact ⟨o,by simpa using h1,h2⟩
theorem b2u {op:Op} (h:hG C op=true) (h':pB op=true):False:=by simp [hG,h'] at h
theorem aBp (f : DF3 C sl ex ops) {j : Nat} {o : Oper} (ho : ops[j]? = some o) (ha : pB o.op = true) : j < kC C ops:=by
 refine Nat.lt_of_not_le fun hge=>?_
 obtain ⟨x,hx,hs⟩:=aL1 (Nat.lt_of_le_of_lt hge (List.getElem?_eq_some_iff.1 ho).1)
 rcases Nat.lt_or_eq_of_le hge with h | h
 ·have:=f.bE8 _ _ _ _ h hx ho hs
  rw [ha] at this; simp at this
 ·rw [h,ho] at hx
  simp at hx; subst hx
  exact b2u hs ha
theorem a0p {op:Op} (h:hG C op=true):nR C op=false∧pB op=false∧a2k op=false:=by
 unfold hG at h
 simp only [Bool.and_eq_true,Bool.not_eq_true'] at h
 refine ⟨h.1,h.2,?_⟩
 cases op <;> first | rfl | (have:=h.1; simp [nR] at this)
theorem a7l {s s':Env×Hp} {o:Oper} {v:V} (hq:nR C o.op=true) (e:rN P C ops s o=some (s',v)):s'.2=s.2:=by
 unfold rN at e
 split at e
 ·split at e
  ·rename_i v' m' h1
   unfold evalOp at h1
   rw [if_pos hq] at h1
   simp only [Option.map_eq_some_iff] at h1
   obtain ⟨u,_,h1⟩:=h1
   simp at e h1; obtain ⟨rfl,rfl⟩:=e; exact h1.2.symm
  ·simp at e
 ·simp at e; obtain ⟨rfl,rfl⟩:=e; rfl
 ·simp at e
theorem yX.len (t:yX P C ops σ val):∀ j,j≤ops.length→(σ j).1.n=(σ 0).1.n
 | 0,_=>rfl
 | j+1,hj=>by
  have:=a7j (t.step j ops[j] (List.getElem?_eq_getElem (by omega)))
  rw [this,aOq]; exact t.len j (by omega)
theorem yX.old (t : yX P C ops σ val) {d : Nat} : ∀ j,j ≤ ops.length → (∀ (i : Nat) o,i < j → ops[i]? = some o → o.dst ≠ some d) → (σ j).1.get d = (σ 0).1.get d
 | 0,_,_=>rfl
 | j+1,hj,h=>by
  have ho:=List.getElem?_eq_getElem (show j < ops.length by omega)
  rw [a7j (t.step j ops[j] ho),a2b,if_neg (h j _ (by omega) ho)]
  exact t.old j (by omega) (fun i o hi ho=>h i o (by omega) ho)
theorem yX.new (t : yX P C ops σ val) (f : DF3 C sl ex ops) {d i : Nat} {o : Oper} (hio : ops[i]? = some o) (hd : o.dst = some d) : ∀ j,i < j → j ≤ ops.length → (σ j).1.get d = if d < (σ 0).1.n then some (val i) else none
 | 0,h,_=>by omega
 | j+1,h,hj=>by
  have ho:=List.getElem?_eq_getElem (show j < ops.length by omega)
  rw [a7j (t.step j ops[j] ho),a2b]
  by_cases hij:i=j
  ·subst hij
   rw [ho] at hio; simp at hio; subst hio
   rw [if_pos hd,t.len i (by omega)]
  ·rw [if_neg (fun e=>hij (f.nd i j _ _ d hio ho hd e))]
   exact t.new f hio hd j (by omega) (by omega)
theorem yX.still (t : yX P C ops σ val) (f : DF3 C sl ex ops) {i : Nat} (hi0 : kC C ops ≤ i) : ∀ j,i ≤ j → j ≤ ops.length → (∀ (q : Nat) o,i ≤ q → q < j → ops[q]? = some o → hG C o.op = false) → (σ j).2 = (σ i).2
 | 0,h,_,_=>by rw [Nat.le_zero.1 h]
 | j+1,h,hj,hn=>by
  by_cases hi:i=j+1
  ·rw [hi]
  ·have ho:=List.getElem?_eq_getElem (show j < ops.length by omega)
   have hq:nR C ops[j].op=true:=by
    rcases f.cls j _ ho with h1 | h1 | h1
    ·exact h1
    ·rw [hn j _ (by omega) (by omega) ho] at h1; simp at h1
    ·have:=aBp f ho h1.1; omega
   rw [a7l hq (t.step j _ ho)]
   exact t.still f hi0 j (by omega) (by omega) fun q o h1 h2=>hn q o h1 (by omega)
def aFn (env:Env) (n:Nat):Rt→Rt→Prop
 | .tm t,.tm t'=>∀ l off off',env.get t=some (.ptr l off)→env.get t'=some (.ptr l off')→False
 | .tm t,.nw _=>∀ l off,env.get t=some (.ptr l off)→l < n
 | .nw _,.tm t=>∀ l off,env.get t=some (.ptr l off)→l < n
 | .nw i,.nw j=>i≠j
 | _,_=>True
def aWu (ops:List Oper) (σ:Nat→Env×Hp) (l:Nat):Rt→Prop
 | .tm d=>∃ o0,(σ 0).1.get d=some (.ptr l o0)
 | .ro=>False
 | .nw i=>l = (σ i).2.H.length ∧ ∃ o,ops[i]? = some o ∧ pB o.op = true
theorem p7 (hsl:∀ t,sl t=true→∃ e,P.underlying t=some (.slice e)) (t:yX P C ops σ val):∀ (j:Nat) (x:Operand) (r:Rt) (l off:Nat),pK sl ops j x=some r→ev (σ j).1 x=some (.ptr l off)→aWu ops σ l r
 | 0,.tmp d,r,l,off,h,e=>by
  simp only [pK,Option.some.injEq] at h
  subst h
  exact ⟨off,e⟩
 | j+1,.tmp d,r,l,off,h,e=>by
  simp only [pK] at h
  split at h
  ·rename_i o ho
   have hst:=t.step j o ho
   have henv:=a7j hst
   cases hd:(match o.dst with | some c=>Nat.beq c d | none=>false) with
   | false =>
    rw [hd] at h
    refine p7 hsl t j (.tmp d) r l off h ?_
    simp only [ev] at e ⊢
    rw [henv,a2b,if_neg (fun hc=>by rw [hc] at hd; simp at hd)] at e
    exact e
   | true =>
    rw [hd] at h
    simp only [cond_true] at h
    have hdst:o.dst=some d:=by
     cases hc:o.dst with
     | none=>rw [hc] at hd; simp at hd
     | some c=>rw [hc] at hd; rw [Nat.eq_of_beq_eq_true hd]
    simp only [ev] at e
    rw [henv,a2b,if_pos hdst] at e
    split at e
    ·simp only [Option.some.injEq] at e
     unfold rN at hst
     split at hst
     ·split at hst
      ·rename_i v m' hv
       simp only [Option.some.injEq,Prod.mk.injEq] at hst
       have hvv:v = .ptr l off:=hst.2.trans e
       subst hvv
       have quiet:∀ {op:Op},o.op=op→nR C op=true→bV P C (σ j).1 (σ j).2.H op=some (.ptr l off):=fun he hq=>by
        rw [he] at hv
        unfold evalOp at hv
        rw [if_pos hq] at hv
        simp only [Option.map_eq_some_iff,Prod.mk.injEq] at hv
        obtain ⟨u,h1,h2,_⟩:=hv
        rw [← h2]; exact h1
       have made:pB o.op=true→aWu ops σ l (.nw j):=fun ha=>by
        have hq:nR C o.op=false:=by cases ho:o.op <;> rw [ho] at ha <;> simp [pB] at ha <;> rfl
        unfold evalOp at hv
        rw [hq,ha] at hv
        simp only [Bool.false_eq_true,if_false,if_true,Option.map_eq_some_iff,Prod.mk.injEq] at hv
        obtain ⟨cs,_,h3,_⟩:=hv
        simp only [V.ptr.injEq] at h3
        exact ⟨h3.1.symm,o,ho,ha⟩
       split at h
       ·rename_i s y f heq
        have h1:=quiet heq rfl
        simp only [bV,hP] at h1
        split at h1
        ·rename_i u hu
         have:∃ o1,u = .ptr l o1:=by
          unfold lB at h1
          split at h1
          ·split at h1
           ·split at h1 <;> simp at h1
            exact ⟨_,by rw [h1.1]⟩
           ·simp at h1
          ·simp at h1
         obtain ⟨o1,rfl⟩:=this
         exact p7 hsl t j y r l o1 h hu
        ·simp at h1
       ·rename_i y heq
        exact p7 hsl t j y r l off h (quiet heq rfl)
       ·rename_i y heq
        have h1:=quiet heq rfl
        simp only [bV,hP] at h1
        split at h1
        ·rename_i u hu
         have:u = .ptr l off:=by
          clear h hv hst henv e t
          cases u <;> simp [a8g] at h1
          obtain ⟨rfl,rfl⟩:=h1; rfl
         exact p7 hsl t j y r l off h (by rw [hu,this])
        ·simp at h1
       ·rename_i ty y i heq
        have h1:=quiet heq rfl
        simp only [bV,mQ] at h1
        split at h1
        ·rename_i u v hu hv
         cases hs:sl ty with
         | true =>
          obtain ⟨e',he'⟩:=hsl ty hs
          exfalso
          clear h hv hst henv e t
          simp only [jF,he'] at h1
          split at h1
          ·split at h1
           ·split at h1
            ·simp only [Option.bind_eq_some_iff] at h1
             obtain ⟨_,_,h1⟩:=h1
             split at h1 <;> simp at h1
            ·simp at h1
           ·simp at h1
          ·rename_i hq; exact absurd hq (by simp)
          ·simp at h1
         | false =>
          rw [hs] at h
          have:∃ o1,u = .ptr l o1:=by
           unfold jF at h1
           split at h1
           ·split at h1
            ·split at h1
             ·simp only [Option.bind_eq_some_iff] at h1
              obtain ⟨_,_,h1⟩:=h1
              split at h1 <;> simp at h1
             ·simp at h1
            ·simp at h1
           ·split at h1
            ·split at h1 <;> simp at h1
             exact ⟨_,by rw [h1.1]⟩
            ·simp at h1
           ·simp at h1
          obtain ⟨o1,rfl⟩:=this
          exact p7 hsl t j y r l o1 h hu
        ·simp at h1
       ·rename_i ty heq
        simp only [Option.some.injEq] at h
        subst h
        exact made (by rw [heq]; rfl)
       ·rename_i ty y heq
        simp only [Option.some.injEq] at h
        subst h
        exact made (by rw [heq]; rfl)
       ·simp at h
      ·simp at hst
     ·simp only [Option.some.injEq,Prod.mk.injEq] at hst
      rw [← hst.2] at e; simp at e
     ·simp at hst
    ·simp at e
  ·simp at h
 | 0,.const _,_,_,_,h,_=>by simp [pK] at h
 | 0,.func _,_,_,_,h,_=>by simp [pK] at h
 | 0,.global _,_,_,_,h,_=>by simp [pK] at h
 | _+1,.const _,_,_,_,h,_=>by simp [pK] at h
 | _+1,.func _,_,_,_,h,_=>by simp [pK] at h
 | _+1,.global _,_,_,_,h,_=>by simp [pK] at h
structure aBq (P:Program) (C:dG) (ops:List Oper) (σ:Nat→Env×Hp) (val:Nat→V) (κ0:Ctx) (h0:World) (S:Array Bool) (κ:Ctx) (w:World) (a:Act):Prop where
 size:S.size=ops.length
 closed:Closed ops (listedOf S)
 at_ : ∃ K,kC C ops ≤ K ∧ K ≤ ops.length ∧ (∀ (i : Nat) o,ops[i]? = some o → hG C o.op = true → (i < K ↔ listedOf S i = true)) ∧ Ext κ0 h0 (σ 0).2 κ w (σ K).2
 kept : ∀ (j : Nat) o,ops[j]? = some o → pB o.op = true → listedOf S j = false → κ.box (σ j).2.H.length = none
 defers:a.defers=[]
 zC:a.tmps.size=(σ 0).1.n
 new : ∀ (i : Nat) o d x,ops[i]? = some o → listedOf S i = true → o.dst = some d → a.tmps[d]? = some x → aD κ w.heap (val i) x
 old : ∀ d v x,(∀ (i : Nat) o,ops[i]? = some o → listedOf S i = true → o.dst ≠ some d) → (σ 0).1.get d = some v → a.tmps[d]? = some x → aD κ w.heap v x
theorem aBq.env {κ0 κ:Ctx} {h0:World} {S:Array Bool} {w:World} {a:Act} (t:yX P C ops σ val) (f:DF3 C sl ex ops) (M:aBq P C ops σ val κ0 h0 S κ w a) {j:Nat} {o:Oper}
  (ho : ops[j]? = some o) (hun : listedOf S j = false) (hr : ∀ e ∈ o.after,Region.binds .any e = true → S.getD e.on false = true) : cC κ w.heap (seen (σ j).1 (o.looksAt ops.toArray)) a:=by
 have hj:=(List.getElem?_eq_some_iff.1 ho).1
 have hlen:=t.len j (by omega)
 refine ⟨M.defers,by show _=(σ j).1.n; rw [hlen,M.zC],fun d v x hv hx=>?_⟩
 have hd:d < (seen (σ j).1 (o.looksAt ops.toArray)).n:=Env.yQ hv
 have hd:d < (σ j).1.n:=hd
 rw [aA3 hd] at hv
 split at hv
 ·rename_i hl
  have hl:d ∈ o.looksAt ops.toArray:=List.contains_iff_mem.1 hl
  simp only [Option.some.injEq] at hv
  have hget:(σ j).1.get d=some v:=by unfold Env.get; rw [if_pos hd,hv]
  by_cases hex : ∃ (i : Nat) (oi : Oper),i < j ∧ ops[i]? = some oi ∧ oi.dst = some d
  ·obtain ⟨i,oi,hi,hoi,hdi⟩:=hex
   have hval:=t.new f hoi hdi j hi (by omega)
   rw [hget,if_pos (by rw [← hlen]; exact hd)] at hval
   simp only [Option.some.injEq] at hval
   subst hval
   have hli:listedOf S i=true:=by
    rcases f.pair i j oi o hi hoi ho with h1 | h1
    ·exact mask_listed ho M.closed hr h1
    ·exact absurd hl ((Oper.apart_spec h1).1 d hdi)
   exact M.new i oi d x hoi hli hdi hx
  ·have hold:=t.old (d:=d) j (by omega) (fun i oi hi hoi hdi=>hex ⟨i,oi,hi,hoi,hdi⟩)
   rw [hget] at hold
   refine M.old d v x (fun i oi hoi hli hdi=>?_) hold.symm hx
   have hij:i≠j:=fun e=>by subst e; rw [hun] at hli; simp at hli
   have hji:j < i:=by
    rcases Nat.lt_or_gt_of_ne hij with h1 | h1
    ·exact absurd ⟨i,oi,h1,hoi,hdi⟩ hex
    ·exact h1
   rcases f.pair j i o oi hji ho hoi with h1 | h1
   ·have:=mask_listed hoi M.closed (M.closed i oi hoi hli) h1
    rw [hun] at this; simp at this
   ·exact (Oper.apart_spec h1).2.2 d hdi hl
 ·simp only [Option.some.injEq] at hv
  subst hv
  exact .any x
theorem aQc {env:Env} {H H':List LO} {op:Op} (h:a2k op=false):bV P C env H op=bV P C env H' op:=by
 cases op <;> simp [a2k] at h <;> first | rfl | (rename_i g _ _; cases g <;> rfl) | (rename_i g; cases g <;> rfl)
theorem aT4 {env:Env} : ∀ {xs:List Operand} {vs:List V} {v:V},fQ env xs=some vs→v ∈ vs→∃ x,x ∈ xs∧ev env x=some v
 | [],vs,v,h,hm=>by simp [fQ] at h; subst h; simp at hm
 | x::xs,vs,v,h,hm=>by
  simp only [fQ] at h
  split at h
  ·rename_i u us h1 h2
   simp only [Option.some.injEq] at h
   subst h
   rcases List.mem_cons.1 hm with rfl | hm
   ·exact ⟨x,by simp,h1⟩
   ·obtain ⟨y,hy,hy2⟩:=aT4 h2 hm
    exact ⟨y,by simp [hy],hy2⟩
  ·simp at h
theorem aZy {env:Env} {c:Value} {l off:Nat} (h:ev env (.const c)=some (.ptr l off)):False:=by
 have h:V.oS c=some (.ptr l off):=h
 cases c <;> simp only [V.oS,V.nL,Option.map_eq_some_iff,reduceCtorEq,and_false,exists_false,Option.some.injEq] at h
 all_goals (try (split at h <;> simp at h))
structure Calm (C:dG):Prop where
 len:∀ f args m v m',C.yD f args m=some (v,m')→m.H.length≤m'.H.length
 lX : ∀ f args m v m' l,C.yD f args m = some (v,m') → (∀ off,V.ptr l off ∉ args) → m'.H[l]? = m.H[l]?
theorem aSe {env env':Env} {m:Hp} {op:Op} (hs:hG C op=true) (h:Agree env env' op.operands.toList) {r:V×Hp} (e:evalOp P C env m op=some r):evalOp P C env' m op=some r:=by
 obtain ⟨nq,na,-⟩:=a0p (C:=C) hs
 unfold evalOp at e ⊢
 rw [nq,na] at e ⊢
 simp only [Bool.false_eq_true,if_false] at e ⊢
 cases op <;> simp only [evalW] at e ⊢ <;> try exact e
 case store =>
  split at e
  ·rename_i u v h1 h2
   rw [h _ (by simp [Op.operands]) _ h1,h _ (by simp [Op.operands]) _ h2]; exact e
  ·simp at e
 case makeSlice =>
  split at e
  ·rename_i u v h1 h2
   rw [h _ (by simp [Op.operands]) _ h1,h _ (by simp [Op.operands]) _ h2]; exact e
  ·simp at e
 case call c =>
  obtain ⟨callee,args,ts⟩:=c
  (try simp only at e ⊢)
  split at e
  ·rename_i b vs hvs
   rw [Agree.fQ (fun y hy=>h y (by simp [Op.operands,Call.operands] at hy ⊢; exact hy)) hvs]; exact e
  ·rename_i f vs hvs
   rw [Agree.fQ (fun y hy=>h y (by simp [Op.operands,Call.operands] at hy ⊢; exact .inr hy)) hvs]
   split at e
   ·rename_i g caps hg
    simp only [h f (by simp [Op.operands,Call.operands]) _ hg]; exact e
   ·simp at e
  ·simp at e
theorem aQd {t:TypeId} {x y:V} {m:Hp} {r:V×Hp} (e:kN P t x y m=some r):r.2.H=m.H:=by
 unfold kN at e
 repeat' (split at e)
 all_goals first | (simp at e; done) | (simp only [Option.some.injEq] at e; subst e; rfl)
theorem aZz {t:TypeId} {x:V} {ys:List V} {m:Hp} {r:V×Hp} (e:mG P t x ys m=some r):r.2.H=m.H:=by
 unfold mG at e
 repeat' (split at e)
 all_goals first | (simp at e; done) | (simp only [Option.some.injEq] at e; subst e; rfl)
theorem aWv {b:Builtin} {ts:List TypeId} {xs:List V} {m:Hp} {r:V×Hp} (e:oY P b ts xs m=some r):r.2.H=m.H:=by
 unfold oY at e
 repeat' (split at e)
 all_goals first | (simp at e; done) | exact aZz e
def aZ0 (env:Env) (op:Op) (l:Nat):Prop :=
 match op with
 | .store _ a _=>∀ off,ev env a≠some (.ptr l off)
 | .call c=>(match c.callee with
  | .value f=>∀ vs g caps,fQ env c.args.toList=some vs→ev env f=some (.func g caps)→∀ off,V.ptr l off ∉ vs++caps
  | _=>True)
 | _=>True
theorem aWw {t:TypeId} {x y:V} {m:Hp} {r:V×Hp} (e:nE P t x y m=some r):m.H.length≤r.2.H.length:=by
 unfold nE at e
 split at e
 ·split at e
  ·split at e
   ·simp at e; subst e; simp
   ·simp at e
  ·simp at e
 ·simp at e
theorem aWx {env : Env} {H H' : List LO} {op : Op} (h : a2k op = true) (hp : ∀ l off,ev env (addrOf op) = some (.ptr l off) → ∀ c,H[l]? = some c → H'[l]? = some c) {v : V} (e : bV P C env H op = some v) : bV P C env H' op = some v:=by
 cases op <;> simp [a2k] at h
 rename_i t x
 simp only [bV,hP,addrOf] at e hp ⊢
 split at e
 ·rename_i u hu
  unfold nX at e ⊢
  split at e
  ·rename_i l off
   cases hc : H[l]? with
   | none=>rw [hc] at e; simp at e
   | some c=>rw [hp l off hu c hc]; rw [hc] at e; exact e
  ·exact e
  ·simp at e
 ·simp at e
theorem aZ1 {env:Env} {l:List Tmp} {x:Operand} {b off:Nat} (h:ev (seen env l) x=some (.ptr b off)):ev env x=some (.ptr b off):=by
 cases x with
 | tmp t =>
  simp only [ev] at h ⊢
  have hn:=Env.yQ h
  have hn':t < env.n:=hn
  rw [aA3 hn'] at h
  split at h
  ·unfold Env.get; rw [if_pos hn']; exact h
  ·simp at h
 | _=>exact h
theorem aQe {t : TypeId} {x y : V} {m : Hp} {r : V × Hp} {l : Nat} (e : nE P t x y m = some r) (h : ∀ off,x ≠ .ptr l off) : r.2.H[l]? = m.H[l]?:=by
 unfold nE at e
 split at e
 ·rename_i q off n hn
  have hne:q≠l:=fun e=>by subst e; exact h off rfl
  split at e
  ·split at e
   ·simp at e; subst e
    simp [List.getElem?_set_ne hne]
   ·simp at e
  ·simp at e
 ·simp at e
theorem aSf (hcalm : Calm C) {env : Env} {m : Hp} {op : Op} (hs : hG C op = true) {r : V × Hp} (e : evalW P C env m op = some r) : m.H.length ≤ r.2.H.length ∧ ∀ l,aZ0 env op l → r.2.H[l]? = m.H[l]?:=by
 cases op <;> simp only [evalW] at e <;> try (simp at e; done)
 case store =>
  split at e
  ·rename_i u v h1 h2
   refine ⟨aWw e,fun l hl=>aQe e fun off hu=>?_⟩
   subst hu; exact hl off h1
  ·simp at e
 case makeSlice =>
  split at e
  ·rw [aQd e]; exact ⟨Nat.le_refl _,fun _ _=>rfl⟩
  ·simp at e
 case call c =>
  obtain ⟨callee,args,ts⟩:=c
  (try simp only at e)
  split at e
  ·rw [aWv e]; exact ⟨Nat.le_refl _,fun _ _=>rfl⟩
  ·rename_i f vs hvs
   split at e
   ·rename_i g caps hg
    obtain ⟨v,m'⟩:=r
    refine ⟨hcalm.len _ _ _ _ _ e,fun l hl=>hcalm.lX _ _ _ _ _ l e fun off hm=>?_⟩
    exact hl vs g caps hvs hg off hm
   ·simp at e
  ·simp at e
theorem aT5 {s s' : Env × Hp} {o : Oper} {v : V} (hcalm : Calm C) (hs : hG C o.op = true) (e : rN P C ops s o = some (s',v)) : s.2.H.length ≤ s'.2.H.length ∧ ∀ l,aZ0 s.1 o.op l → s'.2.H[l]? = s.2.H[l]?:=by
 unfold rN at e
 split at e
 ·split at e
  ·rename_i v' m' h1
   simp at e; obtain ⟨rfl,rfl⟩:=e
   obtain ⟨nq,na,_⟩:=a0p (C:=C) hs
   unfold evalOp at h1
   rw [nq,na] at h1
   simp only [Bool.false_eq_true,if_false] at h1
   exact aSf hcalm hs h1
  ·simp at e
 ·simp at e; obtain ⟨rfl,rfl⟩:=e; exact ⟨Nat.le_refl _,fun _ _=>rfl⟩
 ·simp at e
theorem yX.aQf (t : yX P C ops σ val) (f : DF3 C sl ex ops) {l i : Nat} (hi0 : kC C ops ≤ i) : ∀ j,i ≤ j → j ≤ ops.length → (∀ (q : Nat) o,i ≤ q → q < j → ops[q]? = some o → hG C o.op = true → (σ (q + 1)).2.H[l]? = (σ q).2.H[l]?) → (σ j).2.H[l]? = (σ i).2.H[l]?
 | 0,h,_,_=>by rw [Nat.le_zero.1 h]
 | j+1,h,hj,hn=>by
  by_cases hi:i=j+1
  ·rw [hi]
  ·have ho:=List.getElem?_eq_getElem (show j < ops.length by omega)
   have ih:=t.aQf f (l:=l) (i:=i) hi0 j (by omega) (by omega) fun q o h1 h2=>hn q o h1 (by omega)
   rcases f.cls j _ ho with h1 | h1 | h1
   ·rw [a7l h1 (t.step j _ ho)]; exact ih
   ·rw [hn j _ (by omega) (by omega) ho h1]; exact ih
   ·have:=aBp f ho h1.1; omega
theorem aFo {s s':Env×Hp} {o:Oper} {v:V} (ha:pB o.op=true) (hg:o.guard=none) (e:rN P C ops s o=some (s',v)):∃ cs,wK P s.1 o.op=some cs∧v = .ptr s.2.H.length 0∧s'.2 = { s.2 with H:=s.2.H++[.cells cs] }:=by
 unfold rN at e
 have hw:n5 ops s.1 o=some true:=by unfold n5; rw [hg]
 rw [hw] at e
 simp only at e
 split at e
 ·rename_i v' m' h1
  simp only [Option.some.injEq,Prod.mk.injEq] at e
  obtain ⟨rfl,rfl⟩:=e
  have hq:nR C o.op=false:=by cases ho:o.op <;> rw [ho] at ha <;> simp [pB] at ha <;> rfl
  unfold evalOp at h1
  rw [hq,ha] at h1
  simp only [Bool.false_eq_true,if_false,if_true,Option.map_eq_some_iff,Prod.mk.injEq] at h1
  obtain ⟨cs,h2,h3,h4⟩:=h1
  exact ⟨cs,h2,h3.symm,h4.symm⟩
 ·simp at e
theorem yX.front (t:yX P C ops σ val) (f:DF3 C sl ex ops) {i:Nat} : ∀ j,i≤j→j≤kC C ops→∃ ds:List LO,(σ j).2 = { (σ i).2 with H:=(σ i).2.H++ds }
 | 0,h,_=>by rw [Nat.le_zero.1 h]; exact ⟨[],by simp⟩
 | j+1,h,hj=>by
  by_cases hi:i=j+1
  ·rw [hi]; exact ⟨[],by simp⟩
  ·have hlen:=a7k (C:=C) ops
   have ho:=List.getElem?_eq_getElem (show j < ops.length by omega)
   obtain ⟨ds,hds⟩:=t.front f (i:=i) j (by omega) (by omega)
   rcases f.cls j _ ho with h1 | h1 | h1
   ·rw [a7l h1 (t.step j _ ho)]; exact ⟨ds,hds⟩
   ·have:=zY ho h1; omega
   ·obtain ⟨cs,_,_,h2⟩:=aFo h1.1 h1.2 (t.step j _ ho)
    exact ⟨ds++[.cells cs],by rw [h2,hds,List.append_assoc]⟩
theorem aZ2 (hcalm : Calm C) (f : DF3 C sl ex ops) {s s' : Env × Hp} {j : Nat} {o : Oper} {v : V} (ho : ops[j]? = some o) (e : rN P C ops s o = some (s',v)) : s.2.H.length ≤ s'.2.H.length:=by
 rcases f.cls j o ho with h | h | h
 ·rw [a7l h e]; exact Nat.le_refl _
 ·exact (aT5 hcalm h e).1
 ·obtain ⟨cs,_,_,h2⟩:=aFo h.1 h.2 e
  rw [h2]; simp
theorem yX.aEc (hcalm:Calm C) (t:yX P C ops σ val) (f:DF3 C sl ex ops) {i:Nat} : ∀ j,i≤j→j≤ops.length→(σ i).2.H.length≤(σ j).2.H.length
 | 0,h,_=>by rw [Nat.le_zero.1 h]; exact Nat.le_refl _
 | j+1,h,hj=>by
  by_cases hi:i=j+1
  ·rw [hi]; exact Nat.le_refl _
  ·have ho:=List.getElem?_eq_getElem (show j < ops.length by omega)
   exact Nat.le_trans (t.aEc hcalm f j (by omega) (by omega)) (aZ2 hcalm f ho (t.step j _ ho))
theorem yX.aEd (hcalm : Calm C) (t : yX P C ops σ val) (f : DF3 C sl ex ops) {i j : Nat} {o : Oper} (ho : ops[i]? = some o) (ha : pB o.op = true) (hg : o.guard = none) (hij : i < j) (hj : j ≤ ops.length) : (σ i).2.H.length < (σ j).2.H.length:=by
 obtain ⟨cs,_,_,h2⟩:=aFo ha hg (t.step i o ho)
 have:=t.aEc hcalm f (i:=i+1) j hij hj
 rw [h2] at this
 simp at this; omega
theorem aFp (f : DF3 C sl ex ops) {i : Nat} {o : Oper} (ho : ops[i]? = some o) (ha : pB o.op = true) : o.guard = none:=by
 rcases f.cls i o ho with h | h | h
 ·cases hop:o.op <;> rw [hop] at ha h <;> simp [pB] at ha <;> simp [nR] at h
 ·exact (b2u h ha).elim
 ·exact h.2
theorem aBq.step {κ0 κ:Ctx} {h0:World} {S:Array Bool} {w:World} {a:Act} (hC:Sound P C) (hcalm:Calm C) (hsl:∀ t,sl t=true→∃ e,P.underlying t=some (.slice e)) (hex:∀ r r',ex r r'=true→aFn (σ 0).1 (σ 0).2.H.length r r') (t:yX P C ops σ val) (f:DF3 C sl ex ops) (M:aBq P C ops σ val κ0 h0 S κ w a) {j:Nat} {o:Oper}
  (ho : ops[j]? = some o) (hun : listedOf S j = false) (hr : ∀ e ∈ o.after,Region.binds .any e = true → S.getD e.on false = true) (Q : Exit → Act → World → Prop) (K : Act → World → Prop)
  (hK:∀ κ' w' a',aBq P C ops σ val κ0 h0 (S.setIfInBounds j true) κ' w' a'→K a' w'):wpOp P ops.toArray Q j K a w:=by
 have hj:j < ops.length:=(List.getElem?_eq_some_iff.1 ho).1
 have hjs:j < S.size:=by rw [M.size]; exact hj
 have renv:=M.env t f ho hun hr
 have hst:=t.step j o ho
 obtain ⟨k,hk0,hk1,hk2,hk3⟩:=M.at_
 have close : ∀ κ' w' x k',kC C ops ≤ k' → k' ≤ ops.length → (∀ (i : Nat) oi,ops[i]? = some oi → hG C oi.op = true → (i < k' ↔ (if i = j then true else listedOf S i) = true)) →
   (∀ (i : Nat) oi,ops[i]? = some oi → pB oi.op = true → i ≠ j → listedOf S i = false → κ'.box (σ i).2.H.length = none) → Le κ w.heap κ' w'.heap → Ext κ0 h0 (σ 0).2 κ' w' (σ k').2 → aD κ' w'.heap (val j) x →
   aBq P C ops σ val κ0 h0 (S.setIfInBounds j true) κ' w' (a.put o.dst x):=by
  intro κ' w' x k' hk'0 hk'1 hk'2 hkept hle hx hrep
  have hput : ∀ d,(a.put o.dst x).tmps[d]? = if o.dst = some d then (if d < a.tmps.size then some x else none) else a.tmps[d]?:=by
   intro d
   cases hdst:o.dst with
   | none=>simp [Act.put]
   | some c =>
    simp only [Act.put,Array.getElem?_setIfInBounds,Option.some.injEq]
    split
    ·rename_i h; subst h; rfl
    ·rfl
  refine ⟨by simpa using M.size,closed_set M.size M.closed ho hr,⟨k',hk'0,hk'1,fun i oi hoi hs=>by rw [listedOf_set hjs]; exact hk'2 i oi hoi hs,hx⟩,fun i oi hoi ha hl=>?_,?_,?_,fun i oi d y hoi hl hd hy=>?_,fun d v y hno hv hy=>?_⟩
  ·rw [listedOf_set hjs] at hl
   split at hl
   ·simp at hl
   ·rename_i hij; exact hkept i oi hoi ha hij hl
  ·cases hdst:o.dst <;> simp [Act.put,M.defers]
  ·cases hdst:o.dst <;> simp [Act.put,M.zC]
  ·rw [listedOf_set hjs] at hl
   rw [hput] at hy
   by_cases hij:i=j
   ·subst hij
    rw [ho] at hoi; simp at hoi; subst hoi
    rw [if_pos hd] at hy
    split at hy <;> simp at hy
    subst hy; exact hrep
   ·rw [if_neg hij] at hl
    have hne:o.dst≠some d:=fun e=>hij (f.nd i j oi o d hoi ho hd e)
    rw [if_neg hne] at hy
    exact (M.new i oi d y hoi hl hd hy).mono hle
  ·have hne:o.dst≠some d:=hno j o ho (by rw [listedOf_set hjs,if_pos rfl])
   rw [hput,if_neg hne] at hy
   refine (M.old d v y (fun i oi hoi hl=>hno i oi hoi ?_) hv hy).mono hle
   rw [listedOf_set hjs]; split <;> first | rfl | exact hl
 have keptE : ∀ κ' w' m',Ext κ w (σ k).2 κ' w' m' → ∀ (i : Nat) oi,ops[i]? = some oi → pB oi.op = true → i ≠ j → listedOf S i = false → κ'.box (σ i).2.H.length = none:=by
  intro κ' w' m' hx i oi hoi ha _ hl
  refine hx.hole _ ?_ (M.kept i oi hoi ha hl)
  exact t.aEd hcalm f hoi ha (aFp f hoi ha) (Nat.lt_of_lt_of_le (aBp f hoi ha) hk0) hk1
 have keepK : hG C o.op = false → ∀ (i : Nat) oi,ops[i]? = some oi → hG C oi.op = true → (i < k ↔ (if i = j then true else listedOf S i) = true):=by
  intro hs i oi hoi his
  have:i≠j:=fun e=>by subst e; rw [ho] at hoi; simp at hoi; subst hoi; rw [hs] at his; simp at his
  rw [if_neg this]; exact hk2 i oi hoi his
 have order : (hG C o.op = true ∨ a2k o.op = true) → ∀ (i : Nat) oi,ops[i]? = some oi → hG C oi.op = true → i ≠ j → (i < j ↔ listedOf S i = true) ∨ xL sl ex ops j i = true:=by
  intro hc i oi hoi his hne
  by_cases hx:xL sl ex ops j i=true
  ·exact .inr hx
  have hx':¬ xL sl ex ops i j=true:=by
   intro h
   unfold xL at h
   rw [hoi,ho] at h
   simp [(a0p (C:=C) his).2.2] at h
  refine .inl ⟨fun hlt=>?_,fun hl=>?_⟩
  ·rcases f.bAj i j oi o hlt hoi ho (.inl ⟨his,hc⟩) with h | h | h
   ·exact mask_listed ho M.closed hr h
   ·exact absurd h hx'
   ·exact absurd h hx
  ·refine Nat.lt_of_not_le fun hge=>?_
   have hlt:j < i:=Nat.lt_of_le_of_ne hge fun e=>hne e.symm
   rcases f.bAj j i o oi hlt ho hoi (by
     rcases hc with hc | hc
     ·exact .inl ⟨hc,.inl his⟩
     ·exact .inr ⟨hc,his⟩) with h | h | h
   ·have:=mask_listed hoi M.closed (M.closed i oi hoi hl) h
    rw [hun] at this; simp at this
   ·exact absurd h hx
   ·exact absurd h hx'
 have place : a2k o.op = true → ∀ l off,ev (σ j).1 (addrOf o.op) = some (.ptr l off) → ∀ c,(σ j).2.H[l]? = some c → (σ k).2.H[l]? = some c:=by
  intro hl l off hp c hc
  have leaves : ∀ (q : Nat) oq,ops[q]? = some oq → hG C oq.op = true → xL sl ex ops j q = true → (σ (q + 1)).2.H[l]? = (σ q).2.H[l]?:=by
   intro q oq hq hs hx
   unfold xL at hx
   rw [ho,hq] at hx
   simp only [Bool.and_eq_true] at hx
   obtain ⟨_,hx⟩:=hx
   have old : ∀ {i : Nat} {oi : Oper},ops[i]? = some oi → ¬ (σ i).2.H.length < (σ 0).2.H.length:=fun hi h=>by
    have:=t.aEc hcalm f (i:=0) _ (Nat.zero_le _) (Nat.le_of_lt (List.getElem?_eq_some_iff.1 hi).1); omega
   have clash:∀ {r r':Rt},aFn (σ 0).1 (σ 0).2.H.length r r'→aWu ops σ l r→aWu ops σ l r'→False:=by
    intro r r' ha e1 e2
    cases r with
    | ro=>exact e1
    | tm d =>
     cases r' with
     | ro=>exact e2
     | tm d' =>
      obtain ⟨o0,e1⟩:=e1
      obtain ⟨o1,e2⟩:=e2
      exact ha l o0 o1 e1 e2
     | nw i =>
      obtain ⟨o0,e1⟩:=e1
      obtain ⟨rfl,oi,hoi,_⟩:=e2
      exact old hoi (ha _ o0 e1)
    | nw i =>
     obtain ⟨e1,oi,hoi,hai⟩:=e1
     cases r' with
     | ro=>exact e2
     | tm d' =>
      obtain ⟨o0,e2⟩:=e2
      subst e1
      exact old hoi (ha _ o0 e2)
     | nw i' =>
      obtain ⟨e2,oi',hoi',hai'⟩:=e2
      rcases Nat.lt_or_gt_of_ne (show i≠i' from ha) with h | h
      ·have:=t.aEd hcalm f hoi hai (aFp f hoi hai) h (Nat.le_of_lt (List.getElem?_eq_some_iff.1 hoi').1); omega
      ·have:=t.aEd hcalm f hoi' hai' (aFp f hoi' hai') h (Nat.le_of_lt (List.getElem?_eq_some_iff.1 hoi).1); omega
   refine (aT5 hcalm hs (t.step q oq hq)).2 l ?_
   split at hx
   ·rename_i ty x y hop
    rw [hop]
    intro off' hq'
    split at hx
    ·rename_i r r' hr1 hr2
     exact clash (hex r r' hx) (p7 hsl t j _ r l off hr1 hp) (p7 hsl t q _ r' l off' hr2 hq')
    ·rename_i hr1 _
     exact (p7 hsl t j _ .ro l off hr1 hp).elim
    ·simp at hx
   ·rename_i c hop
    rw [hop]
    obtain ⟨callee,args,ts⟩:=c
    (try simp only at hx)
    split at hx
    ·trivial
    ·intro vs g caps hvs hg off' hmem
     simp only [ev,Option.some.injEq,V.func.injEq] at hg
     obtain ⟨rfl,rfl⟩:=hg
     rw [List.append_nil] at hmem
     split at hx
     ·rename_i hr1
      exact (p7 hsl t j _ .ro l off hr1 hp).elim
     ·rename_i r _ hr1
      have e1:=p7 hsl t j _ r l off hr1 hp
      obtain ⟨x,hx1,hx2⟩:=aT4 hvs hmem
      have hx3:=List.all_eq_true.1 hx x hx1
      split at hx3
      ·rename_i cv
       exact aZy hx2
      ·simp [ev] at hx2
      ·split at hx3
       ·rename_i r' hr2
        exact clash (hex r r' hx3) e1 (p7 hsl t q _ r' l off' hr2 hx2)
       ·simp at hx3
     ·simp at hx
    ·split at hx
     ·rename_i hr1
      exact (p7 hsl t j _ .ro l off hr1 hp).elim
     ·simp at hx
    ·simp at hx
   ·simp at hx
  have from_ : ∀ i,kC C ops ≤ i → j ≤ i → i ≤ ops.length → (∀ (q : Nat) oq,ops[q]? = some oq → hG C oq.op = true → i ≤ q → j < q) → (σ i).2.H[l]? = some c → k ≥ i → (σ k).2.H[l]? = some c:=by
   intro i h1 h2 h3 h4 h5 h6
   rw [← h5]
   refine t.aQf f h1 k h6 hk1 fun q oq h7 h8 hq his=>?_
   have hjq:=h4 q oq hq his h7
   rcases order (.inr hl) q oq hq his (by omega) with h | h
   ·have:=h.2 ((hk2 q oq hq his).1 h8); omega
   ·exact leaves q oq hq his h
  have hjS : ∀ (q : Nat) oq,ops[q]? = some oq → hG C oq.op = true → q ≠ j:=fun q oq hq his e=>by subst e; rw [ho] at hq; simp at hq; subst hq; rw [(a0p (C:=C) his).2.2] at hl; simp at hl
  rcases Nat.lt_or_ge j (kC C ops) with hlt | hge
  ·obtain ⟨ds,hds⟩:=t.front f (i:=j) (kC C ops) (by omega) (Nat.le_refl _)
   refine from_ (kC C ops) (Nat.le_refl _) (by omega) (a7k ops) (fun q oq hq his h=>by omega) ?_ hk0
   rw [hds,List.getElem?_append_left (List.getElem?_eq_some_iff.1 hc).1]; exact hc
  ·rcases Nat.le_total k j with hle | hle
   ·rw [← hc]
    refine (t.aQf f hk0 j hle (by omega) fun q oq h2 h3 hq his=>?_).symm
    rcases order (.inr hl) q oq hq his (by omega) with h | h
    ·have:=(hk2 q oq hq his).2 (h.1 h3); omega
    ·exact leaves q oq hq his h
   ·exact from_ j hge (Nat.le_refl _) (by omega) (fun q oq hq his h=>Nat.lt_of_le_of_ne h fun e=>hjS q oq hq his e.symm) hc hle
 have around : hG C o.op = true → (σ j).2 = (σ k).2 ∧ ∀ (i : Nat) oi,ops[i]? = some oi → hG C oi.op = true → i ≠ j → (i < j ↔ listedOf S i = true):=by
  intro hc
  have h1 : ∀ (i : Nat) oi,ops[i]? = some oi → hG C oi.op = true → i ≠ j → (i < j ↔ listedOf S i = true):=by
   intro i oi hoi his hne
   rcases order (.inl hc) i oi hoi his hne with h | h
   ·exact h
   ·unfold xL at h
    rw [ho,hoi] at h
    simp [(a0p (C:=C) hc).2.2] at h
  refine ⟨?_,h1⟩
  have hj0:=zY ho hc
  rcases Nat.le_total k j with hle | hle
  ·refine t.still f hk0 j hle (by omega) fun q oq h2 h3 hq=>?_
   cases his:hG C oq.op with
   | false=>rfl
   | true =>
    have h4:=(h1 q oq hq his (by omega)).1 h3
    have:=(hk2 q oq hq his).2 h4
    omega
  ·refine (t.still f hj0 k hle hk1 fun q oq h2 h3 hq=>?_).symm
   cases his:hG C oq.op with
   | false=>rfl
   | true =>
    have h4:=(hk2 q oq hq his).1 h3
    by_cases hqj:q=j
    ·subst hqj; rw [hun] at h4; simp at h4
    ·have:=(h1 q oq hq his hqj).2 h4
     omega
 unfold wpOp
 have ho' : ops.toArray[j]? = some o:=by simpa using ho
 rw [ho']
 simp only
 have hstA:=hst
 unfold rN at hst
 split at hst
 ·rename_i hw
  have hw':=pR (w:=w) renv (a23 (ops:=ops) hw)
  rw [if_pos hw']
  split at hst
  ·rename_i v m1 hv
   simp only [Option.some.injEq,Prod.mk.injEq] at hst
   obtain ⟨hst1,hst2⟩:=hst
   have hm1:(σ (j+1)).2=m1:=by rw [← hst1]
   rcases f.cls j o ho with hq | hs | hA
   ·-- quiet
    have hns:hG C o.op=false:=by
     cases hh:hG C o.op with
     | false=>rfl
     | true=>rw [(a0p (C:=C) hh).1] at hq; simp at hq
    unfold evalOp at hv
    rw [if_pos hq] at hv
    simp only [Option.map_eq_some_iff] at hv
    obtain ⟨u,hu,hv⟩:=hv
    simp only [Prod.mk.injEq] at hv
    obtain ⟨rfl,_⟩:=hv
    have hu':bV P C (seen (σ j).1 (o.looksAt ops.toArray)) (σ k).2.H o.op=some u:=by
     have h1:=aF9 (env':=seen (σ j).1 (o.looksAt ops.toArray)) a1a (fun _ _ h=>h) hu
     cases hl:a2k o.op with
     | false=>rw [aQc (H':=(σ j).2.H) hl]; exact h1
     | true=>exact aWx hl (fun l off he=>place hl l off (aZ1 he)) h1
    refine .inl (Oper.wp_mono ?_ (aA1 (m:=(σ k).2) hC hk3.mem renv hu' Q))
    rintro a' w' ⟨x,κ',rfl,hx,hrep⟩
    exact hK κ' w' _ (close κ' w' x k hk0 hk1 (keepK hns) (keptE κ' w' _ hx) hx.le (hk3.trans hx) (by rw [← hst2]; exact hrep))
   ·have ⟨e1,e2⟩:=around hs
    have hv':evalOp P C (seen (σ j).1 (o.looksAt ops.toArray)) (σ k).2 o.op=some (v,m1):=by rw [← e1]; exact aSe hs a1a hv
    refine .inl (Oper.wp_mono ?_ (a8h (m:=(σ k).2) hC hk3.mem renv hv' Q))
    rintro a' w' ⟨x,κ',rfl,hx,hrep⟩
    have hj0:=zY ho hs
    refine hK κ' w' _ (close κ' w' x (j+1) (by omega) hj (fun i oi hoi his=>?_) (keptE κ' w' _ hx) hx.le (by rw [hm1]; exact hk3.trans hx) (by rw [← hst2]; exact hrep))
    by_cases hij:i=j
    ·subst hij; simp
    ·rw [if_neg hij,← e2 i oi hoi his hij]; omega
   ·-- a box is made
    have hns:hG C o.op=false:=by
     cases hh:hG C o.op with
     | false=>rfl
     | true=>exact (b2u hh hA.1).elim
    obtain ⟨cs,c1,c2,c3⟩:=aFo hA.1 hA.2 hstA
    have hlt:=aBp f ho hA.1
    have none_ : ∀ (q : Nat) oq,ops[q]? = some oq → hG C oq.op = true → ¬ q < k:=by
     intro q oq hq his h
     have hl:=(hk2 q oq hq his).1 h
     have hq0:=zY hq his
     have:=mask_listed hq M.closed (M.closed q oq hq hl) (f.als j q o oq (by omega) ho hq hA.1 his)
     rw [hun] at this; simp at this
    have hmk:(σ k).2=(σ (kC C ops)).2:=t.still f (Nat.le_refl _) k hk0 hk1 fun q oq _ h2 hq=>by
     cases his:hG C oq.op with
     | false=>rfl
     | true=>exact absurd h2 (none_ q oq hq his)
    have hget : (σ k).2.H[(σ j).2.H.length]? = some (.cells cs):=by
     obtain ⟨ds,hds⟩:=t.front f (i:=j+1) (kC C ops) hlt (Nat.le_refl _)
     rw [hmk,hds,c3]; simp
    have hnone:=M.kept j o ho hA.1 hun
    refine .inl (Oper.wp_mono ?_ (aA2 (m:=(σ k).2) (l:=(σ j).2.H.length) hk3.mem renv (aGa a1a c1) hget hnone Q))
    rintro a' w' ⟨x,κ',rfl,hle,hmem,hrep,hbox,hos,hout⟩
    have hj0:=t.aEc hcalm f (i:=0) j (Nat.zero_le _) (by omega)
    refine hK κ' w' _ (close κ' w' x k hk0 hk1 (keepK hns) (fun i oi hoi ha hij hl=>?_) hle ⟨hk3.le.trans hle,hmem,hk3.grow,fun l hl e=>?_,hos.trans hk3.os,hk3.out.trans hout⟩ (by rw [c2]; exact hrep))
    ·rw [hbox]
     have hne:(σ i).2.H.length≠(σ j).2.H.length:=by
      rcases Nat.lt_or_gt_of_ne hij with h | h
      ·have:=t.aEd hcalm f hoi ha (aFp f hoi ha) h (by omega); omega
      ·have:=t.aEd hcalm f ho hA.1 hA.2 h (by have:=(List.getElem?_eq_some_iff.1 hoi).1; omega); omega
     simp only [if_neg hne]
     exact M.kept i oi hoi ha hl
    ·rw [hbox]
     simp only
     rw [if_neg (by omega)]
     exact hk3.hole l hl e
  ·simp at hst
 ·rename_i hw
  have hw':=pR (w:=w) renv (a23 (ops:=ops) hw)
  simp only [Option.some.injEq,Prod.mk.injEq] at hst
  obtain ⟨hst1,hst2⟩:=hst
  rw [if_neg (by rw [hw']; simp)]
  have hrep:aD κ w.heap (val j) Go.undef:=by rw [← hst2]; exact .undef
  have hm1:(σ (j+1)).2=(σ j).2:=by rw [← hst1]
  have same : ∀ (i : Nat) oi,ops[i]? = some oi → pB oi.op = true → i ≠ j → listedOf S i = false → κ.box (σ i).2.H.length = none:=fun i oi hoi ha _ hl=>M.kept i oi hoi ha hl
  cases hs:hG C o.op with
  | false=>exact hK κ w _ (close κ w _ k hk0 hk1 (keepK hs) same (Le.refl _ _) hk3 hrep)
  | true =>
   have ⟨e1,e2⟩:=around hs
   have hj0:=zY ho hs
   refine hK κ w _ (close κ w _ (j+1) (by omega) hj (fun i oi hoi his=>?_) same (Le.refl _ _) (by rw [hm1,e1]; exact hk3) hrep)
   by_cases hij:i=j
   ·subst hij; simp
   ·rw [if_neg hij,← e2 i oi hoi his hij]; omega
 ·simp at hst
theorem aWy (hC:Sound P C) (hcalm:Calm C) (hsl:∀ t,sl t=true→∃ e,P.underlying t=some (.slice e)) (hex:∀ r r',ex r r'=true→aFn (σ 0).1 (σ 0).2.H.length r r') (t:yX P C ops σ val) (f:DF3 C sl ex ops) {κ0:Ctx} {h0:World} {Q:Exit→Act→World→Prop}
  (hQ:∀ κ' w' a',Ext κ0 h0 (σ 0).2 κ' w' (σ ops.length).2→cC κ' w'.heap (σ ops.length).1 a'→Q .normal a' w') :
  ∀ (fuel:Nat) (S:Array Bool) (κ:Ctx) (w:World) (a:Act),aBq P C ops σ val κ0 h0 S κ w a→unl S≤fuel→wpAny P .any ops.toArray Q fuel S a w:=by
 have fin:∀ (S:Array Bool) (κ:Ctx) (w:World) (a:Act),aBq P C ops σ val κ0 h0 S κ w a→(∀ i,i < ops.length→listedOf S i=true)→Q .normal a w:=by
  intro S κ w a M hall
  obtain ⟨k,hk0,hk1,hk2,hk3⟩:=M.at_
  have hm:(σ ops.length).2=(σ k).2:=t.still f hk0 _ hk1 (Nat.le_refl _) fun q oq h1 h2 hq=>by
   cases his:hG C oq.op with
   | false=>rfl
   | true =>
    have:=(hk2 q oq hq his).2 (hall q h2)
    omega
  refine hQ κ w a (by rw [hm]; exact hk3) ⟨M.defers,by rw [M.zC,t.len _ (Nat.le_refl _)],fun d v x hv hx=>?_⟩
  by_cases hex : ∃ (i : Nat) (oi : Oper),ops[i]? = some oi ∧ oi.dst = some d
  ·obtain ⟨i,oi,hoi,hdi⟩:=hex
   have hi:=(List.getElem?_eq_some_iff.1 hoi).1
   have hval:=t.new f hoi hdi ops.length hi (Nat.le_refl _)
   rw [hv,if_pos (by rw [← t.len ops.length (Nat.le_refl _)]; exact Env.yQ hv)] at hval
   simp only [Option.some.injEq] at hval
   subst hval
   exact M.new i oi d x hoi (hall i hi) hdi hx
  ·have hold:=t.old (d:=d) ops.length (Nat.le_refl _) (fun i oi _ hoi hdi=>hex ⟨i,oi,hoi,hdi⟩)
   rw [hv] at hold
   exact M.old d v x (fun i oi hoi _ hdi=>hex ⟨i,oi,hoi,hdi⟩) hold.symm hx
 have some_:∀ (S:Array Bool) (κ:Ctx) (w:World) (a:Act),aBq P C ops σ val κ0 h0 S κ w a→(∀ i,i < ops.length→listedOf S i=true)∨∃ q,q ∈ Region.ready .any ops.toArray S:=by
  intro S κ w a M
  by_cases hall:∀ i,i < ops.length→listedOf S i=true
  ·exact .inl hall
  ·have:∀ k,(∃ q,q < k∧q < ops.length∧listedOf S q=false∧∀ i,i < q→i < ops.length→listedOf S i=true)∨∀ i,i < k→i < ops.length→listedOf S i=true:=by
    intro k
    induction k with
    | zero=>exact .inr (fun i hi=>by omega)
    | succ k ihk =>
     rcases ihk with ⟨q,h1,h2⟩ | h1
     ·exact .inl ⟨q,by omega,h2⟩
     ·by_cases hkl:k < ops.length
      ·cases hk:listedOf S k with
       | false=>exact .inl ⟨k,by omega,hkl,hk,h1⟩
       | true =>
        refine .inr (fun i hi hil=>?_)
        by_cases h:i=k
        ·subst h; exact hk
        ·exact h1 i (by omega) hil
      ·exact .inr fun i hi hil=>h1 i (by omega) hil
   rcases this ops.length with ⟨q,h1,h2,h3,h4⟩ | h1
   ·refine .inr ⟨q,ready_iff.2 ⟨ops[q],List.getElem?_eq_getElem h2,by rw [lst_of_listedOf (by rw [M.size]; exact h2)]; exact h3,fun e he hb=>?_⟩⟩
    have h5:=f.back q _ (List.getElem?_eq_getElem h2) e he hb
    exact h4 e.on h5 (by omega)
   ·exact absurd (fun i hi=>h1 i hi hi) hall
 intro fuel
 induction fuel with
 | zero =>
  intro S κ w a M hu
  have hall:∀ i,i < ops.length→listedOf S i=true:=fun i hi=>by
   cases h:listedOf S i with
   | true=>rfl
   | false=>have:=unl_pos (listed_false (by rw [M.size]; exact hi) h); omega
  refine ⟨?_,fin S κ w a M hall⟩
  rw [List.eq_nil_iff_forall_not_mem]
  intro i hi
  obtain ⟨o,h1,h2,_⟩:=ready_iff.1 hi
  have hil:=(List.getElem?_eq_some_iff.1 h1).1
  rw [lst_of_listedOf (by rw [M.size]; exact hil),hall i hil] at h2
  simp at h2
 | succ fuel ih =>
  intro S κ w a M hu
  refine ⟨fun hnil=>?_,fun i hi=>?_⟩
  ·rcases some_ S κ w a M with h | ⟨q,h⟩
   ·exact fin S κ w a M h
   ·rw [hnil] at h; simp at h
  ·obtain ⟨o,h1,h2,h3⟩:=ready_iff.1 hi
   have hil:=(List.getElem?_eq_some_iff.1 h1).1
   rw [lst_of_listedOf (by rw [M.size]; exact hil)] at h2
   have hset:=unl_set (listed_false (by rw [M.size]; exact hil) h2)
   exact M.step hC hcalm hsl hex t f h1 h2 h3 Q _ (fun κ' w' a' M'=>ih _ κ' w' a' M' (by omega))
theorem aQg (hC:Sound P C) (hcalm:Calm C) {id:Nat} {Q:Exit→Act→World→Prop} {env:Env} {m:Hp} {env':Env} {m':Hp} {κ:Ctx} {w:World} {a:Act} (h:a2l C sl ex ops=true) (hsl:∀ t,sl t=true→∃ e,P.underlying t=some (.slice e)) (hex:∀ r r',ex r r'=true→aFn env m.H.length r r') (hm:P.follows .mixedOrders=true)
  (e:kU P C ops ops env m=some (env',m')) (k:Mem κ w.heap m) (re:cC κ w.heap env a) (hQ:∀ κ' w' a',Ext κ w m κ' w' m'→cC κ' w'.heap env' a'→Q .normal a' w') :
  (Code.region id ops.toArray true).wp P Q a w:=by
 have f:=aWt h
 obtain ⟨σ,val,h2,h3,h4⟩:=aT3 e
 have t:yX P C ops σ val:=⟨h4⟩
 refine wp_region_any hm (aWy hC hcalm hsl (by rw [h2]; exact hex) t f (κ0:=κ) (h0:=w) (by rw [h2,h3]; exact hQ) _ _ κ _ a ?_ ?_)
 ·have hrep:∀ i,listedOf (Array.replicate ops.toArray.size false) i=false:=fun i=>by
   unfold listedOf; simp [Array.getD]
  obtain ⟨ds,hds⟩:=t.front f (i:=0) (kC C ops) (Nat.zero_le _) (Nat.le_refl _)
  have hext:∀ w':World,w'.heap=w.heap→w'.os=w.os→w'.output=w.output→Ext κ w (σ 0).2 κ w' (σ (kC C ops)).2:=by
   intro w' e1 e2 e3
   rw [hds,h2]
   exact ⟨by rw [e1]; exact Le.refl _ _,by rw [e1]; exact aG3 k ds,by simp,fun _ _ hb=>hb,e2,⟨e3,by rw [e1]; exact Nat.le_refl _⟩⟩
  refine ⟨by simp,fun j o _ hl=>by rw [hrep] at hl; simp at hl,⟨kC C ops,Nat.le_refl _,a7k ops,fun i o ho hs=>?_,hext _ rfl rfl rfl⟩,fun j o ho ha _=>?_,re.1,by rw [h2]; exact re.2.1,fun i o d x _ hl=>by rw [hrep] at hl; simp at hl,fun d v x _ hv hx=>re.2.2 d v x (by rw [h2] at hv; exact hv) hx⟩
  ·rw [hrep]
   have:=zY ho hs
   simp; omega
  ·refine sO k ?_
   have:=t.aEc hcalm f (i:=0) j (Nat.zero_le _) (by have:=(List.getElem?_eq_some_iff.1 ho).1; omega)
   rw [h2] at this; exact this
 ·unfold unl
  simp [List.count_replicate]
end
end Go.Fbs

/- A call that is led to boxes: the part of the memory that it sees,and the way back. -/
namespace Go.Fbs
inductive GA where
 | own (i:Nat)
 | full (n sz:Nat)
def GA.aU (κ:Ctx):GA→iF
 | .own i=>(κ.aU[i]?).getD ⟨0,0,0,0,.full⟩
 | .full n sz=>⟨0,0,sz,n,.full⟩
def part (κ:Ctx) (ls:List Nat) (gs:List GA):Ctx:=⟨κ.hw,fun b=>(ls[b]?).bind κ.box,gs.map (GA.aU κ)⟩
structure yY (κ:Ctx) (ls:List Nat) (gs:List GA):Prop where
 nb : ∀ (b b' l : Nat),ls[b]? = some l → ls[b']? = some l → b = b'
 ng : ∀ (p q i : Nat),gs[p]? = some (.own i) → gs[q]? = some (.own i) → p = q
 ex : ∀ (p i : Nat),gs[p]? = some (.own i) → ∃ L,κ.aU[i]? = some L ∧ L.kind ≠ .dead
section
variable {κ κ1:Ctx} {h h1:bX} {m m1:Hp} {ls:List Nat} {gs:List GA}
theorem a1i {b:Nat} (hb:boxed (part κ ls gs) b):boxed κ b:=by
 obtain ⟨i,hb⟩:=hb
 simp only [part,Option.bind_eq_some_iff] at hb
 obtain ⟨l,_,h2⟩:=hb
 exact ⟨l,h2⟩
theorem nZ (p : yY κ ls gs) {L : iF} (hL : L ∈ (part κ ls gs).aU) (hk : L.kind = .real) : ∃ (q i : Nat),gs[q]? = some (.own i) ∧ κ.aU[i]? = some L:=by
 simp only [part,List.mem_map] at hL
 obtain ⟨g,hg,rfl⟩:=hL
 obtain ⟨q,hq⟩:=List.mem_iff_getElem?.1 hg
 cases g with
 | full n sz=>simp [GA.aU] at hk
 | own i =>
  obtain ⟨L,hL,_⟩:=p.ex q i hq
  exact ⟨q,i,hq,by simp [GA.aU,hL]⟩
theorem aCc (p : yY κ ls gs) {L : iF} {q : Nat} (hL : (part κ ls gs).aU[q]? = some L) (hk : L.kind = .real) : ∃ i,gs[q]? = some (.own i) ∧ κ.aU[i]? = some L:=by
 simp only [part,List.getElem?_map,Option.map_eq_some_iff] at hL
 obtain ⟨g,hg,rfl⟩:=hL
 cases g with
 | full n sz=>simp [GA.aU] at hk
 | own i =>
  obtain ⟨L,hL,_⟩:=p.ex q i hg
  exact ⟨i,hg,by simp [GA.aU,hL]⟩
theorem aJn (p:yY κ ls gs) {b:Nat} (ho:owned (part κ ls gs) b):owned κ b:=by
 rcases ho with h | ⟨L,h,hk,rfl⟩
 ·exact .inl (a1i h)
 ·obtain ⟨q,i,_,h2⟩:=nZ p h hk
  exact .inr ⟨L,List.mem_of_getElem? h2,hk,rfl⟩
theorem b6x (ok:Ok κ h) (p:yY κ ls gs):Ok (part κ ls gs) h where
 kW b hb:=ok.kW b (a1i hb)
 uI b hb:=ok.uI b (a1i hb)
 xT i j b h1 h2:=by
  simp only [part,Option.bind_eq_some_iff] at h1 h2
  obtain ⟨l,e1,e2⟩:=h1
  obtain ⟨l',e3,e4⟩:=h2
  rw [ok.xT l l' b e2 e4] at e1
  exact p.nb i j l' e1 e3
 lW L hL hk:=by
  obtain ⟨q,i,_,h2⟩:=nZ p hL hk
  exact ok.lW L (List.mem_of_getElem? h2) hk
 lhw L hL hk:=by
  obtain ⟨q,i,_,h2⟩:=nZ p hL (nf hk)
  exact ok.lhw L (List.mem_of_getElem? h2) hk
 lnd q q' L L' h1 h2 k1 k2 he:=by
  obtain ⟨i,e1,e2⟩:=aCc p h1 (nf k1)
  obtain ⟨i',e3,e4⟩:=aCc p h2 (nf k2)
  have:=ok.lnd i i' L L' e2 e4 k1 k2 he
  subst this
  exact p.ng q q' i e1 e3
 wG L hL hk hb:=by
  obtain ⟨q,i,_,h2⟩:=nZ p hL hk
  exact ok.wG L (List.mem_of_getElem? h2) hk (a1i hb)
 tE L hL hk:=by
  obtain ⟨q,i,_,h2⟩:=nZ p hL (nf hk)
  exact ok.tE L (List.mem_of_getElem? h2) hk
 fresh b hb:=ok.fresh b hb
def GA.b4n (i:Nat):GA→Bool
 | .own j=>Nat.beq j i
 | .full _ _=>false
def a1j (gs:List GA) (i:Nat):Bool:=gs.any (GA.b4n i)
theorem a44 {i : Nat} : a1j gs i = true ↔ ∃ q : Nat,gs[q]? = some (.own i):=by
 unfold a1j
 rw [List.any_eq_true]
 constructor
 ·rintro ⟨g,hg,hi⟩
  obtain ⟨q,hq⟩:=List.mem_iff_getElem?.1 hg
  cases g with
  | own j=>exact ⟨q,by rw [hq,Nat.eq_of_beq_eq_true hi]⟩
  | full n sz=>simp [GA.b4n] at hi
 ·rintro ⟨q,hq⟩
  exact ⟨_,List.mem_of_getElem? hq,Nat.beq_refl i⟩
def iF.kill (L:iF) (b:Bool):iF:=bif b then { L with kind:=.dead } else L
def back (κ κ1:Ctx) (gs outs:List GA):Ctx:=⟨κ1.hw,κ.box,(κ.aU.mapIdx fun i L=>L.kill (a1j gs i))++outs.map (GA.aU κ1)⟩
theorem b2v {i : Nat} {L : iF} {outs : List GA} (hL : κ.aU[i]? = some L) : (back κ κ1 gs outs).aU[i]? = some (L.kill (a1j gs i)):=by
 simp only [back]
 rw [List.getElem?_append_left (by simpa using (List.getElem?_eq_some_iff.1 hL).1)]
 simp [hL]
theorem uP {outs : List GA} {j : Nat} {L : iF} (hL : (back κ κ1 gs outs).aU[j]? = some L) :
  (∃ L0,κ.aU[j]? = some L0 ∧ L = L0.kill (a1j gs j)) ∨ (κ.aU.length ≤ j ∧ ∃ g,outs[j - κ.aU.length]? = some g ∧ L = g.aU κ1):=by
 simp only [back,List.getElem?_append] at hL
 split at hL
 ·left
  simp only [List.getElem?_mapIdx,Option.map_eq_some_iff] at hL
  obtain ⟨L0,h1,h2⟩:=hL
  exact ⟨L0,h1,h2.symm⟩
 ·rename_i hlt
  right
  simp only [List.length_mapIdx] at hL hlt
  simp only [List.getElem?_map,Option.map_eq_some_iff] at hL
  obtain ⟨g,h1,h2⟩:=hL
  exact ⟨by omega,g,h1,h2.symm⟩
structure sW (κ1:Ctx) (outs:List GA):Prop where
 nd : ∀ (p q i : Nat),outs[p]? = some (.own i) → outs[q]? = some (.own i) → p = q
 ex : ∀ (p i : Nat),outs[p]? = some (.own i) → ∃ L,κ1.aU[i]? = some L
variable {outs:List GA}
theorem aZ3 (ok : Ok κ h) (p : yY κ ls gs) {i : Nat} {L : iF} (hL : κ.aU[i]? = some L) (hk : L.kind = .real) (hi : a1j gs i = false) : ¬ owned (part κ ls gs) L.cV:=by
 rintro (hb | ⟨L',h1,hk',he⟩)
 ·exact ok.wG L (List.mem_of_getElem? hL) hk (a1i hb)
 ·obtain ⟨q,j,e1,e2⟩:=nZ p h1 hk'
  have:=ok.lnd j i L' L e2 hL hk' hk he
  subst this
  rw [a44.2 ⟨q,e1⟩] at hi
  simp at hi
theorem rO {L:iF} {b:Bool} (h:(L.kill b).kind = .real):b=false∧L.kill b=L:=by
 cases b with
 | false=>exact ⟨rfl,rfl⟩
 | true=>simp [iF.kill] at h
theorem aT6 (p:yY κ ls gs) (le:Le (part κ ls gs) h κ1 h1) (q:sW κ1 outs):Le κ h (back κ κ1 gs outs) h1 where
 size:=le.size
 same b hb ho:=le.same b hb fun o=>ho (aJn p o)
 a07 b hb ho:=le.a07 b hb fun o=>ho (aJn p o)
 a3m:=le.a3m
 hw:=le.hw
 box _ _ h:=h
 a08 _ h:=.inl h
 aU i L hL:=by
  refine ⟨_,b2v hL,?_⟩
  cases a1j gs i with
  | false=>exact .inl rfl
  | true=>exact .inr (.inl rfl)
 wZ L' hL' hk:=by
  obtain ⟨j,hj⟩:=List.mem_iff_getElem?.1 hL'
  rcases uP hj with ⟨L0,e1,rfl⟩ | ⟨_,g,e1,rfl⟩
  ·obtain ⟨_,e2⟩:=rO hk
   rw [e2] at hk ⊢
   exact .inl ⟨L0,List.mem_of_getElem? e1,hk,rfl⟩
  ·cases g with
   | full n sz=>simp [GA.aU] at hk
   | own i =>
    obtain ⟨L,hL⟩:=q.ex _ i e1
    have hg:GA.aU κ1 (.own i)=L:=by simp [GA.aU,hL]
    rw [hg] at hk ⊢
    rcases le.wZ L (List.mem_of_getElem? hL) hk with ⟨L0,e2,e3,e4⟩ | e2
    ·obtain ⟨_,i',_,e6⟩:=nZ p e2 e3
     exact .inl ⟨L0,List.mem_of_getElem? e6,e3,e4⟩
    ·exact .inr e2
theorem b6y (ok:Ok κ h) (p:yY κ ls gs) (le:Le (part κ ls gs) h κ1 h1) (iW:Ok κ1 h1) (q:sW κ1 outs):Ok (back κ κ1 gs outs) h1:=by
 have out : ∀ {g : GA} {r : Nat},outs[r]? = some g → (g.aU κ1).kind = .real → ∃ i L,g = .own i ∧ κ1.aU[i]? = some L ∧ g.aU κ1 = L:=by
  intro g r e1 hk
  cases g with
  | full n sz=>simp [GA.aU] at hk
  | own i =>
   obtain ⟨L,hL⟩:=q.ex _ i e1
   exact ⟨i,L,rfl,hL,by simp [GA.aU,hL]⟩
 have uI:∀ b,boxed κ b→κ1.hw b=0:=by
  intro b hb
  by_cases ho:owned (part κ ls gs) b
  ·rcases ho with h2 | ⟨L,h2,hk,rfl⟩
   ·obtain ⟨l,hl⟩:=h2
    exact iW.uI b ⟨l,le.box l b hl⟩
   ·obtain ⟨_,i,_,e⟩:=nZ p h2 hk
    exact absurd hb (ok.wG L (List.mem_of_getElem? e) hk)
  ·rw [le.a07 b (ok.kW b hb) ho]; exact ok.uI b hb
 have cV : ∀ {L : iF},L ∈ κ1.aU → L.kind = .real → (∃ (r i : Nat) (L0 : iF),gs[r]? = some (.own i) ∧ κ.aU[i]? = some L0 ∧ L0.kind = .real ∧ L0.cV = L.cV) ∨ h.size ≤ L.cV:=by
  intro L hL hk
  rcases le.wZ L hL hk with ⟨L0,e2,e3,e4⟩ | e2
  ·obtain ⟨r,i,e5,e6⟩:=nZ p e2 e3
   exact .inl ⟨r,i,L0,e5,e6,e3,e4⟩
  ·exact .inr e2
 constructor
 ·exact fun b hb=>Nat.lt_of_lt_of_le (ok.kW b hb) le.size
 ·exact uI
 ·exact ok.xT
 ·intro L hL hk
  obtain ⟨j,hj⟩:=List.mem_iff_getElem?.1 hL
  rcases uP hj with ⟨L0,e1,rfl⟩ | ⟨_,g,e1,rfl⟩
  ·obtain ⟨_,e2⟩:=rO hk
   rw [e2] at hk ⊢
   exact Nat.lt_of_lt_of_le (ok.lW L0 (List.mem_of_getElem? e1) hk) le.size
  ·obtain ⟨i,L,_,e2,e3⟩:=out e1 hk
   rw [e3] at hk ⊢
   exact iW.lW L (List.mem_of_getElem? e2) hk
 ·intro L hL hk
  obtain ⟨j,hj⟩:=List.mem_iff_getElem?.1 hL
  rcases uP hj with ⟨L0,e1,rfl⟩ | ⟨_,g,e1,rfl⟩
  ·obtain ⟨e0,e2⟩:=rO hk
   rw [e2] at hk ⊢
   have:=aZ3 ok p e1 hk e0
   exact (le.a07 _ (ok.lW L0 (List.mem_of_getElem? e1) hk) this).trans (ok.lhw L0 (List.mem_of_getElem? e1) hk)
  ·obtain ⟨i,L,_,e2,e3⟩:=out e1 hk
   rw [e3] at hk ⊢
   exact iW.lhw L (List.mem_of_getElem? e2) hk
 ·intro j j' L L' hj hj' hk hk' he
  rcases uP hj with ⟨L0,e1,rfl⟩ | ⟨n1,g,e1,rfl⟩ <;> rcases uP hj' with ⟨L0',e1',rfl⟩ | ⟨n1',g',e1',rfl⟩
  ·obtain ⟨_,e2⟩:=rO hk
   obtain ⟨_,e2'⟩:=rO hk'
   rw [e2] at hk he; rw [e2'] at hk' he
   exact ok.lnd j j' L0 L0' e1 e1' hk hk' he
  ·exfalso
   obtain ⟨e0,e2⟩:=rO hk
   obtain ⟨i,L,_,e3,e4⟩:=out e1' hk'
   rw [e2] at hk he; rw [e4] at hk' he
   rcases cV (List.mem_of_getElem? e3) hk' with ⟨r,i2,L2,c1,c2,c3,c4⟩ | c1
   ·have:=ok.lnd j i2 L0 L2 e1 c2 hk c3 (by rw [he,c4])
    subst this
    rw [a44.2 ⟨r,c1⟩] at e0; simp at e0
   ·have:=ok.lW L0 (List.mem_of_getElem? e1) hk
    rw [he] at this; omega
  ·exfalso
   obtain ⟨e0,e2⟩:=rO hk'
   obtain ⟨i,L,_,e3,e4⟩:=out e1 hk
   rw [e2] at hk' he; rw [e4] at hk he
   rcases cV (List.mem_of_getElem? e3) hk with ⟨r,i2,L2,c1,c2,c3,c4⟩ | c1
   ·have:=ok.lnd j' i2 L0' L2 e1' c2 hk' c3 (by rw [← he,c4])
    subst this
    rw [a44.2 ⟨r,c1⟩] at e0; simp at e0
   ·have:=ok.lW L0' (List.mem_of_getElem? e1') hk'
    rw [← he] at this; omega
  ·obtain ⟨i,L,rfl,e3,e4⟩:=out e1 hk
   obtain ⟨i',L',rfl,e3',e4'⟩:=out e1' hk'
   rw [e4] at hk he; rw [e4'] at hk' he
   have:=iW.lnd i i' L L' e3 e3' hk hk' he
   subst this
   have:=q.nd _ _ i e1 e1'
   omega
 ·intro L hL hk hb
  obtain ⟨j,hj⟩:=List.mem_iff_getElem?.1 hL
  have hb:boxed κ L.cV:=hb
  rcases uP hj with ⟨L0,e1,rfl⟩ | ⟨_,g,e1,rfl⟩
  ·obtain ⟨_,e2⟩:=rO hk
   rw [e2] at hk hb
   exact ok.wG L0 (List.mem_of_getElem? e1) hk hb
  ·obtain ⟨i,L,_,e2,e3⟩:=out e1 hk
   rw [e3] at hk hb
   rcases cV (List.mem_of_getElem? e2) hk with ⟨r,i2,L2,c1,c2,c3,c4⟩ | c1
   ·exact ok.wG L2 (List.mem_of_getElem? c2) c3 (by rw [c4]; exact hb)
   ·have:=ok.kW _ hb; omega
 ·intro L hL hk
  obtain ⟨j,hj⟩:=List.mem_iff_getElem?.1 hL
  rcases uP hj with ⟨L0,e1,rfl⟩ | ⟨_,g,e1,rfl⟩
  ·obtain ⟨e0,e2⟩:=rO hk
   rw [e2] at hk ⊢
   have:=aZ3 ok p e1 hk e0
   rw [le.same _ (ok.lW L0 (List.mem_of_getElem? e1) hk) this]
   exact ok.tE L0 (List.mem_of_getElem? e1) hk
  ·obtain ⟨i,L,_,e2,e3⟩:=out e1 hk
   rw [e3] at hk ⊢
   exact iW.tE L (List.mem_of_getElem? e2) hk
 ·exact iW.fresh
def a1k (gs:List GA) (T:List (Nat×Nat)):List (Nat×Nat):=T.mapIdx fun i x=>bif a1j gs i then (0,0) else x
theorem aZ4 (L:iF) (b:Bool):(L.kill b).told=bif b then (0,0) else L.told:=by
 cases b with
 | false=>rfl
 | true=>simp [iF.kill,iF.told]
theorem aZ5 (hT:κ.aU.map iF.told=m.T):(back κ κ1 gs outs).aU.map iF.told=a1k gs m.T++outs.map fun g=>(g.aU κ1).told:=by
 simp only [back,List.map_append,List.map_map,← hT,a1k]
 congr 1
 apply List.ext_getElem?
 intro i
 simp only [List.getElem?_map,List.getElem?_mapIdx,Option.map_map]
 cases κ.aU[i]? with
 | none=>rfl
 | some L=>simp [aZ4]
theorem back_mem (k : Mem κ h m) (p : yY κ ls gs) (le : Le (part κ ls gs) h κ1 h1) (k1 : Mem κ1 h1 m1) (q : sW κ1 outs) {H' : List LO} (hlen : H'.length = m.H.length) (hold : ∀ l,(∀ b : Nat,ls[b]? ≠ some l) → H'[l]? = m.H[l]?)
  (hnew : ∀ (b l cV : Nat) c,ls[b]? = some l → κ.box l = some cV → H'[l]? = some c → ∃ o,h1[cV]? = some o ∧ tF (back κ κ1 gs outs) h1 c o) {T' : List (Nat × Nat)} (hT : a1k gs m.T ++ outs.map (fun g=>(g.aU κ1).told) = T') :
  Mem (back κ κ1 gs outs) h1 ⟨H',T'⟩:=by
 obtain ⟨ok,hp,ht⟩:=k
 refine ⟨b6y ok p le k1.1 q,⟨fun l b hb=>by rw [hlen]; exact hp.1 l b hb,fun l b c h1' h2=>?_⟩,by rw [← hT]; exact aZ5 ht⟩
 have hb:κ.box l=some b:=h1'
 by_cases hl : ∃ r : Nat,ls[r]? = some l
 ·obtain ⟨r,hr⟩:=hl
  exact hnew r l b c hr hb h2
 ·have hl : ∀ r : Nat,ls[r]? ≠ some l:=fun r e=>hl ⟨r,e⟩
  simp only at h2
  rw [hold l hl] at h2
  obtain ⟨o,h3,h4⟩:=hp.2 l b c hb h2
  have no:¬ owned (part κ ls gs) b:=by
   rintro (⟨r,e⟩ | ⟨L,e,hk,rfl⟩)
   ·simp only [part,Option.bind_eq_some_iff] at e
    obtain ⟨l',e1,e2⟩:=e
    rw [ok.xT l' l b e2 hb] at e1
    exact hl r e1
   ·obtain ⟨_,i,_,e3⟩:=nZ p e hk
    exact ok.wG L (List.mem_of_getElem? e3) hk ⟨l,hb⟩
  exact ⟨o,by rw [le.same b (ok.kW b ⟨l,hb⟩) no]; exact h3,h4.mono (aT6 p le q)⟩
theorem b2w (k : Mem κ h m) (p : yY κ ls gs) {ms : List LO} (hms : ms.length = ls.length) (hr : ∀ (b l cV : Nat) c,ls[b]? = some l → κ.box l = some cV → ms[b]? = some c → ∃ o,h[cV]? = some o ∧ tF (part κ ls gs) h c o) :
  Mem (part κ ls gs) h ⟨ms,(part κ ls gs).aU.map iF.told⟩:=by
 refine ⟨b6x k.1 p,⟨fun b cV hb=>?_,fun b cV c hb hc=>?_⟩,rfl⟩
 ·simp only [part,Option.bind_eq_some_iff] at hb
  obtain ⟨l,h1,_⟩:=hb
  rw [hms]; exact (List.getElem?_eq_some_iff.1 h1).1
 ·simp only [part,Option.bind_eq_some_iff] at hb
  obtain ⟨l,h1,h2⟩:=hb
  exact hr b l cV c h1 h2 hc
end
end Go.Fbs

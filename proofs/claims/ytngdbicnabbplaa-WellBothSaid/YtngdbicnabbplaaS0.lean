/- Common texts: values, words, what they answer; no statement of the seat. -/
import Derived.Test.YtngdbicnabbplaaR0
import Derived.LoopN
set_option linter.unusedSimpArgs false
set_option linter.unusedVariables false
set_option linter.unusedSectionVars false
/- Code: what holds behind it; functions. -/
namespace Go.Fbs
def AW (P:Program) (c:Code) (s:St) (Q:Exit→St→Prop):Prop :=
 ∀ (κ:Ctx) (w:World) (a:Act),Mem κ w.heap s.m→gW κ w.heap s.env a→∀ R:Exit→Act→World→Prop,
  (∀ e s' κ' w' a',Q e s'→Ext κ w s.m κ' w' s'.m→gW κ' w'.heap s'.env a'→R e a' w')→c.wp P R a w
section
variable {P:Program} {C:cN} {s:St} {Q:Exit→St→Prop}
theorem AW.mono {c:Code} {Q':Exit→St→Prop} (h:AW P c s Q) (hq:∀ e s,Q e s→Q' e s):AW P c s Q' :=
 fun κ w a k re R hR=>h κ w a k re R (fun e s' κ' w' a' q=>hR e s' κ' w' a' (hq e s' q))
theorem bBg (h:Q .normal s):AW P .skip s Q:=fun κ w a k re R hR=>wp_skip (hR _ _ κ w a h (Ext.refl k) re)
theorem b62 {l:Nat} (h:Q .normal s):AW P (.label l) s Q:=fun κ w a k re R hR=>wp_label (hR _ _ κ w a h (Ext.refl k) re)
theorem bBh {id:Nat} (h:Q (.exit id) s):AW P (.exit id) s Q:=fun κ w a k re R hR=>wp_exit (hR _ _ κ w a h (Ext.refl k) re)
theorem bDh (h:Q .ret s):AW P .ret s Q:=fun κ w a k re R hR=>wp_ret (hR _ _ κ w a h (Ext.refl k) re)
def b94 (next:St→Prop) (Q:Exit→St→Prop):Exit→St→Prop
 | .normal,s=>next s
 | e,s=>Q e s
theorem b3e {x y:Code} (h:AW P x s (b94 (fun s'=>AW P y s' Q) Q)):AW P (.seq x y) s Q:=by
 intro κ w a k re R hR
 refine wp_seq (h κ w a k re _ fun e s' κ' w' a' hq hx hr=>?_)
 cases e with
 | normal=>exact hq κ' w' a' hx.mem hr R (fun e2 s2 κ2 w2 a2 q2 hx2 hr2=>hR e2 s2 κ2 w2 a2 q2 (hx.trans hx2) hr2)
 | _=>exact hR _ s' κ' w' a' hq hx hr
theorem aOg {c:Operand} {x y:Code} {t:Bool} (hc:ev s.env c=some (.bool t)) (h:AW P (if t then x else y) s Q):AW P (.cond c x y) s Q :=
 fun κ w a k re R hR=>wp_cond (qN (re.ev hc)) (h κ w a k re R hR)
def aL0 (id:Nat) (Q:Exit→St→Prop):Exit→St→Prop
 | .exit j,s=>if j=id then Q .normal s else Q (.exit j) s
 | e,s=>Q e s
theorem aSu {id:Nat} {c:Code} (h:AW P c s (aL0 id Q)):AW P (.block id c) s Q:=by
 intro κ w a k re R hR
 refine wp_block (h κ w a k re _ fun e s' κ' w' a' hq hx hr=>?_)
 cases e with
 | exit j =>
  simp only [Exit.inBlock]
  simp only [aL0] at hq
  split
  ·rename_i hj; rw [if_pos hj] at hq; exact hR _ s' κ' w' a' hq hx hr
  ·rename_i hj; rw [if_neg hj] at hq; exact hR _ s' κ' w' a' hq hx hr
 | _=>exact hR _ s' κ' w' a' hq hx hr
theorem b3f (hC:Sound P C) {id:Nat} {ops:List Oper} {env':Env} {m':Hp} (e:kL P C ops ops s.env s.m=some (env',m')) (h:Q .normal ⟨env',m'⟩):AW P (.region id ops.toArray false) s Q :=
 fun κ w a k re R hR=>wp_region_lit (aFh hC e κ w a k re (fun κ' w' a' hx hr=>hR _ ⟨env',m'⟩ κ' w' a' h hx hr))
theorem b63 (hC:Sound P C) (n:Nat) {id:Nat} {ops:List Oper} {env':Env} {m':Hp} (hm:P.follows .mixedOrders=true) (hd:a41 ops n=true) (e:a8u P C ops n s.env s.m=some (env',m'))
  (h:Q .normal ⟨env',m'⟩):AW P (.region id ops.toArray true) s Q :=
 fun κ w a k re R hR=>aWs hC hd hm e k re (fun κ' w' a' hx hr=>hR _ ⟨env',m'⟩ κ' w' a' h hx hr)
def vT (P:Program) (env:Env) (H:List LO):List ResultVar→Option (List V)
 | []=>some []
 | .tmp t::r =>
  match env.get t,vT P env H r with
  | some v,some vs=>some (v::vs)
  | _,_=>none
 | .cell t ty::r =>
  match env.get t,vT P env H r with
  | some u,some vs=>(vP P ty H u).map (· :: vs)
  | _,_=>none
def aFi (P:Program) (rs:List ResultVar) (s:St):Option V :=
 match vT P s.env s.m.H rs with
 | some [v]=>some v
 | some vs=>some (.aO vs)
 | none=>none
theorem aFj {κ:Ctx} {w:World} {a:Act} {env:Env} {m:Hp} (k:Mem κ w.heap m) (re:gW κ w.heap env a):∀ {rs:List ResultVar} {vs:List V},vT P env m.H rs=some vs →
  ∃ xs:List Value,(rs.mapM (fun r=>match r with | .tmp t=>pure (a.tmps.getD t undef) | .cell b t=>do loadVar t (← asAddr (a.tmps.getD b undef))):Sem (List Value)).run P w = .ok xs w∧aJ κ w.heap vs xs
 | [],vs,e=>by simp [vT] at e; subst e; exact ⟨[],by simp,aJ.nil⟩
 | .tmp t::rs,vs,e=>by
  simp only [vT] at e
  split at e <;> simp at e
  rename_i v vs' h1 h2
  subst e
  obtain ⟨xs,h3,h4⟩:=aFj k re h2
  refine ⟨a.tmps.getD t undef::xs,?_,aJ.cons (by have:=re.ev (x:=.tmp t) h1; simpa [Act.eval] using this) h4⟩
  simp only [List.mapM_cons,Sem.run_bind,Sem.run_pure,Result.andThen_ok]
  rw [h3]; rfl
 | .cell t ty::rs,vs,e=>by
  simp only [vT] at e
  split at e
  ·rename_i u vs' h1 h2
   simp only [zyy] at e
   obtain ⟨v,h5,rfl⟩:=e
   obtain ⟨xs,h3,h4⟩:=aFj k re h2
   have hu:aW κ w.heap u (a.tmps.getD t undef):=by have:=re.ev (x:=.tmp t) h1; simpa [Act.eval] using this
   obtain ⟨y,hy,ry⟩:=aSj (P:=P) k hu h5
   refine ⟨y::xs,?_,aJ.cons ry h4⟩
   have hload:(do loadVar ty (← asAddr (a.tmps.getD t undef)):Sem Value).run P w = .ok y w:=by
    cases u <;> simp only [vP] at h5 <;> try (simp at h5; done)
    ·obtain ⟨b,_,he⟩:=rW hu
     rw [he] at hy ⊢
     simpa [Instr.loadAt,Instr.sureAddr,asAddr] using hy
    ·obtain ⟨b,off,ys,_,_,he⟩:=aLo hu
     rw [he] at hy ⊢
     simpa [Instr.loadAt,Instr.sureAddr,asAddr] using hy
   simp only [List.mapM_cons,Sem.run_bind]
   simp only [Sem.run_bind] at hload
   rw [hload]
   simp only [Result.andThen_ok]
   rw [h3]; rfl
  ·simp at e
theorem aSv {κ:Ctx} {w:World} {a:Act} {s:St} {fn:Func} {v:V} (k:Mem κ w.heap s.m) (re:gW κ w.heap s.env a) (e:aFi P fn.results.toList s=some v) :
  ∃ x,(results fn a.tmps).run P w = .ok x w∧aW κ w.heap v x:=by
 unfold aFi at e
 cases hv:vT P s.env s.m.H fn.results.toList with
 | none=>simp [hv] at e
 | some vs =>
  obtain ⟨xs,h1,h2⟩:=aFj k re hv
  have hrun:(results fn a.tmps).run P w = .ok (if h:(⟨xs⟩:Array Value).size=1 then (⟨xs⟩:Array Value)[0] else .tuple ⟨xs⟩) w:=by
   unfold results
   rw [Array.mapM_eq_mapM_toList]
   simp only [Sem.run_bind,Sem.run_map]
   exact (congrArg (fun r:Result (List Value)=>(r.andThen fun a w'=>Result.ok a.toArray w').andThen fun a w'=>Sem.run P (pure (if h:a.size=1 then a[0] else Value.tuple a)) w') h1).trans (by simp)
  rw [hv] at e
  cases vs with
  | nil =>
   simp at e; subst e
   obtain rfl:=h2.sX
   exact ⟨.tuple ⟨[]⟩,by rw [hrun]; rfl,.aO _ _ rfl (by simp)⟩
  | cons u us =>
   obtain ⟨x,xs',rfl,rx,r'⟩:=h2.dP
   cases us with
   | nil =>
    simp at e; subst e
    obtain rfl:=r'.sX
    exact ⟨x,by rw [hrun]; rfl,rx⟩
   | cons u' us' =>
    simp at e; subst e
    refine ⟨.tuple ⟨x::xs'⟩,?_,.aO _ _ h2.1 h2.2⟩
    rw [hrun,dif_neg]
    have:=h2.1
    simp at this ⊢
    intro h; subst h; simp at this
end
end Go.Fbs

/- Functions that only read: from what the evaluator says of the body to what a call does,in whatever memory. -/
namespace Go.Fbs
mutual
def V.plain:V→Bool
 | .ptr _ _=>false
 | .map (some _)=>false
 | .slr ..=>false
 | .sl (.own _) _=>false
 | .sl _ es=>qZ es
 | .agg cs=>qZ cs
 | .ro cs=>qZ cs
 | .func _ cs=>qZ cs
 | .aO vs=>qZ vs
 | _=>true
def qZ:List V→Bool
 | []=>true
 | v::vs=>v.plain && qZ vs
end
theorem lM:∀ {vs:List V},qZ vs=true↔∀ v ∈ vs,v.plain=true
 | []=>by simp [qZ]
 | v::vs=>by simp [qZ,lM (vs:=vs)]
theorem aWt {v:V} (h:v.plain=true):∀ c ∈ v.cells,c.plain=true:=by
 cases v with
 | agg cs=>simp only [V.plain] at h; exact lM.1 h
 | _=>intro c hc; simp [V.cells] at hc; subst hc; exact h
theorem zC {es:List V} (h:qZ es=true):∀ c ∈ flat es,c.plain=true:=by
 intro c hc
 simp only [flat,List.mem_flatMap] at hc
 obtain ⟨e,he,hc⟩:=hc
 exact aWt (lM.1 h e he) c hc
theorem a42 {κ κ':Ctx} {h:cJ} (hw:∀ b,κ.hw b≤κ'.hw b) {v:V} {x:Value} (r:aW κ h v x) (hp:v.plain=true):aW κ' h v x:=by
 have hb:∀ {b off:Nat} {xs:List Value},Block κ h b off xs→Block κ' h b off xs:=fun hx i y hy=>let ⟨h1,h2⟩:=hx i y hy; ⟨zuz h1 (hw _),h2⟩
 induction r with
 | bool b=>exact .bool b
 | int k n=>exact .int k n
 | str s=>exact .str s
 | ptr l off b _=>simp [V.plain] at hp
 | ro cs b off xs hx hl _ ih =>
  simp only [V.plain] at hp
  exact .ro cs b off xs (hb hx) hl (fun i c x h1 h2=>ih i c x h1 h2 (lM.1 hp c (zyx h1)))
 | gH=>exact .gH
 | slnil g hg =>
  cases g with
  | own i=>simp [V.plain] at hp
  | ro=>exact .slnil _ (by simp)
  | full=>exact .slnil _ (by simp)
 | sl g es b off cap sz xs hx hu hl _ hc ht ih =>
  cases g with
  | own i=>simp [V.plain] at hp
  | ro =>
   simp only [V.plain] at hp
   exact .sl .ro es b off cap sz xs (hb hx) hu hl (fun i c x h1 h2=>ih i c x h1 h2 (zC hp c (zyx h1))) hc trivial
  | full =>
   simp only [V.plain] at hp
   exact .sl .full es b off cap sz xs (hb hx) hu hl (fun i c x h1 h2=>ih i c x h1 h2 (zC hp c (zyx h1))) hc ht
 | wM=>exact .wM
 | map l b _=>simp [V.plain] at hp
 | slr l off n c b cap _ _ _=>simp [V.plain] at hp
 | func f caps xs hl _ ih =>
  simp only [V.plain] at hp
  exact .func f caps xs hl (fun i c x h1 h2=>ih i c x h1 h2 (lM.1 hp c (zyx h1)))
 | agg cs xs hl ho _ ih =>
  simp only [V.plain] at hp
  exact .agg cs xs hl ho (fun i c x h1 h2=>ih i c x h1 h2 (lM.1 hp c (zyx h1)))
 | aO cs xs hl _ ih =>
  simp only [V.plain] at hp
  exact .aO cs xs hl (fun i c x h1 h2=>ih i c x h1 h2 (lM.1 hp c (zyx h1)))
 | undef=>exact .undef
 | any x=>exact .any x
theorem aZz {κ κ':Ctx} {h:cJ} (hw:∀ b,κ.hw b≤κ'.hw b) {vs:List V} {xs:List Value} (r:aJ κ h vs xs) (hp:qZ vs=true):aJ κ' h vs xs :=
 ⟨r.1,fun i c x h1 h2=>a42 hw (r.2 i c x h1 h2) (lM.1 hp c (zyx h1))⟩
def bare (κ:Ctx):Ctx:=⟨κ.hw,fun _=>none,[]⟩
def empty:Hp:=⟨[],[]⟩
theorem aB3 {κ:Ctx} {b:Nat} : ¬ owned (bare κ) b:=by
 rintro (⟨l,h⟩ | ⟨L,h,_⟩) <;> simp [bare] at h
theorem b64 {κ:Ctx} {h:cJ} {m:Hp} (k:Mem κ h m):Mem (bare κ) h empty:=by
 refine ⟨⟨?_,?_,?_,?_,?_,?_,?_,?_,k.1.fresh,?_,?_,k.1.tbs.bI4.tbs fun b=>aB3⟩,⟨?_,?_⟩,rfl⟩ <;> intros <;> simp_all [bare,boxed]
theorem aWu {κ κ1:Ctx} {h h1:cJ} {m m1:Hp} (k:Mem κ h m) (le:Le (bare κ) h κ1 h1) (mem:Mem κ1 h1 m1):∃ κ',LeB κ h κ' h1∧Mem κ' h1 m∧κ'.hw=κ1.hw:=by
 let κ':Ctx:=⟨κ1.hw,κ.box,κ.aN⟩
 obtain ⟨ok,hp,hT⟩:=k
 have hsame : ∀ b,b < h.size → h1[b]? = h[b]?:=fun b hb=>le.same b hb aB3
 have hhw:∀ b,b < h.size→κ1.hw b=κ.hw b:=fun b hb=>le.yA b hb aB3
 have l:Le κ h κ' h1:=⟨le.size,fun b hb _=>hsame b hb,fun b hb _=>hhw b hb,le.mK,le.hw,fun _ _ h=>h,fun _ h=>.inl h,fun _ L h=>⟨L,h,.inl rfl⟩,fun L h hk=>.inl ⟨L,h,hk,rfl⟩⟩
 refine ⟨κ',⟨l,rfl⟩,⟨?_,hp.mono l rfl (fun b hb=>hsame b (ok.iK b hb)),hT⟩,rfl⟩
 constructor
 ·intro b hb; exact zuz (ok.iK b hb) le.size
 ·intro b hb; exact (hhw b (ok.iK b hb)).trans (ok.rF b hb)
 ·exact ok.vN
 ·intro L hL hk; exact zuz (ok.jJ L hL hk) le.size
 ·intro L hL hlv; exact (hhw L.cG (ok.jJ L hL (nf hlv))).trans (ok.lhw L hL hlv)
 ·exact ok.lnd
 ·exact ok.tR
 ·intro L hL hlv
  obtain ⟨c,E,fr,h2,h3⟩:=ok.rZ L hL hlv
  exact ⟨c,E,fr,by rw [hsame _ (ok.jJ L hL (nf hlv))]; exact h2,h3⟩
 ·exact mem.1.fresh
 ·exact ok.xR
 ·exact ok.lbt
 ·exact ok.tbs.le l
theorem aZ0 {κ κ1:Ctx} {w w1:World} {m m1:Hp} (k:Mem κ w.heap m) (x:Ext (bare κ) w empty κ1 w1 m1):∃ κ',LeW κ w κ' w1∧Mem κ' w1.heap m∧κ'.hw=κ1.hw :=
 let ⟨κ',l,k',h⟩:=aWu k x.le x.mem
 ⟨κ',⟨l,x.os,x.out⟩,k',h⟩
section
variable {P:Program}
def entry (n:Nat) (args:List V):Env:=⟨n,fun i=>args.getD i .undef⟩
theorem aI0 {κ:Ctx} {h:cJ} {args:List V} {xs:List Value} (r:aJ κ h args xs) {n:Nat} (hn:args.length≤n) :
  gW κ h (entry n args) { tmps:=(⟨xs⟩:Array Value)++Array.replicate (n - (⟨xs⟩:Array Value).size) Go.undef,defers:=[] }:=by
 have hl:(⟨xs⟩:Array Value).size=args.length:=r.1
 refine ⟨rfl,by simp [entry]; have:=r.1; omega,fun i v x h1 h2=>?_⟩
 have hi:i < n:=Env.a0h h1
 unfold Env.get entry at h1
 simp only at h1
 rw [if_pos hi] at h1
 simp only [zzz] at h1
 rw [Array.getElem?_append,hl] at h2
 by_cases hia:i < args.length
 ·rw [if_pos hia] at h2
  rw [zry,zyz hia] at h1
  simp only [Option.getD_some] at h1
  exact r.2 i v x (by rw [zyz hia,h1]) (by simpa using h2)
 ·rw [if_neg hia] at h2
  rw [zry,List.getElem?_eq_none (by omega)] at h1
  simp only [Option.getD_none] at h1
  rw [Array.getElem?_replicate] at h2
  split at h2 <;> simp at h2
  subst h1; subst h2
  exact .undef
end
end Go.Fbs

/- The evaluator,stepped: what is left to show behind a region,as one formula over its cE. -/
namespace Go.Fbs
def opt (o:Option V) (k:V→Prop):Prop :=
 match o with
 | some v=>k v
 | none=>False
def bI5 (o:Option (List V)) (k:List V→Prop):Prop :=
 match o with
 | some v=>k v
 | none=>False
def bI6 (o:Option (V×Hp)) (k:V→Hp→Prop):Prop :=
 match o with
 | some (v,m)=>k v m
 | none=>False
def aQ (g:V) (want:Bool) (o:Option V):Option V :=
 match g with
 | .bool b=>if b == want then o else some .undef
 | .undef=>some .undef
 | _=>none
def a43 (g:V) (want:Bool) (A B:Prop):Prop :=
 match g with
 | .bool b=>if b == want then A else B
 | .undef=>B
 | _=>False
def nI (ops:List Oper) (env:Env) (j:Nat):Option V:=((ops[j]?).bind (·.dst)).bind env.get
theorem aFk {ops:List Oper} {env:Env} {o:Oper} {j:Nat} {want:Bool} (hg:o.guard=some (j,want)) :
  nX ops env o=match nI ops env j with | some (.bool b)=>some (b == want) | some .undef=>some false | _=>none:=by
 unfold nX nI; rw [hg]
 rfl
def a2e (P:Program) (C:cN) (op:Op) (env:Env) (m:Hp) (k:V→Hp→Prop):Prop :=
 if pG C op then opt (bK P C env m.H op) fun v=>k v m
 else if qY op then bI5 (xT P env op) fun cs=>k (.ptr m.H.length 0) { m with H:=m.H++[.cells (a3r op) cs] }
 else bI6 (evalW P C env m op) k
def jK (P:Program) (C:cN) (ops:List Oper):List Oper→Env→Hp→(Env→Hp→Prop)→Prop
 | [],env,m,K=>K env m
 | o::rest,env,m,K =>
  match o.guard with
  | none=>a2e P C o.op env m fun v m'=>jK P C ops rest (iS env o.dst v) m' K
  | some (j,want) =>
   match nI ops env j with
   | some g =>
    if pG C o.op then opt (aQ g want (bK P C env m.H o.op)) fun v=>jK P C ops rest (iS env o.dst v) m K
    else a43 g want (a2e P C o.op env m fun v m'=>jK P C ops rest (iS env o.dst v) m' K) (jK P C ops rest (iS env o.dst .undef) m K)
   | none=>False
theorem aL1 {P:Program} {C:cN} {op:Op} {env:Env} {m:Hp} {k:V→Hp→Prop} (h:a2e P C op env m k):∃ v m',evalOp P C env m op=some (v,m')∧k v m':=by
 unfold a2e at h
 unfold evalOp
 split at h
 ·rename_i hq
  rw [if_pos hq]
  cases he:bK P C env m.H op with
  | none=>rw [he] at h; exact h.elim
  | some v=>rw [he] at h; exact ⟨v,m,rfl,h⟩
 ·rename_i hq
  rw [if_neg hq]
  split at h
  ·rename_i ha
   rw [if_pos ha]
   cases he:xT P env op with
   | none=>rw [he] at h; exact h.elim
   | some cs=>rw [he] at h; exact ⟨_,_,rfl,h⟩
  ·rename_i ha
   rw [if_neg ha]
   cases he:evalW P C env m op with
   | none=>rw [he] at h; exact h.elim
   | some r=>rw [he] at h; exact ⟨r.1,r.2,rfl,h⟩
theorem rR {P:Program} {C:cN} {ops:List Oper} {K:Env→Hp→Prop} : ∀ {rest:List Oper} {env:Env} {m:Hp},jK P C ops rest env m K→∃ env' m',kL P C ops rest env m=some (env',m')∧K env' m'
 | [],env,m,h=>⟨env,m,rfl,h⟩
 | o::rest,env,m,h=>by
  simp only [jK] at h
  simp only [kL]
  split at h
  ·rename_i hg
   have:nX ops env o=some true:=by unfold nX; rw [hg]
   rw [this]
   obtain ⟨v,m',h1,h2⟩:=aL1 h
   simp only [h1]
   exact rR h2
  ·rename_i j want hg
   rw [aFk hg]
   split at h
   ·rename_i g hgv
    rw [hgv]
    split at h
    ·rename_i hq
     unfold aQ at h
     cases g with
     | bool b =>
      simp only at h ⊢
      by_cases hb:(b == want)=true
      ·rw [if_pos hb] at h
       rw [hb]
       simp only
       unfold evalOp
       rw [if_pos hq]
       cases he:bK P C env m.H o.op with
       | none=>rw [he] at h; exact h.elim
       | some v=>rw [he] at h; simp only [Option.map_some]; exact rR h
      ·rw [if_neg hb] at h
       have hb':(b == want)=false:=by simpa using hb
       rw [hb']
       simp only
       exact rR h
     | undef=>exact rR h
     | _=>exact h.elim
    ·unfold a43 at h
     cases g with
     | bool b =>
      simp only at h ⊢
      by_cases hb:(b == want)=true
      ·rw [if_pos hb] at h
       rw [hb]
       obtain ⟨v,m',h1,h2⟩:=aL1 h
       simp only [h1]
       exact rR h2
      ·rw [if_neg hb] at h
       have hb':(b == want)=false:=by simpa using hb
       rw [hb']
       simp only
       exact rR h
     | undef=>exact rR h
     | _=>exact h.elim
   ·exact h.elim
theorem a7a {P:Program} {C:cN} {ops:List Oper} {T:List (Nat×Nat)} : ∀ {rest tail:List Oper} {env:Env} {H:List LO} {K:Env→Hp→Prop},rest.all (fun o=>pG C o.op || (qY o.op && o.guard.isNone))=true →
  jK P C ops (rest++tail) env ⟨H,T⟩ K→∃ env' H',a7o P C ops rest (env,H)=some (env',H')∧jK P C ops tail env' ⟨H',T⟩ K
 | [],tail,env,H,K,_,h=>⟨env,H,rfl,h⟩
 | o::rest,tail,env,H,K,ha,h=>by
  simp only [List.all_cons,zxz] at ha
  obtain ⟨ha1,ha2⟩:=ha
  simp only [List.cons_append,jK] at h
  simp only [a7o,a7n]
  split at h
  ·rename_i hg
   have:nX ops env o=some true:=by unfold nX; rw [hg]
   rw [this]
   simp only
   unfold a2e at h
   split at h
   ·rename_i hq
    rw [if_pos hq]
    cases he:bK P C env H o.op with
    | none=>simp only at h; rw [he] at h; exact h.elim
    | some v=>simp only at h; rw [he] at h; simp only [Option.map_some]; exact a7a ha2 h
   ·rename_i hq
    rw [if_neg hq]
    have hA:qY o.op=true:=by
     have:=ha1
     simp only [Bool.or_eq_true,zxz] at this
     rcases this with h1 | h1
     ·exact absurd h1 hq
     ·exact h1.1
    rw [if_pos hA] at h
    cases he:xT P env o.op with
    | none=>rw [he] at h; exact h.elim
    | some cs=>rw [he] at h; simp only [Option.map_some]; exact a7a ha2 h
  ·rename_i j want hg
   rw [aFk hg]
   have hq:pG C o.op=true:=by
    simpa [hg] using ha1
   split at h
   ·rename_i g hgv
    rw [hgv]
    rw [if_pos hq] at h
    unfold aQ at h
    cases g with
    | bool b =>
     simp only at h ⊢
     by_cases hb:(b == want)=true
     ·rw [if_pos hb] at h
      rw [hb]
      simp only
      rw [if_pos hq]
      cases he:bK P C env H o.op with
      | none=>rw [he] at h; exact h.elim
      | some v=>rw [he] at h; simp only [Option.map_some]; exact a7a ha2 h
     ·rw [if_neg hb] at h
      have hb':(b == want)=false:=by simpa using hb
      rw [hb']
      simp only
      exact a7a ha2 h
    | undef=>exact a7a ha2 h
    | _=>exact h.elim
   ·exact h.elim
structure aZ1 (p:Prop):Prop where
 out:p
section
variable {P:Program} {C:cN} {s:St} {Q:Exit→St→Prop}
theorem aZ2 (hC:Sound P C) {id:Nat} {ops:List Oper} (h:∀ K:Env→Hp→Prop,aZ1 (∀ env m,Q .normal ⟨env,m⟩→K env m)→jK P C ops ops s.env s.m K):AW P (.region id ops.toArray false) s Q:=by
 obtain ⟨env',m',h1,h2⟩:=rR (h (fun env m=>Q .normal ⟨env,m⟩) ⟨fun _ _ h=>h⟩)
 exact b3f hC h1 h2
theorem b3g (hC:Sound P C) (n:Nat) {id:Nat} {ops:List Oper} (hm:P.follows .mixedOrders=true) (hd:a41 ops n=true) (ha:(ops.take n).all (fun o=>pG C o.op || (qY o.op && o.guard.isNone))=true)
  (h:∀ K:Env→Hp→Prop,aZ1 (∀ env m,Q .normal ⟨env,m⟩→K env m)→jK P C ops ops s.env s.m K):AW P (.region id ops.toArray true) s Q:=by
 have h0:=h (fun env m=>Q .normal ⟨env,m⟩) ⟨fun _ _ h=>h⟩
 rw [show jK P C ops ops s.env s.m=jK P C ops (ops.take n++ops.drop n) s.env s.m by rw [List.take_append_drop]] at h0
 obtain ⟨env1,H1,h1,h2⟩:=a7a (T:=s.m.T) ha h0
 obtain ⟨env',m',h3,h4⟩:=rR h2
 exact b63 hC n hm hd (by unfold a8u; rw [h1]; exact h3) h4
end
abbrev PT:=FuncId→List V→Option V
abbrev ET:=FuncId→List V→Hp→Option (V×Hp)
end Go.Fbs

/- Rules for simp over the regions' formulas; the steps of a proof. -/
namespace Go.Fbs
section
variable (P:Program) (t:TypeId) (k:IntKind) (a b:Int) (s u:List UInt8)
end
theorem lN {x:Int} (h1 : -9223372036854775808≤x) (h2:x≤9223372036854775807):IntKind.i64.wrap x=x:=by
 rw [IntKind.wrap_i64]; omega
section
variable {P:Program} {C:cN} {s:St} {Q:Exit→St→Prop}
end
end Go.Fbs

/- The small functions without a program: what a type's number says is written in. -/
namespace Go.Fbs
def nQ:V→Option V
 | .str s=>some (.int .i64 s.length)
 | _=>none
def jA:V→Option V
 | .sl _ es=>some (.int .i64 es.length)
 | _=>none
def sH (a:Bool) (n:Nat) (cs:List V):Option V:=if a then (if n≤cs.length then some (.agg (cs.take n)) else none) else cs[0]?
def sI (a:Bool) (n:Nat) (cs:List V) (off:Nat):Option V:=if a then (if off+n≤cs.length then some (.agg ((cs.drop off).take n)) else none) else cs[off]?
def bKw (a:Bool) (n:Nat) (H:List LO) (x:V):Option V :=
 match x with
 | .ptr l off =>
  match H[l]? with
  | some (.cells _ cs)=>sH a n (cs.drop off)
  | _=>none
 | .ro cs=>sH a n cs
 | _=>none
def bKa (n:Nat) (x y:V) (m:Hp):Option (V×Hp) :=
 match x with
 | .ptr l off =>
  match m.H[l]? with
  | some (.cells e cs)=>if y.mB=true∧y.cells.length=n∧off+n≤cs.length then some (.undef,{ m with H:=m.H.set l (.cells e (aAt cs y.cells off)) }) else none
  | _=>none
 | _=>none
def a95 (n:Nat) (len:Nat) (ps:List (Nat×V)):Option V :=
 if rV ps then
  match wN 0 ps with
  | some es=>if es.length=len∧len*n≤1000000∧es.all (fun e=>e.cells.length == n)=true then some (.sl .full (es.map V.er)) else none
  | none=>none
 else none
def yD (x:V) (lo hi:Option V):Option V :=
 match x with
 | .str s =>
  match nO hi s.length s.length with
  | some h =>
   match nO lo 0 h with
   | some l=>some (.str ((s.take h).drop l))
   | none=>none
  | none=>none
 | _=>none
def aL2 (n:Nat) (x:V) (lo hi:Option V):Option V :=
 match x with
 | .sl g es =>
  match nO hi es.length es.length with
  | some h =>
   match nO lo 0 h with
   | some l=>if es.all (fun e=>e.cells.length == n)=true then some (.sl (tS g l hi.isSome) ((es.take h).drop l)) else none
   | none=>none
  | none=>none
 | _=>none
def kA (x i:V):Option V :=
 match x,i with
 | .str s,.int _ n=>if 0≤n then s[n.toNat]?.map fun b=>.int .u8 b.toNat else none
 | _,_=>none
def a7q (len:Nat) (a:Bool) (sz:Nat) (x i:V):Option V :=
 match x,i with
 | .agg cs,.int _ n=>if 0≤n∧n < len then sI a sz cs (n.toNat*sz) else none
 | _,_=>none
def aB4 (off:Nat) (x:V):Option V :=
 match x with
 | .ptr l o=>some (.ptr l (o+off))
 | .ro cs=>some (.ro (cs.drop off))
 | _=>none
def aFl (a:Bool) (n off:Nat) (x:V):Option V :=
 match x with
 | .agg cs=>sI a n cs off
 | _=>none
def a2f (sz:Nat) (x i:V):Option V :=
 match x,i with
 | .sl _ es,.int _ n=>if 0≤n then (es[n.toNat]?).bind fun e=>if e.cells.length=sz then some (.ro e.cells) else none else none
 | _,_=>none
def a6i (len sz:Nat) (x i:V):Option V :=
 match x,i with
 | .ptr l off,.int _ n=>if 0≤n∧n < len∧1 < len then some (.ptr l (off+n.toNat*sz)) else none
 | _,_=>none
def xU (k:IntKind) (x:V):Option V :=
 match x with
 | .int _ n=>some (.int k (k.wrap n))
 | _=>none
def wP (x:V):Option V :=
 match x with
 | .str s=>some (.str s)
 | _=>none
def wQ (x:V):Option V :=
 match x with
 | .sl _ es=>(es.mapM (fun (v:V)=>match v with | .int .u8 n=>some (UInt8.ofNat n.toNat) | _=>none)).map V.str
 | _=>none
def aB5 (cd:Nat) (z:V) (fL:Nat) (l c:V) (m:Hp):Option (V×Hp) :=
 match l,c with
 | .int _ n,.int _ k =>
  if 0≤n∧n≤k∧k≤9223372036854775807∧fL*k≤140737488355328 then
   if n=k then some (.sl .full (List.replicate n.toNat z),m)
   else some (.sl (.own m.T.length) (List.replicate n.toNat z),{ m with T:=m.T++[(n.toNat,cd)] })
  else none
 | _,_=>none
def a3t (sz cd fL:Nat) (x:V) (ys:List V) (m:Hp):Option (V×Hp) :=
 match x with
 | .sl g es =>
  if (es.length+ys.length)*(fL+1)≤70368744177664∧es.all (fun e=>e.cells.length == sz)=true∧ys.all (fun e=>e.cells.length == sz)=true then
   if ys=[] then some (.sl g es,m) else
   match g with
   | .full=>some (.sl (.own m.T.length) (es++ys),{ m with T:=m.T++[(es.length+ys.length,cd)] })
   | .own i=>if m.T[i]? = some (es.length,cd) then some (.sl (.own i) (es ++ ys),{ m with T:=m.T.set i (es.length + ys.length,cd) }) else none
   | .ro=>none
  else none
 | _=>none
def aXu (sz cd fL:Nat) (x y:V) (m:Hp):Option (V×Hp) :=
 match y with
 | .sl _ ys=>a3t sz cd fL x ys m
 | _=>none
def aSw (cd fL:Nat) (x y:V) (m:Hp):Option (V×Hp) :=
 match y with
 | .str s=>a3t 1 cd fL x (s.map fun b=>.int .u8 b.toNat) m
 | _=>none
section
variable {P:Program}
theorem aOh {t:TypeId} {a:Bool} {n:Nat} (ha:zW P t=some a) (hn:iO P t=some n) (cs:List V):loadT P t cs=sH a n cs:=by
 unfold loadT sH
 rw [ha,hn]
 cases a <;> rfl
theorem a7b {t:TypeId} {a:Bool} {n:Nat} (ha:zW P t=some a) (hn:iO P t=some n) (cs:List V) (off:Nat):a4k P t cs off=sI a n cs off:=by
 unfold a4k sI
 rw [ha,hn]
 cases a <;> rfl
theorem bDi {t:TypeId} (hu:P.underlying t=some .string) (x:V):vO P .len [t] [x]=nQ x:=by
 unfold vO nQ
 simp only [hu]
 cases x <;> rfl
theorem bDj {t e:TypeId} (hu:P.underlying t=some (.slice e)) (x:V):vO P .len [t] [x]=jA x:=by
 unfold vO jA
 simp only [hu]
 cases x <;> rfl
theorem aSx {t e:TypeId} {n:Nat} {z:V} (hu:P.underlying t=some (.slice e)) (hn:iO P e=some n) (hz:qF P e=some z) (hc:z.cells.length=n) (hpos:0 < n) (len:Nat) (ps:List (Nat×V)) :
  a4n P t len ps=a95 n len ps:=by
 unfold a4n a95 a4l
 simp only [hu,hz,hn]
 cases wN 0 ps with
 | none=>rfl
 | some es=>simp only [hc,hpos,true_and]
theorem b65 {t:TypeId} (hu:P.underlying t=some .string) (x:V) (lo hi:Option V):a4w P t x lo hi=yD x lo hi:=by
 unfold a4w yD
 simp only [hu]
 cases x <;> rfl
theorem b66 {t e:TypeId} {n:Nat} (hu:P.underlying t=some (.slice e)) (hn:iO P e=some n) (hpos:0 < n) (x:V) (lo hi:Option V):a4w P t x lo hi=aL2 n x lo hi:=by
 unfold a4w aL2
 simp only [hu,hn,hpos,true_and]
 cases x <;> try rfl
 rename_i g es
 simp only [hn]
 cases nO hi es.length es.length <;> first | rfl | (simp only [hpos,true_and]; done) | (simp only [hpos,true_and]; rfl)
theorem b67 {t:TypeId} (hu:P.underlying t=some .string) (x i:V):a4x P t x i=kA x i:=by
 unfold a4x kA
 simp only [hu]
 cases x <;> cases i <;> rfl
theorem b68 {t e:TypeId} {len n:Nat} {a:Bool} (hu:P.underlying t=some (.array len e)) (ha:zW P e=some a) (hn:iO P e=some n) (x i:V):a4x P t x i=a7q len a n x i:=by
 unfold a4x a7q
 simp only [hu,hn,a7b ha hn]
 cases x <;> cases i <;> first | rfl | (simp only [hn,a7b ha hn]; done) | (simp only [hn,a7b ha hn]; rfl)
theorem aWv {s : TypeId} {fs : Array Field} {f n off : Nat} {fd : Field} (hu : P.underlying s = some (.struct fs)) (hf : fs[f]? = some fd) (hn : iO P fd.type = some (n + 1)) (ho : fd.offset = off) (x : V) : z8 P s x f = aB4 off x:=by
 unfold z8 aB4
 simp only [hu,hf,hn,ho]
 cases x <;> first | rfl | (simp only [hf,hn,ho]; done) | (simp only [hf,hn,ho]; rfl)
theorem bBi {s : TypeId} {fs : Array Field} {f n off : Nat} {a : Bool} {fd : Field} (hu : P.underlying s = some (.struct fs)) (hf : fs[f]? = some fd) (ha : zW P fd.type = some a) (hn : iO P fd.type = some n) (ho : fd.offset = off) (x : V) : aFa P s x f = aFl a n off x:=by
 unfold aFa aFl
 simp only [hu,hf,a7b ha hn,ho]
 cases x <;> first | rfl | (simp only [hf,a7b ha hn,ho]; done) | (simp only [hf,a7b ha hn,ho]; rfl)
theorem aSy {t e:TypeId} {n:Nat} (hu:P.underlying t=some (.slice e)) (hn:iO P e=some (n+1)) (x i:V):rG P t x i=a2f (n+1) x i:=by
 unfold rG a2f
 simp only [hu,hn]
 cases x <;> cases i <;> first | rfl | (simp only [hn]; done) | (simp only [hn]; rfl)
theorem aSz {t e:TypeId} {len n:Nat} (hu:P.underlying t=some (.array len e)) (hn:iO P e=some n) (x i:V):rG P t x i=a6i len n x i:=by
 unfold rG a6i
 simp only [hu,hn]
 cases x <;> cases i <;> first | rfl | (simp only [hn]; done) | (simp only [hn]; rfl)
theorem bBj {s d:TypeId} {k k':IntKind} (hs:P.underlying s=some (.int k')) (hd:P.underlying d=some (.int k)) (x:V):a6f P s d x=xU k x:=by
 unfold a6f xU aAu a3q
 simp only [hs,hd]
 cases x <;> rfl
theorem b69 {s d:TypeId} (hs:P.underlying s=some .string) (hd:P.underlying d=some .string) (x:V):a6f P s d x=wP x:=by
 unfold a6f wP aAu a3q
 simp only [hs,hd]
 cases x <;> rfl
theorem b7a {s d e:TypeId} (hs:P.underlying s=some (.slice e)) (he:P.underlying e=some (.int .u8)) (hd:P.underlying d=some .string) (x:V):a6f P s d x=wQ x:=by
 unfold a6f wQ aAu a3q
 simp only [hs,hd,he]
 cases x <;> try rfl
 rename_i g es
 simp only
 cases es.mapM (fun (v:V)=>match v with | .int .u8 n=>some (UInt8.ofNat n.toNat) | _=>none) <;> (simp only [he]; rfl)
theorem aWw {t e:TypeId} {n fL:Nat} {z:V} (hu:P.underlying t=some (.slice e)) (hn:iO P e=some n) (hz:qF P e=some z) (hb:qX P e=some fL) (hc:z.cells.length=n) (hpos:0 < n) (l c:V) (m:Hp) :
  rH P t l c m=aB5 (nM e n) z fL l c m:=by
 unfold rH aB5
 simp only [hu,hn,hz,hb,hc,hpos,and_true]
 cases l <;> cases c <;> first | rfl | (simp only [hn,hz,hb,hc,hpos,and_true]; done) | (simp only [hn,hz,hb,hc,hpos,and_true]; rfl)
theorem a1h {t e:TypeId} {n fL:Nat} {z:V} (hu:P.underlying t=some (.slice e)) (hn:iO P e=some n) (hz:qF P e=some z) (hb:qX P e=some fL) (hc:z.cells.length=n) (hpos:0 < n) (x:V) (ys:List V) (m:Hp) :
  sW P t x ys m=a3t n (nM e n) fL x ys m:=by
 unfold sW a3t
 simp only [hu,hn,hz,hb,hc,hpos,true_and]
 cases x <;> first | rfl | (simp only [hn,hz,hb,hc,hpos,true_and]; done) | (simp only [hn,hz,hb,hc,hpos,true_and]; rfl)
theorem b7b {t u e e':TypeId} {n fL:Nat} {z:V} (hu:P.underlying t=some (.slice e)) (hu':P.underlying u=some (.slice e')) (hn:iO P e=some n) (hz:qF P e=some z) (hb:qX P e=some fL) (hc:z.cells.length=n) (hpos:0 < n) (x y:V) (m:Hp) :
  qM P .append [t,u] [x,y] m=aXu n (nM e n) fL x y m:=by
 unfold qM aXu
 simp only [hu,hu',a1h hu hn hz hb hc hpos]
 cases y <;> first | rfl | (simp only [a1h hu hn hz hb hc hpos]; done) | (simp only [a1h hu hn hz hb hc hpos]; rfl)
theorem b3h {t u e:TypeId} {fL:Nat} {z:V} (hu:P.underlying t=some (.slice e)) (hu':P.underlying u=some .string) (hn:iO P e=some 1) (hz:qF P e=some z) (hb:qX P e=some fL) (hc:z.cells.length=1) (x y:V) (m:Hp) :
  qM P .append [t,u] [x,y] m=aSw (nM e 1) fL x y m:=by
 unfold qM aSw
 simp only [hu,hu',a1h hu hn hz hb hc (by omega),hn,if_true]
 cases y <;> first | rfl | (simp only [hn,if_true,a1h hu hn hz hb hc (by omega:0 < 1)]; done) | (simp only [hn,if_true,a1h hu hn hz hb hc (by omega:0 < 1)]; rfl)
end
end Go.Fbs

/- Tables of callees; what a function is said to answer. -/
namespace Go.Fbs
abbrev Spec:=List V→Option V
def aL3 (P : Program) (f : FuncId) : Prop := ∃ fn c, P.funcs[f]? = some fn ∧ fn.body = some c ∧ (fn.name == "runtime.NumGoroutine") = false
structure bKb (P:Program) (f:FuncId) (F:Spec):Prop where
 enter:aL3 P f
 call:∀ args v,F args=some v→∀ m,a0j P f args m v m
def bT:List (FuncId×Spec)→PT
 | []=>fun _ _=>none
 | (g,F)::r=>fun f args=>bif Nat.beq f g then F args else bT r f args
def noE:ET:=fun _ _ _=>none
abbrev vI (n:Int):V:=.int .i64 n
abbrev vB (c:UInt8):V:=.int .u8 c.toNat
def mL:Nat:=4611686018427387904
def jP:V→Nat
 | .int _ n=>n.toNat
 | _=>0
theorem aWx {l:List UInt8} {j k:Nat} (h:k≤l.length) (hj:j≤k) (kk kk':IntKind):yD (.str l) (some (.int kk j)) (some (.int kk' k))=some (.str ((l.take k).drop j)):=by
 simp [yD,nO,h,hj]
end Go.Fbs

/- From what a function is said to answer to the kit's 'Calls .. Grown'. -/
namespace Go.Fbs
open Go.RowKit
def iU (h : cJ) : Ctx:=⟨fun b=>match h[b]? with | some (.cells c _ _)=>c.size | _=>0,fun _=>none,[]⟩
theorem aB6 (h:cJ) (ht:aOa h:=by exact aJw):Mem (iU h) h empty:=by
 refine ⟨⟨?_,?_,?_,?_,?_,?_,?_,?_,?_,?_,?_,ht.tbs ?_⟩,⟨?_,?_⟩,rfl⟩
 case refine_12=>rintro b (⟨l,h⟩ | ⟨L,h,_⟩) <;> simp [iU] at h
 case refine_9 =>
  intro b hb
  have : h[b]? = none:=by simpa using hb
  simp [iU,this]
 all_goals intros
 all_goals simp_all [iU,boxed,empty]
theorem a2g {h:cJ} {b:Nat} : ¬ owned (iU h) b:=by
 rintro (⟨l,h⟩ | ⟨L,h,_⟩) <;> simp [iU] at h
def aS0 (w w' : World) : Prop:=w.keptBut w' (fun _=>False) ∧ (∀ a : Addr,a.block < w.heap.size → w'.frozen? a = w.frozen? a) ∧ w.heap.size ≤ w'.heap.size
theorem b3i {w w':World} {κ':Ctx} {m':Hp} (x:Ext (iU w.heap) w empty κ' w' m'):aS0 w w':=by
 have same : ∀ i,i < w.heap.size → w'.heap[i]? = w.heap[i]?:=fun i hi=>x.le.same i hi a2g
 refine ⟨⟨x.os,x.out.output,fun i hi=>?_⟩,fun a ha=>by unfold World.frozen?; rw [same _ ha],x.le.size⟩
 rw [same i hi]
 cases w.heap[i]? with
 | none=>rfl
 | some o=>cases o <;> simp
end Go.Fbs

/- Regions whose order is drawn,with stores: what is not bound does not meet. -/
namespace Go.Fbs
def kB (C:cN) (op:Op):Bool:=!pG C op && !qY op
def a3u:Op→Bool
 | .load ..=>true
 | _=>false
inductive Rt where
 | tm (t:Nat)
 | ro
 | nw (i:Nat)
def rI (sl:TypeId→Bool) (ops:List Oper):Nat→Operand→Option Rt
 | 0,.tmp t=>some (.tm t)
 | j+1,.tmp t =>
  match ops[j]? with
  | some o =>
   bif (match o.dst with | some d=>Nat.beq d t | none=>false) then
    match o.op with
    | .fieldAddr _ y _=>rI sl ops j y
    | .move y=>rI sl ops j y
    | .nilCheck y=>rI sl ops j y
    | .indexAddr ty y _=>bif sl ty then some .ro else rI sl ops j y
    | .alloc _=>some (.nw j)
    | .box ..=>some (.nw j)
    | _=>none
   else rI sl ops j (.tmp t)
  | none=>none
 | _,_=>none
def addrOf:Op→Operand
 | .load _ x=>x
 | .store _ x _=>x
 | _=>.tmp 0
def b3j (sl:TypeId→Bool) (ex:Rt→Rt→Bool) (ops:List Oper) (r:Rt) (j:Nat) (l:List Operand):Bool :=
 l.all fun x=>match x with
  | .const _=>true
  | .func _=>true
  | _=>(match rI sl ops j x with | some r'=>ex r r' | none=>false)
def yE (C:cN) (sl:TypeId→Bool) (ex:Rt→Rt→Bool) (ops:List Oper) (i j:Nat):Bool :=
 match ops[i]?,ops[j]? with
 | some x,some y =>
  a3u x.op && (match y.op with
   | .store _ a _=>(match rI sl ops i (addrOf x.op),rI sl ops j a with
    | some r,some r'=>ex r r'
    | some .ro,none=>true
    | _,_=>false)
   | .call c=>(match c.callee with
    | .builtin .append=>true
    | .value (.func f)=>(match rI sl ops i (addrOf x.op) with
     | some .ro=>true
     | some r=>C.flat f && b3j sl ex ops r j c.args.toList
     | none=>false)
    | .value _=>(match rI sl ops i (addrOf x.op) with
     | some .ro=>true
     | _=>false)
    | _=>false)
   | _=>false)
 | _,_=>false
def a3v (C:cN) (sl:TypeId→Bool) (ex:Rt→Rt→Bool) (ops:List Oper):Bool :=
 let ms:=pT [] ops
 aB0 (ops.map (·.dst)) && (List.range ops.length).all (fun j=>a8t j (ops.getD j default)) && ops.all (fun o=>pG C o.op || kB C o.op || (qY o.op && o.guard.isNone)) &&
 (List.range ops.length).all (fun j=>(List.range j).all fun i=>aLv ops ms i j &&
  ((ms.getD j 0).testBit i || (match ops[i]?,ops[j]? with | some x,some y=>!((kB C x.op && (kB C y.op || a3u y.op)) || (a3u x.op && kB C y.op)) || yE C sl ex ops i j || yE C sl ex ops j i | _,_=>false)) &&
  (match ops[i]?,ops[j]? with | some x,some y=>!(kB C x.op && qY y.op) && (!(qY x.op && kB C y.op) || (ms.getD j 0).testBit i) | _,_=>true))
structure DF3 (C:cN) (sl:TypeId→Bool) (ex:Rt→Rt→Bool) (ops:List Oper):Prop where
 nd : ∀ (i j : Nat) x y d,ops[i]? = some x → ops[j]? = some y → x.dst = some d → y.dst = some d → i = j
 back : ∀ (j : Nat) o,ops[j]? = some o → ∀ e ∈ o.after,Region.binds .any e = true → e.on < j
 cls : ∀ (j : Nat) o,ops[j]? = some o → pG C o.op = true ∨ kB C o.op = true ∨ (qY o.op = true ∧ o.guard = none)
 bI7 : ∀ (i j : Nat) x y,i < j → ops[i]? = some x → ops[j]? = some y → kB C x.op = true → qY y.op = false
 als : ∀ (i j : Nat) x y,i < j → ops[i]? = some x → ops[j]? = some y → qY x.op = true → kB C y.op = true → ((pT [] ops).getD j 0).testBit i = true
 pair : ∀ (i j : Nat) x y,i < j → ops[i]? = some x → ops[j]? = some y → ((pT [] ops).getD j 0).testBit i = true ∨ Oper.apart ops.toArray x y = true
 bDk : ∀ (i j : Nat) x y,i < j → ops[i]? = some x → ops[j]? = some y → (kB C x.op = true ∧ (kB C y.op = true ∨ a3u y.op = true)) ∨ (a3u x.op = true ∧ kB C y.op = true) →
  ((pT [] ops).getD j 0).testBit i=true∨yE C sl ex ops i j=true∨yE C sl ex ops j i=true
theorem aZ3 {C:cN} {sl:TypeId→Bool} {ex:Rt→Rt→Bool} {ops:List Oper} (h:a3v C sl ex ops=true):DF3 C sl ex ops:=by
 unfold a3v at h
 simp only [zxz,List.all_eq_true,List.mem_range] at h
 obtain ⟨⟨⟨h1,h2⟩,h3⟩,h4⟩:=h
 have lt : ∀ {j : Nat} {o : Oper},ops[j]? = some o → j < ops.length:=fun h=>(zzy.1 h).1
 refine ⟨fun i j x y d hx hy hxd hyd=>?_,fun j o ho e he hb=>?_,fun j o ho=>?_,fun i j x y hij hx hy hs=>?_,fun i j x y hij hx hy ha hs=>?_,fun i j x y hij hx hy=>?_,fun i j x y hij hx hy hc=>?_⟩
 ·exact a6h _ h1 i j d (by rw [zvz,hx]; simp [hxd]) (by rw [zvz,hy]; simp [hyd])
 ·have:=h2 j (lt ho)
  rw [zry,ho] at this
  simp only [Option.getD_some,a8t,List.all_eq_true] at this
  have:=this e (by simpa using he)
  simpa [hb] using this
 ·have:=h3 o (zyx ho)
  simp only [Bool.or_eq_true,zxz,Option.isNone_iff_eq_none] at this
  rcases this with (h | h) | h
  ·exact .inl h
  ·exact .inr (.inl h)
  ·exact .inr (.inr h)
 ·have:=(h4 j (lt hy) i hij).2
  rw [hx,hy] at this
  simp only [zxz,Bool.not_eq_true',hs,Bool.true_and] at this
  exact this.1
 ·have:=(h4 j (lt hy) i hij).2
  rw [hx,hy] at this
  simp only [zxz,ha,hs,Bool.true_and,Bool.not_true,Bool.false_or] at this
  exact this.2
 ·have:=(h4 j (lt hy) i hij).1.1
  unfold aLv at this
  rw [hx,hy] at this
  simpa using this
 ·have:=(h4 j (lt hy) i hij).1.2
  rw [hx,hy] at this
  simp only [Bool.or_eq_true,Bool.not_eq_true',Bool.or_eq_false_iff,Bool.and_eq_false_iff] at this
  rcases this with h5 | ((⟨h5,h6⟩ | h5) | h5)
  ·exact .inl h5
  ·rcases hc with ⟨c1,c2⟩ | ⟨c1,c2⟩
   ·rcases h5 with h5 | h5
    ·rw [c1] at h5; simp at h5
    ·rcases c2 with c2 | c2 <;> simp [c2] at h5
   ·rcases h6 with h6 | h6
    ·rw [c1] at h6; simp at h6
    ·rw [c2] at h6; simp at h6
  ·exact .inr (.inl h5)
  ·exact .inr (.inr h5)
section
variable {P:Program} {C:cN} {sl:TypeId→Bool} {ex:Rt→Rt→Bool} {ops:List Oper}
def tE (P:Program) (C:cN) (ops:List Oper) (s:Env×Hp) (o:Oper):Option ((Env×Hp)×V) :=
 match nX ops s.1 o with
 | some true =>
  match evalOp P C s.1 s.2 o.op with
  | some (v,m')=>some ((iS s.1 o.dst v,m'),v)
  | none=>none
 | some false=>some ((iS s.1 o.dst .undef,s.2),.undef)
 | none=>none
theorem aXv:∀ {rest:List Oper} {env env':Env} {m m':Hp},kL P C ops rest env m=some (env',m') →
  ∃ (σ : Nat → Env × Hp) (val : Nat → V),σ 0 = (env,m) ∧ σ rest.length = (env',m') ∧ ∀ (j : Nat) o,rest[j]? = some o → tE P C ops (σ j) o = some (σ (j + 1),val j)
 | [],env,env',m,m',e=>by
  simp [kL] at e
  obtain ⟨rfl,rfl⟩:=e
  exact ⟨fun _=>(env,m),fun _=>.undef,rfl,rfl,by simp⟩
 | o::rest,env,env',m,m',e=>by
  simp only [kL] at e
  have key : ∀ (env1 : Env) (m1 : Hp) (v : V),tE P C ops (env,m) o = some ((env1,m1),v) → kL P C ops rest env1 m1 = some (env',m') → ∃ (σ : Nat → Env × Hp) (val : Nat → V),σ 0 = (env,m) ∧ σ (o :: rest).length = (env',m') ∧ ∀ (j : Nat) o',(o :: rest)[j]? = some o' → tE P C ops (σ j) o' = some (σ (j + 1),val j):=by
   intro env1 m1 v h1 h2
   obtain ⟨σ,val,h3,h4,h5⟩:=aXv h2
   refine ⟨fun i=>match i with | 0=>(env,m) | i+1=>σ i,fun i=>match i with | 0=>v | i+1=>val i,rfl,h4,fun j o' ho=>?_⟩
   cases j with
   | zero=>simp at ho; subst ho; simpa [h3] using h1
   | succ j=>exact h5 j o' (by simpa using ho)
  split at e
  ·rename_i hw
   split at e
   ·rename_i v m1 h1
    exact key _ _ v (by unfold tE; simp only [hw,h1]) e
   ·simp at e
  ·rename_i hw
   exact key _ _ .undef (by unfold tE; simp only [hw]) e
  ·simp at e
structure Tr3 (P:Program) (C:cN) (ops:List Oper) (σ:Nat→Env×Hp) (val:Nat→V):Prop where
 step : ∀ (j : Nat) o,ops[j]? = some o → tE P C ops (σ j) o = some (σ (j + 1),val j)
variable {σ:Nat→Env×Hp} {val:Nat→V}
theorem a8w {s s':Env×Hp} {o:Oper} {v:V} (e:tE P C ops s o=some (s',v)):s'.1=iS s.1 o.dst v:=by
 unfold tE at e
 split at e
 ·split at e
  ·simp at e; obtain ⟨rfl,rfl⟩:=e; rfl
  ·simp at e
 ·simp at e; obtain ⟨rfl,rfl⟩:=e; rfl
 ·simp at e
def jL (C:cN):List Oper→Nat
 | []=>0
 | o::r=>bif kB C o.op then 0 else jL C r+1
theorem a8x:∀ ops:List Oper,jL C ops≤ops.length
 | []=>zxy _
 | o::r=>by
  simp only [jL]
  have:=a8x r
  cases kB C o.op <;> simp; omega
theorem a05 : ∀ {ops : List Oper} {j : Nat} {o : Oper},ops[j]? = some o → kB C o.op = true → jL C ops ≤ j
 | [],j,o,h,_=>by simp at h
 | x::r,0,o,h,hs=>by
  simp only [zux,zzz] at h
  subst h
  simp [jL,hs]
 | x::r,j+1,o,h,hs=>by
  have:=a05 (ops:=r) (j:=j) (by simpa using h) hs
  simp only [jL]
  cases kB C x.op <;> simp; omega
theorem aPw : ∀ {ops : List Oper},jL C ops < ops.length → ∃ o,ops[jL C ops]? = some o ∧ kB C o.op = true
 | [],h=>by simp at h
 | x::r,h=>by
  cases hx:kB C x.op with
  | true=>exact ⟨x,by simp [jL,hx],hx⟩
  | false =>
   simp only [jL,hx,cond_false,zwx] at h ⊢
   obtain ⟨o,h1,h2⟩:=aPw (ops:=r) (by omega)
   exact ⟨o,by simpa using h1,h2⟩
theorem b7c {op:Op} (h:kB C op=true) (h':qY op=true):False:=by simp [kB,h'] at h
theorem aB7 (f : DF3 C sl ex ops) {j : Nat} {o : Oper} (ho : ops[j]? = some o) (ha : qY o.op = true) : j < jL C ops:=by
 refine Nat.lt_of_not_le fun hge=>?_
 obtain ⟨x,hx,hs⟩:=aPw (Nat.lt_of_le_of_lt hge (zzy.1 ho).1)
 rcases Nat.lt_or_eq_of_le hge with h | h
 ·have:=f.bI7 _ _ _ _ h hx ho hs
  rw [ha] at this; simp at this
 ·rw [h,ho] at hx
  simp at hx; subst hx
  exact b7c hs ha
theorem a1i {op:Op} (h:kB C op=true):pG C op=false∧qY op=false∧a3u op=false:=by
 unfold kB at h
 simp only [zxz,Bool.not_eq_true'] at h
 refine ⟨h.1,h.2,?_⟩
 cases op <;> first | rfl | (have:=h.1; simp [pG] at this)
theorem a8y {s s':Env×Hp} {o:Oper} {v:V} (hq:pG C o.op=true) (e:tE P C ops s o=some (s',v)):s'.2=s.2:=by
 unfold tE at e
 split at e
 ·split at e
  ·rename_i v' m' h1
   unfold evalOp at h1
   rw [if_pos hq] at h1
   simp only [zyy] at h1
   obtain ⟨u,_,h1⟩:=h1
   simp at e h1; obtain ⟨rfl,rfl⟩:=e; exact h1.2.symm
  ·simp at e
 ·simp at e; obtain ⟨rfl,rfl⟩:=e; rfl
 ·simp at e
theorem Tr3.len (t:Tr3 P C ops σ val):∀ j,j≤ops.length→(σ j).1.n=(σ 0).1.n
 | 0,_=>rfl
 | j+1,hj=>by
  have:=a8w (t.step j ops[j] (zyz (by omega)))
  rw [this,aSs]; exact t.len j (by omega)
theorem Tr3.old (t : Tr3 P C ops σ val) {d : Nat} : ∀ j,j ≤ ops.length → (∀ (i : Nat) o,i < j → ops[i]? = some o → o.dst ≠ some d) → (σ j).1.get d = (σ 0).1.get d
 | 0,_,_=>rfl
 | j+1,hj,h=>by
  have ho:=zyz (show j < ops.length by omega)
  rw [a8w (t.step j ops[j] ho),a3s,if_neg (h j _ (by omega) ho)]
  exact t.old j (by omega) (fun i o hi ho=>h i o (by omega) ho)
theorem Tr3.new (t : Tr3 P C ops σ val) (f : DF3 C sl ex ops) {d i : Nat} {o : Oper} (hio : ops[i]? = some o) (hd : o.dst = some d) : ∀ j,i < j → j ≤ ops.length → (σ j).1.get d = if d < (σ 0).1.n then some (val i) else none
 | 0,h,_=>by omega
 | j+1,h,hj=>by
  have ho:=zyz (show j < ops.length by omega)
  rw [a8w (t.step j ops[j] ho),a3s]
  by_cases hij:i=j
  ·subst hij
   rw [ho] at hio; simp at hio; subst hio
   rw [if_pos hd,t.len i (by omega)]
  ·rw [if_neg (fun e=>hij (f.nd i j _ _ d hio ho hd e))]
   exact t.new f hio hd j (by omega) (by omega)
theorem Tr3.still (t : Tr3 P C ops σ val) (f : DF3 C sl ex ops) {i : Nat} (hi0 : jL C ops ≤ i) : ∀ j,i ≤ j → j ≤ ops.length → (∀ (q : Nat) o,i ≤ q → q < j → ops[q]? = some o → kB C o.op = false) → (σ j).2 = (σ i).2
 | 0,h,_,_=>by rw [Nat.le_zero.1 h]
 | j+1,h,hj,hn=>by
  by_cases hi:i=j+1
  ·rw [hi]
  ·have ho:=zyz (show j < ops.length by omega)
   have hq:pG C ops[j].op=true:=by
    rcases f.cls j _ ho with h1 | h1 | h1
    ·exact h1
    ·rw [hn j _ (by omega) (by omega) ho] at h1; simp at h1
    ·have:=aB7 f ho h1.1; omega
   rw [a8y hq (t.step j _ ho)]
   exact t.still f hi0 j (by omega) (by omega) fun q o h1 h2=>hn q o h1 (by omega)
def aHx (env:Env) (n:Nat):Rt→Rt→Prop
 | .tm t,.tm t'=>∀ l off off',env.get t=some (.ptr l off)→env.get t'=some (.ptr l off')→False
 | .tm t,.nw _=>∀ l off,env.get t=some (.ptr l off)→l < n
 | .nw _,.tm t=>∀ l off,env.get t=some (.ptr l off)→l < n
 | .nw i,.nw j=>i≠j
 | _,_=>True
def aZ4 (ops:List Oper) (σ:Nat→Env×Hp) (l:Nat):Rt→Prop
 | .tm d=>∃ o0,(σ 0).1.get d=some (.ptr l o0)
 | .ro=>False
 | .nw i=>l = (σ i).2.H.length ∧ ∃ o,ops[i]? = some o ∧ qY o.op = true
theorem qO (hsl:∀ t,sl t=true→∃ e,P.underlying t=some (.slice e)) (t:Tr3 P C ops σ val):∀ (j:Nat) (x:Operand) (r:Rt) (l off:Nat),rI sl ops j x=some r→ev (σ j).1 x=some (.ptr l off)→aZ4 ops σ l r
 | 0,.tmp d,r,l,off,h,e=>by
  simp only [rI,zzz] at h
  subst h
  exact ⟨off,e⟩
 | j+1,.tmp d,r,l,off,h,e=>by
  simp only [rI] at h
  split at h
  ·rename_i o ho
   have hst:=t.step j o ho
   have henv:=a8w hst
   cases hd:(match o.dst with | some c=>Nat.beq c d | none=>false) with
   | false =>
    rw [hd] at h
    refine qO hsl t j (.tmp d) r l off h ?_
    simp only [ev] at e ⊢
    rw [henv,a3s,if_neg (fun hc=>by rw [hc] at hd; simp at hd)] at e
    exact e
   | true =>
    rw [hd] at h
    simp only [cond_true] at h
    have hdst:o.dst=some d:=by
     cases hc:o.dst with
     | none=>rw [hc] at hd; simp at hd
     | some c=>rw [hc] at hd; rw [zzx hd]
    simp only [ev] at e
    rw [henv,a3s,if_pos hdst] at e
    split at e
    ·simp only [zzz] at e
     unfold tE at hst
     split at hst
     ·split at hst
      ·rename_i v m' hv
       simp only [zzz,zvy] at hst
       have hvv:v = .ptr l off:=hst.2.trans e
       subst hvv
       have quiet:∀ {op:Op},o.op=op→pG C op=true→bK P C (σ j).1 (σ j).2.H op=some (.ptr l off):=fun he hq=>by
        rw [he] at hv
        unfold evalOp at hv
        rw [if_pos hq] at hv
        simp only [zyy,zvy] at hv
        obtain ⟨u,h1,h2,_⟩:=hv
        rw [← h2]; exact h1
       have made:qY o.op=true→aZ4 ops σ l (.nw j):=fun ha=>by
        have hq:pG C o.op=false:=by cases ho:o.op <;> rw [ho] at ha <;> simp [qY] at ha <;> rfl
        unfold evalOp at hv
        rw [hq,ha] at hv
        simp only [zuy,if_false,if_true,zyy,zvy] at hv
        obtain ⟨cs,_,h3,_⟩:=hv
        simp only [V.ptr.injEq] at h3
        exact ⟨h3.1.symm,o,ho,ha⟩
       split at h
       ·rename_i s y f heq
        have h1:=quiet heq rfl
        simp only [bK,tC] at h1
        split at h1
        ·rename_i u hu
         have:∃ o1,u = .ptr l o1:=by
          unfold z8 at h1
          split at h1
          ·split at h1
           ·split at h1 <;> simp at h1
            exact ⟨_,by rw [h1.1]⟩
           ·simp at h1
          ·simp at h1
         obtain ⟨o1,rfl⟩:=this
         exact qO hsl t j y r l o1 h hu
        ·simp at h1
       ·rename_i y heq
        exact qO hsl t j y r l off h (quiet heq rfl)
       ·rename_i y heq
        have h1:=quiet heq rfl
        simp only [bK,tC] at h1
        split at h1
        ·rename_i u hu
         have:u = .ptr l off:=by
          clear h hv hst henv e t
          cases u <;> simp [aOb] at h1
          obtain ⟨rfl,rfl⟩:=h1; rfl
         exact qO hsl t j y r l off h (by rw [hu,this])
        ·simp at h1
       ·rename_i ty y i heq
        have h1:=quiet heq rfl
        simp only [bK,ev2] at h1
        split at h1
        ·rename_i u v hu hv
         cases hs:sl ty with
         | true =>
          obtain ⟨e',he'⟩:=hsl ty hs
          exfalso
          clear h hv hst henv e t
          simp only [rG,he'] at h1
          split at h1
          ·split at h1
           ·split at h1
            ·simp only [zwz] at h1
             obtain ⟨_,_,h1⟩:=h1
             split at h1 <;> simp at h1
            ·simp at h1
           ·simp at h1
          ·rename_i hq; exact absurd hq (by simp)
          ·simp at h1
         | false =>
          rw [hs] at h
          have:∃ o1,u = .ptr l o1:=by
           unfold rG at h1
           split at h1
           ·split at h1
            ·split at h1
             ·simp only [zwz] at h1
              obtain ⟨_,_,h1⟩:=h1
              split at h1 <;> simp at h1
             ·simp at h1
            ·simp at h1
           ·split at h1
            ·split at h1 <;> simp at h1
             exact ⟨_,by rw [h1.1]⟩
            ·simp at h1
           ·simp at h1
          obtain ⟨o1,rfl⟩:=this
          exact qO hsl t j y r l o1 h hu
        ·simp at h1
       ·rename_i ty heq
        simp only [zzz] at h
        subst h
        exact made (by rw [heq]; rfl)
       ·rename_i ty y heq
        simp only [zzz] at h
        subst h
        exact made (by rw [heq]; rfl)
       ·simp at h
      ·simp at hst
     ·simp only [zzz,zvy] at hst
      rw [← hst.2] at e; simp at e
     ·simp at hst
    ·simp at e
  ·simp at h
 | 0,.const _,_,_,_,h,_=>by simp [rI] at h
 | 0,.func _,_,_,_,h,_=>by simp [rI] at h
 | 0,.global _,_,_,_,h,_=>by simp [rI] at h
 | _+1,.const _,_,_,_,h,_=>by simp [rI] at h
 | _+1,.func _,_,_,_,h,_=>by simp [rI] at h
 | _+1,.global _,_,_,_,h,_=>by simp [rI] at h
structure aB8 (P:Program) (C:cN) (ops:List Oper) (σ:Nat→Env×Hp) (val:Nat→V) (κ0:Ctx) (h0:World) (S:Array Bool) (κ:Ctx) (w:World) (a:Act):Prop where
 size:S.size=ops.length
 closed:a7p ops (aU S)
 at_ : ∃ K,jL C ops ≤ K ∧ K ≤ ops.length ∧ (∀ (i : Nat) o,ops[i]? = some o → kB C o.op = true → (i < K ↔ aU S i = true)) ∧ Ext κ0 h0 (σ 0).2 κ w (σ K).2
 kept : ∀ (j : Nat) o,ops[j]? = some o → qY o.op = true → aU S j = false → κ.box (σ j).2.H.length = none
 defers:a.defers=[]
 a8v:a.tmps.size=(σ 0).1.n
 new : ∀ (i : Nat) o d x,ops[i]? = some o → aU S i = true → o.dst = some d → a.tmps[d]? = some x → aW κ w.heap (val i) x
 old : ∀ d v x,(∀ (i : Nat) o,ops[i]? = some o → aU S i = true → o.dst ≠ some d) → (σ 0).1.get d = some v → a.tmps[d]? = some x → aW κ w.heap v x
theorem aB8.env {κ0 κ:Ctx} {h0:World} {S:Array Bool} {w:World} {a:Act} (t:Tr3 P C ops σ val) (f:DF3 C sl ex ops) (M:aB8 P C ops σ val κ0 h0 S κ w a) {j:Nat} {o:Oper}
  (ho : ops[j]? = some o) (hun : aU S j = false) (hr : ∀ e ∈ o.after,Region.binds .any e = true → S.getD e.on false = true) : gW κ w.heap (seen (σ j).1 (o.looksAt ops.toArray)) a:=by
 have hj:=(zzy.1 ho).1
 have hlen:=t.len j (by omega)
 refine ⟨M.defers,by show _=(σ j).1.n; rw [hlen,M.a8v],fun d v x hv hx=>?_⟩
 have hd:d < (seen (σ j).1 (o.looksAt ops.toArray)).n:=Env.a0h hv
 have hd:d < (σ j).1.n:=hd
 rw [aB2 hd] at hv
 split at hv
 ·rename_i hl
  have hl:d ∈ o.looksAt ops.toArray:=List.contains_iff_mem.1 hl
  simp only [zzz] at hv
  have hget:(σ j).1.get d=some v:=by unfold Env.get; rw [if_pos hd,hv]
  by_cases hex : ∃ (i : Nat) (oi : Oper),i < j ∧ ops[i]? = some oi ∧ oi.dst = some d
  ·obtain ⟨i,oi,hi,hoi,hdi⟩:=hex
   have hval:=t.new f hoi hdi j hi (by omega)
   rw [hget,if_pos (by rw [← hlen]; exact hd)] at hval
   simp only [zzz] at hval
   subst hval
   have hli:aU S i=true:=by
    rcases f.pair i j oi o hi hoi ho with h1 | h1
    ·exact pI ho M.closed hr h1
    ·exact absurd hl ((Oper.apart_spec h1).1 d hdi)
   exact M.new i oi d x hoi hli hdi hx
  ·have hold:=t.old (d:=d) j (by omega) (fun i oi hi hoi hdi=>hex ⟨i,oi,hi,hoi,hdi⟩)
   rw [hget] at hold
   refine M.old d v x (fun i oi hoi hli hdi=>?_) hold.symm hx
   have hij:i≠j:=fun e=>by subst e; rw [hun] at hli; simp at hli
   have hji:j < i:=by
    rcases Nat.lt_or_gt_of_ne hij with h1 | h1
    ·exact absurd ⟨i,oi,h1,hoi,hdi⟩ hex
    ·exact h1
   rcases f.pair j i o oi hji ho hoi with h1 | h1
   ·have:=pI hoi M.closed (M.closed i oi hoi hli) h1
    rw [hun] at this; simp at this
   ·exact (Oper.apart_spec h1).2.2 d hdi hl
 ·simp only [zzz] at hv
  subst hv
  exact .any x
theorem aS1 {env:Env} {H H':List LO} {op:Op} (h:a3u op=false):bK P C env H op=bK P C env H' op:=by
 cases op <;> simp [a3u] at h <;> first | rfl | (rename_i g _ _; cases g <;> rfl) | (rename_i g; cases g <;> rfl)
theorem aXw {env:Env} : ∀ {xs:List Operand} {vs:List V} {v:V},nN env xs=some vs→v ∈ vs→∃ x,x ∈ xs∧ev env x=some v
 | [],vs,v,h,hm=>by simp [nN] at h; subst h; simp at hm
 | x::xs,vs,v,h,hm=>by
  simp only [nN] at h
  split at h
  ·rename_i u us h1 h2
   simp only [zzz] at h
   subst h
   rcases List.mem_cons.1 hm with rfl | hm
   ·exact ⟨x,by simp,h1⟩
   ·obtain ⟨y,hy,hy2⟩:=aXw h2 hm
    exact ⟨y,by simp [hy],hy2⟩
  ·simp at h
theorem b3k {env:Env} {c:Value} {l off:Nat} (h:ev env (.const c)=some (.ptr l off)):False:=by
 have h:V.ofC c=some (.ptr l off):=h
 unfold V.ofC at h
 split at h
 ·simp at h
 cases c <;> simp only [V.a6e,V.yB,zyy,reduceCtorEq,and_false,exists_false,zzz] at h
 all_goals (try (split at h <;> simp at h))
structure Calm (C:cN):Prop where
 len:∀ f args m v m',C.eff f args m=some (v,m')→m.H.length≤m'.H.length
 cZ : ∀ f args m v m' l,C.flat f = true → C.eff f args m = some (v,m') → (∀ off,V.ptr l off ∉ args) → m'.H[l]? = m.H[l]?
theorem aWy {env env':Env} {m:Hp} {op:Op} (hs:kB C op=true) (h:Agree env env' op.operands.toList) {r:V×Hp} (e:evalOp P C env m op=some r):evalOp P C env' m op=some r:=by
 obtain ⟨nq,na,-⟩:=a1i (C:=C) hs
 unfold evalOp at e ⊢
 rw [nq,na] at e ⊢
 simp only [zuy,if_false] at e ⊢
 cases op <;> simp only [evalW] at e ⊢ <;> try exact e
 case store =>
  split at e
  ·rename_i u v h1 h2
   rw [h _ (by simp [Op.operands]) _ h1,h _ (by simp [Op.operands]) _ h2]; exact e
  ·simp at e
 case makeSlice =>
  split at e
  ·rename_i u v h1 h2
   rw [h _ (by simp [Op.operands]) _ h1,h _ (by simp [Op.operands]) _ h2]; exact e
  ·simp at e
 case call c =>
  obtain ⟨callee,args,ts⟩:=c
  (try simp only at e ⊢)
  split at e
  ·rename_i b vs hvs
   rw [Agree.nN (fun y hy=>h y (by simp [Op.operands,Call.operands] at hy ⊢; exact hy)) hvs]; exact e
  ·rename_i f vs hvs
   rw [Agree.nN (fun y hy=>h y (by simp [Op.operands,Call.operands] at hy ⊢; exact .inr hy)) hvs]
   split at e
   ·rename_i g caps hg
    simp only [h f (by simp [Op.operands,Call.operands]) _ hg]; exact e
   ·simp at e
  ·simp at e
theorem aS2 {t:TypeId} {x y:V} {m:Hp} {r:V×Hp} (e:rH P t x y m=some r):r.2.H=m.H:=by
 unfold rH at e
 repeat' (split at e)
 all_goals first | (simp at e; done) | (simp only [zzz] at e; subst e; rfl)
theorem b3l {t:TypeId} {x:V} {ys:List V} {m:Hp} {r:V×Hp} (e:sW P t x ys m=some r):r.2.H=m.H:=by
 unfold sW at e
 repeat' (split at e)
 all_goals first | (simp at e; done) | (simp only [zzz] at e; subst e; rfl)
theorem aZ5 {b:Builtin} {ts:List TypeId} {xs:List V} {m:Hp} {r:V×Hp} (e:qM P b ts xs m=some r):r.2.H=m.H:=by
 unfold qM at e
 repeat' (split at e)
 all_goals first | (simp at e; done) | exact b3l e
def b3m (C:cN) (env:Env) (op:Op) (l:Nat):Prop :=
 match op with
 | .store _ a _=>∀ off,ev env a≠some (.ptr l off)
 | .call c=>(match c.callee with
  | .value f=>∀ vs g caps,nN env c.args.toList=some vs→ev env f=some (.func g caps)→C.flat g=true∧∀ off,V.ptr l off ∉ vs++caps
  | _=>True)
 | _=>True
theorem aZ6 {t:TypeId} {x y:V} {m:Hp} {r:V×Hp} (e:a7k P t x y m=some r):m.H.length≤r.2.H.length:=by
 unfold a7k at e
 split at e
 ·split at e
  ·split at e
   ·simp at e; subst e; simp
   ·simp at e
  ·simp at e
 ·simp at e
theorem aZ7 {env : Env} {H H' : List LO} {op : Op} (h : a3u op = true) (hp : ∀ l off,ev env (addrOf op) = some (.ptr l off) → ∀ c,H[l]? = some c → H'[l]? = some c) {v : V} (e : bK P C env H op = some v) : bK P C env H' op = some v:=by
 cases op <;> simp [a3u] at h
 rename_i t x
 simp only [bK,tC,addrOf] at e hp ⊢
 split at e
 ·rename_i u hu
  unfold vP at e ⊢
  split at e
  ·rename_i l off
   cases hc : H[l]? with
   | none=>rw [hc] at e; simp at e
   | some c=>rw [hp l off hu c hc]; rw [hc] at e; exact e
  ·exact e
  ·simp at e
 ·simp at e
theorem b3n {env:Env} {l:List Tmp} {x:Operand} {b off:Nat} (h:ev (seen env l) x=some (.ptr b off)):ev env x=some (.ptr b off):=by
 cases x with
 | tmp t =>
  simp only [ev] at h ⊢
  have hn:=Env.a0h h
  have hn':t < env.n:=hn
  rw [aB2 hn'] at h
  split at h
  ·unfold Env.get; rw [if_pos hn']; exact h
  ·simp at h
 | _=>exact h
theorem aS3 {t : TypeId} {x y : V} {m : Hp} {r : V × Hp} {l : Nat} (e : a7k P t x y m = some r) (h : ∀ off,x ≠ .ptr l off) : r.2.H[l]? = m.H[l]?:=by
 unfold a7k at e
 split at e
 ·rename_i q off n hn
  have hne:q≠l:=fun e=>by subst e; exact h off rfl
  split at e
  ·split at e
   ·simp at e; subst e
    simp [List.getElem?_set_ne hne]
   ·simp at e
  ·simp at e
 ·simp at e
theorem aWz (hcalm : Calm C) {env : Env} {m : Hp} {op : Op} (hs : kB C op = true) {r : V × Hp} (e : evalW P C env m op = some r) : m.H.length ≤ r.2.H.length ∧ ∀ l,b3m C env op l → r.2.H[l]? = m.H[l]?:=by
 cases op <;> simp only [evalW] at e <;> try (simp at e; done)
 case store =>
  split at e
  ·rename_i u v h1 h2
   refine ⟨aZ6 e,fun l hl=>aS3 e fun off hu=>?_⟩
   subst hu; exact hl off h1
  ·simp at e
 case makeSlice =>
  split at e
  ·rw [aS2 e]; exact ⟨zxy _,fun _ _=>rfl⟩
  ·simp at e
 case call c =>
  obtain ⟨callee,args,ts⟩:=c
  (try simp only at e)
  split at e
  ·rw [aZ5 e]; exact ⟨zxy _,fun _ _=>rfl⟩
  ·rename_i f vs hvs
   split at e
   ·rename_i g caps hg
    obtain ⟨v,m'⟩:=r
    refine ⟨hcalm.len _ _ _ _ _ e,fun l hl=>hcalm.cZ _ _ _ _ _ l (hl vs g caps hvs hg).1 e fun off hm=>?_⟩
    exact (hl vs g caps hvs hg).2 off hm
   ·simp at e
  ·simp at e
theorem aXx {s s' : Env × Hp} {o : Oper} {v : V} (hcalm : Calm C) (hs : kB C o.op = true) (e : tE P C ops s o = some (s',v)) : s.2.H.length ≤ s'.2.H.length ∧ ∀ l,b3m C s.1 o.op l → s'.2.H[l]? = s.2.H[l]?:=by
 unfold tE at e
 split at e
 ·split at e
  ·rename_i v' m' h1
   simp at e; obtain ⟨rfl,rfl⟩:=e
   obtain ⟨nq,na,_⟩:=a1i (C:=C) hs
   unfold evalOp at h1
   rw [nq,na] at h1
   simp only [zuy,if_false] at h1
   exact aWz hcalm hs h1
  ·simp at e
 ·simp at e; obtain ⟨rfl,rfl⟩:=e; exact ⟨zxy _,fun _ _=>rfl⟩
 ·simp at e
theorem Tr3.aS4 (t : Tr3 P C ops σ val) (f : DF3 C sl ex ops) {l i : Nat} (hi0 : jL C ops ≤ i) : ∀ j,i ≤ j → j ≤ ops.length → (∀ (q : Nat) o,i ≤ q → q < j → ops[q]? = some o → kB C o.op = true → (σ (q + 1)).2.H[l]? = (σ q).2.H[l]?) → (σ j).2.H[l]? = (σ i).2.H[l]?
 | 0,h,_,_=>by rw [Nat.le_zero.1 h]
 | j+1,h,hj,hn=>by
  by_cases hi:i=j+1
  ·rw [hi]
  ·have ho:=zyz (show j < ops.length by omega)
   have ih:=t.aS4 f (l:=l) (i:=i) hi0 j (by omega) (by omega) fun q o h1 h2=>hn q o h1 (by omega)
   rcases f.cls j _ ho with h1 | h1 | h1
   ·rw [a8y h1 (t.step j _ ho)]; exact ih
   ·rw [hn j _ (by omega) (by omega) ho h1]; exact ih
   ·have:=aB7 f ho h1.1; omega
theorem aHy {s s':Env×Hp} {o:Oper} {v:V} (ha:qY o.op=true) (hg:o.guard=none) (e:tE P C ops s o=some (s',v)):∃ cs,xT P s.1 o.op=some cs∧v = .ptr s.2.H.length 0∧s'.2 = { s.2 with H:=s.2.H++[.cells (a3r o.op) cs] }:=by
 unfold tE at e
 have hw:nX ops s.1 o=some true:=by unfold nX; rw [hg]
 rw [hw] at e
 simp only at e
 split at e
 ·rename_i v' m' h1
  simp only [zzz,zvy] at e
  obtain ⟨rfl,rfl⟩:=e
  have hq:pG C o.op=false:=by cases ho:o.op <;> rw [ho] at ha <;> simp [qY] at ha <;> rfl
  unfold evalOp at h1
  rw [hq,ha] at h1
  simp only [zuy,if_false,if_true,zyy,zvy] at h1
  obtain ⟨cs,h2,h3,h4⟩:=h1
  exact ⟨cs,h2,h3.symm,h4.symm⟩
 ·simp at e
theorem Tr3.front (t:Tr3 P C ops σ val) (f:DF3 C sl ex ops) {i:Nat} : ∀ j,i≤j→j≤jL C ops→∃ ds:List LO,(σ j).2 = { (σ i).2 with H:=(σ i).2.H++ds }
 | 0,h,_=>by rw [Nat.le_zero.1 h]; exact ⟨[],by simp⟩
 | j+1,h,hj=>by
  by_cases hi:i=j+1
  ·rw [hi]; exact ⟨[],by simp⟩
  ·have hlen:=a8x (C:=C) ops
   have ho:=zyz (show j < ops.length by omega)
   obtain ⟨ds,hds⟩:=t.front f (i:=i) j (by omega) (by omega)
   rcases f.cls j _ ho with h1 | h1 | h1
   ·rw [a8y h1 (t.step j _ ho)]; exact ⟨ds,hds⟩
   ·have:=a05 ho h1; omega
   ·obtain ⟨cs,_,_,h2⟩:=aHy h1.1 h1.2 (t.step j _ ho)
    exact ⟨ds++[.cells _ cs],by rw [h2,hds,zty]⟩
theorem b3o (hcalm : Calm C) (f : DF3 C sl ex ops) {s s' : Env × Hp} {j : Nat} {o : Oper} {v : V} (ho : ops[j]? = some o) (e : tE P C ops s o = some (s',v)) : s.2.H.length ≤ s'.2.H.length:=by
 rcases f.cls j o ho with h | h | h
 ·rw [a8y h e]; exact zxy _
 ·exact (aXx hcalm h e).1
 ·obtain ⟨cs,_,_,h2⟩:=aHy h.1 h.2 e
  rw [h2]; simp
theorem Tr3.aFm (hcalm:Calm C) (t:Tr3 P C ops σ val) (f:DF3 C sl ex ops) {i:Nat} : ∀ j,i≤j→j≤ops.length→(σ i).2.H.length≤(σ j).2.H.length
 | 0,h,_=>by rw [Nat.le_zero.1 h]; exact zxy _
 | j+1,h,hj=>by
  by_cases hi:i=j+1
  ·rw [hi]; exact zxy _
  ·have ho:=zyz (show j < ops.length by omega)
   exact Nat.le_trans (t.aFm hcalm f j (by omega) (by omega)) (b3o hcalm f ho (t.step j _ ho))
theorem Tr3.aFn (hcalm : Calm C) (t : Tr3 P C ops σ val) (f : DF3 C sl ex ops) {i j : Nat} {o : Oper} (ho : ops[i]? = some o) (ha : qY o.op = true) (hg : o.guard = none) (hij : i < j) (hj : j ≤ ops.length) : (σ i).2.H.length < (σ j).2.H.length:=by
 obtain ⟨cs,_,_,h2⟩:=aHy ha hg (t.step i o ho)
 have:=t.aFm hcalm f (i:=i+1) j hij hj
 rw [h2] at this
 simp at this; omega
theorem aHz (f : DF3 C sl ex ops) {i : Nat} {o : Oper} (ho : ops[i]? = some o) (ha : qY o.op = true) : o.guard = none:=by
 rcases f.cls i o ho with h | h | h
 ·cases hop:o.op <;> rw [hop] at ha h <;> simp [qY] at ha <;> simp [pG] at h
 ·exact (b7c h ha).elim
 ·exact h.2
theorem aB8.step {κ0 κ:Ctx} {h0:World} {S:Array Bool} {w:World} {a:Act} (hC:Sound P C) (hcalm:Calm C) (hsl:∀ t,sl t=true→∃ e,P.underlying t=some (.slice e)) (hex:∀ r r',ex r r'=true→aHx (σ 0).1 (σ 0).2.H.length r r') (t:Tr3 P C ops σ val) (f:DF3 C sl ex ops) (M:aB8 P C ops σ val κ0 h0 S κ w a) {j:Nat} {o:Oper}
  (ho : ops[j]? = some o) (hun : aU S j = false) (hr : ∀ e ∈ o.after,Region.binds .any e = true → S.getD e.on false = true) (Q : Exit → Act → World → Prop) (K : Act → World → Prop)
  (hK:∀ κ' w' a',aB8 P C ops σ val κ0 h0 (S.setIfInBounds j true) κ' w' a'→K a' w'):wpOp P ops.toArray Q j K a w:=by
 have hj:j < ops.length:=(zzy.1 ho).1
 have hjs:j < S.size:=by rw [M.size]; exact hj
 have renv:=M.env t f ho hun hr
 have hst:=t.step j o ho
 obtain ⟨k,hk0,hk1,hk2,hk3⟩:=M.at_
 have close : ∀ κ' w' x k',jL C ops ≤ k' → k' ≤ ops.length → (∀ (i : Nat) oi,ops[i]? = some oi → kB C oi.op = true → (i < k' ↔ (if i = j then true else aU S i) = true)) →
   (∀ (i : Nat) oi,ops[i]? = some oi → qY oi.op = true → i ≠ j → aU S i = false → κ'.box (σ i).2.H.length = none) → Le κ w.heap κ' w'.heap → Ext κ0 h0 (σ 0).2 κ' w' (σ k').2 → aW κ' w'.heap (val j) x →
   aB8 P C ops σ val κ0 h0 (S.setIfInBounds j true) κ' w' (a.put o.dst x):=by
  intro κ' w' x k' hk'0 hk'1 hk'2 hkept hle hx hrep
  have hput : ∀ d,(a.put o.dst x).tmps[d]? = if o.dst = some d then (if d < a.tmps.size then some x else none) else a.tmps[d]?:=by
   intro d
   cases hdst:o.dst with
   | none=>simp [Act.put]
   | some c =>
    simp only [Act.put,Array.getElem?_setIfInBounds,zzz]
    split
    ·rename_i h; subst h; rfl
    ·rfl
  refine ⟨by simpa using M.size,aB1 M.size M.closed ho hr,⟨k',hk'0,hk'1,fun i oi hoi hs=>by rw [iY hjs]; exact hk'2 i oi hoi hs,hx⟩,fun i oi hoi ha hl=>?_,?_,?_,fun i oi d y hoi hl hd hy=>?_,fun d v y hno hv hy=>?_⟩
  ·rw [iY hjs] at hl
   split at hl
   ·simp at hl
   ·rename_i hij; exact hkept i oi hoi ha hij hl
  ·cases hdst:o.dst <;> simp [Act.put,M.defers]
  ·cases hdst:o.dst <;> simp [Act.put,M.a8v]
  ·rw [iY hjs] at hl
   rw [hput] at hy
   by_cases hij:i=j
   ·subst hij
    rw [ho] at hoi; simp at hoi; subst hoi
    rw [if_pos hd] at hy
    split at hy <;> simp at hy
    subst hy; exact hrep
   ·rw [if_neg hij] at hl
    have hne:o.dst≠some d:=fun e=>hij (f.nd i j oi o d hoi ho hd e)
    rw [if_neg hne] at hy
    exact (M.new i oi d y hoi hl hd hy).mono hle
  ·have hne:o.dst≠some d:=hno j o ho (by rw [iY hjs,if_pos rfl])
   rw [hput,if_neg hne] at hy
   refine (M.old d v y (fun i oi hoi hl=>hno i oi hoi ?_) hv hy).mono hle
   rw [iY hjs]; split <;> first | rfl | exact hl
 have keptE : ∀ κ' w' m',Ext κ w (σ k).2 κ' w' m' → ∀ (i : Nat) oi,ops[i]? = some oi → qY oi.op = true → i ≠ j → aU S i = false → κ'.box (σ i).2.H.length = none:=by
  intro κ' w' m' hx i oi hoi ha _ hl
  refine hx.hole _ ?_ (M.kept i oi hoi ha hl)
  exact t.aFn hcalm f hoi ha (aHz f hoi ha) (zuz (aB7 f hoi ha) hk0) hk1
 have keepK : kB C o.op = false → ∀ (i : Nat) oi,ops[i]? = some oi → kB C oi.op = true → (i < k ↔ (if i = j then true else aU S i) = true):=by
  intro hs i oi hoi his
  have:i≠j:=fun e=>by subst e; rw [ho] at hoi; simp at hoi; subst hoi; rw [hs] at his; simp at his
  rw [if_neg this]; exact hk2 i oi hoi his
 have order : (kB C o.op = true ∨ a3u o.op = true) → ∀ (i : Nat) oi,ops[i]? = some oi → kB C oi.op = true → i ≠ j → (i < j ↔ aU S i = true) ∨ yE C sl ex ops j i = true:=by
  intro hc i oi hoi his hne
  by_cases hx:yE C sl ex ops j i=true
  ·exact .inr hx
  have hx':¬ yE C sl ex ops i j=true:=by
   intro h
   unfold yE at h
   rw [hoi,ho] at h
   simp [(a1i (C:=C) his).2.2] at h
  refine .inl ⟨fun hlt=>?_,fun hl=>?_⟩
  ·rcases f.bDk i j oi o hlt hoi ho (.inl ⟨his,hc⟩) with h | h | h
   ·exact pI ho M.closed hr h
   ·exact absurd h hx'
   ·exact absurd h hx
  ·refine Nat.lt_of_not_le fun hge=>?_
   have hlt:j < i:=Nat.lt_of_le_of_ne hge fun e=>hne e.symm
   rcases f.bDk j i o oi hlt ho hoi (by
     rcases hc with hc | hc
     ·exact .inl ⟨hc,.inl his⟩
     ·exact .inr ⟨hc,his⟩) with h | h | h
   ·have:=pI hoi M.closed (M.closed i oi hoi hl) h
    rw [hun] at this; simp at this
   ·exact absurd h hx
   ·exact absurd h hx'
 have place : a3u o.op = true → ∀ l off,ev (σ j).1 (addrOf o.op) = some (.ptr l off) → ∀ c,(σ j).2.H[l]? = some c → (σ k).2.H[l]? = some c:=by
  intro hl l off hp c hc
  have leaves : ∀ (q : Nat) oq,ops[q]? = some oq → kB C oq.op = true → yE C sl ex ops j q = true → (σ (q + 1)).2.H[l]? = (σ q).2.H[l]?:=by
   intro q oq hq hs hx
   unfold yE at hx
   rw [ho,hq] at hx
   simp only [zxz] at hx
   obtain ⟨_,hx⟩:=hx
   have old : ∀ {i : Nat} {oi : Oper},ops[i]? = some oi → ¬ (σ i).2.H.length < (σ 0).2.H.length:=fun hi h=>by
    have:=t.aFm hcalm f (i:=0) _ (Nat.zero_le _) (Nat.le_of_lt (zzy.1 hi).1); omega
   have clash:∀ {r r':Rt},aHx (σ 0).1 (σ 0).2.H.length r r'→aZ4 ops σ l r→aZ4 ops σ l r'→False:=by
    intro r r' ha e1 e2
    cases r with
    | ro=>exact e1
    | tm d =>
     cases r' with
     | ro=>exact e2
     | tm d' =>
      obtain ⟨o0,e1⟩:=e1
      obtain ⟨o1,e2⟩:=e2
      exact ha l o0 o1 e1 e2
     | nw i =>
      obtain ⟨o0,e1⟩:=e1
      obtain ⟨rfl,oi,hoi,_⟩:=e2
      exact old hoi (ha _ o0 e1)
    | nw i =>
     obtain ⟨e1,oi,hoi,hai⟩:=e1
     cases r' with
     | ro=>exact e2
     | tm d' =>
      obtain ⟨o0,e2⟩:=e2
      subst e1
      exact old hoi (ha _ o0 e2)
     | nw i' =>
      obtain ⟨e2,oi',hoi',hai'⟩:=e2
      rcases Nat.lt_or_gt_of_ne (show i≠i' from ha) with h | h
      ·have:=t.aFn hcalm f hoi hai (aHz f hoi hai) h (Nat.le_of_lt (zzy.1 hoi').1); omega
      ·have:=t.aFn hcalm f hoi' hai' (aHz f hoi' hai') h (Nat.le_of_lt (zzy.1 hoi).1); omega
   refine (aXx hcalm hs (t.step q oq hq)).2 l ?_
   split at hx
   ·rename_i ty x y hop
    rw [hop]
    intro off' hq'
    split at hx
    ·rename_i r r' hr1 hr2
     exact clash (hex r r' hx) (qO hsl t j _ r l off hr1 hp) (qO hsl t q _ r' l off' hr2 hq')
    ·rename_i hr1 _
     exact (qO hsl t j _ .ro l off hr1 hp).elim
    ·simp at hx
   ·rename_i c hop
    rw [hop]
    obtain ⟨callee,args,ts⟩:=c
    (try simp only at hx)
    split at hx
    ·trivial
    ·intro vs g caps hvs hg
     simp only [ev,zzz,V.func.injEq] at hg
     obtain ⟨rfl,rfl⟩:=hg
     rw [List.append_nil]
     split at hx
     ·rename_i hr1
      exact (qO hsl t j _ .ro l off hr1 hp).elim
     ·rename_i r _ hr1
      have e1:=qO hsl t j _ r l off hr1 hp
      simp only [zxz] at hx
      refine ⟨hx.1,fun off' hmem=>?_⟩
      obtain ⟨x,hx1,hx2⟩:=aXw hvs hmem
      have hx3:=List.all_eq_true.1 hx.2 x hx1
      split at hx3
      ·rename_i cv
       exact b3k hx2
      ·simp [ev] at hx2
      ·split at hx3
       ·rename_i r' hr2
        exact clash (hex r r' hx3) e1 (qO hsl t q _ r' l off' hr2 hx2)
       ·simp at hx3
     ·simp at hx
    ·split at hx
     ·rename_i hr1
      exact (qO hsl t j _ .ro l off hr1 hp).elim
     ·simp at hx
    ·simp at hx
   ·simp at hx
  have from_ : ∀ i,jL C ops ≤ i → j ≤ i → i ≤ ops.length → (∀ (q : Nat) oq,ops[q]? = some oq → kB C oq.op = true → i ≤ q → j < q) → (σ i).2.H[l]? = some c → k ≥ i → (σ k).2.H[l]? = some c:=by
   intro i h1 h2 h3 h4 h5 h6
   rw [← h5]
   refine t.aS4 f h1 k h6 hk1 fun q oq h7 h8 hq his=>?_
   have hjq:=h4 q oq hq his h7
   rcases order (.inr hl) q oq hq his (by omega) with h | h
   ·have:=h.2 ((hk2 q oq hq his).1 h8); omega
   ·exact leaves q oq hq his h
  have hjS : ∀ (q : Nat) oq,ops[q]? = some oq → kB C oq.op = true → q ≠ j:=fun q oq hq his e=>by subst e; rw [ho] at hq; simp at hq; subst hq; rw [(a1i (C:=C) his).2.2] at hl; simp at hl
  rcases Nat.lt_or_ge j (jL C ops) with hlt | hge
  ·obtain ⟨ds,hds⟩:=t.front f (i:=j) (jL C ops) (by omega) (zxy _)
   refine from_ (jL C ops) (zxy _) (by omega) (a8x ops) (fun q oq hq his h=>by omega) ?_ hk0
   rw [hds,ztz (zzy.1 hc).1]; exact hc
  ·rcases Nat.le_total k j with hle | hle
   ·rw [← hc]
    refine (t.aS4 f hk0 j hle (by omega) fun q oq h2 h3 hq his=>?_).symm
    rcases order (.inr hl) q oq hq his (by omega) with h | h
    ·have:=(hk2 q oq hq his).2 (h.1 h3); omega
    ·exact leaves q oq hq his h
   ·exact from_ j hge (zxy _) (by omega) (fun q oq hq his h=>Nat.lt_of_le_of_ne h fun e=>hjS q oq hq his e.symm) hc hle
 have around : kB C o.op = true → (σ j).2 = (σ k).2 ∧ ∀ (i : Nat) oi,ops[i]? = some oi → kB C oi.op = true → i ≠ j → (i < j ↔ aU S i = true):=by
  intro hc
  have h1 : ∀ (i : Nat) oi,ops[i]? = some oi → kB C oi.op = true → i ≠ j → (i < j ↔ aU S i = true):=by
   intro i oi hoi his hne
   rcases order (.inl hc) i oi hoi his hne with h | h
   ·exact h
   ·unfold yE at h
    rw [ho,hoi] at h
    simp [(a1i (C:=C) hc).2.2] at h
  refine ⟨?_,h1⟩
  have hj0:=a05 ho hc
  rcases Nat.le_total k j with hle | hle
  ·refine t.still f hk0 j hle (by omega) fun q oq h2 h3 hq=>?_
   cases his:kB C oq.op with
   | false=>rfl
   | true =>
    have h4:=(h1 q oq hq his (by omega)).1 h3
    have:=(hk2 q oq hq his).2 h4
    omega
  ·refine (t.still f hj0 k hle hk1 fun q oq h2 h3 hq=>?_).symm
   cases his:kB C oq.op with
   | false=>rfl
   | true =>
    have h4:=(hk2 q oq hq his).1 h3
    by_cases hqj:q=j
    ·subst hqj; rw [hun] at h4; simp at h4
    ·have:=(h1 q oq hq his hqj).2 h4
     omega
 unfold wpOp
 have ho' : ops.toArray[j]? = some o:=by simpa using ho
 rw [ho']
 simp only
 have hstA:=hst
 unfold tE at hst
 split at hst
 ·rename_i hw
  have hw':=rQ (w:=w) renv (a4o (ops:=ops) hw)
  rw [if_pos hw']
  split at hst
  ·rename_i v m1 hv
   simp only [zzz,zvy] at hst
   obtain ⟨hst1,hst2⟩:=hst
   have hm1:(σ (j+1)).2=m1:=by rw [← hst1]
   rcases f.cls j o ho with hq | hs | hA
   ·-- quiet
    have hns:kB C o.op=false:=by
     cases hh:kB C o.op with
     | false=>rfl
     | true=>rw [(a1i (C:=C) hh).1] at hq; simp at hq
    unfold evalOp at hv
    rw [if_pos hq] at hv
    simp only [zyy] at hv
    obtain ⟨u,hu,hv⟩:=hv
    simp only [zvy] at hv
    obtain ⟨rfl,_⟩:=hv
    have hu':bK P C (seen (σ j).1 (o.looksAt ops.toArray)) (σ k).2.H o.op=some u:=by
     have h1:=aIy (env':=seen (σ j).1 (o.looksAt ops.toArray)) a2d (fun _ _ h=>h) hu
     cases hl:a3u o.op with
     | false=>rw [aS1 (H':=(σ j).2.H) hl]; exact h1
     | true=>exact aZ7 hl (fun l off he=>place hl l off (b3n he)) h1
    refine .inl (Oper.wp_mono ?_ (aBy (m:=(σ k).2) hC hk3.mem renv hu' Q))
    rintro a' w' ⟨x,κ',rfl,hx,hrep⟩
    exact hK κ' w' _ (close κ' w' x k hk0 hk1 (keepK hns) (keptE κ' w' _ hx) hx.le (hk3.trans hx) (by rw [← hst2]; exact hrep))
   ·have ⟨e1,e2⟩:=around hs
    have hv':evalOp P C (seen (σ j).1 (o.looksAt ops.toArray)) (σ k).2 o.op=some (v,m1):=by rw [← e1]; exact aWy hs a2d hv
    refine .inl (Oper.wp_mono ?_ (a94 (m:=(σ k).2) hC hk3.mem renv hv' Q))
    rintro a' w' ⟨x,κ',rfl,hx,hrep⟩
    have hj0:=a05 ho hs
    refine hK κ' w' _ (close κ' w' x (j+1) (by omega) hj (fun i oi hoi his=>?_) (keptE κ' w' _ hx) hx.le (by rw [hm1]; exact hk3.trans hx) (by rw [← hst2]; exact hrep))
    by_cases hij:i=j
    ·subst hij; simp
    ·rw [if_neg hij,← e2 i oi hoi his hij]; omega
   ·-- a box is made
    have hns:kB C o.op=false:=by
     cases hh:kB C o.op with
     | false=>rfl
     | true=>exact (b7c hh hA.1).elim
    obtain ⟨cs,c1,c2,c3⟩:=aHy hA.1 hA.2 hstA
    have hlt:=aB7 f ho hA.1
    have none_ : ∀ (q : Nat) oq,ops[q]? = some oq → kB C oq.op = true → ¬ q < k:=by
     intro q oq hq his h
     have hl:=(hk2 q oq hq his).1 h
     have hq0:=a05 hq his
     have:=pI hq M.closed (M.closed q oq hq hl) (f.als j q o oq (by omega) ho hq hA.1 his)
     rw [hun] at this; simp at this
    have hmk:(σ k).2=(σ (jL C ops)).2:=t.still f (zxy _) k hk0 hk1 fun q oq _ h2 hq=>by
     cases his:kB C oq.op with
     | false=>rfl
     | true=>exact absurd h2 (none_ q oq hq his)
    have hget : (σ k).2.H[(σ j).2.H.length]? = some (.cells (a3r o.op) cs):=by
     obtain ⟨ds,hds⟩:=t.front f (i:=j+1) (jL C ops) hlt (zxy _)
     rw [hmk,hds,c3]; simp
    have hnone:=M.kept j o ho hA.1 hun
    refine .inl (Oper.wp_mono ?_ (aBz (m:=(σ k).2) (l:=(σ j).2.H.length) hk3.mem renv (aIz a2d c1) hget hnone Q))
    rintro a' w' ⟨x,κ',rfl,hle,hmem,hrep,hbox,hos,hout⟩
    have hj0:=t.aFm hcalm f (i:=0) j (Nat.zero_le _) (by omega)
    refine hK κ' w' _ (close κ' w' x k hk0 hk1 (keepK hns) (fun i oi hoi ha hij hl=>?_) hle ⟨hk3.le.trans hle,hmem,hk3.grow,fun l hl e=>?_,hos.trans hk3.os,hk3.out.trans hout⟩ (by rw [c2]; exact hrep))
    ·rw [hbox]
     have hne:(σ i).2.H.length≠(σ j).2.H.length:=by
      rcases Nat.lt_or_gt_of_ne hij with h | h
      ·have:=t.aFn hcalm f hoi ha (aHz f hoi ha) h (by omega); omega
      ·have:=t.aFn hcalm f ho hA.1 hA.2 h (by have:=(zzy.1 hoi).1; omega); omega
     simp only [if_neg hne]
     exact M.kept i oi hoi ha hl
    ·rw [hbox]
     simp only
     rw [if_neg (by omega)]
     exact hk3.hole l hl e
  ·simp at hst
 ·rename_i hw
  have hw':=rQ (w:=w) renv (a4o (ops:=ops) hw)
  simp only [zzz,zvy] at hst
  obtain ⟨hst1,hst2⟩:=hst
  rw [if_neg (by rw [hw']; simp)]
  have hrep:aW κ w.heap (val j) Go.undef:=by rw [← hst2]; exact .undef
  have hm1:(σ (j+1)).2=(σ j).2:=by rw [← hst1]
  have same : ∀ (i : Nat) oi,ops[i]? = some oi → qY oi.op = true → i ≠ j → aU S i = false → κ.box (σ i).2.H.length = none:=fun i oi hoi ha _ hl=>M.kept i oi hoi ha hl
  cases hs:kB C o.op with
  | false=>exact hK κ w _ (close κ w _ k hk0 hk1 (keepK hs) same (Le.refl _ _) hk3 hrep)
  | true =>
   have ⟨e1,e2⟩:=around hs
   have hj0:=a05 ho hs
   refine hK κ w _ (close κ w _ (j+1) (by omega) hj (fun i oi hoi his=>?_) same (Le.refl _ _) (by rw [hm1,e1]; exact hk3) hrep)
   by_cases hij:i=j
   ·subst hij; simp
   ·rw [if_neg hij,← e2 i oi hoi his hij]; omega
 ·simp at hst
theorem aZ8 (hC:Sound P C) (hcalm:Calm C) (hsl:∀ t,sl t=true→∃ e,P.underlying t=some (.slice e)) (hex:∀ r r',ex r r'=true→aHx (σ 0).1 (σ 0).2.H.length r r') (t:Tr3 P C ops σ val) (f:DF3 C sl ex ops) {κ0:Ctx} {h0:World} {Q:Exit→Act→World→Prop}
  (hQ:∀ κ' w' a',Ext κ0 h0 (σ 0).2 κ' w' (σ ops.length).2→gW κ' w'.heap (σ ops.length).1 a'→Q .normal a' w') :
  ∀ (fuel:Nat) (S:Array Bool) (κ:Ctx) (w:World) (a:Act),aB8 P C ops σ val κ0 h0 S κ w a→unl S≤fuel→wpAny P .any ops.toArray Q fuel S a w:=by
 have fin:∀ (S:Array Bool) (κ:Ctx) (w:World) (a:Act),aB8 P C ops σ val κ0 h0 S κ w a→(∀ i,i < ops.length→aU S i=true)→Q .normal a w:=by
  intro S κ w a M hall
  obtain ⟨k,hk0,hk1,hk2,hk3⟩:=M.at_
  have hm:(σ ops.length).2=(σ k).2:=t.still f hk0 _ hk1 (zxy _) fun q oq h1 h2 hq=>by
   cases his:kB C oq.op with
   | false=>rfl
   | true =>
    have:=(hk2 q oq hq his).2 (hall q h2)
    omega
  refine hQ κ w a (by rw [hm]; exact hk3) ⟨M.defers,by rw [M.a8v,t.len _ (zxy _)],fun d v x hv hx=>?_⟩
  by_cases hex : ∃ (i : Nat) (oi : Oper),ops[i]? = some oi ∧ oi.dst = some d
  ·obtain ⟨i,oi,hoi,hdi⟩:=hex
   have hi:=(zzy.1 hoi).1
   have hval:=t.new f hoi hdi ops.length hi (zxy _)
   rw [hv,if_pos (by rw [← t.len ops.length (zxy _)]; exact Env.a0h hv)] at hval
   simp only [zzz] at hval
   subst hval
   exact M.new i oi d x hoi (hall i hi) hdi hx
  ·have hold:=t.old (d:=d) ops.length (zxy _) (fun i oi _ hoi hdi=>hex ⟨i,oi,hoi,hdi⟩)
   rw [hv] at hold
   exact M.old d v x (fun i oi hoi _ hdi=>hex ⟨i,oi,hoi,hdi⟩) hold.symm hx
 have some_:∀ (S:Array Bool) (κ:Ctx) (w:World) (a:Act),aB8 P C ops σ val κ0 h0 S κ w a→(∀ i,i < ops.length→aU S i=true)∨∃ q,q ∈ Region.ready .any ops.toArray S:=by
  intro S κ w a M
  by_cases hall:∀ i,i < ops.length→aU S i=true
  ·exact .inl hall
  ·have:∀ k,(∃ q,q < k∧q < ops.length∧aU S q=false∧∀ i,i < q→i < ops.length→aU S i=true)∨∀ i,i < k→i < ops.length→aU S i=true:=by
    intro k
    induction k with
    | zero=>exact .inr (fun i hi=>by omega)
    | succ k ihk =>
     rcases ihk with ⟨q,h1,h2⟩ | h1
     ·exact .inl ⟨q,by omega,h2⟩
     ·by_cases hkl:k < ops.length
      ·cases hk:aU S k with
       | false=>exact .inl ⟨k,by omega,hkl,hk,h1⟩
       | true =>
        refine .inr (fun i hi hil=>?_)
        by_cases h:i=k
        ·subst h; exact hk
        ·exact h1 i (by omega) hil
      ·exact .inr fun i hi hil=>h1 i (by omega) hil
   rcases this ops.length with ⟨q,h1,h2,h3,h4⟩ | h1
   ·refine .inr ⟨q,uS.2 ⟨ops[q],zyz h2,by rw [mC (by rw [M.size]; exact h2)]; exact h3,fun e he hb=>?_⟩⟩
    have h5:=f.back q _ (zyz h2) e he hb
    exact h4 e.on h5 (by omega)
   ·exact absurd (fun i hi=>h1 i hi hi) hall
 intro fuel
 induction fuel with
 | zero =>
  intro S κ w a M hu
  have hall:∀ i,i < ops.length→aU S i=true:=fun i hi=>by
   cases h:aU S i with
   | true=>rfl
   | false=>have:=aOf (uG (by rw [M.size]; exact hi) h); omega
  refine ⟨?_,fin S κ w a M hall⟩
  rw [List.eq_nil_iff_forall_not_mem]
  intro i hi
  obtain ⟨o,h1,h2,_⟩:=uS.1 hi
  have hil:=(zzy.1 h1).1
  rw [mC (by rw [M.size]; exact hil),hall i hil] at h2
  simp at h2
 | succ fuel ih =>
  intro S κ w a M hu
  refine ⟨fun hnil=>?_,fun i hi=>?_⟩
  ·rcases some_ S κ w a M with h | ⟨q,h⟩
   ·exact fin S κ w a M h
   ·rw [hnil] at h; simp at h
  ·obtain ⟨o,h1,h2,h3⟩:=uS.1 hi
   have hil:=(zzy.1 h1).1
   rw [mC (by rw [M.size]; exact hil)] at h2
   have hset:=aHw (uG (by rw [M.size]; exact hil) h2)
   exact M.step hC hcalm hsl hex t f h1 h2 h3 Q _ (fun κ' w' a' M'=>ih _ κ' w' a' M' (by omega))
theorem aS5 (hC:Sound P C) (hcalm:Calm C) {id:Nat} {Q:Exit→Act→World→Prop} {env:Env} {m:Hp} {env':Env} {m':Hp} {κ:Ctx} {w:World} {a:Act} (h:a3v C sl ex ops=true) (hsl:∀ t,sl t=true→∃ e,P.underlying t=some (.slice e)) (hex:∀ r r',ex r r'=true→aHx env m.H.length r r') (hm:P.follows .mixedOrders=true)
  (e:kL P C ops ops env m=some (env',m')) (k:Mem κ w.heap m) (re:gW κ w.heap env a) (hQ:∀ κ' w' a',Ext κ w m κ' w' m'→gW κ' w'.heap env' a'→Q .normal a' w') :
  (Code.region id ops.toArray true).wp P Q a w:=by
 have f:=aZ3 h
 obtain ⟨σ,val,h2,h3,h4⟩:=aXv e
 have t:Tr3 P C ops σ val:=⟨h4⟩
 refine wp_region_any hm (aZ8 hC hcalm hsl (by rw [h2]; exact hex) t f (κ0:=κ) (h0:=w) (by rw [h2,h3]; exact hQ) _ _ κ _ a ?_ ?_)
 ·have hrep:∀ i,aU (Array.replicate ops.toArray.size false) i=false:=fun i=>by
   unfold aU; simp [Array.getD]
  obtain ⟨ds,hds⟩:=t.front f (i:=0) (jL C ops) (Nat.zero_le _) (zxy _)
  have hext:∀ w':World,w'.heap=w.heap→w'.os=w.os→w'.output=w.output→Ext κ w (σ 0).2 κ w' (σ (jL C ops)).2:=by
   intro w' e1 e2 e3
   rw [hds,h2]
   exact ⟨by rw [e1]; exact Le.refl _ _,by rw [e1]; exact aJ0 k ds,by simp,fun _ _ hb=>hb,e2,⟨e3,by rw [e1]; exact zxy _⟩⟩
  refine ⟨by simp,fun j o _ hl=>by rw [hrep] at hl; simp at hl,⟨jL C ops,zxy _,a8x ops,fun i o ho hs=>?_,hext _ rfl rfl rfl⟩,fun j o ho ha _=>?_,re.1,by rw [h2]; exact re.2.1,fun i o d x _ hl=>by rw [hrep] at hl; simp at hl,fun d v x _ hv hx=>re.2.2 d v x (by rw [h2] at hv; exact hv) hx⟩
  ·rw [hrep]
   have:=a05 ho hs
   simp; omega
  ·refine aJ1 k ?_
   have:=t.aFm hcalm f (i:=0) j (Nat.zero_le _) (by have:=(zzy.1 ho).1; omega)
   rw [h2] at this; exact this
 ·unfold unl
  simp [List.count_replicate]
end
end Go.Fbs

/- A call that is led to boxes: the part of the memory that it sees,and the way back. -/
namespace Go.Fbs
inductive GA where
 | own (i:Nat)
 | full (n sz:Nat)
def GA.aN (κ:Ctx):GA→dX
 | .own i=>(κ.aN[i]?).getD ⟨0,0,0,0,.full,false⟩
 | .full n c=>⟨0,0,szN c,n,.full,decide (c=1)⟩
theorem aPx {κ:Ctx} {n c:Nat} (h:0 < c):(GA.aN κ (.full n c)).told=(n,c):=by
 simp only [GA.aN,dX.told,dX.cd,reduceCtorEq,if_false,decide_eq_true_eq]
 by_cases hc:c=1
 ·rw [if_pos hc,hc]
 ·rw [if_neg hc]; unfold szN; rw [if_neg hc,show c - 2+2=c by omega]
def part (κ:Ctx) (ls:List Nat) (gs:List GA):Ctx:=⟨κ.hw,fun b=>(ls[b]?).bind κ.box,gs.map (GA.aN κ)⟩
structure a0l (κ:Ctx) (ls:List Nat) (gs:List GA):Prop where
 nb : ∀ (b b' l : Nat),ls[b]? = some l → ls[b']? = some l → b = b'
 ng : ∀ (p q i : Nat),gs[p]? = some (.own i) → gs[q]? = some (.own i) → p = q
 ex : ∀ (p i : Nat),gs[p]? = some (.own i) → ∃ L,κ.aN[i]? = some L ∧ L.kind ≠ .dead
 fu : ∀ (p n : Nat),gs[p]? = some (.full n 1) → n = 0
section
variable {κ κ1:Ctx} {h h1:cJ} {m m1:Hp} {ls:List Nat} {gs:List GA}
theorem a2h {b:Nat} (hb:boxed (part κ ls gs) b):boxed κ b:=by
 obtain ⟨i,hb⟩:=hb
 simp only [part,zwz] at hb
 obtain ⟨l,_,h2⟩:=hb
 exact ⟨l,h2⟩
theorem pJ (p : a0l κ ls gs) {L : dX} (hL : L ∈ (part κ ls gs).aN) (hk : L.kind = .real) : ∃ (q i : Nat),gs[q]? = some (.own i) ∧ κ.aN[i]? = some L:=by
 simp only [part,List.mem_map] at hL
 obtain ⟨g,hg,rfl⟩:=hL
 obtain ⟨q,hq⟩:=List.mem_iff_getElem?.1 hg
 cases g with
 | full n sz=>simp [GA.aN] at hk
 | own i =>
  obtain ⟨L,hL,_⟩:=p.ex q i hq
  exact ⟨q,i,hq,by simp [GA.aN,hL]⟩
theorem aD8 (p : a0l κ ls gs) {L : dX} {q : Nat} (hL : (part κ ls gs).aN[q]? = some L) (hk : L.kind = .real) : ∃ i,gs[q]? = some (.own i) ∧ κ.aN[i]? = some L:=by
 simp only [part,zvz,zyy] at hL
 obtain ⟨g,hg,rfl⟩:=hL
 cases g with
 | full n sz=>simp [GA.aN] at hk
 | own i =>
  obtain ⟨L,hL,_⟩:=p.ex q i hg
  exact ⟨i,hg,by simp [GA.aN,hL]⟩
theorem aB9 (p:a0l κ ls gs) {b:Nat} (ho:owned (part κ ls gs) b):owned κ b:=by
 rcases ho with h | ⟨L,h,hk,rfl⟩
 ·exact .inl (a2h h)
 ·obtain ⟨q,i,_,h2⟩:=pJ p h hk
  exact .inr ⟨L,zyx h2,hk,rfl⟩
theorem bBk (ok:Ok κ h) (p:a0l κ ls gs):Ok (part κ ls gs) h where
 iK b hb:=ok.iK b (a2h hb)
 rF b hb:=ok.rF b (a2h hb)
 vN i j b h1 h2:=by
  simp only [part,zwz] at h1 h2
  obtain ⟨l,e1,e2⟩:=h1
  obtain ⟨l',e3,e4⟩:=h2
  rw [ok.vN l l' b e2 e4] at e1
  exact p.nb i j l' e1 e3
 jJ L hL hk:=by
  obtain ⟨q,i,_,h2⟩:=pJ p hL hk
  exact ok.jJ L (zyx h2) hk
 lhw L hL hk:=by
  obtain ⟨q,i,_,h2⟩:=pJ p hL (nf hk)
  exact ok.lhw L (zyx h2) hk
 lnd q q' L L' h1 h2 k1 k2 he:=by
  obtain ⟨i,e1,e2⟩:=aD8 p h1 (nf k1)
  obtain ⟨i',e3,e4⟩:=aD8 p h2 (nf k2)
  have:=ok.lnd i i' L L' e2 e4 k1 k2 he
  subst this
  exact p.ng q q' i e1 e3
 tR L hL hk hb:=by
  obtain ⟨q,i,_,h2⟩:=pJ p hL hk
  exact ok.tR L (zyx h2) hk (a2h hb)
 rZ L hL hk:=by
  obtain ⟨q,i,_,h2⟩:=pJ p hL (nf hk)
  exact ok.rZ L (zyx h2) hk
 fresh b hb:=ok.fresh b hb
 tbs:=ok.tbs.map (zxy _) (fun _ _ ho o=>ho (aB9 p o)) fun _ _ _=>rfl
 xR L hL hk hs:=by
  simp only [part,List.mem_map] at hL
  obtain ⟨g,hg,rfl⟩:=hL
  obtain ⟨q,hq⟩:=List.mem_iff_getElem?.1 hg
  cases g with
  | full n sz =>
   have hs:sz=1:=of_decide_eq_true hs
   subst hs
   exact p.fu q n hq
  | own i =>
   obtain ⟨L,hL,_⟩:=p.ex q i hq
   simp only [GA.aN,hL,Option.getD_some] at hk hs ⊢
   exact ok.xR L (zyx hL) hk hs
 lbt L hL hk:=by
  simp only [part,List.mem_map] at hL
  obtain ⟨g,hg,rfl⟩:=hL
  obtain ⟨q,hq⟩:=List.mem_iff_getElem?.1 hg
  cases g with
  | full n sz =>
   have hs:sz=1:=of_decide_eq_true hk
   subst hs
   rfl
  | own i =>
   obtain ⟨L,hL,_⟩:=p.ex q i hq
   simp only [GA.aN,hL,Option.getD_some] at hk ⊢
   exact ok.lbt L (zyx hL) hk
def GA.b95 (i:Nat):GA→Bool
 | .own j=>Nat.beq j i
 | .full _ _=>false
def uH (gs:List GA) (i:Nat):Bool:=gs.any (GA.b95 i)
theorem a6j {i : Nat} : uH gs i = true ↔ ∃ q : Nat,gs[q]? = some (.own i):=by
 unfold uH
 rw [List.any_eq_true]
 constructor
 ·rintro ⟨g,hg,hi⟩
  obtain ⟨q,hq⟩:=List.mem_iff_getElem?.1 hg
  cases g with
  | own j=>exact ⟨q,by rw [hq,zzx hi]⟩
  | full n sz=>simp [GA.b95] at hi
 ·rintro ⟨q,hq⟩
  exact ⟨_,zyx hq,Nat.beq_refl i⟩
def dX.kill (L:dX) (b:Bool):dX:=bif b then { L with kind:=.dead } else L
def back (κ κ1:Ctx) (gs outs:List GA):Ctx:=⟨κ1.hw,κ.box,(κ.aN.mapIdx fun i L=>L.kill (uH gs i))++outs.map (GA.aN κ1)⟩
theorem b7d {i : Nat} {L : dX} {outs : List GA} (hL : κ.aN[i]? = some L) : (back κ κ1 gs outs).aN[i]? = some (L.kill (uH gs i)):=by
 simp only [back]
 rw [ztz (by simpa using (zzy.1 hL).1)]
 simp [hL]
theorem rJ {outs : List GA} {j : Nat} {L : dX} (hL : (back κ κ1 gs outs).aN[j]? = some L) :
  (∃ L0,κ.aN[j]? = some L0 ∧ L = L0.kill (uH gs j)) ∨ (κ.aN.length ≤ j ∧ ∃ g,outs[j - κ.aN.length]? = some g ∧ L = g.aN κ1):=by
 simp only [back,List.getElem?_append] at hL
 split at hL
 ·left
  simp only [List.getElem?_mapIdx,zyy] at hL
  obtain ⟨L0,h1,h2⟩:=hL
  exact ⟨L0,h1,h2.symm⟩
 ·rename_i hlt
  right
  simp only [List.length_mapIdx] at hL hlt
  simp only [zvz,zyy] at hL
  obtain ⟨g,h1,h2⟩:=hL
  exact ⟨by omega,g,h1,h2.symm⟩
structure aRu (κ1:Ctx) (outs:List GA):Prop where
 nd : ∀ (p q i : Nat),outs[p]? = some (.own i) → outs[q]? = some (.own i) → p = q
 ex : ∀ (p i : Nat),outs[p]? = some (.own i) → ∃ L,κ1.aN[i]? = some L
 fu : ∀ (p n : Nat),outs[p]? = some (.full n 1) → n = 0
variable {outs:List GA}
theorem b3p (ok : Ok κ h) (p : a0l κ ls gs) {i : Nat} {L : dX} (hL : κ.aN[i]? = some L) (hk : L.kind = .real) (hi : uH gs i = false) : ¬ owned (part κ ls gs) L.cG:=by
 rintro (hb | ⟨L',h1,hk',he⟩)
 ·exact ok.tR L (zyx hL) hk (a2h hb)
 ·obtain ⟨q,j,e1,e2⟩:=pJ p h1 hk'
  have:=ok.lnd j i L' L e2 hL hk' hk he
  subst this
  rw [a6j.2 ⟨q,e1⟩] at hi
  simp at hi
theorem tF {L:dX} {b:Bool} (h:(L.kill b).kind = .real):b=false∧L.kill b=L:=by
 cases b with
 | false=>exact ⟨rfl,rfl⟩
 | true=>simp [dX.kill] at h
theorem aOi (p:a0l κ ls gs) (le:Le (part κ ls gs) h κ1 h1) (q:aRu κ1 outs):Le κ h (back κ κ1 gs outs) h1 where
 size:=le.size
 same b hb ho:=le.same b hb fun o=>ho (aB9 p o)
 yA b hb ho:=le.yA b hb fun o=>ho (aB9 p o)
 mK:=le.mK
 hw:=le.hw
 box _ _ h:=h
 a0g _ h:=.inl h
 aN i L hL:=by
  refine ⟨_,b7d hL,?_⟩
  cases uH gs i with
  | false=>exact .inl rfl
  | true=>exact .inr (.inl rfl)
 tQ L' hL' hk:=by
  obtain ⟨j,hj⟩:=List.mem_iff_getElem?.1 hL'
  rcases rJ hj with ⟨L0,e1,rfl⟩ | ⟨_,g,e1,rfl⟩
  ·obtain ⟨_,e2⟩:=tF hk
   rw [e2] at hk ⊢
   exact .inl ⟨L0,zyx e1,hk,rfl⟩
  ·cases g with
   | full n sz=>simp [GA.aN] at hk
   | own i =>
    obtain ⟨L,hL⟩:=q.ex _ i e1
    have hg:GA.aN κ1 (.own i)=L:=by simp [GA.aN,hL]
    rw [hg] at hk ⊢
    rcases le.tQ L (zyx hL) hk with ⟨L0,e2,e3,e4⟩ | e2
    ·obtain ⟨_,i',_,e6⟩:=pJ p e2 e3
     exact .inl ⟨L0,zyx e6,e3,e4⟩
    ·exact .inr e2
theorem bBl (ok:Ok κ h) (p:a0l κ ls gs) (le:Le (part κ ls gs) h κ1 h1) (mB:Ok κ1 h1) (q:aRu κ1 outs):Ok (back κ κ1 gs outs) h1:=by
 have out : ∀ {g : GA} {r : Nat},outs[r]? = some g → (g.aN κ1).kind = .real → ∃ i L,g = .own i ∧ κ1.aN[i]? = some L ∧ g.aN κ1 = L:=by
  intro g r e1 hk
  cases g with
  | full n sz=>simp [GA.aN] at hk
  | own i =>
   obtain ⟨L,hL⟩:=q.ex _ i e1
   exact ⟨i,L,rfl,hL,by simp [GA.aN,hL]⟩
 have rF:∀ b,boxed κ b→κ1.hw b=0:=by
  intro b hb
  by_cases ho:owned (part κ ls gs) b
  ·rcases ho with h2 | ⟨L,h2,hk,rfl⟩
   ·obtain ⟨l,hl⟩:=h2
    exact mB.rF b ⟨l,le.box l b hl⟩
   ·obtain ⟨_,i,_,e⟩:=pJ p h2 hk
    exact absurd hb (ok.tR L (zyx e) hk)
  ·rw [le.yA b (ok.iK b hb) ho]; exact ok.rF b hb
 have cG : ∀ {L : dX},L ∈ κ1.aN → L.kind = .real → (∃ (r i : Nat) (L0 : dX),gs[r]? = some (.own i) ∧ κ.aN[i]? = some L0 ∧ L0.kind = .real ∧ L0.cG = L.cG) ∨ h.size ≤ L.cG:=by
  intro L hL hk
  rcases le.tQ L hL hk with ⟨L0,e2,e3,e4⟩ | e2
  ·obtain ⟨r,i,e5,e6⟩:=pJ p e2 e3
   exact .inl ⟨r,i,L0,e5,e6,e3,e4⟩
  ·exact .inr e2
 constructor
 ·exact fun b hb=>zuz (ok.iK b hb) le.size
 ·exact rF
 ·exact ok.vN
 ·intro L hL hk
  obtain ⟨j,hj⟩:=List.mem_iff_getElem?.1 hL
  rcases rJ hj with ⟨L0,e1,rfl⟩ | ⟨_,g,e1,rfl⟩
  ·obtain ⟨_,e2⟩:=tF hk
   rw [e2] at hk ⊢
   exact zuz (ok.jJ L0 (zyx e1) hk) le.size
  ·obtain ⟨i,L,_,e2,e3⟩:=out e1 hk
   rw [e3] at hk ⊢
   exact mB.jJ L (zyx e2) hk
 ·intro L hL hk
  obtain ⟨j,hj⟩:=List.mem_iff_getElem?.1 hL
  rcases rJ hj with ⟨L0,e1,rfl⟩ | ⟨_,g,e1,rfl⟩
  ·obtain ⟨e0,e2⟩:=tF hk
   rw [e2] at hk ⊢
   have:=b3p ok p e1 hk e0
   exact (le.yA _ (ok.jJ L0 (zyx e1) hk) this).trans (ok.lhw L0 (zyx e1) hk)
  ·obtain ⟨i,L,_,e2,e3⟩:=out e1 hk
   rw [e3] at hk ⊢
   exact mB.lhw L (zyx e2) hk
 ·intro j j' L L' hj hj' hk hk' he
  rcases rJ hj with ⟨L0,e1,rfl⟩ | ⟨n1,g,e1,rfl⟩ <;> rcases rJ hj' with ⟨L0',e1',rfl⟩ | ⟨n1',g',e1',rfl⟩
  ·obtain ⟨_,e2⟩:=tF hk
   obtain ⟨_,e2'⟩:=tF hk'
   rw [e2] at hk he; rw [e2'] at hk' he
   exact ok.lnd j j' L0 L0' e1 e1' hk hk' he
  ·exfalso
   obtain ⟨e0,e2⟩:=tF hk
   obtain ⟨i,L,_,e3,e4⟩:=out e1' hk'
   rw [e2] at hk he; rw [e4] at hk' he
   rcases cG (zyx e3) hk' with ⟨r,i2,L2,c1,c2,c3,c4⟩ | c1
   ·have:=ok.lnd j i2 L0 L2 e1 c2 hk c3 (by rw [he,c4])
    subst this
    rw [a6j.2 ⟨r,c1⟩] at e0; simp at e0
   ·have:=ok.jJ L0 (zyx e1) hk
    rw [he] at this; omega
  ·exfalso
   obtain ⟨e0,e2⟩:=tF hk'
   obtain ⟨i,L,_,e3,e4⟩:=out e1 hk
   rw [e2] at hk' he; rw [e4] at hk he
   rcases cG (zyx e3) hk with ⟨r,i2,L2,c1,c2,c3,c4⟩ | c1
   ·have:=ok.lnd j' i2 L0' L2 e1' c2 hk' c3 (by rw [← he,c4])
    subst this
    rw [a6j.2 ⟨r,c1⟩] at e0; simp at e0
   ·have:=ok.jJ L0' (zyx e1') hk'
    rw [← he] at this; omega
  ·obtain ⟨i,L,rfl,e3,e4⟩:=out e1 hk
   obtain ⟨i',L',rfl,e3',e4'⟩:=out e1' hk'
   rw [e4] at hk he; rw [e4'] at hk' he
   have:=mB.lnd i i' L L' e3 e3' hk hk' he
   subst this
   have:=q.nd _ _ i e1 e1'
   omega
 ·intro L hL hk hb
  obtain ⟨j,hj⟩:=List.mem_iff_getElem?.1 hL
  have hb:boxed κ L.cG:=hb
  rcases rJ hj with ⟨L0,e1,rfl⟩ | ⟨_,g,e1,rfl⟩
  ·obtain ⟨_,e2⟩:=tF hk
   rw [e2] at hk hb
   exact ok.tR L0 (zyx e1) hk hb
  ·obtain ⟨i,L,_,e2,e3⟩:=out e1 hk
   rw [e3] at hk hb
   rcases cG (zyx e2) hk with ⟨r,i2,L2,c1,c2,c3,c4⟩ | c1
   ·exact ok.tR L2 (zyx c2) c3 (by rw [c4]; exact hb)
   ·have:=ok.iK _ hb; omega
 ·intro L hL hk
  obtain ⟨j,hj⟩:=List.mem_iff_getElem?.1 hL
  rcases rJ hj with ⟨L0,e1,rfl⟩ | ⟨_,g,e1,rfl⟩
  ·obtain ⟨e0,e2⟩:=tF hk
   rw [e2] at hk ⊢
   have:=b3p ok p e1 hk e0
   rw [le.same _ (ok.jJ L0 (zyx e1) hk) this]
   exact ok.rZ L0 (zyx e1) hk
  ·obtain ⟨i,L,_,e2,e3⟩:=out e1 hk
   rw [e3] at hk ⊢
   exact mB.rZ L (zyx e2) hk
 ·exact mB.fresh
 ·intro L hL hk hs
  obtain ⟨j,hj⟩:=List.mem_iff_getElem?.1 hL
  rcases rJ hj with ⟨L0,e1,rfl⟩ | ⟨_,g,e1,rfl⟩
  ·cases hg:uH gs j with
   | true=>rw [hg] at hk; simp [dX.kill] at hk
   | false =>
    rw [hg] at hk hs
    exact ok.xR L0 (zyx e1) hk hs
  ·cases g with
   | full n sz =>
    have hs:sz=1:=of_decide_eq_true hs
    subst hs
    exact q.fu _ n e1
   | own i =>
    obtain ⟨L,hL⟩:=q.ex _ i e1
    simp only [GA.aN,hL,Option.getD_some] at hk hs ⊢
    exact mB.xR L (zyx hL) hk hs
 ·intro L hL hk
  obtain ⟨j,hj⟩:=List.mem_iff_getElem?.1 hL
  rcases rJ hj with ⟨L0,e1,rfl⟩ | ⟨_,g,e1,rfl⟩
  ·have h1:(L0.kill (uH gs j)).bt=L0.bt∧(L0.kill (uH gs j)).sz=L0.sz:=by cases uH gs j <;> exact ⟨rfl,rfl⟩
   rw [h1.1] at hk
   rw [h1.2]; exact ok.lbt L0 (zyx e1) hk
  ·cases g with
   | full n sz =>
    have hs:sz=1:=of_decide_eq_true hk
    subst hs
    rfl
   | own i =>
    obtain ⟨L,hL⟩:=q.ex _ i e1
    simp only [GA.aN,hL,Option.getD_some] at hk ⊢
    exact mB.lbt L (zyx hL) hk
 ·exact ok.tbs.le (aOi p le q)
def zD (gs:List GA) (T:List (Nat×Nat)):List (Nat×Nat):=T.mapIdx fun i x=>bif uH gs i then (0,0) else x
theorem b3q (L:dX) (b:Bool):(L.kill b).told=bif b then (0,0) else L.told:=by
 cases b with
 | false=>rfl
 | true=>simp [dX.kill,dX.told]
theorem b3r (hT:κ.aN.map dX.told=m.T):(back κ κ1 gs outs).aN.map dX.told=zD gs m.T++outs.map fun g=>(g.aN κ1).told:=by
 simp only [back,List.map_append,List.map_map,← hT,zD]
 congr 1
 apply List.ext_getElem?
 intro i
 simp only [zvz,List.getElem?_mapIdx,Option.map_map]
 cases κ.aN[i]? with
 | none=>rfl
 | some L=>simp [b3q]
theorem back_mem (k : Mem κ h m) (p : a0l κ ls gs) (le : Le (part κ ls gs) h κ1 h1) (k1 : Mem κ1 h1 m1) (q : aRu κ1 outs) {H' : List LO} (hlen : H'.length = m.H.length) (hold : ∀ l,(∀ b : Nat,ls[b]? ≠ some l) → H'[l]? = m.H[l]?)
  (hnew : ∀ (b l cG : Nat) c,ls[b]? = some l → κ.box l = some cG → H'[l]? = some c → ∃ o,h1[cG]? = some o ∧ a92 (back κ κ1 gs outs) h1 c o) {T' : List (Nat × Nat)} (hT : zD gs m.T ++ outs.map (fun g=>(g.aN κ1).told) = T') :
  Mem (back κ κ1 gs outs) h1 ⟨H',T'⟩:=by
 obtain ⟨ok,hp,ht⟩:=k
 refine ⟨bBl ok p le k1.1 q,⟨fun l b hb=>by rw [hlen]; exact hp.1 l b hb,fun l b c h1' h2=>?_⟩,by rw [← hT]; exact b3r ht⟩
 have hb:κ.box l=some b:=h1'
 by_cases hl : ∃ r : Nat,ls[r]? = some l
 ·obtain ⟨r,hr⟩:=hl
  exact hnew r l b c hr hb h2
 ·have hl : ∀ r : Nat,ls[r]? ≠ some l:=fun r e=>hl ⟨r,e⟩
  simp only at h2
  rw [hold l hl] at h2
  obtain ⟨o,h3,h4⟩:=hp.2 l b c hb h2
  have no:¬ owned (part κ ls gs) b:=by
   rintro (⟨r,e⟩ | ⟨L,e,hk,rfl⟩)
   ·simp only [part,zwz] at e
    obtain ⟨l',e1,e2⟩:=e
    rw [ok.vN l' l b e2 hb] at e1
    exact hl r e1
   ·obtain ⟨_,i,_,e3⟩:=pJ p e hk
    exact ok.tR L (zyx e3) hk ⟨l,hb⟩
  exact ⟨o,by rw [le.same b (ok.iK b ⟨l,hb⟩) no]; exact h3,h4.mono (aOi p le q)⟩
theorem b7e (k : Mem κ h m) (p : a0l κ ls gs) {ms : List LO} (hms : ms.length = ls.length) (hr : ∀ (b l cG : Nat) c,ls[b]? = some l → κ.box l = some cG → ms[b]? = some c → ∃ o,h[cG]? = some o ∧ a92 (part κ ls gs) h c o) :
  Mem (part κ ls gs) h ⟨ms,(part κ ls gs).aN.map dX.told⟩:=by
 refine ⟨bBk k.1 p,⟨fun b cG hb=>?_,fun b cG c hb hc=>?_⟩,rfl⟩
 ·simp only [part,zwz] at hb
  obtain ⟨l,h1,_⟩:=hb
  rw [hms]; exact (zzy.1 h1).1
 ·simp only [part,zwz] at hb
  obtain ⟨l,h1,h2⟩:=hb
  exact hr b l cG c h1 h2 hc
end
end Go.Fbs

/- Common texts: values, words, what they answer; no statement of the seat. -/
import Derived.Test.YthakklikgmcgdaaGreatDoorR0
import Derived.LoopN
set_option linter.unusedSimpArgs false
set_option linter.unusedVariables false
set_option linter.unusedSectionVars false
/- Code: what holds behind it; functions. -/
namespace Go.Fbs
def AW (P:Program) (c:Code) (s:St) (Q:Exit→St→Prop):Prop :=
 ∀ (κ:Ctx) (w:World) (a:Act),Mem κ w.heap s.m→EnvOk κ w.heap s.env a→∀ R:Exit→Act→World→Prop,
  (∀ e s' κ' w' a',Q e s'→Ext κ w s.m κ' w' s'.m→EnvOk κ' w'.heap s'.env a'→R e a' w')→c.wp P R a w
section
variable {P:Program} {C:bZ} {s:St} {Q:Exit→St→Prop}
theorem AW.mono {c:Code} {Q':Exit→St→Prop} (h:AW P c s Q) (hq:∀ e s,Q e s→Q' e s):AW P c s Q' :=
 fun κ w a k re R hR=>h κ w a k re R (fun e s' κ' w' a' q=>hR e s' κ' w' a' (hq e s' q))
theorem aYr (h:Q .normal s):AW P .skip s Q:=fun κ w a k re R hR=>wp_skip (hR _ _ κ w a h (Ext.refl k) re)
theorem aUj {l:Nat} (h:Q .normal s):AW P (.label l) s Q:=fun κ w a k re R hR=>wp_label (hR _ _ κ w a h (Ext.refl k) re)
theorem aYs {id:Nat} (h:Q (.exit id) s):AW P (.exit id) s Q:=fun κ w a k re R hR=>wp_exit (hR _ _ κ w a h (Ext.refl k) re)
theorem b0d (h:Q .ret s):AW P .ret s Q:=fun κ w a k re R hR=>wp_ret (hR _ _ κ w a h (Ext.refl k) re)
def aXc (next:St→Prop) (Q:Exit→St→Prop):Exit→St→Prop
 | .normal,s=>next s
 | e,s=>Q e s
theorem aRj {x y:Code} (h:AW P x s (aXc (fun s'=>AW P y s' Q) Q)):AW P (.seq x y) s Q:=by
 intro κ w a k re R hR
 refine wp_seq (h κ w a k re _ fun e s' κ' w' a' hq hx hr=>?_)
 cases e with
 | normal=>exact hq κ' w' a' hx.mem hr R (fun e2 s2 κ2 w2 a2 q2 hx2 hr2=>hR e2 s2 κ2 w2 a2 q2 (hx.trans hx2) hr2)
 | _=>exact hR _ s' κ' w' a' hq hx hr
theorem aGa {c:Operand} {x y:Code} {t:Bool} (hc:ev s.env c=some (.bool t)) (h:AW P (if t then x else y) s Q):AW P (.cond c x y) s Q :=
 fun κ w a k re R hR=>wp_cond (rep_bool (re.ev hc)) (h κ w a k re R hR)
def aEi (id:Nat) (Q:Exit→St→Prop):Exit→St→Prop
 | .exit j,s=>if j=id then Q .normal s else Q (.exit j) s
 | e,s=>Q e s
theorem aJr {id:Nat} {c:Code} (h:AW P c s (aEi id Q)):AW P (.block id c) s Q:=by
 intro κ w a k re R hR
 refine wp_block (h κ w a k re _ fun e s' κ' w' a' hq hx hr=>?_)
 cases e with
 | exit j =>
  simp only [Exit.inBlock]
  simp only [aEi] at hq
  split
  ·rename_i hj; rw [if_pos hj] at hq; exact hR _ s' κ' w' a' hq hx hr
  ·rename_i hj; rw [if_neg hj] at hq; exact hR _ s' κ' w' a' hq hx hr
 | _=>exact hR _ s' κ' w' a' hq hx hr
theorem aRk (hC:Sound P C) {id:Nat} {ops:List Oper} {env':Env} {m':Hp} (e:iR P C ops ops s.env s.m=some (env',m')) (h:Q .normal ⟨env',m'⟩):AW P (.region id ops.toArray false) s Q :=
 fun κ w a k re R hR=>wp_region_lit (a9s hC e κ w a k re (fun κ' w' a' hx hr=>hR _ ⟨env',m'⟩ κ' w' a' h hx hr))
theorem aUk (hC:Sound P C) (n:Nat) {id:Nat} {ops:List Oper} {env':Env} {m':Hp} (hm:P.follows .mixedOrders=true) (hd:drawOk ops n=true) (e:a4c P C ops n s.env s.m=some (env',m'))
  (h:Q .normal ⟨env',m'⟩):AW P (.region id ops.toArray true) s Q :=
 fun κ w a k re R hR=>drawn_sound hC hd hm e k re (fun κ' w' a' hx hr=>hR _ ⟨env',m'⟩ κ' w' a' h hx hr)
def resVs (P:Program) (env:Env) (H:List LO):List ResultVar→Option (List V)
 | []=>some []
 | .tmp t::r =>
  match env.get t,resVs P env H r with
  | some v,some vs=>some (v::vs)
  | _,_=>none
 | .cell t ty::r =>
  match env.get t,resVs P env H r with
  | some u,some vs=>(loadV P ty H u).map (· :: vs)
  | _,_=>none
def resV (P:Program) (rs:List ResultVar) (s:St):Option V :=
 match resVs P s.env s.m.H rs with
 | some [v]=>some v
 | some vs=>some (.tup vs)
 | none=>none
theorem resVs_run {κ:Ctx} {w:World} {a:Act} {env:Env} {m:Hp} (k:Mem κ w.heap m) (re:EnvOk κ w.heap env a):∀ {rs:List ResultVar} {vs:List V},resVs P env m.H rs=some vs →
  ∃ xs:List Value,(rs.mapM (fun r=>match r with | .tmp t=>pure (a.tmps.getD t undef) | .cell b t=>do loadVar t (← asAddr (a.tmps.getD b undef))):Sem (List Value)).run P w = .ok xs w∧Reps κ w.heap vs xs
 | [],vs,e=>by simp [resVs] at e; subst e; exact ⟨[],by simp,Reps.nil⟩
 | .tmp t::rs,vs,e=>by
  simp only [resVs] at e
  split at e <;> simp at e
  rename_i v vs' h1 h2
  subst e
  obtain ⟨xs,h3,h4⟩:=resVs_run k re h2
  refine ⟨a.tmps.getD t undef::xs,?_,Reps.cons (by have:=re.ev (x:=.tmp t) h1; simpa [Act.eval] using this) h4⟩
  simp only [List.mapM_cons,Sem.run_bind,Sem.run_pure,Result.andThen_ok]
  rw [h3]; rfl
 | .cell t ty::rs,vs,e=>by
  simp only [resVs] at e
  split at e
  ·rename_i u vs' h1 h2
   simp only [Option.map_eq_some_iff] at e
   obtain ⟨v,h5,rfl⟩:=e
   obtain ⟨xs,h3,h4⟩:=resVs_run k re h2
   have hu:Rep κ w.heap u (a.tmps.getD t undef):=by have:=re.ev (x:=.tmp t) h1; simpa [Act.eval] using this
   obtain ⟨y,hy,ry⟩:=aJj (P:=P) k hu h5
   refine ⟨y::xs,?_,Reps.cons ry h4⟩
   have hload:(do loadVar ty (← asAddr (a.tmps.getD t undef)):Sem Value).run P w = .ok y w:=by
    cases u <;> simp only [loadV] at h5 <;> try (simp at h5; done)
    ·obtain ⟨b,_,he⟩:=rep_ptr hu
     rw [he] at hy ⊢
     simpa [Instr.loadAt,Instr.sureAddr,asAddr] using hy
    ·obtain ⟨b,off,ys,_,_,he⟩:=aD8 hu
     rw [he] at hy ⊢
     simpa [Instr.loadAt,Instr.sureAddr,asAddr] using hy
   simp only [List.mapM_cons,Sem.run_bind]
   simp only [Sem.run_bind] at hload
   rw [hload]
   simp only [Result.andThen_ok]
   rw [h3]; rfl
  ·simp at e
theorem resV_run {κ:Ctx} {w:World} {a:Act} {s:St} {fn:Func} {v:V} (k:Mem κ w.heap s.m) (re:EnvOk κ w.heap s.env a) (e:resV P fn.results.toList s=some v) :
  ∃ x,(results fn a.tmps).run P w = .ok x w∧Rep κ w.heap v x:=by
 unfold resV at e
 cases hv:resVs P s.env s.m.H fn.results.toList with
 | none=>simp [hv] at e
 | some vs =>
  obtain ⟨xs,h1,h2⟩:=resVs_run k re hv
  have hrun:(results fn a.tmps).run P w = .ok (if h:(⟨xs⟩:Array Value).size=1 then (⟨xs⟩:Array Value)[0] else .tuple ⟨xs⟩) w:=by
   unfold results
   rw [Array.mapM_eq_mapM_toList]
   simp only [Sem.run_bind,Sem.run_map]
   exact (congrArg (fun r:Result (List Value)=>(r.andThen fun a w'=>Result.ok a.toArray w').andThen fun a w'=>Sem.run P (pure (if h:a.size=1 then a[0] else Value.tuple a)) w') h1).trans (by simp)
  rw [hv] at e
  cases vs with
  | nil =>
   simp at e; subst e
   obtain rfl:=h2.inv_nil
   exact ⟨.tuple ⟨[]⟩,by rw [hrun]; rfl,.tup _ _ rfl (by simp)⟩
  | cons u us =>
   obtain ⟨x,xs',rfl,rx,r'⟩:=h2.inv_cons
   cases us with
   | nil =>
    simp at e; subst e
    obtain rfl:=r'.inv_nil
    exact ⟨x,by rw [hrun]; rfl,rx⟩
   | cons u' us' =>
    simp at e; subst e
    refine ⟨.tuple ⟨x::xs'⟩,?_,.tup _ _ h2.1 h2.2⟩
    rw [hrun,dif_neg]
    have:=h2.1
    simp at this ⊢
    intro h; subst h; simp at this
end
end Go.Fbs

/- Functions that only read: from what the evaluator says of the body to what a call does,in whatever memory. -/
namespace Go.Fbs
mutual
def V.plain:V→Bool
 | .ptr _ _=>false
 | .map (some _)=>false
 | .xO ..=>false
 | .sl (.own _) _=>false
 | .sl _ es=>bT es
 | .agg cs=>bT cs
 | .ro cs=>bT cs
 | .func _ cs=>bT cs
 | .tup vs=>bT vs
 | _=>true
def bT:List V→Bool
 | []=>true
 | v::vs=>v.plain && bT vs
end
theorem bS:∀ {vs:List V},bT vs=true↔∀ v ∈ vs,v.plain=true
 | []=>by simp [bT]
 | v::vs=>by simp [bT,bS (vs:=vs)]
theorem aMl {v:V} (h:v.plain=true):∀ c ∈ v.cells,c.plain=true:=by
 cases v with
 | agg cs=>simp only [V.plain] at h; exact bS.1 h
 | _=>intro c hc; simp [V.cells] at hc; subst hc; exact h
theorem xQ {es:List V} (h:bT es=true):∀ c ∈ flat es,c.plain=true:=by
 intro c hc
 simp only [flat,List.mem_flatMap] at hc
 obtain ⟨e,he,hc⟩:=hc
 exact aMl (bS.1 h e he) c hc
theorem a03 {κ κ':Ctx} {h:Heap} (hw:∀ b,κ.hw b≤κ'.hw b) {v:V} {x:Value} (r:Rep κ h v x) (hp:v.plain=true):Rep κ' h v x:=by
 have hb:∀ {b off:Nat} {xs:List Value},Block κ h b off xs→Block κ' h b off xs:=fun hx i y hy=>let ⟨h1,h2⟩:=hx i y hy; ⟨Nat.lt_of_lt_of_le h1 (hw _),h2⟩
 induction r with
 | bool b=>exact .bool b
 | int k n=>exact .int k n
 | str s=>exact .str s
 | ptr l off b _=>simp [V.plain] at hp
 | ro cs b off xs hx hl _ ih =>
  simp only [V.plain] at hp
  exact .ro cs b off xs (hb hx) hl (fun i c x h1 h2=>ih i c x h1 h2 (bS.1 hp c (List.mem_of_getElem? h1)))
 | nilp=>exact .nilp
 | slnil g hg =>
  cases g with
  | own i=>simp [V.plain] at hp
  | ro=>exact .slnil _ (by simp)
  | full=>exact .slnil _ (by simp)
 | sl g es b off cap sz xs hx hu hl _ hc ht ih =>
  cases g with
  | own i=>simp [V.plain] at hp
  | ro =>
   simp only [V.plain] at hp
   exact .sl .ro es b off cap sz xs (hb hx) hu hl (fun i c x h1 h2=>ih i c x h1 h2 (xQ hp c (List.mem_of_getElem? h1))) hc trivial
  | full =>
   simp only [V.plain] at hp
   exact .sl .full es b off cap sz xs (hb hx) hu hl (fun i c x h1 h2=>ih i c x h1 h2 (xQ hp c (List.mem_of_getElem? h1))) hc ht
 | mapnil=>exact .mapnil
 | map l b _=>simp [V.plain] at hp
 | xO l off n c b cap _ _ _=>simp [V.plain] at hp
 | func f caps xs hl _ ih =>
  simp only [V.plain] at hp
  exact .func f caps xs hl (fun i c x h1 h2=>ih i c x h1 h2 (bS.1 hp c (List.mem_of_getElem? h1)))
 | agg cs xs hl ho _ ih =>
  simp only [V.plain] at hp
  exact .agg cs xs hl ho (fun i c x h1 h2=>ih i c x h1 h2 (bS.1 hp c (List.mem_of_getElem? h1)))
 | tup cs xs hl _ ih =>
  simp only [V.plain] at hp
  exact .tup cs xs hl (fun i c x h1 h2=>ih i c x h1 h2 (bS.1 hp c (List.mem_of_getElem? h1)))
 | undef=>exact .undef
 | any x=>exact .any x
theorem aO1 {κ κ':Ctx} {h:Heap} (hw:∀ b,κ.hw b≤κ'.hw b) {vs:List V} {xs:List Value} (r:Reps κ h vs xs) (hp:bT vs=true):Reps κ' h vs xs :=
 ⟨r.1,fun i c x h1 h2=>a03 hw (r.2 i c x h1 h2) (bS.1 hp c (List.mem_of_getElem? h1))⟩
def bare (κ:Ctx):Ctx:=⟨κ.hw,fun _=>none,[]⟩
def empty:Hp:=⟨[],[]⟩
theorem a7h {κ:Ctx} {b:Nat} : ¬ owned (bare κ) b:=by
 rintro (⟨l,h⟩ | ⟨L,h,_⟩) <;> simp [bare] at h
theorem aUl {κ:Ctx} {h:Heap} {m:Hp} (k:Mem κ h m):Mem (bare κ) h empty:=by
 refine ⟨⟨?_,?_,?_,?_,?_,?_,?_,?_,k.1.fresh,?_,?_,k.1.tP.aJg.tP fun b=>a7h⟩,⟨?_,?_⟩,rfl⟩ <;> intros <;> simp_all [bare,boxed]
theorem aMm {κ κ1:Ctx} {h h1:Heap} {m m1:Hp} (k:Mem κ h m) (le:Le (bare κ) h κ1 h1) (mem:Mem κ1 h1 m1):∃ κ',LeB κ h κ' h1∧Mem κ' h1 m∧κ'.hw=κ1.hw:=by
 let κ':Ctx:=⟨κ1.hw,κ.box,κ.aN⟩
 obtain ⟨ok,hp,hT⟩:=k
 have hsame : ∀ b,b < h.size → h1[b]? = h[b]?:=fun b hb=>le.same b hb a7h
 have hhw:∀ b,b < h.size→κ1.hw b=κ.hw b:=fun b hb=>le.sM b hb a7h
 have l:Le κ h κ' h1:=⟨le.size,fun b hb _=>hsame b hb,fun b hb _=>hhw b hb,le.tX,le.hw,fun _ _ h=>h,fun _ h=>.inl h,fun _ L h=>⟨L,h,.inl rfl⟩,fun L h hk=>.inl ⟨L,h,hk,rfl⟩⟩
 refine ⟨κ',⟨l,rfl⟩,⟨?_,hp.mono l rfl (fun b hb=>hsame b (ok.iH b hb)),hT⟩,rfl⟩
 constructor
 ·intro b hb; exact Nat.lt_of_lt_of_le (ok.iH b hb) le.size
 ·intro b hb; exact (hhw b (ok.iH b hb)).trans (ok.nP b hb)
 ·exact ok.rE
 ·intro L hL hk; exact Nat.lt_of_lt_of_le (ok.j9 L hL hk) le.size
 ·intro L hL hlv; exact (hhw L.blk (ok.j9 L hL (nf hlv))).trans (ok.lhw L hL hlv)
 ·exact ok.zH
 ·exact ok.rF
 ·intro L hL hlv
  obtain ⟨c,E,fr,h2,h3⟩:=ok.oO L hL hlv
  exact ⟨c,E,fr,by rw [hsame _ (ok.j9 L hL (nf hlv))]; exact h2,h3⟩
 ·exact mem.1.fresh
 ·exact ok.uS
 ·exact ok.lbt
 ·exact ok.tP.le l
theorem aO2 {κ κ1:Ctx} {w w1:World} {m m1:Hp} (k:Mem κ w.heap m) (x:Ext (bare κ) w empty κ1 w1 m1):∃ κ',LeW κ w κ' w1∧Mem κ' w1.heap m∧κ'.hw=κ1.hw :=
 let ⟨κ',l,k',h⟩:=aMm k x.le x.mem
 ⟨κ',⟨l,x.os,x.out⟩,k',h⟩
section
variable {P:Program}
def entry (n:Nat) (args:List V):Env:=⟨n,fun i=>args.getD i .undef⟩
theorem envOk_entry {κ:Ctx} {h:Heap} {args:List V} {xs:List Value} (r:Reps κ h args xs) {n:Nat} (hn:args.length≤n) :
  EnvOk κ h (entry n args) { tmps:=(⟨xs⟩:Array Value)++Array.replicate (n - (⟨xs⟩:Array Value).size) Go.undef,defers:=[] }:=by
 have hl:(⟨xs⟩:Array Value).size=args.length:=r.1
 refine ⟨rfl,by simp [entry]; have:=r.1; omega,fun i v x h1 h2=>?_⟩
 have hi:i < n:=Env.wF h1
 unfold Env.get entry at h1
 simp only at h1
 rw [if_pos hi] at h1
 simp only [Option.some.injEq] at h1
 rw [Array.getElem?_append,hl] at h2
 by_cases hia:i < args.length
 ·rw [if_pos hia] at h2
  rw [List.getD_eq_getElem?_getD,List.getElem?_eq_getElem hia] at h1
  simp only [Option.getD_some] at h1
  exact r.2 i v x (by rw [List.getElem?_eq_getElem hia,h1]) (by simpa using h2)
 ·rw [if_neg hia] at h2
  rw [List.getD_eq_getElem?_getD,List.getElem?_eq_none (by omega)] at h1
  simp only [Option.getD_none] at h1
  rw [Array.getElem?_replicate] at h2
  split at h2 <;> simp at h2
  subst h1; subst h2
  exact .undef
end
end Go.Fbs

/- The evaluator,stepped: what is left to show behind a region,as one formula over its bM. -/
namespace Go.Fbs
def opt (o:Option V) (k:V→Prop):Prop :=
 match o with
 | some v=>k v
 | none=>False
def b3g (o:Option (List V)) (k:List V→Prop):Prop :=
 match o with
 | some v=>k v
 | none=>False
def b3h (o:Option (V×Hp)) (k:V→Hp→Prop):Prop :=
 match o with
 | some (v,m)=>k v m
 | none=>False
def b7 (g:V) (want:Bool) (o:Option V):Option V :=
 match g with
 | .bool b=>if b == want then o else some .undef
 | .undef=>some .undef
 | _=>none
def a04 (g:V) (want:Bool) (A B:Prop):Prop :=
 match g with
 | .bool b=>if b == want then A else B
 | .undef=>B
 | _=>False
def kA (ops:List Oper) (env:Env) (j:Nat):Option V:=((ops[j]?).bind (·.dst)).bind env.get
theorem a9t {ops:List Oper} {env:Env} {o:Oper} {j:Nat} {want:Bool} (hg:o.guard=some (j,want)) :
  kQ ops env o=match kA ops env j with | some (.bool b)=>some (b == want) | some .undef=>some false | _=>none:=by
 unfold kQ kA; rw [hg]
 rfl
def xR (P:Program) (C:bZ) (op:Op) (env:Env) (m:Hp) (k:V→Hp→Prop):Prop :=
 if lH C op then opt (aY P C env m.H op) fun v=>k v m
 else if mM op then b3g (tQ P env op) fun cs=>k (.ptr m.H.length 0) { m with H:=m.H++[.cells (zQ op) cs] }
 else b3h (evalW P C env m op) k
def iF (P:Program) (C:bZ) (ops:List Oper):List Oper→Env→Hp→(Env→Hp→Prop)→Prop
 | [],env,m,K=>K env m
 | o::rest,env,m,K =>
  match o.guard with
  | none=>xR P C o.op env m fun v m'=>iF P C ops rest (putV env o.dst v) m' K
  | some (j,want) =>
   match kA ops env j with
   | some g =>
    if lH C o.op then opt (b7 g want (aY P C env m.H o.op)) fun v=>iF P C ops rest (putV env o.dst v) m K
    else a04 g want (xR P C o.op env m fun v m'=>iF P C ops rest (putV env o.dst v) m' K) (iF P C ops rest (putV env o.dst .undef) m K)
   | none=>False
theorem aEj {P:Program} {C:bZ} {op:Op} {env:Env} {m:Hp} {k:V→Hp→Prop} (h:xR P C op env m k):∃ v m',evalOp P C env m op=some (v,m')∧k v m':=by
 unfold xR at h
 unfold evalOp
 split at h
 ·rename_i hq
  rw [if_pos hq]
  cases he:aY P C env m.H op with
  | none=>rw [he] at h; exact h.elim
  | some v=>rw [he] at h; exact ⟨v,m,rfl,h⟩
 ·rename_i hq
  rw [if_neg hq]
  split at h
  ·rename_i ha
   rw [if_pos ha]
   cases he:tQ P env op with
   | none=>rw [he] at h; exact h.elim
   | some cs=>rw [he] at h; exact ⟨_,_,rfl,h⟩
  ·rename_i ha
   rw [if_neg ha]
   cases he:evalW P C env m op with
   | none=>rw [he] at h; exact h.elim
   | some r=>rw [he] at h; exact ⟨r.1,r.2,rfl,h⟩
theorem n7 {P:Program} {C:bZ} {ops:List Oper} {K:Env→Hp→Prop} : ∀ {rest:List Oper} {env:Env} {m:Hp},iF P C ops rest env m K→∃ env' m',iR P C ops rest env m=some (env',m')∧K env' m'
 | [],env,m,h=>⟨env,m,rfl,h⟩
 | o::rest,env,m,h=>by
  simp only [iF] at h
  simp only [iR]
  split at h
  ·rename_i hg
   have:kQ ops env o=some true:=by unfold kQ; rw [hg]
   rw [this]
   obtain ⟨v,m',h1,h2⟩:=aEj h
   simp only [h1]
   exact n7 h2
  ·rename_i j want hg
   rw [a9t hg]
   split at h
   ·rename_i g hgv
    rw [hgv]
    split at h
    ·rename_i hq
     unfold b7 at h
     cases g with
     | bool b =>
      simp only at h ⊢
      by_cases hb:(b == want)=true
      ·rw [if_pos hb] at h
       rw [hb]
       simp only
       unfold evalOp
       rw [if_pos hq]
       cases he:aY P C env m.H o.op with
       | none=>rw [he] at h; exact h.elim
       | some v=>rw [he] at h; simp only [Option.map_some]; exact n7 h
      ·rw [if_neg hb] at h
       have hb':(b == want)=false:=by simpa using hb
       rw [hb']
       simp only
       exact n7 h
     | undef=>exact n7 h
     | _=>exact h.elim
    ·unfold a04 at h
     cases g with
     | bool b =>
      simp only at h ⊢
      by_cases hb:(b == want)=true
      ·rw [if_pos hb] at h
       rw [hb]
       obtain ⟨v,m',h1,h2⟩:=aEj h
       simp only [h1]
       exact n7 h2
      ·rw [if_neg hb] at h
       have hb':(b == want)=false:=by simpa using hb
       rw [hb']
       simp only
       exact n7 h
     | undef=>exact n7 h
     | _=>exact h.elim
   ·exact h.elim
theorem a2v {P:Program} {C:bZ} {ops:List Oper} {T:List (Nat×Nat)} : ∀ {rest tail:List Oper} {env:Env} {H:List LO} {K:Env→Hp→Prop},rest.all (fun o=>lH C o.op || (mM o.op && o.guard.isNone))=true →
  iF P C ops (rest++tail) env ⟨H,T⟩ K→∃ env' H',a3d P C ops rest (env,H)=some (env',H')∧iF P C ops tail env' ⟨H',T⟩ K
 | [],tail,env,H,K,_,h=>⟨env,H,rfl,h⟩
 | o::rest,tail,env,H,K,ha,h=>by
  simp only [List.all_cons,Bool.and_eq_true] at ha
  obtain ⟨ha1,ha2⟩:=ha
  simp only [List.cons_append,iF] at h
  simp only [a3d,a3c]
  split at h
  ·rename_i hg
   have:kQ ops env o=some true:=by unfold kQ; rw [hg]
   rw [this]
   simp only
   unfold xR at h
   split at h
   ·rename_i hq
    rw [if_pos hq]
    cases he:aY P C env H o.op with
    | none=>simp only at h; rw [he] at h; exact h.elim
    | some v=>simp only at h; rw [he] at h; simp only [Option.map_some]; exact a2v ha2 h
   ·rename_i hq
    rw [if_neg hq]
    have hA:mM o.op=true:=by
     have:=ha1
     simp only [Bool.or_eq_true,Bool.and_eq_true] at this
     rcases this with h1 | h1
     ·exact absurd h1 hq
     ·exact h1.1
    rw [if_pos hA] at h
    cases he:tQ P env o.op with
    | none=>rw [he] at h; exact h.elim
    | some cs=>rw [he] at h; simp only [Option.map_some]; exact a2v ha2 h
  ·rename_i j want hg
   rw [a9t hg]
   have hq:lH C o.op=true:=by
    simpa [hg] using ha1
   split at h
   ·rename_i g hgv
    rw [hgv]
    rw [if_pos hq] at h
    unfold b7 at h
    cases g with
    | bool b =>
     simp only at h ⊢
     by_cases hb:(b == want)=true
     ·rw [if_pos hb] at h
      rw [hb]
      simp only
      rw [if_pos hq]
      cases he:aY P C env H o.op with
      | none=>rw [he] at h; exact h.elim
      | some v=>rw [he] at h; simp only [Option.map_some]; exact a2v ha2 h
     ·rw [if_neg hb] at h
      have hb':(b == want)=false:=by simpa using hb
      rw [hb']
      simp only
      exact a2v ha2 h
    | undef=>exact a2v ha2 h
    | _=>exact h.elim
   ·exact h.elim
structure aO3 (p:Prop):Prop where
 out:p
section
variable {P:Program} {C:bZ} {s:St} {Q:Exit→St→Prop}
theorem aO4 (hC:Sound P C) {id:Nat} {ops:List Oper} (h:∀ K:Env→Hp→Prop,aO3 (∀ env m,Q .normal ⟨env,m⟩→K env m)→iF P C ops ops s.env s.m K):AW P (.region id ops.toArray false) s Q:=by
 obtain ⟨env',m',h1,h2⟩:=n7 (h (fun env m=>Q .normal ⟨env,m⟩) ⟨fun _ _ h=>h⟩)
 exact aRk hC h1 h2
theorem aRl (hC:Sound P C) (n:Nat) {id:Nat} {ops:List Oper} (hm:P.follows .mixedOrders=true) (hd:drawOk ops n=true) (ha:(ops.take n).all (fun o=>lH C o.op || (mM o.op && o.guard.isNone))=true)
  (h:∀ K:Env→Hp→Prop,aO3 (∀ env m,Q .normal ⟨env,m⟩→K env m)→iF P C ops ops s.env s.m K):AW P (.region id ops.toArray true) s Q:=by
 have h0:=h (fun env m=>Q .normal ⟨env,m⟩) ⟨fun _ _ h=>h⟩
 rw [show iF P C ops ops s.env s.m=iF P C ops (ops.take n++ops.drop n) s.env s.m by rw [List.take_append_drop]] at h0
 obtain ⟨env1,H1,h1,h2⟩:=a2v (T:=s.m.T) ha h0
 obtain ⟨env',m',h3,h4⟩:=n7 h2
 exact aUk hC n hm hd (by unfold a4c; rw [h1]; exact h3) h4
end
abbrev PT:=FuncId→List V→Option V
abbrev ET:=FuncId→List V→Hp→Option (V×Hp)
end Go.Fbs

/- Rules for simp over the regions' formulas; the steps of a proof. -/
namespace Go.Fbs
section
variable (P:Program) (t:TypeId) (k:IntKind) (a b:Int) (s u:List UInt8)
end
theorem dN {x:Int} (h1 : -9223372036854775808≤x) (h2:x≤9223372036854775807):IntKind.i64.wrap x=x:=by
 rw [IntKind.wrap_i64]; omega
section
variable {P:Program} {C:bZ} {s:St} {Q:Exit→St→Prop}
end
end Go.Fbs

/- The small functions without a program: what a type's number says is written in. -/
namespace Go.Fbs
def fG:V→Option V
 | .str s=>some (.int .i64 s.length)
 | _=>none
def lenL:V→Option V
 | .sl _ es=>some (.int .i64 es.length)
 | _=>none
def nH (a:Bool) (n:Nat) (cs:List V):Option V:=if a then (if n≤cs.length then some (.agg (cs.take n)) else none) else cs[0]?
def nI (a:Bool) (n:Nat) (cs:List V) (off:Nat):Option V:=if a then (if off+n≤cs.length then some (.agg ((cs.drop off).take n)) else none) else cs[off]?
def b4y (a:Bool) (n:Nat) (H:List LO) (x:V):Option V :=
 match x with
 | .ptr l off =>
  match H[l]? with
  | some (.cells _ cs)=>nH a n (cs.drop off)
  | _=>none
 | .ro cs=>nH a n cs
 | _=>none
def b4e (n:Nat) (x y:V) (m:Hp):Option (V×Hp) :=
 match x with
 | .ptr l off =>
  match m.H[l]? with
  | some (.cells e cs)=>if y.ok1=true∧y.cells.length=n∧off+n≤cs.length then some (.undef,{ m with H:=m.H.set l (.cells e (a52 cs y.cells off)) }) else none
  | _=>none
 | _=>none
def a5f (n:Nat) (len:Nat) (ps:List (Nat×V)):Option V :=
 if nC ps then
  match sN 0 ps with
  | some es=>if es.length=len∧len*n≤1000000∧es.all (fun e=>e.cells.length == n)=true then some (.sl .full (es.map V.er)) else none
  | none=>none
 else none
def cO (x:V) (lo hi:Option V):Option V :=
 match x with
 | .str s =>
  match iE hi s.length s.length with
  | some h =>
   match iE lo 0 h with
   | some l=>some (.str ((s.take h).drop l))
   | none=>none
  | none=>none
 | _=>none
def aEk (n:Nat) (x:V) (lo hi:Option V):Option V :=
 match x with
 | .sl g es =>
  match iE hi es.length es.length with
  | some h =>
   match iE lo 0 h with
   | some l=>if es.all (fun e=>e.cells.length == n)=true then some (.sl (pE g l hi.isSome) ((es.take h).drop l)) else none
   | none=>none
  | none=>none
 | _=>none
def cV (x i:V):Option V :=
 match x,i with
 | .str s,.int _ n=>if 0≤n then s[n.toNat]?.map fun b=>.int .u8 b.toNat else none
 | _,_=>none
def a3f (len:Nat) (a:Bool) (sz:Nat) (x i:V):Option V :=
 match x,i with
 | .agg cs,.int _ n=>if 0≤n∧n < len then nI a sz cs (n.toNat*sz) else none
 | _,_=>none
def a7i (off:Nat) (x:V):Option V :=
 match x with
 | .ptr l o=>some (.ptr l (o+off))
 | .ro cs=>some (.ro (cs.drop off))
 | _=>none
def a9u (a:Bool) (n off:Nat) (x:V):Option V :=
 match x with
 | .agg cs=>nI a n cs off
 | _=>none
def xS (sz:Nat) (x i:V):Option V :=
 match x,i with
 | .sl _ es,.int _ n=>if 0≤n then (es[n.toNat]?).bind fun e=>if e.cells.length=sz then some (.ro e.cells) else none else none
 | _,_=>none
def a2a (len sz:Nat) (x i:V):Option V :=
 match x,i with
 | .ptr l off,.int _ n=>if 0≤n∧n < len∧1 < len then some (.ptr l (off+n.toNat*sz)) else none
 | _,_=>none
def kF (k:IntKind) (x:V):Option V :=
 match x with
 | .int _ n=>some (.int k (k.wrap n))
 | _=>none
def sP (x:V):Option V :=
 match x with
 | .str s=>some (.str s)
 | _=>none
def mN (x:V):Option V :=
 match x with
 | .sl _ es=>(es.mapM (fun (v:V)=>match v with | .int .u8 n=>some (UInt8.ofNat n.toNat) | _=>none)).map V.str
 | _=>none
def a7j (cd:Nat) (z:V) (by_:Nat) (l c:V) (m:Hp):Option (V×Hp) :=
 match l,c with
 | .int _ n,.int _ k =>
  if 0≤n∧n≤k∧k≤9223372036854775807∧by_*k≤140737488355328 then
   if n=k then some (.sl .full (List.replicate n.toNat z),m)
   else some (.sl (.own m.T.length) (List.replicate n.toNat z),{ m with T:=m.T++[(n.toNat,cd)] })
  else none
 | _,_=>none
def zT (sz cd by_:Nat) (x:V) (ys:List V) (m:Hp):Option (V×Hp) :=
 match x with
 | .sl g es =>
  if (es.length+ys.length)*(by_+1)≤70368744177664∧es.all (fun e=>e.cells.length == sz)=true∧ys.all (fun e=>e.cells.length == sz)=true then
   if ys=[] then some (.sl g es,m) else
   match g with
   | .full=>some (.sl (.own m.T.length) (es++ys),{ m with T:=m.T++[(es.length+ys.length,cd)] })
   | .own i=>if m.T[i]? = some (es.length,cd) then some (.sl (.own i) (es ++ ys),{ m with T:=m.T.set i (es.length + ys.length,cd) }) else none
   | .ro=>none
  else none
 | _=>none
def aNo (sz cd by_:Nat) (x y:V) (m:Hp):Option (V×Hp) :=
 match y with
 | .sl _ ys=>zT sz cd by_ x ys m
 | _=>none
def aJs (cd by_:Nat) (x y:V) (m:Hp):Option (V×Hp) :=
 match y with
 | .str s=>zT 1 cd by_ x (s.map fun b=>.int .u8 b.toNat) m
 | _=>none
section
variable {P:Program}
theorem aGb {t:TypeId} {a:Bool} {n:Nat} (ha:aggT P t=some a) (hn:szT P t=some n) (cs:List V):loadT P t cs=nH a n cs:=by
 unfold loadT nH
 rw [ha,hn]
 cases a <;> rfl
theorem a2w {t:TypeId} {a:Bool} {n:Nat} (ha:aggT P t=some a) (hn:szT P t=some n) (cs:List V) (off:Nat):a0r P t cs off=nI a n cs off:=by
 unfold a0r nI
 rw [ha,hn]
 cases a <;> rfl
theorem b0e {t:TypeId} (hu:P.underlying t=some .string) (x:V):rG P .len [t] [x]=fG x:=by
 unfold rG fG
 simp only [hu]
 cases x <;> rfl
theorem b0f {t e:TypeId} (hu:P.underlying t=some (.slice e)) (x:V):rG P .len [t] [x]=lenL x:=by
 unfold rG lenL
 simp only [hu]
 cases x <;> rfl
theorem aJt {t e:TypeId} {n:Nat} {z:V} (hu:P.underlying t=some (.slice e)) (hn:szT P e=some n) (hz:zeroT P e=some z) (hc:z.cells.length=n) (hpos:0 < n) (len:Nat) (ps:List (Nat×V)) :
  a0s P t len ps=a5f n len ps:=by
 unfold a0s a5f buildSliceV
 simp only [hu,hz,hn]
 cases sN 0 ps with
 | none=>rfl
 | some es=>simp only [hc,hpos,true_and]
theorem aUm {t:TypeId} (hu:P.underlying t=some .string) (x:V) (lo hi:Option V):sliceV P t x lo hi=cO x lo hi:=by
 unfold sliceV cO
 simp only [hu]
 cases x <;> rfl
theorem aUn {t e:TypeId} {n:Nat} (hu:P.underlying t=some (.slice e)) (hn:szT P e=some n) (hpos:0 < n) (x:V) (lo hi:Option V):sliceV P t x lo hi=aEk n x lo hi:=by
 unfold sliceV aEk
 simp only [hu,hn,hpos,true_and]
 cases x <;> try rfl
 rename_i g es
 simp only [hn]
 cases iE hi es.length es.length <;> first | rfl | (simp only [hpos,true_and]; done) | (simp only [hpos,true_and]; rfl)
theorem aUo {t:TypeId} (hu:P.underlying t=some .string) (x i:V):indexV P t x i=cV x i:=by
 unfold indexV cV
 simp only [hu]
 cases x <;> cases i <;> rfl
theorem aUp {t e:TypeId} {len n:Nat} {a:Bool} (hu:P.underlying t=some (.array len e)) (ha:aggT P e=some a) (hn:szT P e=some n) (x i:V):indexV P t x i=a3f len a n x i:=by
 unfold indexV a3f
 simp only [hu,hn,a2w ha hn]
 cases x <;> cases i <;> first | rfl | (simp only [hn,a2w ha hn]; done) | (simp only [hn,a2w ha hn]; rfl)
theorem aMn {s : TypeId} {fs : Array Field} {f n off : Nat} {fd : Field} (hu : P.underlying s = some (.struct fs)) (hf : fs[f]? = some fd) (hn : szT P fd.type = some (n + 1)) (ho : fd.offset = off) (x : V) : fieldAddrV P s x f = a7i off x:=by
 unfold fieldAddrV a7i
 simp only [hu,hf,hn,ho]
 cases x <;> first | rfl | (simp only [hf,hn,ho]; done) | (simp only [hf,hn,ho]; rfl)
theorem aYt {s : TypeId} {fs : Array Field} {f n off : Nat} {a : Bool} {fd : Field} (hu : P.underlying s = some (.struct fs)) (hf : fs[f]? = some fd) (ha : aggT P fd.type = some a) (hn : szT P fd.type = some n) (ho : fd.offset = off) (x : V) : fieldV P s x f = a9u a n off x:=by
 unfold fieldV a9u
 simp only [hu,hf,a2w ha hn,ho]
 cases x <;> first | rfl | (simp only [hf,a2w ha hn,ho]; done) | (simp only [hf,a2w ha hn,ho]; rfl)
theorem aJu {t e:TypeId} {n:Nat} (hu:P.underlying t=some (.slice e)) (hn:szT P e=some (n+1)) (x i:V):indexAddrV P t x i=xS (n+1) x i:=by
 unfold indexAddrV xS
 simp only [hu,hn]
 cases x <;> cases i <;> first | rfl | (simp only [hn]; done) | (simp only [hn]; rfl)
theorem aJv {t e:TypeId} {len n:Nat} (hu:P.underlying t=some (.array len e)) (hn:szT P e=some n) (x i:V):indexAddrV P t x i=a2a len n x i:=by
 unfold indexAddrV a2a
 simp only [hu,hn]
 cases x <;> cases i <;> first | rfl | (simp only [hn]; done) | (simp only [hn]; rfl)
theorem aYu {s d:TypeId} {k k':IntKind} (hs:P.underlying s=some (.int k')) (hd:P.underlying d=some (.int k)) (x:V):a1y P s d x=kF k x:=by
 unfold a1y kF a55 convertV
 simp only [hs,hd]
 cases x <;> rfl
theorem aUq {s d:TypeId} (hs:P.underlying s=some .string) (hd:P.underlying d=some .string) (x:V):a1y P s d x=sP x:=by
 unfold a1y sP a55 convertV
 simp only [hs,hd]
 cases x <;> rfl
theorem aUr {s d e:TypeId} (hs:P.underlying s=some (.slice e)) (he:P.underlying e=some (.int .u8)) (hd:P.underlying d=some .string) (x:V):a1y P s d x=mN x:=by
 unfold a1y mN a55 convertV
 simp only [hs,hd,he]
 cases x <;> try rfl
 rename_i g es
 simp only
 cases es.mapM (fun (v:V)=>match v with | .int .u8 n=>some (UInt8.ofNat n.toNat) | _=>none) <;> (simp only [he]; rfl)
theorem aMo {t e:TypeId} {n by_:Nat} {z:V} (hu:P.underlying t=some (.slice e)) (hn:szT P e=some n) (hz:zeroT P e=some z) (hb:bytesT P e=some by_) (hc:z.cells.length=n) (hpos:0 < n) (l c:V) (m:Hp) :
  makeSliceV P t l c m=a7j (kE e n) z by_ l c m:=by
 unfold makeSliceV a7j
 simp only [hu,hn,hz,hb,hc,hpos,and_true]
 cases l <;> cases c <;> first | rfl | (simp only [hn,hz,hb,hc,hpos,and_true]; done) | (simp only [hn,hz,hb,hc,hpos,and_true]; rfl)
theorem xF {t e:TypeId} {n by_:Nat} {z:V} (hu:P.underlying t=some (.slice e)) (hn:szT P e=some n) (hz:zeroT P e=some z) (hb:bytesT P e=some by_) (hc:z.cells.length=n) (hpos:0 < n) (x:V) (ys:List V) (m:Hp) :
  appendV P t x ys m=zT n (kE e n) by_ x ys m:=by
 unfold appendV zT
 simp only [hu,hn,hz,hb,hc,hpos,true_and]
 cases x <;> first | rfl | (simp only [hn,hz,hb,hc,hpos,true_and]; done) | (simp only [hn,hz,hb,hc,hpos,true_and]; rfl)
theorem aUs {t u e e':TypeId} {n by_:Nat} {z:V} (hu:P.underlying t=some (.slice e)) (hu':P.underlying u=some (.slice e')) (hn:szT P e=some n) (hz:zeroT P e=some z) (hb:bytesT P e=some by_) (hc:z.cells.length=n) (hpos:0 < n) (x y:V) (m:Hp) :
  mH P .append [t,u] [x,y] m=aNo n (kE e n) by_ x y m:=by
 unfold mH aNo
 simp only [hu,hu',xF hu hn hz hb hc hpos]
 cases y <;> first | rfl | (simp only [xF hu hn hz hb hc hpos]; done) | (simp only [xF hu hn hz hb hc hpos]; rfl)
theorem aRm {t u e:TypeId} {by_:Nat} {z:V} (hu:P.underlying t=some (.slice e)) (hu':P.underlying u=some .string) (hn:szT P e=some 1) (hz:zeroT P e=some z) (hb:bytesT P e=some by_) (hc:z.cells.length=1) (x y:V) (m:Hp) :
  mH P .append [t,u] [x,y] m=aJs (kE e 1) by_ x y m:=by
 unfold mH aJs
 simp only [hu,hu',xF hu hn hz hb hc (by omega),hn,if_true]
 cases y <;> first | rfl | (simp only [hn,if_true,xF hu hn hz hb hc (by omega:0 < 1)]; done) | (simp only [hn,if_true,xF hu hn hz hb hc (by omega:0 < 1)]; rfl)
end
end Go.Fbs

/- Tables of callees; what a function is said to answer. -/
namespace Go.Fbs
abbrev Spec:=List V→Option V
def a4d (P : Program) (f : FuncId) : Prop := ∃ fn c, P.funcs[f]? = some fn ∧ fn.body = some c ∧ (fn.name == "runtime.NumGoroutine") = false
structure b4f (P:Program) (f:FuncId) (F:Spec):Prop where
 enter:a4d P f
 call:∀ args v,F args=some v→∀ m,sO P f args m v m
def bD:List (FuncId×Spec)→PT
 | []=>fun _ _=>none
 | (g,F)::r=>fun f args=>bif Nat.beq f g then F args else bD r f args
def noE:ET:=fun _ _ _=>none
abbrev vI (n:Int):V:=.int .i64 n
abbrev vB (c:UInt8):V:=.int .u8 c.toNat
def jS:Nat:=4611686018427387904
def nQ:V→Nat
 | .int _ n=>n.toNat
 | _=>0
theorem a5g {l:List UInt8} {k:Nat} (h:k≤l.length) (kk:IntKind):cO (.str l) (some (.int kk k)) none=some (.str (l.drop k)):=by
 simp [cO,iE,h]
theorem aMp {l:List UInt8} {j k:Nat} (h:k≤l.length) (hj:j≤k) (kk kk':IntKind):cO (.str l) (some (.int kk j)) (some (.int kk' k))=some (.str ((l.take k).drop j)):=by
 simp [cO,iE,h,hj]
theorem aHf {l : List UInt8} {k : Nat} {c : UInt8} (h : l[k]? = some c) (kk : IntKind) : cV (.str l) (.int kk k) = some (.int .u8 c.toNat):=by
 simp [cV,h]
theorem aRn {κ:Ctx} {h:Heap} {a:List UInt8} {xs:List Value} (r:Reps κ h [.str a] xs):xs=[.string ⟨⟨a⟩⟩]:=by
 obtain ⟨x,ys,rfl,r1,r2⟩:=r.inv_cons
 rw [r2.inv_nil,rep_str r1]
theorem aHg {κ:Ctx} {h:Heap} {a b:List UInt8} {xs:List Value} (r:Reps κ h [.str a,.str b] xs):xs=[.string ⟨⟨a⟩⟩,.string ⟨⟨b⟩⟩]:=by
 obtain ⟨x,ys,rfl,r1,r2⟩:=r.inv_cons
 rw [aRn r2,rep_str r1]
end Go.Fbs

/- From what a function is said to answer to the kit's 'Calls .. Grown'. -/
namespace Go.Fbs
open Go.RowKit
def eX (h : Heap) : Ctx:=⟨fun b=>match h[b]? with | some (.cells c _ _)=>c.size | _=>0,fun _=>none,[]⟩
theorem a7k (h:Heap) (ht:tD h:=by exact tab0_any):Mem (eX h) h empty:=by
 refine ⟨⟨?_,?_,?_,?_,?_,?_,?_,?_,?_,?_,?_,ht.tP ?_⟩,⟨?_,?_⟩,rfl⟩
 case refine_12=>rintro b (⟨l,h⟩ | ⟨L,h,_⟩) <;> simp [eX] at h
 case refine_9 =>
  intro b hb
  have : h[b]? = none:=by simpa using hb
  simp [eX,this]
 all_goals intros
 all_goals simp_all [eX,boxed,empty]
theorem xT {h:Heap} {b:Nat} : ¬ owned (eX h) b:=by
 rintro (⟨l,h⟩ | ⟨L,h,_⟩) <;> simp [eX] at h
def aJw (w w' : World) : Prop:=w.keptBut w' (fun _=>False) ∧ (∀ a : Addr,a.block < w.heap.size → w'.frozen? a = w.frozen? a) ∧ w.heap.size ≤ w'.heap.size
theorem ext_grown {w w':World} {κ':Ctx} {m':Hp} (x:Ext (eX w.heap) w empty κ' w' m'):aJw w w':=by
 have same : ∀ i,i < w.heap.size → w'.heap[i]? = w.heap[i]?:=fun i hi=>x.le.same i hi xT
 refine ⟨⟨x.os,x.out.output,fun i hi=>?_⟩,fun a ha=>by unfold World.frozen?; rw [same _ ha],x.le.size⟩
 rw [same i hi]
 cases w.heap[i]? with
 | none=>rfl
 | some o=>cases o <;> simp
end Go.Fbs

/- Regions whose order is drawn,with stores: what is not bound does not meet. -/
namespace Go.Fbs
def isS (C:bZ) (op:Op):Bool:=!lH C op && !mM op
def zU:Op→Bool
 | .load ..=>true
 | _=>false
inductive Rt where
 | tm (t:Nat)
 | ro
 | nw (i:Nat)
def mQ (sl:TypeId→Bool) (ops:List Oper):Nat→Operand→Option Rt
 | 0,.tmp t=>some (.tm t)
 | j+1,.tmp t =>
  match ops[j]? with
  | some o =>
   bif (match o.dst with | some d=>Nat.beq d t | none=>false) then
    match o.op with
    | .fieldAddr _ y _=>mQ sl ops j y
    | .move y=>mQ sl ops j y
    | .nilCheck y=>mQ sl ops j y
    | .indexAddr ty y _=>bif sl ty then some .ro else mQ sl ops j y
    | .alloc _=>some (.nw j)
    | .box ..=>some (.nw j)
    | _=>none
   else mQ sl ops j (.tmp t)
  | none=>none
 | _,_=>none
def addrOf:Op→Operand
 | .load _ x=>x
 | .store _ x _=>x
 | _=>.tmp 0
def aRo (sl:TypeId→Bool) (ex:Rt→Rt→Bool) (ops:List Oper) (r:Rt) (j:Nat) (l:List Operand):Bool :=
 l.all fun x=>match x with
  | .const _=>true
  | .func _=>true
  | _=>(match mQ sl ops j x with | some r'=>ex r r' | none=>false)
def tZ (C:bZ) (sl:TypeId→Bool) (ex:Rt→Rt→Bool) (ops:List Oper) (i j:Nat):Bool :=
 match ops[i]?,ops[j]? with
 | some x,some y =>
  zU x.op && (match y.op with
   | .store _ a _=>(match mQ sl ops i (addrOf x.op),mQ sl ops j a with
    | some r,some r'=>ex r r'
    | some .ro,none=>true
    | _,_=>false)
   | .call c=>(match c.callee with
    | .builtin .append=>true
    | .value (.func f)=>(match mQ sl ops i (addrOf x.op) with
     | some .ro=>true
     | some r=>C.flat f && aRo sl ex ops r j c.args.toList
     | none=>false)
    | .value _=>(match mQ sl ops i (addrOf x.op) with
     | some .ro=>true
     | _=>false)
    | _=>false)
   | _=>false)
 | _,_=>false
def zV (C:bZ) (sl:TypeId→Bool) (ex:Rt→Rt→Bool) (ops:List Oper):Bool :=
 let ms:=lQ [] ops
 a7e (ops.map (·.dst)) && (List.range ops.length).all (fun j=>a4b j (ops.getD j default)) && ops.all (fun o=>lH C o.op || isS C o.op || (mM o.op && o.guard.isNone)) &&
 (List.range ops.length).all (fun j=>(List.range j).all fun i=>aEd ops ms i j &&
  ((ms.getD j 0).testBit i || (match ops[i]?,ops[j]? with | some x,some y=>!((isS C x.op && (isS C y.op || zU y.op)) || (zU x.op && isS C y.op)) || tZ C sl ex ops i j || tZ C sl ex ops j i | _,_=>false)) &&
  (match ops[i]?,ops[j]? with | some x,some y=>!(isS C x.op && mM y.op) && (!(mM x.op && isS C y.op) || (ms.getD j 0).testBit i) | _,_=>true))
structure DF3 (C:bZ) (sl:TypeId→Bool) (ex:Rt→Rt→Bool) (ops:List Oper):Prop where
 nd : ∀ (i j : Nat) x y d,ops[i]? = some x → ops[j]? = some y → x.dst = some d → y.dst = some d → i = j
 back : ∀ (j : Nat) o,ops[j]? = some o → ∀ e ∈ o.after,Region.binds .any e = true → e.on < j
 cls : ∀ (j : Nat) o,ops[j]? = some o → lH C o.op = true ∨ isS C o.op = true ∨ (mM o.op = true ∧ o.guard = none)
 b3i : ∀ (i j : Nat) x y,i < j → ops[i]? = some x → ops[j]? = some y → isS C x.op = true → mM y.op = false
 als : ∀ (i j : Nat) x y,i < j → ops[i]? = some x → ops[j]? = some y → mM x.op = true → isS C y.op = true → ((lQ [] ops).getD j 0).testBit i = true
 pair : ∀ (i j : Nat) x y,i < j → ops[i]? = some x → ops[j]? = some y → ((lQ [] ops).getD j 0).testBit i = true ∨ Oper.apart ops.toArray x y = true
 b0g : ∀ (i j : Nat) x y,i < j → ops[i]? = some x → ops[j]? = some y → (isS C x.op = true ∧ (isS C y.op = true ∨ zU y.op = true)) ∨ (zU x.op = true ∧ isS C y.op = true) →
  ((lQ [] ops).getD j 0).testBit i=true∨tZ C sl ex ops i j=true∨tZ C sl ex ops j i=true
theorem aO5 {C:bZ} {sl:TypeId→Bool} {ex:Rt→Rt→Bool} {ops:List Oper} (h:zV C sl ex ops=true):DF3 C sl ex ops:=by
 unfold zV at h
 simp only [Bool.and_eq_true,List.all_eq_true,List.mem_range] at h
 obtain ⟨⟨⟨h1,h2⟩,h3⟩,h4⟩:=h
 have lt : ∀ {j : Nat} {o : Oper},ops[j]? = some o → j < ops.length:=fun h=>(List.getElem?_eq_some_iff.1 h).1
 refine ⟨fun i j x y d hx hy hxd hyd=>?_,fun j o ho e he hb=>?_,fun j o ho=>?_,fun i j x y hij hx hy hs=>?_,fun i j x y hij hx hy ha hs=>?_,fun i j x y hij hx hy=>?_,fun i j x y hij hx hy hc=>?_⟩
 ·exact a1z _ h1 i j d (by rw [List.getElem?_map,hx]; simp [hxd]) (by rw [List.getElem?_map,hy]; simp [hyd])
 ·have:=h2 j (lt ho)
  rw [List.getD_eq_getElem?_getD,ho] at this
  simp only [Option.getD_some,a4b,List.all_eq_true] at this
  have:=this e (by simpa using he)
  simpa [hb] using this
 ·have:=h3 o (List.mem_of_getElem? ho)
  simp only [Bool.or_eq_true,Bool.and_eq_true,Option.isNone_iff_eq_none] at this
  rcases this with (h | h) | h
  ·exact .inl h
  ·exact .inr (.inl h)
  ·exact .inr (.inr h)
 ·have:=(h4 j (lt hy) i hij).2
  rw [hx,hy] at this
  simp only [Bool.and_eq_true,Bool.not_eq_true',hs,Bool.true_and] at this
  exact this.1
 ·have:=(h4 j (lt hy) i hij).2
  rw [hx,hy] at this
  simp only [Bool.and_eq_true,ha,hs,Bool.true_and,Bool.not_true,Bool.false_or] at this
  exact this.2
 ·have:=(h4 j (lt hy) i hij).1.1
  unfold aEd at this
  rw [hx,hy] at this
  simpa using this
 ·have:=(h4 j (lt hy) i hij).1.2
  rw [hx,hy] at this
  simp only [Bool.or_eq_true,Bool.not_eq_true',Bool.or_eq_false_iff,Bool.and_eq_false_iff] at this
  rcases this with h5 | ((⟨h5,h6⟩ | h5) | h5)
  ·exact .inl h5
  ·rcases hc with ⟨c1,c2⟩ | ⟨c1,c2⟩
   ·rcases h5 with h5 | h5
    ·rw [c1] at h5; simp at h5
    ·rcases c2 with c2 | c2 <;> simp [c2] at h5
   ·rcases h6 with h6 | h6
    ·rw [c1] at h6; simp at h6
    ·rw [c2] at h6; simp at h6
  ·exact .inr (.inl h5)
  ·exact .inr (.inr h5)
section
variable {P:Program} {C:bZ} {sl:TypeId→Bool} {ex:Rt→Rt→Bool} {ops:List Oper}
def oP (P:Program) (C:bZ) (ops:List Oper) (s:Env×Hp) (o:Oper):Option ((Env×Hp)×V) :=
 match kQ ops s.1 o with
 | some true =>
  match evalOp P C s.1 s.2 o.op with
  | some (v,m')=>some ((putV s.1 o.dst v,m'),v)
  | none=>none
 | some false=>some ((putV s.1 o.dst .undef,s.2),.undef)
 | none=>none
theorem aNp:∀ {rest:List Oper} {env env':Env} {m m':Hp},iR P C ops rest env m=some (env',m') →
  ∃ (σ : Nat → Env × Hp) (val : Nat → V),σ 0 = (env,m) ∧ σ rest.length = (env',m') ∧ ∀ (j : Nat) o,rest[j]? = some o → oP P C ops (σ j) o = some (σ (j + 1),val j)
 | [],env,env',m,m',e=>by
  simp [iR] at e
  obtain ⟨rfl,rfl⟩:=e
  exact ⟨fun _=>(env,m),fun _=>.undef,rfl,rfl,by simp⟩
 | o::rest,env,env',m,m',e=>by
  simp only [iR] at e
  have key : ∀ (env1 : Env) (m1 : Hp) (v : V),oP P C ops (env,m) o = some ((env1,m1),v) → iR P C ops rest env1 m1 = some (env',m') → ∃ (σ : Nat → Env × Hp) (val : Nat → V),σ 0 = (env,m) ∧ σ (o :: rest).length = (env',m') ∧ ∀ (j : Nat) o',(o :: rest)[j]? = some o' → oP P C ops (σ j) o' = some (σ (j + 1),val j):=by
   intro env1 m1 v h1 h2
   obtain ⟨σ,val,h3,h4,h5⟩:=aNp h2
   refine ⟨fun i=>match i with | 0=>(env,m) | i+1=>σ i,fun i=>match i with | 0=>v | i+1=>val i,rfl,h4,fun j o' ho=>?_⟩
   cases j with
   | zero=>simp at ho; subst ho; simpa [h3] using h1
   | succ j=>exact h5 j o' (by simpa using ho)
  split at e
  ·rename_i hw
   split at e
   ·rename_i v m1 h1
    exact key _ _ v (by unfold oP; simp only [hw,h1]) e
   ·simp at e
  ·rename_i hw
   exact key _ _ .undef (by unfold oP; simp only [hw]) e
  ·simp at e
structure wG (P:Program) (C:bZ) (ops:List Oper) (σ:Nat→Env×Hp) (val:Nat→V):Prop where
 step : ∀ (j : Nat) o,ops[j]? = some o → oP P C ops (σ j) o = some (σ (j + 1),val j)
variable {σ:Nat→Env×Hp} {val:Nat→V}
theorem a4e {s s':Env×Hp} {o:Oper} {v:V} (e:oP P C ops s o=some (s',v)):s'.1=putV s.1 o.dst v:=by
 unfold oP at e
 split at e
 ·split at e
  ·simp at e; obtain ⟨rfl,rfl⟩:=e; rfl
  ·simp at e
 ·simp at e; obtain ⟨rfl,rfl⟩:=e; rfl
 ·simp at e
def iG (C:bZ):List Oper→Nat
 | []=>0
 | o::r=>bif isS C o.op then 0 else iG C r+1
theorem a4f:∀ ops:List Oper,iG C ops≤ops.length
 | []=>Nat.le_refl _
 | o::r=>by
  simp only [iG]
  have:=a4f r
  cases isS C o.op <;> simp; omega
theorem wV : ∀ {ops : List Oper} {j : Nat} {o : Oper},ops[j]? = some o → isS C o.op = true → iG C ops ≤ j
 | [],j,o,h,_=>by simp at h
 | x::r,0,o,h,hs=>by
  simp only [List.getElem?_cons_zero,Option.some.injEq] at h
  subst h
  simp [iG,hs]
 | x::r,j+1,o,h,hs=>by
  have:=wV (ops:=r) (j:=j) (by simpa using h) hs
  simp only [iG]
  cases isS C x.op <;> simp; omega
theorem aHh : ∀ {ops : List Oper},iG C ops < ops.length → ∃ o,ops[iG C ops]? = some o ∧ isS C o.op = true
 | [],h=>by simp at h
 | x::r,h=>by
  cases hx:isS C x.op with
  | true=>exact ⟨x,by simp [iG,hx],hx⟩
  | false =>
   simp only [iG,hx,cond_false,List.length_cons] at h ⊢
   obtain ⟨o,h1,h2⟩:=aHh (ops:=r) (by omega)
   exact ⟨o,by simpa using h1,h2⟩
theorem aUt {op:Op} (h:isS C op=true) (h':mM op=true):False:=by simp [isS,h'] at h
theorem a7l (f : DF3 C sl ex ops) {j : Nat} {o : Oper} (ho : ops[j]? = some o) (ha : mM o.op = true) : j < iG C ops:=by
 refine Nat.lt_of_not_le fun hge=>?_
 obtain ⟨x,hx,hs⟩:=aHh (Nat.lt_of_le_of_lt hge (List.getElem?_eq_some_iff.1 ho).1)
 rcases Nat.lt_or_eq_of_le hge with h | h
 ·have:=f.b3i _ _ _ _ h hx ho hs
  rw [ha] at this; simp at this
 ·rw [h,ho] at hx
  simp at hx; subst hx
  exact aUt hs ha
theorem xG {op:Op} (h:isS C op=true):lH C op=false∧mM op=false∧zU op=false:=by
 unfold isS at h
 simp only [Bool.and_eq_true,Bool.not_eq_true'] at h
 refine ⟨h.1,h.2,?_⟩
 cases op <;> first | rfl | (have:=h.1; simp [lH] at this)
theorem a4g {s s':Env×Hp} {o:Oper} {v:V} (hq:lH C o.op=true) (e:oP P C ops s o=some (s',v)):s'.2=s.2:=by
 unfold oP at e
 split at e
 ·split at e
  ·rename_i v' m' h1
   unfold evalOp at h1
   rw [if_pos hq] at h1
   simp only [Option.map_eq_some_iff] at h1
   obtain ⟨u,_,h1⟩:=h1
   simp at e h1; obtain ⟨rfl,rfl⟩:=e; exact h1.2.symm
  ·simp at e
 ·simp at e; obtain ⟨rfl,rfl⟩:=e; rfl
 ·simp at e
theorem wG.len (t:wG P C ops σ val):∀ j,j≤ops.length→(σ j).1.n=(σ 0).1.n
 | 0,_=>rfl
 | j+1,hj=>by
  have:=a4e (t.step j ops[j] (List.getElem?_eq_getElem (by omega)))
  rw [this,aJq]; exact t.len j (by omega)
theorem wG.old (t : wG P C ops σ val) {d : Nat} : ∀ j,j ≤ ops.length → (∀ (i : Nat) o,i < j → ops[i]? = some o → o.dst ≠ some d) → (σ j).1.get d = (σ 0).1.get d
 | 0,_,_=>rfl
 | j+1,hj,h=>by
  have ho:=List.getElem?_eq_getElem (show j < ops.length by omega)
  rw [a4e (t.step j ops[j] ho),zR,if_neg (h j _ (by omega) ho)]
  exact t.old j (by omega) (fun i o hi ho=>h i o (by omega) ho)
theorem wG.new (t : wG P C ops σ val) (f : DF3 C sl ex ops) {d i : Nat} {o : Oper} (hio : ops[i]? = some o) (hd : o.dst = some d) : ∀ j,i < j → j ≤ ops.length → (σ j).1.get d = if d < (σ 0).1.n then some (val i) else none
 | 0,h,_=>by omega
 | j+1,h,hj=>by
  have ho:=List.getElem?_eq_getElem (show j < ops.length by omega)
  rw [a4e (t.step j ops[j] ho),zR]
  by_cases hij:i=j
  ·subst hij
   rw [ho] at hio; simp at hio; subst hio
   rw [if_pos hd,t.len i (by omega)]
  ·rw [if_neg (fun e=>hij (f.nd i j _ _ d hio ho hd e))]
   exact t.new f hio hd j (by omega) (by omega)
theorem wG.still (t : wG P C ops σ val) (f : DF3 C sl ex ops) {i : Nat} (hi0 : iG C ops ≤ i) : ∀ j,i ≤ j → j ≤ ops.length → (∀ (q : Nat) o,i ≤ q → q < j → ops[q]? = some o → isS C o.op = false) → (σ j).2 = (σ i).2
 | 0,h,_,_=>by rw [Nat.le_zero.1 h]
 | j+1,h,hj,hn=>by
  by_cases hi:i=j+1
  ·rw [hi]
  ·have ho:=List.getElem?_eq_getElem (show j < ops.length by omega)
   have hq:lH C ops[j].op=true:=by
    rcases f.cls j _ ho with h1 | h1 | h1
    ·exact h1
    ·rw [hn j _ (by omega) (by omega) ho] at h1; simp at h1
    ·have:=a7l f ho h1.1; omega
   rw [a4g hq (t.step j _ ho)]
   exact t.still f hi0 j (by omega) (by omega) fun q o h1 h2=>hn q o h1 (by omega)
def aBk (env:Env) (n:Nat):Rt→Rt→Prop
 | .tm t,.tm t'=>∀ l off off',env.get t=some (.ptr l off)→env.get t'=some (.ptr l off')→False
 | .tm t,.nw _=>∀ l off,env.get t=some (.ptr l off)→l < n
 | .nw _,.tm t=>∀ l off,env.get t=some (.ptr l off)→l < n
 | .nw i,.nw j=>i≠j
 | _,_=>True
def aO6 (ops:List Oper) (σ:Nat→Env×Hp) (l:Nat):Rt→Prop
 | .tm d=>∃ o0,(σ 0).1.get d=some (.ptr l o0)
 | .ro=>False
 | .nw i=>l = (σ i).2.H.length ∧ ∃ o,ops[i]? = some o ∧ mM o.op = true
theorem mI (hsl:∀ t,sl t=true→∃ e,P.underlying t=some (.slice e)) (t:wG P C ops σ val):∀ (j:Nat) (x:Operand) (r:Rt) (l off:Nat),mQ sl ops j x=some r→ev (σ j).1 x=some (.ptr l off)→aO6 ops σ l r
 | 0,.tmp d,r,l,off,h,e=>by
  simp only [mQ,Option.some.injEq] at h
  subst h
  exact ⟨off,e⟩
 | j+1,.tmp d,r,l,off,h,e=>by
  simp only [mQ] at h
  split at h
  ·rename_i o ho
   have hst:=t.step j o ho
   have henv:=a4e hst
   cases hd:(match o.dst with | some c=>Nat.beq c d | none=>false) with
   | false =>
    rw [hd] at h
    refine mI hsl t j (.tmp d) r l off h ?_
    simp only [ev] at e ⊢
    rw [henv,zR,if_neg (fun hc=>by rw [hc] at hd; simp at hd)] at e
    exact e
   | true =>
    rw [hd] at h
    simp only [cond_true] at h
    have hdst:o.dst=some d:=by
     cases hc:o.dst with
     | none=>rw [hc] at hd; simp at hd
     | some c=>rw [hc] at hd; rw [Nat.eq_of_beq_eq_true hd]
    simp only [ev] at e
    rw [henv,zR,if_pos hdst] at e
    split at e
    ·simp only [Option.some.injEq] at e
     unfold oP at hst
     split at hst
     ·split at hst
      ·rename_i v m' hv
       simp only [Option.some.injEq,Prod.mk.injEq] at hst
       have hvv:v = .ptr l off:=hst.2.trans e
       subst hvv
       have quiet:∀ {op:Op},o.op=op→lH C op=true→aY P C (σ j).1 (σ j).2.H op=some (.ptr l off):=fun he hq=>by
        rw [he] at hv
        unfold evalOp at hv
        rw [if_pos hq] at hv
        simp only [Option.map_eq_some_iff,Prod.mk.injEq] at hv
        obtain ⟨u,h1,h2,_⟩:=hv
        rw [← h2]; exact h1
       have made:mM o.op=true→aO6 ops σ l (.nw j):=fun ha=>by
        have hq:lH C o.op=false:=by cases ho:o.op <;> rw [ho] at ha <;> simp [mM] at ha <;> rfl
        unfold evalOp at hv
        rw [hq,ha] at hv
        simp only [Bool.false_eq_true,if_false,if_true,Option.map_eq_some_iff,Prod.mk.injEq] at hv
        obtain ⟨cs,_,h3,_⟩:=hv
        simp only [V.ptr.injEq] at h3
        exact ⟨h3.1.symm,o,ho,ha⟩
       split at h
       ·rename_i s y f heq
        have h1:=quiet heq rfl
        simp only [aY,ev1] at h1
        split at h1
        ·rename_i u hu
         have:∃ o1,u = .ptr l o1:=by
          unfold fieldAddrV at h1
          split at h1
          ·split at h1
           ·split at h1 <;> simp at h1
            exact ⟨_,by rw [h1.1]⟩
           ·simp at h1
          ·simp at h1
         obtain ⟨o1,rfl⟩:=this
         exact mI hsl t j y r l o1 h hu
        ·simp at h1
       ·rename_i y heq
        exact mI hsl t j y r l off h (quiet heq rfl)
       ·rename_i y heq
        have h1:=quiet heq rfl
        simp only [aY,ev1] at h1
        split at h1
        ·rename_i u hu
         have:u = .ptr l off:=by
          clear h hv hst henv e t
          cases u <;> simp [nilV] at h1
          obtain ⟨rfl,rfl⟩:=h1; rfl
         exact mI hsl t j y r l off h (by rw [hu,this])
        ·simp at h1
       ·rename_i ty y i heq
        have h1:=quiet heq rfl
        simp only [aY,ev2] at h1
        split at h1
        ·rename_i u v hu hv
         cases hs:sl ty with
         | true =>
          obtain ⟨e',he'⟩:=hsl ty hs
          exfalso
          clear h hv hst henv e t
          simp only [indexAddrV,he'] at h1
          split at h1
          ·split at h1
           ·split at h1
            ·simp only [Option.bind_eq_some_iff] at h1
             obtain ⟨_,_,h1⟩:=h1
             split at h1 <;> simp at h1
            ·simp at h1
           ·simp at h1
          ·rename_i hq; exact absurd hq (by simp)
          ·simp at h1
         | false =>
          rw [hs] at h
          have:∃ o1,u = .ptr l o1:=by
           unfold indexAddrV at h1
           split at h1
           ·split at h1
            ·split at h1
             ·simp only [Option.bind_eq_some_iff] at h1
              obtain ⟨_,_,h1⟩:=h1
              split at h1 <;> simp at h1
             ·simp at h1
            ·simp at h1
           ·split at h1
            ·split at h1 <;> simp at h1
             exact ⟨_,by rw [h1.1]⟩
            ·simp at h1
           ·simp at h1
          obtain ⟨o1,rfl⟩:=this
          exact mI hsl t j y r l o1 h hu
        ·simp at h1
       ·rename_i ty heq
        simp only [Option.some.injEq] at h
        subst h
        exact made (by rw [heq]; rfl)
       ·rename_i ty y heq
        simp only [Option.some.injEq] at h
        subst h
        exact made (by rw [heq]; rfl)
       ·simp at h
      ·simp at hst
     ·simp only [Option.some.injEq,Prod.mk.injEq] at hst
      rw [← hst.2] at e; simp at e
     ·simp at hst
    ·simp at e
  ·simp at h
 | 0,.const _,_,_,_,h,_=>by simp [mQ] at h
 | 0,.func _,_,_,_,h,_=>by simp [mQ] at h
 | 0,.global _,_,_,_,h,_=>by simp [mQ] at h
 | _+1,.const _,_,_,_,h,_=>by simp [mQ] at h
 | _+1,.func _,_,_,_,h,_=>by simp [mQ] at h
 | _+1,.global _,_,_,_,h,_=>by simp [mQ] at h
structure a7m (P:Program) (C:bZ) (ops:List Oper) (σ:Nat→Env×Hp) (val:Nat→V) (κ0:Ctx) (h0:World) (S:Array Bool) (κ:Ctx) (w:World) (a:Act):Prop where
 size:S.size=ops.length
 closed:a3e ops (aR S)
 at_ : ∃ K,iG C ops ≤ K ∧ K ≤ ops.length ∧ (∀ (i : Nat) o,ops[i]? = some o → isS C o.op = true → (i < K ↔ aR S i = true)) ∧ Ext κ0 h0 (σ 0).2 κ w (σ K).2
 kept : ∀ (j : Nat) o,ops[j]? = some o → mM o.op = true → aR S j = false → κ.box (σ j).2.H.length = none
 defers:a.defers=[]
 tsize:a.tmps.size=(σ 0).1.n
 new : ∀ (i : Nat) o d x,ops[i]? = some o → aR S i = true → o.dst = some d → a.tmps[d]? = some x → Rep κ w.heap (val i) x
 old : ∀ d v x,(∀ (i : Nat) o,ops[i]? = some o → aR S i = true → o.dst ≠ some d) → (σ 0).1.get d = some v → a.tmps[d]? = some x → Rep κ w.heap v x
theorem a7m.env {κ0 κ:Ctx} {h0:World} {S:Array Bool} {w:World} {a:Act} (t:wG P C ops σ val) (f:DF3 C sl ex ops) (M:a7m P C ops σ val κ0 h0 S κ w a) {j:Nat} {o:Oper}
  (ho : ops[j]? = some o) (hun : aR S j = false) (hr : ∀ e ∈ o.after,Region.binds .any e = true → S.getD e.on false = true) : EnvOk κ w.heap (seen (σ j).1 (o.looksAt ops.toArray)) a:=by
 have hj:=(List.getElem?_eq_some_iff.1 ho).1
 have hlen:=t.len j (by omega)
 refine ⟨M.defers,by show _=(σ j).1.n; rw [hlen,M.tsize],fun d v x hv hx=>?_⟩
 have hd:d < (seen (σ j).1 (o.looksAt ops.toArray)).n:=Env.wF hv
 have hd:d < (σ j).1.n:=hd
 rw [a7g hd] at hv
 split at hv
 ·rename_i hl
  have hl:d ∈ o.looksAt ops.toArray:=List.contains_iff_mem.1 hl
  simp only [Option.some.injEq] at hv
  have hget:(σ j).1.get d=some v:=by unfold Env.get; rw [if_pos hd,hv]
  by_cases hex : ∃ (i : Nat) (oi : Oper),i < j ∧ ops[i]? = some oi ∧ oi.dst = some d
  ·obtain ⟨i,oi,hi,hoi,hdi⟩:=hex
   have hval:=t.new f hoi hdi j hi (by omega)
   rw [hget,if_pos (by rw [← hlen]; exact hd)] at hval
   simp only [Option.some.injEq] at hval
   subst hval
   have hli:aR S i=true:=by
    rcases f.pair i j oi o hi hoi ho with h1 | h1
    ·exact lI ho M.closed hr h1
    ·exact absurd hl ((Oper.apart_spec h1).1 d hdi)
   exact M.new i oi d x hoi hli hdi hx
  ·have hold:=t.old (d:=d) j (by omega) (fun i oi hi hoi hdi=>hex ⟨i,oi,hi,hoi,hdi⟩)
   rw [hget] at hold
   refine M.old d v x (fun i oi hoi hli hdi=>?_) hold.symm hx
   have hij:i≠j:=fun e=>by subst e; rw [hun] at hli; simp at hli
   have hji:j < i:=by
    rcases Nat.lt_or_gt_of_ne hij with h1 | h1
    ·exact absurd ⟨i,oi,h1,hoi,hdi⟩ hex
    ·exact h1
   rcases f.pair j i o oi hji ho hoi with h1 | h1
   ·have:=lI hoi M.closed (M.closed i oi hoi hli) h1
    rw [hun] at this; simp at this
   ·exact (Oper.apart_spec h1).2.2 d hdi hl
 ·simp only [Option.some.injEq] at hv
  subst hv
  exact .any x
theorem aJx {env:Env} {H H':List LO} {op:Op} (h:zU op=false):aY P C env H op=aY P C env H' op:=by
 cases op <;> simp [zU] at h <;> first | rfl | (rename_i g _ _; cases g <;> rfl) | (rename_i g; cases g <;> rfl)
theorem aNq {env:Env} : ∀ {xs:List Operand} {vs:List V} {v:V},evs env xs=some vs→v ∈ vs→∃ x,x ∈ xs∧ev env x=some v
 | [],vs,v,h,hm=>by simp [evs] at h; subst h; simp at hm
 | x::xs,vs,v,h,hm=>by
  simp only [evs] at h
  split at h
  ·rename_i u us h1 h2
   simp only [Option.some.injEq] at h
   subst h
   rcases List.mem_cons.1 hm with rfl | hm
   ·exact ⟨x,by simp,h1⟩
   ·obtain ⟨y,hy,hy2⟩:=aNq h2 hm
    exact ⟨y,by simp [hy],hy2⟩
  ·simp at h
theorem aRp {env:Env} {c:Value} {l off:Nat} (h:ev env (.const c)=some (.ptr l off)):False:=by
 have h:V.ofC c=some (.ptr l off):=h
 unfold V.ofC at h
 split at h
 ·simp at h
 cases c <;> simp only [V.ofVal,V.ofScalar,Option.map_eq_some_iff,reduceCtorEq,and_false,exists_false,Option.some.injEq] at h
 all_goals (try (split at h <;> simp at h))
structure Calm (C:bZ):Prop where
 len:∀ f args m v m',C.eff f args m=some (v,m')→m.H.length≤m'.H.length
 cA : ∀ f args m v m' l,C.flat f = true → C.eff f args m = some (v,m') → (∀ off,V.ptr l off ∉ args) → m'.H[l]? = m.H[l]?
theorem aMq {env env':Env} {m:Hp} {op:Op} (hs:isS C op=true) (h:Agree env env' op.operands.toList) {r:V×Hp} (e:evalOp P C env m op=some r):evalOp P C env' m op=some r:=by
 obtain ⟨nq,na,-⟩:=xG (C:=C) hs
 unfold evalOp at e ⊢
 rw [nq,na] at e ⊢
 simp only [Bool.false_eq_true,if_false] at e ⊢
 cases op <;> simp only [evalW] at e ⊢ <;> try exact e
 case store =>
  split at e
  ·rename_i u v h1 h2
   rw [h _ (by simp [Op.operands]) _ h1,h _ (by simp [Op.operands]) _ h2]; exact e
  ·simp at e
 case makeSlice =>
  split at e
  ·rename_i u v h1 h2
   rw [h _ (by simp [Op.operands]) _ h1,h _ (by simp [Op.operands]) _ h2]; exact e
  ·simp at e
 case call c =>
  obtain ⟨callee,args,ts⟩:=c
  (try simp only at e ⊢)
  split at e
  ·rename_i b vs hvs
   rw [Agree.evs (fun y hy=>h y (by simp [Op.operands,Call.operands] at hy ⊢; exact hy)) hvs]; exact e
  ·rename_i f vs hvs
   rw [Agree.evs (fun y hy=>h y (by simp [Op.operands,Call.operands] at hy ⊢; exact .inr hy)) hvs]
   split at e
   ·rename_i g caps hg
    simp only [h f (by simp [Op.operands,Call.operands]) _ hg]; exact e
   ·simp at e
  ·simp at e
theorem aJy {t:TypeId} {x y:V} {m:Hp} {r:V×Hp} (e:makeSliceV P t x y m=some r):r.2.H=m.H:=by
 unfold makeSliceV at e
 repeat' (split at e)
 all_goals first | (simp at e; done) | (simp only [Option.some.injEq] at e; subst e; rfl)
theorem aRq {t:TypeId} {x:V} {ys:List V} {m:Hp} {r:V×Hp} (e:appendV P t x ys m=some r):r.2.H=m.H:=by
 unfold appendV at e
 repeat' (split at e)
 all_goals first | (simp at e; done) | (simp only [Option.some.injEq] at e; subst e; rfl)
theorem aO7 {b:Builtin} {ts:List TypeId} {xs:List V} {m:Hp} {r:V×Hp} (e:mH P b ts xs m=some r):r.2.H=m.H:=by
 unfold mH at e
 repeat' (split at e)
 all_goals first | (simp at e; done) | exact aRq e
def aRr (C:bZ) (env:Env) (op:Op) (l:Nat):Prop :=
 match op with
 | .store _ a _=>∀ off,ev env a≠some (.ptr l off)
 | .call c=>(match c.callee with
  | .value f=>∀ vs g caps,evs env c.args.toList=some vs→ev env f=some (.func g caps)→C.flat g=true∧∀ off,V.ptr l off ∉ vs++caps
  | _=>True)
 | _=>True
theorem aO8 {t:TypeId} {x y:V} {m:Hp} {r:V×Hp} (e:storeV P t x y m=some r):m.H.length≤r.2.H.length:=by
 unfold storeV at e
 split at e
 ·split at e
  ·split at e
   ·simp at e; subst e; simp
   ·simp at e
  ·simp at e
 ·simp at e
theorem aO9 {env : Env} {H H' : List LO} {op : Op} (h : zU op = true) (hp : ∀ l off,ev env (addrOf op) = some (.ptr l off) → ∀ c,H[l]? = some c → H'[l]? = some c) {v : V} (e : aY P C env H op = some v) : aY P C env H' op = some v:=by
 cases op <;> simp [zU] at h
 rename_i t x
 simp only [aY,ev1,addrOf] at e hp ⊢
 split at e
 ·rename_i u hu
  unfold loadV at e ⊢
  split at e
  ·rename_i l off
   cases hc : H[l]? with
   | none=>rw [hc] at e; simp at e
   | some c=>rw [hp l off hu c hc]; rw [hc] at e; exact e
  ·exact e
  ·simp at e
 ·simp at e
theorem aRs {env:Env} {l:List Tmp} {x:Operand} {b off:Nat} (h:ev (seen env l) x=some (.ptr b off)):ev env x=some (.ptr b off):=by
 cases x with
 | tmp t =>
  simp only [ev] at h ⊢
  have hn:=Env.wF h
  have hn':t < env.n:=hn
  rw [a7g hn'] at h
  split at h
  ·unfold Env.get; rw [if_pos hn']; exact h
  ·simp at h
 | _=>exact h
theorem aJz {t : TypeId} {x y : V} {m : Hp} {r : V × Hp} {l : Nat} (e : storeV P t x y m = some r) (h : ∀ off,x ≠ .ptr l off) : r.2.H[l]? = m.H[l]?:=by
 unfold storeV at e
 split at e
 ·rename_i q off n hn
  have hne:q≠l:=fun e=>by subst e; exact h off rfl
  split at e
  ·split at e
   ·simp at e; subst e
    simp [List.getElem?_set_ne hne]
   ·simp at e
  ·simp at e
 ·simp at e
theorem aMr (hcalm : Calm C) {env : Env} {m : Hp} {op : Op} (hs : isS C op = true) {r : V × Hp} (e : evalW P C env m op = some r) : m.H.length ≤ r.2.H.length ∧ ∀ l,aRr C env op l → r.2.H[l]? = m.H[l]?:=by
 cases op <;> simp only [evalW] at e <;> try (simp at e; done)
 case store =>
  split at e
  ·rename_i u v h1 h2
   refine ⟨aO8 e,fun l hl=>aJz e fun off hu=>?_⟩
   subst hu; exact hl off h1
  ·simp at e
 case makeSlice =>
  split at e
  ·rw [aJy e]; exact ⟨Nat.le_refl _,fun _ _=>rfl⟩
  ·simp at e
 case call c =>
  obtain ⟨callee,args,ts⟩:=c
  (try simp only at e)
  split at e
  ·rw [aO7 e]; exact ⟨Nat.le_refl _,fun _ _=>rfl⟩
  ·rename_i f vs hvs
   split at e
   ·rename_i g caps hg
    obtain ⟨v,m'⟩:=r
    refine ⟨hcalm.len _ _ _ _ _ e,fun l hl=>hcalm.cA _ _ _ _ _ l (hl vs g caps hvs hg).1 e fun off hm=>?_⟩
    exact (hl vs g caps hvs hg).2 off hm
   ·simp at e
  ·simp at e
theorem aNr {s s' : Env × Hp} {o : Oper} {v : V} (hcalm : Calm C) (hs : isS C o.op = true) (e : oP P C ops s o = some (s',v)) : s.2.H.length ≤ s'.2.H.length ∧ ∀ l,aRr C s.1 o.op l → s'.2.H[l]? = s.2.H[l]?:=by
 unfold oP at e
 split at e
 ·split at e
  ·rename_i v' m' h1
   simp at e; obtain ⟨rfl,rfl⟩:=e
   obtain ⟨nq,na,_⟩:=xG (C:=C) hs
   unfold evalOp at h1
   rw [nq,na] at h1
   simp only [Bool.false_eq_true,if_false] at h1
   exact aMr hcalm hs h1
  ·simp at e
 ·simp at e; obtain ⟨rfl,rfl⟩:=e; exact ⟨Nat.le_refl _,fun _ _=>rfl⟩
 ·simp at e
theorem wG.aJ0 (t : wG P C ops σ val) (f : DF3 C sl ex ops) {l i : Nat} (hi0 : iG C ops ≤ i) : ∀ j,i ≤ j → j ≤ ops.length → (∀ (q : Nat) o,i ≤ q → q < j → ops[q]? = some o → isS C o.op = true → (σ (q + 1)).2.H[l]? = (σ q).2.H[l]?) → (σ j).2.H[l]? = (σ i).2.H[l]?
 | 0,h,_,_=>by rw [Nat.le_zero.1 h]
 | j+1,h,hj,hn=>by
  by_cases hi:i=j+1
  ·rw [hi]
  ·have ho:=List.getElem?_eq_getElem (show j < ops.length by omega)
   have ih:=t.aJ0 f (l:=l) (i:=i) hi0 j (by omega) (by omega) fun q o h1 h2=>hn q o h1 (by omega)
   rcases f.cls j _ ho with h1 | h1 | h1
   ·rw [a4g h1 (t.step j _ ho)]; exact ih
   ·rw [hn j _ (by omega) (by omega) ho h1]; exact ih
   ·have:=a7l f ho h1.1; omega
theorem aBl {s s':Env×Hp} {o:Oper} {v:V} (ha:mM o.op=true) (hg:o.guard=none) (e:oP P C ops s o=some (s',v)):∃ cs,tQ P s.1 o.op=some cs∧v = .ptr s.2.H.length 0∧s'.2 = { s.2 with H:=s.2.H++[.cells (zQ o.op) cs] }:=by
 unfold oP at e
 have hw:kQ ops s.1 o=some true:=by unfold kQ; rw [hg]
 rw [hw] at e
 simp only at e
 split at e
 ·rename_i v' m' h1
  simp only [Option.some.injEq,Prod.mk.injEq] at e
  obtain ⟨rfl,rfl⟩:=e
  have hq:lH C o.op=false:=by cases ho:o.op <;> rw [ho] at ha <;> simp [mM] at ha <;> rfl
  unfold evalOp at h1
  rw [hq,ha] at h1
  simp only [Bool.false_eq_true,if_false,if_true,Option.map_eq_some_iff,Prod.mk.injEq] at h1
  obtain ⟨cs,h2,h3,h4⟩:=h1
  exact ⟨cs,h2,h3.symm,h4.symm⟩
 ·simp at e
theorem wG.front (t:wG P C ops σ val) (f:DF3 C sl ex ops) {i:Nat} : ∀ j,i≤j→j≤iG C ops→∃ ds:List LO,(σ j).2 = { (σ i).2 with H:=(σ i).2.H++ds }
 | 0,h,_=>by rw [Nat.le_zero.1 h]; exact ⟨[],by simp⟩
 | j+1,h,hj=>by
  by_cases hi:i=j+1
  ·rw [hi]; exact ⟨[],by simp⟩
  ·have hlen:=a4f (C:=C) ops
   have ho:=List.getElem?_eq_getElem (show j < ops.length by omega)
   obtain ⟨ds,hds⟩:=t.front f (i:=i) j (by omega) (by omega)
   rcases f.cls j _ ho with h1 | h1 | h1
   ·rw [a4g h1 (t.step j _ ho)]; exact ⟨ds,hds⟩
   ·have:=wV ho h1; omega
   ·obtain ⟨cs,_,_,h2⟩:=aBl h1.1 h1.2 (t.step j _ ho)
    exact ⟨ds++[.cells _ cs],by rw [h2,hds,List.append_assoc]⟩
theorem aRt (hcalm : Calm C) (f : DF3 C sl ex ops) {s s' : Env × Hp} {j : Nat} {o : Oper} {v : V} (ho : ops[j]? = some o) (e : oP P C ops s o = some (s',v)) : s.2.H.length ≤ s'.2.H.length:=by
 rcases f.cls j o ho with h | h | h
 ·rw [a4g h e]; exact Nat.le_refl _
 ·exact (aNr hcalm h e).1
 ·obtain ⟨cs,_,_,h2⟩:=aBl h.1 h.2 e
  rw [h2]; simp
theorem wG.a9v (hcalm:Calm C) (t:wG P C ops σ val) (f:DF3 C sl ex ops) {i:Nat} : ∀ j,i≤j→j≤ops.length→(σ i).2.H.length≤(σ j).2.H.length
 | 0,h,_=>by rw [Nat.le_zero.1 h]; exact Nat.le_refl _
 | j+1,h,hj=>by
  by_cases hi:i=j+1
  ·rw [hi]; exact Nat.le_refl _
  ·have ho:=List.getElem?_eq_getElem (show j < ops.length by omega)
   exact Nat.le_trans (t.a9v hcalm f j (by omega) (by omega)) (aRt hcalm f ho (t.step j _ ho))
theorem wG.a9w (hcalm : Calm C) (t : wG P C ops σ val) (f : DF3 C sl ex ops) {i j : Nat} {o : Oper} (ho : ops[i]? = some o) (ha : mM o.op = true) (hg : o.guard = none) (hij : i < j) (hj : j ≤ ops.length) : (σ i).2.H.length < (σ j).2.H.length:=by
 obtain ⟨cs,_,_,h2⟩:=aBl ha hg (t.step i o ho)
 have:=t.a9v hcalm f (i:=i+1) j hij hj
 rw [h2] at this
 simp at this; omega
theorem aBm (f : DF3 C sl ex ops) {i : Nat} {o : Oper} (ho : ops[i]? = some o) (ha : mM o.op = true) : o.guard = none:=by
 rcases f.cls i o ho with h | h | h
 ·cases hop:o.op <;> rw [hop] at ha h <;> simp [mM] at ha <;> simp [lH] at h
 ·exact (aUt h ha).elim
 ·exact h.2
theorem a7m.step {κ0 κ:Ctx} {h0:World} {S:Array Bool} {w:World} {a:Act} (hC:Sound P C) (hcalm:Calm C) (hsl:∀ t,sl t=true→∃ e,P.underlying t=some (.slice e)) (hex:∀ r r',ex r r'=true→aBk (σ 0).1 (σ 0).2.H.length r r') (t:wG P C ops σ val) (f:DF3 C sl ex ops) (M:a7m P C ops σ val κ0 h0 S κ w a) {j:Nat} {o:Oper}
  (ho : ops[j]? = some o) (hun : aR S j = false) (hr : ∀ e ∈ o.after,Region.binds .any e = true → S.getD e.on false = true) (Q : Exit → Act → World → Prop) (K : Act → World → Prop)
  (hK:∀ κ' w' a',a7m P C ops σ val κ0 h0 (S.setIfInBounds j true) κ' w' a'→K a' w'):wpOp P ops.toArray Q j K a w:=by
 have hj:j < ops.length:=(List.getElem?_eq_some_iff.1 ho).1
 have hjs:j < S.size:=by rw [M.size]; exact hj
 have renv:=M.env t f ho hun hr
 have hst:=t.step j o ho
 obtain ⟨k,hk0,hk1,hk2,hk3⟩:=M.at_
 have close : ∀ κ' w' x k',iG C ops ≤ k' → k' ≤ ops.length → (∀ (i : Nat) oi,ops[i]? = some oi → isS C oi.op = true → (i < k' ↔ (if i = j then true else aR S i) = true)) →
   (∀ (i : Nat) oi,ops[i]? = some oi → mM oi.op = true → i ≠ j → aR S i = false → κ'.box (σ i).2.H.length = none) → Le κ w.heap κ' w'.heap → Ext κ0 h0 (σ 0).2 κ' w' (σ k').2 → Rep κ' w'.heap (val j) x →
   a7m P C ops σ val κ0 h0 (S.setIfInBounds j true) κ' w' (a.put o.dst x):=by
  intro κ' w' x k' hk'0 hk'1 hk'2 hkept hle hx hrep
  have hput : ∀ d,(a.put o.dst x).tmps[d]? = if o.dst = some d then (if d < a.tmps.size then some x else none) else a.tmps[d]?:=by
   intro d
   cases hdst:o.dst with
   | none=>simp [Act.put]
   | some c =>
    simp only [Act.put,Array.getElem?_setIfInBounds,Option.some.injEq]
    split
    ·rename_i h; subst h; rfl
    ·rfl
  refine ⟨by simpa using M.size,a7f M.size M.closed ho hr,⟨k',hk'0,hk'1,fun i oi hoi hs=>by rw [gX hjs]; exact hk'2 i oi hoi hs,hx⟩,fun i oi hoi ha hl=>?_,?_,?_,fun i oi d y hoi hl hd hy=>?_,fun d v y hno hv hy=>?_⟩
  ·rw [gX hjs] at hl
   split at hl
   ·simp at hl
   ·rename_i hij; exact hkept i oi hoi ha hij hl
  ·cases hdst:o.dst <;> simp [Act.put,M.defers]
  ·cases hdst:o.dst <;> simp [Act.put,M.tsize]
  ·rw [gX hjs] at hl
   rw [hput] at hy
   by_cases hij:i=j
   ·subst hij
    rw [ho] at hoi; simp at hoi; subst hoi
    rw [if_pos hd] at hy
    split at hy <;> simp at hy
    subst hy; exact hrep
   ·rw [if_neg hij] at hl
    have hne:o.dst≠some d:=fun e=>hij (f.nd i j oi o d hoi ho hd e)
    rw [if_neg hne] at hy
    exact (M.new i oi d y hoi hl hd hy).mono hle
  ·have hne:o.dst≠some d:=hno j o ho (by rw [gX hjs,if_pos rfl])
   rw [hput,if_neg hne] at hy
   refine (M.old d v y (fun i oi hoi hl=>hno i oi hoi ?_) hv hy).mono hle
   rw [gX hjs]; split <;> first | rfl | exact hl
 have keptE : ∀ κ' w' m',Ext κ w (σ k).2 κ' w' m' → ∀ (i : Nat) oi,ops[i]? = some oi → mM oi.op = true → i ≠ j → aR S i = false → κ'.box (σ i).2.H.length = none:=by
  intro κ' w' m' hx i oi hoi ha _ hl
  refine hx.hole _ ?_ (M.kept i oi hoi ha hl)
  exact t.a9w hcalm f hoi ha (aBm f hoi ha) (Nat.lt_of_lt_of_le (a7l f hoi ha) hk0) hk1
 have keepK : isS C o.op = false → ∀ (i : Nat) oi,ops[i]? = some oi → isS C oi.op = true → (i < k ↔ (if i = j then true else aR S i) = true):=by
  intro hs i oi hoi his
  have:i≠j:=fun e=>by subst e; rw [ho] at hoi; simp at hoi; subst hoi; rw [hs] at his; simp at his
  rw [if_neg this]; exact hk2 i oi hoi his
 have order : (isS C o.op = true ∨ zU o.op = true) → ∀ (i : Nat) oi,ops[i]? = some oi → isS C oi.op = true → i ≠ j → (i < j ↔ aR S i = true) ∨ tZ C sl ex ops j i = true:=by
  intro hc i oi hoi his hne
  by_cases hx:tZ C sl ex ops j i=true
  ·exact .inr hx
  have hx':¬ tZ C sl ex ops i j=true:=by
   intro h
   unfold tZ at h
   rw [hoi,ho] at h
   simp [(xG (C:=C) his).2.2] at h
  refine .inl ⟨fun hlt=>?_,fun hl=>?_⟩
  ·rcases f.b0g i j oi o hlt hoi ho (.inl ⟨his,hc⟩) with h | h | h
   ·exact lI ho M.closed hr h
   ·exact absurd h hx'
   ·exact absurd h hx
  ·refine Nat.lt_of_not_le fun hge=>?_
   have hlt:j < i:=Nat.lt_of_le_of_ne hge fun e=>hne e.symm
   rcases f.b0g j i o oi hlt ho hoi (by
     rcases hc with hc | hc
     ·exact .inl ⟨hc,.inl his⟩
     ·exact .inr ⟨hc,his⟩) with h | h | h
   ·have:=lI hoi M.closed (M.closed i oi hoi hl) h
    rw [hun] at this; simp at this
   ·exact absurd h hx
   ·exact absurd h hx'
 have place : zU o.op = true → ∀ l off,ev (σ j).1 (addrOf o.op) = some (.ptr l off) → ∀ c,(σ j).2.H[l]? = some c → (σ k).2.H[l]? = some c:=by
  intro hl l off hp c hc
  have leaves : ∀ (q : Nat) oq,ops[q]? = some oq → isS C oq.op = true → tZ C sl ex ops j q = true → (σ (q + 1)).2.H[l]? = (σ q).2.H[l]?:=by
   intro q oq hq hs hx
   unfold tZ at hx
   rw [ho,hq] at hx
   simp only [Bool.and_eq_true] at hx
   obtain ⟨_,hx⟩:=hx
   have old : ∀ {i : Nat} {oi : Oper},ops[i]? = some oi → ¬ (σ i).2.H.length < (σ 0).2.H.length:=fun hi h=>by
    have:=t.a9v hcalm f (i:=0) _ (Nat.zero_le _) (Nat.le_of_lt (List.getElem?_eq_some_iff.1 hi).1); omega
   have clash:∀ {r r':Rt},aBk (σ 0).1 (σ 0).2.H.length r r'→aO6 ops σ l r→aO6 ops σ l r'→False:=by
    intro r r' ha e1 e2
    cases r with
    | ro=>exact e1
    | tm d =>
     cases r' with
     | ro=>exact e2
     | tm d' =>
      obtain ⟨o0,e1⟩:=e1
      obtain ⟨o1,e2⟩:=e2
      exact ha l o0 o1 e1 e2
     | nw i =>
      obtain ⟨o0,e1⟩:=e1
      obtain ⟨rfl,oi,hoi,_⟩:=e2
      exact old hoi (ha _ o0 e1)
    | nw i =>
     obtain ⟨e1,oi,hoi,hai⟩:=e1
     cases r' with
     | ro=>exact e2
     | tm d' =>
      obtain ⟨o0,e2⟩:=e2
      subst e1
      exact old hoi (ha _ o0 e2)
     | nw i' =>
      obtain ⟨e2,oi',hoi',hai'⟩:=e2
      rcases Nat.lt_or_gt_of_ne (show i≠i' from ha) with h | h
      ·have:=t.a9w hcalm f hoi hai (aBm f hoi hai) h (Nat.le_of_lt (List.getElem?_eq_some_iff.1 hoi').1); omega
      ·have:=t.a9w hcalm f hoi' hai' (aBm f hoi' hai') h (Nat.le_of_lt (List.getElem?_eq_some_iff.1 hoi).1); omega
   refine (aNr hcalm hs (t.step q oq hq)).2 l ?_
   split at hx
   ·rename_i ty x y hop
    rw [hop]
    intro off' hq'
    split at hx
    ·rename_i r r' hr1 hr2
     exact clash (hex r r' hx) (mI hsl t j _ r l off hr1 hp) (mI hsl t q _ r' l off' hr2 hq')
    ·rename_i hr1 _
     exact (mI hsl t j _ .ro l off hr1 hp).elim
    ·simp at hx
   ·rename_i c hop
    rw [hop]
    obtain ⟨callee,args,ts⟩:=c
    (try simp only at hx)
    split at hx
    ·trivial
    ·intro vs g caps hvs hg
     simp only [ev,Option.some.injEq,V.func.injEq] at hg
     obtain ⟨rfl,rfl⟩:=hg
     rw [List.append_nil]
     split at hx
     ·rename_i hr1
      exact (mI hsl t j _ .ro l off hr1 hp).elim
     ·rename_i r _ hr1
      have e1:=mI hsl t j _ r l off hr1 hp
      simp only [Bool.and_eq_true] at hx
      refine ⟨hx.1,fun off' hmem=>?_⟩
      obtain ⟨x,hx1,hx2⟩:=aNq hvs hmem
      have hx3:=List.all_eq_true.1 hx.2 x hx1
      split at hx3
      ·rename_i cv
       exact aRp hx2
      ·simp [ev] at hx2
      ·split at hx3
       ·rename_i r' hr2
        exact clash (hex r r' hx3) e1 (mI hsl t q _ r' l off' hr2 hx2)
       ·simp at hx3
     ·simp at hx
    ·split at hx
     ·rename_i hr1
      exact (mI hsl t j _ .ro l off hr1 hp).elim
     ·simp at hx
    ·simp at hx
   ·simp at hx
  have from_ : ∀ i,iG C ops ≤ i → j ≤ i → i ≤ ops.length → (∀ (q : Nat) oq,ops[q]? = some oq → isS C oq.op = true → i ≤ q → j < q) → (σ i).2.H[l]? = some c → k ≥ i → (σ k).2.H[l]? = some c:=by
   intro i h1 h2 h3 h4 h5 h6
   rw [← h5]
   refine t.aJ0 f h1 k h6 hk1 fun q oq h7 h8 hq his=>?_
   have hjq:=h4 q oq hq his h7
   rcases order (.inr hl) q oq hq his (by omega) with h | h
   ·have:=h.2 ((hk2 q oq hq his).1 h8); omega
   ·exact leaves q oq hq his h
  have hjS : ∀ (q : Nat) oq,ops[q]? = some oq → isS C oq.op = true → q ≠ j:=fun q oq hq his e=>by subst e; rw [ho] at hq; simp at hq; subst hq; rw [(xG (C:=C) his).2.2] at hl; simp at hl
  rcases Nat.lt_or_ge j (iG C ops) with hlt | hge
  ·obtain ⟨ds,hds⟩:=t.front f (i:=j) (iG C ops) (by omega) (Nat.le_refl _)
   refine from_ (iG C ops) (Nat.le_refl _) (by omega) (a4f ops) (fun q oq hq his h=>by omega) ?_ hk0
   rw [hds,List.getElem?_append_left (List.getElem?_eq_some_iff.1 hc).1]; exact hc
  ·rcases Nat.le_total k j with hle | hle
   ·rw [← hc]
    refine (t.aJ0 f hk0 j hle (by omega) fun q oq h2 h3 hq his=>?_).symm
    rcases order (.inr hl) q oq hq his (by omega) with h | h
    ·have:=(hk2 q oq hq his).2 (h.1 h3); omega
    ·exact leaves q oq hq his h
   ·exact from_ j hge (Nat.le_refl _) (by omega) (fun q oq hq his h=>Nat.lt_of_le_of_ne h fun e=>hjS q oq hq his e.symm) hc hle
 have around : isS C o.op = true → (σ j).2 = (σ k).2 ∧ ∀ (i : Nat) oi,ops[i]? = some oi → isS C oi.op = true → i ≠ j → (i < j ↔ aR S i = true):=by
  intro hc
  have h1 : ∀ (i : Nat) oi,ops[i]? = some oi → isS C oi.op = true → i ≠ j → (i < j ↔ aR S i = true):=by
   intro i oi hoi his hne
   rcases order (.inl hc) i oi hoi his hne with h | h
   ·exact h
   ·unfold tZ at h
    rw [ho,hoi] at h
    simp [(xG (C:=C) hc).2.2] at h
  refine ⟨?_,h1⟩
  have hj0:=wV ho hc
  rcases Nat.le_total k j with hle | hle
  ·refine t.still f hk0 j hle (by omega) fun q oq h2 h3 hq=>?_
   cases his:isS C oq.op with
   | false=>rfl
   | true =>
    have h4:=(h1 q oq hq his (by omega)).1 h3
    have:=(hk2 q oq hq his).2 h4
    omega
  ·refine (t.still f hj0 k hle hk1 fun q oq h2 h3 hq=>?_).symm
   cases his:isS C oq.op with
   | false=>rfl
   | true =>
    have h4:=(hk2 q oq hq his).1 h3
    by_cases hqj:q=j
    ·subst hqj; rw [hun] at h4; simp at h4
    ·have:=(h1 q oq hq his hqj).2 h4
     omega
 unfold wpOp
 have ho' : ops.toArray[j]? = some o:=by simpa using ho
 rw [ho']
 simp only
 have hstA:=hst
 unfold oP at hst
 split at hst
 ·rename_i hw
  have hw':=mZ (w:=w) renv (a0t (ops:=ops) hw)
  rw [if_pos hw']
  split at hst
  ·rename_i v m1 hv
   simp only [Option.some.injEq,Prod.mk.injEq] at hst
   obtain ⟨hst1,hst2⟩:=hst
   have hm1:(σ (j+1)).2=m1:=by rw [← hst1]
   rcases f.cls j o ho with hq | hs | hA
   ·-- quiet
    have hns:isS C o.op=false:=by
     cases hh:isS C o.op with
     | false=>rfl
     | true=>rw [(xG (C:=C) hh).1] at hq; simp at hq
    unfold evalOp at hv
    rw [if_pos hq] at hv
    simp only [Option.map_eq_some_iff] at hv
    obtain ⟨u,hu,hv⟩:=hv
    simp only [Prod.mk.injEq] at hv
    obtain ⟨rfl,_⟩:=hv
    have hu':aY P C (seen (σ j).1 (o.looksAt ops.toArray)) (σ k).2.H o.op=some u:=by
     have h1:=aCk (env':=seen (σ j).1 (o.looksAt ops.toArray)) xP (fun _ _ h=>h) hu
     cases hl:zU o.op with
     | false=>rw [aJx (H':=(σ j).2.H) hl]; exact h1
     | true=>exact aO9 hl (fun l off he=>place hl l off (aRs he)) h1
    refine .inl (Oper.wp_mono ?_ (a7c (m:=(σ k).2) hC hk3.mem renv hu' Q))
    rintro a' w' ⟨x,κ',rfl,hx,hrep⟩
    exact hK κ' w' _ (close κ' w' x k hk0 hk1 (keepK hns) (keptE κ' w' _ hx) hx.le (hk3.trans hx) (by rw [← hst2]; exact hrep))
   ·have ⟨e1,e2⟩:=around hs
    have hv':evalOp P C (seen (σ j).1 (o.looksAt ops.toArray)) (σ k).2 o.op=some (v,m1):=by rw [← e1]; exact aMq hs xP hv
    refine .inl (Oper.wp_mono ?_ (a5e (m:=(σ k).2) hC hk3.mem renv hv' Q))
    rintro a' w' ⟨x,κ',rfl,hx,hrep⟩
    have hj0:=wV ho hs
    refine hK κ' w' _ (close κ' w' x (j+1) (by omega) hj (fun i oi hoi his=>?_) (keptE κ' w' _ hx) hx.le (by rw [hm1]; exact hk3.trans hx) (by rw [← hst2]; exact hrep))
    by_cases hij:i=j
    ·subst hij; simp
    ·rw [if_neg hij,← e2 i oi hoi his hij]; omega
   ·-- a box is made
    have hns:isS C o.op=false:=by
     cases hh:isS C o.op with
     | false=>rfl
     | true=>exact (aUt hh hA.1).elim
    obtain ⟨cs,c1,c2,c3⟩:=aBl hA.1 hA.2 hstA
    have hlt:=a7l f ho hA.1
    have none_ : ∀ (q : Nat) oq,ops[q]? = some oq → isS C oq.op = true → ¬ q < k:=by
     intro q oq hq his h
     have hl:=(hk2 q oq hq his).1 h
     have hq0:=wV hq his
     have:=lI hq M.closed (M.closed q oq hq hl) (f.als j q o oq (by omega) ho hq hA.1 his)
     rw [hun] at this; simp at this
    have hmk:(σ k).2=(σ (iG C ops)).2:=t.still f (Nat.le_refl _) k hk0 hk1 fun q oq _ h2 hq=>by
     cases his:isS C oq.op with
     | false=>rfl
     | true=>exact absurd h2 (none_ q oq hq his)
    have hget : (σ k).2.H[(σ j).2.H.length]? = some (.cells (zQ o.op) cs):=by
     obtain ⟨ds,hds⟩:=t.front f (i:=j+1) (iG C ops) hlt (Nat.le_refl _)
     rw [hmk,hds,c3]; simp
    have hnone:=M.kept j o ho hA.1 hun
    refine .inl (Oper.wp_mono ?_ (a7d (m:=(σ k).2) (l:=(σ j).2.H.length) hk3.mem renv (aCl xP c1) hget hnone Q))
    rintro a' w' ⟨x,κ',rfl,hle,hmem,hrep,hbox,hos,hout⟩
    have hj0:=t.a9v hcalm f (i:=0) j (Nat.zero_le _) (by omega)
    refine hK κ' w' _ (close κ' w' x k hk0 hk1 (keepK hns) (fun i oi hoi ha hij hl=>?_) hle ⟨hk3.le.trans hle,hmem,hk3.grow,fun l hl e=>?_,hos.trans hk3.os,hk3.out.trans hout⟩ (by rw [c2]; exact hrep))
    ·rw [hbox]
     have hne:(σ i).2.H.length≠(σ j).2.H.length:=by
      rcases Nat.lt_or_gt_of_ne hij with h | h
      ·have:=t.a9w hcalm f hoi ha (aBm f hoi ha) h (by omega); omega
      ·have:=t.a9w hcalm f ho hA.1 hA.2 h (by have:=(List.getElem?_eq_some_iff.1 hoi).1; omega); omega
     simp only [if_neg hne]
     exact M.kept i oi hoi ha hl
    ·rw [hbox]
     simp only
     rw [if_neg (by omega)]
     exact hk3.hole l hl e
  ·simp at hst
 ·rename_i hw
  have hw':=mZ (w:=w) renv (a0t (ops:=ops) hw)
  simp only [Option.some.injEq,Prod.mk.injEq] at hst
  obtain ⟨hst1,hst2⟩:=hst
  rw [if_neg (by rw [hw']; simp)]
  have hrep:Rep κ w.heap (val j) Go.undef:=by rw [← hst2]; exact .undef
  have hm1:(σ (j+1)).2=(σ j).2:=by rw [← hst1]
  have same : ∀ (i : Nat) oi,ops[i]? = some oi → mM oi.op = true → i ≠ j → aR S i = false → κ.box (σ i).2.H.length = none:=fun i oi hoi ha _ hl=>M.kept i oi hoi ha hl
  cases hs:isS C o.op with
  | false=>exact hK κ w _ (close κ w _ k hk0 hk1 (keepK hs) same (Le.refl _ _) hk3 hrep)
  | true =>
   have ⟨e1,e2⟩:=around hs
   have hj0:=wV ho hs
   refine hK κ w _ (close κ w _ (j+1) (by omega) hj (fun i oi hoi his=>?_) same (Le.refl _ _) (by rw [hm1,e1]; exact hk3) hrep)
   by_cases hij:i=j
   ·subst hij; simp
   ·rw [if_neg hij,← e2 i oi hoi his hij]; omega
 ·simp at hst
theorem aPa (hC:Sound P C) (hcalm:Calm C) (hsl:∀ t,sl t=true→∃ e,P.underlying t=some (.slice e)) (hex:∀ r r',ex r r'=true→aBk (σ 0).1 (σ 0).2.H.length r r') (t:wG P C ops σ val) (f:DF3 C sl ex ops) {κ0:Ctx} {h0:World} {Q:Exit→Act→World→Prop}
  (hQ:∀ κ' w' a',Ext κ0 h0 (σ 0).2 κ' w' (σ ops.length).2→EnvOk κ' w'.heap (σ ops.length).1 a'→Q .normal a' w') :
  ∀ (fuel:Nat) (S:Array Bool) (κ:Ctx) (w:World) (a:Act),a7m P C ops σ val κ0 h0 S κ w a→unl S≤fuel→wpAny P .any ops.toArray Q fuel S a w:=by
 have fin:∀ (S:Array Bool) (κ:Ctx) (w:World) (a:Act),a7m P C ops σ val κ0 h0 S κ w a→(∀ i,i < ops.length→aR S i=true)→Q .normal a w:=by
  intro S κ w a M hall
  obtain ⟨k,hk0,hk1,hk2,hk3⟩:=M.at_
  have hm:(σ ops.length).2=(σ k).2:=t.still f hk0 _ hk1 (Nat.le_refl _) fun q oq h1 h2 hq=>by
   cases his:isS C oq.op with
   | false=>rfl
   | true =>
    have:=(hk2 q oq hq his).2 (hall q h2)
    omega
  refine hQ κ w a (by rw [hm]; exact hk3) ⟨M.defers,by rw [M.tsize,t.len _ (Nat.le_refl _)],fun d v x hv hx=>?_⟩
  by_cases hex : ∃ (i : Nat) (oi : Oper),ops[i]? = some oi ∧ oi.dst = some d
  ·obtain ⟨i,oi,hoi,hdi⟩:=hex
   have hi:=(List.getElem?_eq_some_iff.1 hoi).1
   have hval:=t.new f hoi hdi ops.length hi (Nat.le_refl _)
   rw [hv,if_pos (by rw [← t.len ops.length (Nat.le_refl _)]; exact Env.wF hv)] at hval
   simp only [Option.some.injEq] at hval
   subst hval
   exact M.new i oi d x hoi (hall i hi) hdi hx
  ·have hold:=t.old (d:=d) ops.length (Nat.le_refl _) (fun i oi _ hoi hdi=>hex ⟨i,oi,hoi,hdi⟩)
   rw [hv] at hold
   exact M.old d v x (fun i oi hoi _ hdi=>hex ⟨i,oi,hoi,hdi⟩) hold.symm hx
 have some_:∀ (S:Array Bool) (κ:Ctx) (w:World) (a:Act),a7m P C ops σ val κ0 h0 S κ w a→(∀ i,i < ops.length→aR S i=true)∨∃ q,q ∈ Region.ready .any ops.toArray S:=by
  intro S κ w a M
  by_cases hall:∀ i,i < ops.length→aR S i=true
  ·exact .inl hall
  ·have:∀ k,(∃ q,q < k∧q < ops.length∧aR S q=false∧∀ i,i < q→i < ops.length→aR S i=true)∨∀ i,i < k→i < ops.length→aR S i=true:=by
    intro k
    induction k with
    | zero=>exact .inr (fun i hi=>by omega)
    | succ k ihk =>
     rcases ihk with ⟨q,h1,h2⟩ | h1
     ·exact .inl ⟨q,by omega,h2⟩
     ·by_cases hkl:k < ops.length
      ·cases hk:aR S k with
       | false=>exact .inl ⟨k,by omega,hkl,hk,h1⟩
       | true =>
        refine .inr (fun i hi hil=>?_)
        by_cases h:i=k
        ·subst h; exact hk
        ·exact h1 i (by omega) hil
      ·exact .inr fun i hi hil=>h1 i (by omega) hil
   rcases this ops.length with ⟨q,h1,h2,h3,h4⟩ | h1
   ·refine .inr ⟨q,qU.2 ⟨ops[q],List.getElem?_eq_getElem h2,by rw [jE (by rw [M.size]; exact h2)]; exact h3,fun e he hb=>?_⟩⟩
    have h5:=f.back q _ (List.getElem?_eq_getElem h2) e he hb
    exact h4 e.on h5 (by omega)
   ·exact absurd (fun i hi=>h1 i hi hi) hall
 intro fuel
 induction fuel with
 | zero =>
  intro S κ w a M hu
  have hall:∀ i,i < ops.length→aR S i=true:=fun i hi=>by
   cases h:aR S i with
   | true=>rfl
   | false=>have:=aF9 (qC (by rw [M.size]; exact hi) h); omega
  refine ⟨?_,fin S κ w a M hall⟩
  rw [List.eq_nil_iff_forall_not_mem]
  intro i hi
  obtain ⟨o,h1,h2,_⟩:=qU.1 hi
  have hil:=(List.getElem?_eq_some_iff.1 h1).1
  rw [jE (by rw [M.size]; exact hil),hall i hil] at h2
  simp at h2
 | succ fuel ih =>
  intro S κ w a M hu
  refine ⟨fun hnil=>?_,fun i hi=>?_⟩
  ·rcases some_ S κ w a M with h | ⟨q,h⟩
   ·exact fin S κ w a M h
   ·rw [hnil] at h; simp at h
  ·obtain ⟨o,h1,h2,h3⟩:=qU.1 hi
   have hil:=(List.getElem?_eq_some_iff.1 h1).1
   rw [jE (by rw [M.size]; exact hil)] at h2
   have hset:=aBj (qC (by rw [M.size]; exact hil) h2)
   exact M.step hC hcalm hsl hex t f h1 h2 h3 Q _ (fun κ' w' a' M'=>ih _ κ' w' a' M' (by omega))
theorem aJ1 (hC:Sound P C) (hcalm:Calm C) {id:Nat} {Q:Exit→Act→World→Prop} {env:Env} {m:Hp} {env':Env} {m':Hp} {κ:Ctx} {w:World} {a:Act} (h:zV C sl ex ops=true) (hsl:∀ t,sl t=true→∃ e,P.underlying t=some (.slice e)) (hex:∀ r r',ex r r'=true→aBk env m.H.length r r') (hm:P.follows .mixedOrders=true)
  (e:iR P C ops ops env m=some (env',m')) (k:Mem κ w.heap m) (re:EnvOk κ w.heap env a) (hQ:∀ κ' w' a',Ext κ w m κ' w' m'→EnvOk κ' w'.heap env' a'→Q .normal a' w') :
  (Code.region id ops.toArray true).wp P Q a w:=by
 have f:=aO5 h
 obtain ⟨σ,val,h2,h3,h4⟩:=aNp e
 have t:wG P C ops σ val:=⟨h4⟩
 refine wp_region_any hm (aPa hC hcalm hsl (by rw [h2]; exact hex) t f (κ0:=κ) (h0:=w) (by rw [h2,h3]; exact hQ) _ _ κ _ a ?_ ?_)
 ·have hrep:∀ i,aR (Array.replicate ops.toArray.size false) i=false:=fun i=>by
   unfold aR; simp [Array.getD]
  obtain ⟨ds,hds⟩:=t.front f (i:=0) (iG C ops) (Nat.zero_le _) (Nat.le_refl _)
  have hext:∀ w':World,w'.heap=w.heap→w'.os=w.os→w'.output=w.output→Ext κ w (σ 0).2 κ w' (σ (iG C ops)).2:=by
   intro w' e1 e2 e3
   rw [hds,h2]
   exact ⟨by rw [e1]; exact Le.refl _ _,by rw [e1]; exact aDc k ds,by simp,fun _ _ hb=>hb,e2,⟨e3,by rw [e1]; exact Nat.le_refl _⟩⟩
  refine ⟨by simp,fun j o _ hl=>by rw [hrep] at hl; simp at hl,⟨iG C ops,Nat.le_refl _,a4f ops,fun i o ho hs=>?_,hext _ rfl rfl rfl⟩,fun j o ho ha _=>?_,re.1,by rw [h2]; exact re.2.1,fun i o d x _ hl=>by rw [hrep] at hl; simp at hl,fun d v x _ hv hx=>re.2.2 d v x (by rw [h2] at hv; exact hv) hx⟩
  ·rw [hrep]
   have:=wV ho hs
   simp; omega
  ·refine mem_none k ?_
   have:=t.a9v hcalm f (i:=0) j (Nat.zero_le _) (by have:=(List.getElem?_eq_some_iff.1 ho).1; omega)
   rw [h2] at this; exact this
 ·unfold unl
  simp [List.count_replicate]
end
end Go.Fbs

/- A call that is led to boxes: the part of the memory that it sees,and the way back. -/
namespace Go.Fbs
inductive GA where
 | own (i:Nat)
 | full (n sz:Nat)
def GA.aN (κ:Ctx):GA→cY
 | .own i=>(κ.aN[i]?).getD ⟨0,0,0,0,.full,false⟩
 | .full n c=>⟨0,0,szN c,n,.full,decide (c=1)⟩
theorem aHi {κ:Ctx} {n c:Nat} (h:0 < c):(GA.aN κ (.full n c)).told=(n,c):=by
 simp only [GA.aN,cY.told,cY.cd,reduceCtorEq,if_false,decide_eq_true_eq]
 by_cases hc:c=1
 ·rw [if_pos hc,hc]
 ·rw [if_neg hc]; unfold szN; rw [if_neg hc,show c - 2+2=c by omega]
def part (κ:Ctx) (ls:List Nat) (gs:List GA):Ctx:=⟨κ.hw,fun b=>(ls[b]?).bind κ.box,gs.map (GA.aN κ)⟩
structure wH (κ:Ctx) (ls:List Nat) (gs:List GA):Prop where
 nb : ∀ (b b' l : Nat),ls[b]? = some l → ls[b']? = some l → b = b'
 ng : ∀ (p q i : Nat),gs[p]? = some (.own i) → gs[q]? = some (.own i) → p = q
 ex : ∀ (p i : Nat),gs[p]? = some (.own i) → ∃ L,κ.aN[i]? = some L ∧ L.kind ≠ .dead
 fu : ∀ (p n : Nat),gs[p]? = some (.full n 1) → n = 0
section
variable {κ κ1:Ctx} {h h1:Heap} {m m1:Hp} {ls:List Nat} {gs:List GA}
theorem xU {b:Nat} (hb:boxed (part κ ls gs) b):boxed κ b:=by
 obtain ⟨i,hb⟩:=hb
 simp only [part,Option.bind_eq_some_iff] at hb
 obtain ⟨l,_,h2⟩:=hb
 exact ⟨l,h2⟩
theorem lJ (p : wH κ ls gs) {L : cY} (hL : L ∈ (part κ ls gs).aN) (hk : L.kind = .real) : ∃ (q i : Nat),gs[q]? = some (.own i) ∧ κ.aN[i]? = some L:=by
 simp only [part,List.mem_map] at hL
 obtain ⟨g,hg,rfl⟩:=hL
 obtain ⟨q,hq⟩:=List.mem_iff_getElem?.1 hg
 cases g with
 | full n sz=>simp [GA.aN] at hk
 | own i =>
  obtain ⟨L,hL,_⟩:=p.ex q i hq
  exact ⟨q,i,hq,by simp [GA.aN,hL]⟩
theorem a88 (p : wH κ ls gs) {L : cY} {q : Nat} (hL : (part κ ls gs).aN[q]? = some L) (hk : L.kind = .real) : ∃ i,gs[q]? = some (.own i) ∧ κ.aN[i]? = some L:=by
 simp only [part,List.getElem?_map,Option.map_eq_some_iff] at hL
 obtain ⟨g,hg,rfl⟩:=hL
 cases g with
 | full n sz=>simp [GA.aN] at hk
 | own i =>
  obtain ⟨L,hL,_⟩:=p.ex q i hg
  exact ⟨i,hg,by simp [GA.aN,hL]⟩
theorem a7n (p:wH κ ls gs) {b:Nat} (ho:owned (part κ ls gs) b):owned κ b:=by
 rcases ho with h | ⟨L,h,hk,rfl⟩
 ·exact .inl (xU h)
 ·obtain ⟨q,i,_,h2⟩:=lJ p h hk
  exact .inr ⟨L,List.mem_of_getElem? h2,hk,rfl⟩
theorem aYv (ok:Ok κ h) (p:wH κ ls gs):Ok (part κ ls gs) h where
 iH b hb:=ok.iH b (xU hb)
 nP b hb:=ok.nP b (xU hb)
 rE i j b h1 h2:=by
  simp only [part,Option.bind_eq_some_iff] at h1 h2
  obtain ⟨l,e1,e2⟩:=h1
  obtain ⟨l',e3,e4⟩:=h2
  rw [ok.rE l l' b e2 e4] at e1
  exact p.nb i j l' e1 e3
 j9 L hL hk:=by
  obtain ⟨q,i,_,h2⟩:=lJ p hL hk
  exact ok.j9 L (List.mem_of_getElem? h2) hk
 lhw L hL hk:=by
  obtain ⟨q,i,_,h2⟩:=lJ p hL (nf hk)
  exact ok.lhw L (List.mem_of_getElem? h2) hk
 zH q q' L L' h1 h2 k1 k2 he:=by
  obtain ⟨i,e1,e2⟩:=a88 p h1 (nf k1)
  obtain ⟨i',e3,e4⟩:=a88 p h2 (nf k2)
  have:=ok.zH i i' L L' e2 e4 k1 k2 he
  subst this
  exact p.ng q q' i e1 e3
 rF L hL hk hb:=by
  obtain ⟨q,i,_,h2⟩:=lJ p hL hk
  exact ok.rF L (List.mem_of_getElem? h2) hk (xU hb)
 oO L hL hk:=by
  obtain ⟨q,i,_,h2⟩:=lJ p hL (nf hk)
  exact ok.oO L (List.mem_of_getElem? h2) hk
 fresh b hb:=ok.fresh b hb
 tP:=ok.tP.map (Nat.le_refl _) (fun _ _ ho o=>ho (a7n p o)) fun _ _ _=>rfl
 uS L hL hk hs:=by
  simp only [part,List.mem_map] at hL
  obtain ⟨g,hg,rfl⟩:=hL
  obtain ⟨q,hq⟩:=List.mem_iff_getElem?.1 hg
  cases g with
  | full n sz =>
   have hs:sz=1:=of_decide_eq_true hs
   subst hs
   exact p.fu q n hq
  | own i =>
   obtain ⟨L,hL,_⟩:=p.ex q i hq
   simp only [GA.aN,hL,Option.getD_some] at hk hs ⊢
   exact ok.uS L (List.mem_of_getElem? hL) hk hs
 lbt L hL hk:=by
  simp only [part,List.mem_map] at hL
  obtain ⟨g,hg,rfl⟩:=hL
  obtain ⟨q,hq⟩:=List.mem_iff_getElem?.1 hg
  cases g with
  | full n sz =>
   have hs:sz=1:=of_decide_eq_true hk
   subst hs
   rfl
  | own i =>
   obtain ⟨L,hL,_⟩:=p.ex q i hq
   simp only [GA.aN,hL,Option.getD_some] at hk ⊢
   exact ok.lbt L (List.mem_of_getElem? hL) hk
def GA.aXd (i:Nat):GA→Bool
 | .own j=>Nat.beq j i
 | .full _ _=>false
def qD (gs:List GA) (i:Nat):Bool:=gs.any (GA.aXd i)
theorem a2b {i : Nat} : qD gs i = true ↔ ∃ q : Nat,gs[q]? = some (.own i):=by
 unfold qD
 rw [List.any_eq_true]
 constructor
 ·rintro ⟨g,hg,hi⟩
  obtain ⟨q,hq⟩:=List.mem_iff_getElem?.1 hg
  cases g with
  | own j=>exact ⟨q,by rw [hq,Nat.eq_of_beq_eq_true hi]⟩
  | full n sz=>simp [GA.aXd] at hi
 ·rintro ⟨q,hq⟩
  exact ⟨_,List.mem_of_getElem? hq,Nat.beq_refl i⟩
def cY.kill (L:cY) (b:Bool):cY:=bif b then { L with kind:=.dead } else L
def back (κ κ1:Ctx) (gs outs:List GA):Ctx:=⟨κ1.hw,κ.box,(κ.aN.mapIdx fun i L=>L.kill (qD gs i))++outs.map (GA.aN κ1)⟩
theorem aUu {i : Nat} {L : cY} {outs : List GA} (hL : κ.aN[i]? = some L) : (back κ κ1 gs outs).aN[i]? = some (L.kill (qD gs i)):=by
 simp only [back]
 rw [List.getElem?_append_left (by simpa using (List.getElem?_eq_some_iff.1 hL).1)]
 simp [hL]
theorem mR {outs : List GA} {j : Nat} {L : cY} (hL : (back κ κ1 gs outs).aN[j]? = some L) :
  (∃ L0,κ.aN[j]? = some L0 ∧ L = L0.kill (qD gs j)) ∨ (κ.aN.length ≤ j ∧ ∃ g,outs[j - κ.aN.length]? = some g ∧ L = g.aN κ1):=by
 simp only [back,List.getElem?_append] at hL
 split at hL
 ·left
  simp only [List.getElem?_mapIdx,Option.map_eq_some_iff] at hL
  obtain ⟨L0,h1,h2⟩:=hL
  exact ⟨L0,h1,h2.symm⟩
 ·rename_i hlt
  right
  simp only [List.length_mapIdx] at hL hlt
  simp only [List.getElem?_map,Option.map_eq_some_iff] at hL
  obtain ⟨g,h1,h2⟩:=hL
  exact ⟨by omega,g,h1,h2.symm⟩
structure OutOk (κ1:Ctx) (outs:List GA):Prop where
 nd : ∀ (p q i : Nat),outs[p]? = some (.own i) → outs[q]? = some (.own i) → p = q
 ex : ∀ (p i : Nat),outs[p]? = some (.own i) → ∃ L,κ1.aN[i]? = some L
 fu : ∀ (p n : Nat),outs[p]? = some (.full n 1) → n = 0
variable {outs:List GA}
theorem aRu (ok : Ok κ h) (p : wH κ ls gs) {i : Nat} {L : cY} (hL : κ.aN[i]? = some L) (hk : L.kind = .real) (hi : qD gs i = false) : ¬ owned (part κ ls gs) L.blk:=by
 rintro (hb | ⟨L',h1,hk',he⟩)
 ·exact ok.rF L (List.mem_of_getElem? hL) hk (xU hb)
 ·obtain ⟨q,j,e1,e2⟩:=lJ p h1 hk'
  have:=ok.zH j i L' L e2 hL hk' hk he
  subst this
  rw [a2b.2 ⟨q,e1⟩] at hi
  simp at hi
theorem oQ {L:cY} {b:Bool} (h:(L.kill b).kind = .real):b=false∧L.kill b=L:=by
 cases b with
 | false=>exact ⟨rfl,rfl⟩
 | true=>simp [cY.kill] at h
theorem aGc (p:wH κ ls gs) (le:Le (part κ ls gs) h κ1 h1) (q:OutOk κ1 outs):Le κ h (back κ κ1 gs outs) h1 where
 size:=le.size
 same b hb ho:=le.same b hb fun o=>ho (a7n p o)
 sM b hb ho:=le.sM b hb fun o=>ho (a7n p o)
 tX:=le.tX
 hw:=le.hw
 box _ _ h:=h
 wE _ h:=.inl h
 aN i L hL:=by
  refine ⟨_,aUu hL,?_⟩
  cases qD gs i with
  | false=>exact .inl rfl
  | true=>exact .inr (.inl rfl)
 pD L' hL' hk:=by
  obtain ⟨j,hj⟩:=List.mem_iff_getElem?.1 hL'
  rcases mR hj with ⟨L0,e1,rfl⟩ | ⟨_,g,e1,rfl⟩
  ·obtain ⟨_,e2⟩:=oQ hk
   rw [e2] at hk ⊢
   exact .inl ⟨L0,List.mem_of_getElem? e1,hk,rfl⟩
  ·cases g with
   | full n sz=>simp [GA.aN] at hk
   | own i =>
    obtain ⟨L,hL⟩:=q.ex _ i e1
    have hg:GA.aN κ1 (.own i)=L:=by simp [GA.aN,hL]
    rw [hg] at hk ⊢
    rcases le.pD L (List.mem_of_getElem? hL) hk with ⟨L0,e2,e3,e4⟩ | e2
    ·obtain ⟨_,i',_,e6⟩:=lJ p e2 e3
     exact .inl ⟨L0,List.mem_of_getElem? e6,e3,e4⟩
    ·exact .inr e2
theorem aYw (ok:Ok κ h) (p:wH κ ls gs) (le:Le (part κ ls gs) h κ1 h1) (ok1:Ok κ1 h1) (q:OutOk κ1 outs):Ok (back κ κ1 gs outs) h1:=by
 have out : ∀ {g : GA} {r : Nat},outs[r]? = some g → (g.aN κ1).kind = .real → ∃ i L,g = .own i ∧ κ1.aN[i]? = some L ∧ g.aN κ1 = L:=by
  intro g r e1 hk
  cases g with
  | full n sz=>simp [GA.aN] at hk
  | own i =>
   obtain ⟨L,hL⟩:=q.ex _ i e1
   exact ⟨i,L,rfl,hL,by simp [GA.aN,hL]⟩
 have nP:∀ b,boxed κ b→κ1.hw b=0:=by
  intro b hb
  by_cases ho:owned (part κ ls gs) b
  ·rcases ho with h2 | ⟨L,h2,hk,rfl⟩
   ·obtain ⟨l,hl⟩:=h2
    exact ok1.nP b ⟨l,le.box l b hl⟩
   ·obtain ⟨_,i,_,e⟩:=lJ p h2 hk
    exact absurd hb (ok.rF L (List.mem_of_getElem? e) hk)
  ·rw [le.sM b (ok.iH b hb) ho]; exact ok.nP b hb
 have blk : ∀ {L : cY},L ∈ κ1.aN → L.kind = .real → (∃ (r i : Nat) (L0 : cY),gs[r]? = some (.own i) ∧ κ.aN[i]? = some L0 ∧ L0.kind = .real ∧ L0.blk = L.blk) ∨ h.size ≤ L.blk:=by
  intro L hL hk
  rcases le.pD L hL hk with ⟨L0,e2,e3,e4⟩ | e2
  ·obtain ⟨r,i,e5,e6⟩:=lJ p e2 e3
   exact .inl ⟨r,i,L0,e5,e6,e3,e4⟩
  ·exact .inr e2
 constructor
 ·exact fun b hb=>Nat.lt_of_lt_of_le (ok.iH b hb) le.size
 ·exact nP
 ·exact ok.rE
 ·intro L hL hk
  obtain ⟨j,hj⟩:=List.mem_iff_getElem?.1 hL
  rcases mR hj with ⟨L0,e1,rfl⟩ | ⟨_,g,e1,rfl⟩
  ·obtain ⟨_,e2⟩:=oQ hk
   rw [e2] at hk ⊢
   exact Nat.lt_of_lt_of_le (ok.j9 L0 (List.mem_of_getElem? e1) hk) le.size
  ·obtain ⟨i,L,_,e2,e3⟩:=out e1 hk
   rw [e3] at hk ⊢
   exact ok1.j9 L (List.mem_of_getElem? e2) hk
 ·intro L hL hk
  obtain ⟨j,hj⟩:=List.mem_iff_getElem?.1 hL
  rcases mR hj with ⟨L0,e1,rfl⟩ | ⟨_,g,e1,rfl⟩
  ·obtain ⟨e0,e2⟩:=oQ hk
   rw [e2] at hk ⊢
   have:=aRu ok p e1 hk e0
   exact (le.sM _ (ok.j9 L0 (List.mem_of_getElem? e1) hk) this).trans (ok.lhw L0 (List.mem_of_getElem? e1) hk)
  ·obtain ⟨i,L,_,e2,e3⟩:=out e1 hk
   rw [e3] at hk ⊢
   exact ok1.lhw L (List.mem_of_getElem? e2) hk
 ·intro j j' L L' hj hj' hk hk' he
  rcases mR hj with ⟨L0,e1,rfl⟩ | ⟨n1,g,e1,rfl⟩ <;> rcases mR hj' with ⟨L0',e1',rfl⟩ | ⟨n1',g',e1',rfl⟩
  ·obtain ⟨_,e2⟩:=oQ hk
   obtain ⟨_,e2'⟩:=oQ hk'
   rw [e2] at hk he; rw [e2'] at hk' he
   exact ok.zH j j' L0 L0' e1 e1' hk hk' he
  ·exfalso
   obtain ⟨e0,e2⟩:=oQ hk
   obtain ⟨i,L,_,e3,e4⟩:=out e1' hk'
   rw [e2] at hk he; rw [e4] at hk' he
   rcases blk (List.mem_of_getElem? e3) hk' with ⟨r,i2,L2,c1,c2,c3,c4⟩ | c1
   ·have:=ok.zH j i2 L0 L2 e1 c2 hk c3 (by rw [he,c4])
    subst this
    rw [a2b.2 ⟨r,c1⟩] at e0; simp at e0
   ·have:=ok.j9 L0 (List.mem_of_getElem? e1) hk
    rw [he] at this; omega
  ·exfalso
   obtain ⟨e0,e2⟩:=oQ hk'
   obtain ⟨i,L,_,e3,e4⟩:=out e1 hk
   rw [e2] at hk' he; rw [e4] at hk he
   rcases blk (List.mem_of_getElem? e3) hk with ⟨r,i2,L2,c1,c2,c3,c4⟩ | c1
   ·have:=ok.zH j' i2 L0' L2 e1' c2 hk' c3 (by rw [← he,c4])
    subst this
    rw [a2b.2 ⟨r,c1⟩] at e0; simp at e0
   ·have:=ok.j9 L0' (List.mem_of_getElem? e1') hk'
    rw [← he] at this; omega
  ·obtain ⟨i,L,rfl,e3,e4⟩:=out e1 hk
   obtain ⟨i',L',rfl,e3',e4'⟩:=out e1' hk'
   rw [e4] at hk he; rw [e4'] at hk' he
   have:=ok1.zH i i' L L' e3 e3' hk hk' he
   subst this
   have:=q.nd _ _ i e1 e1'
   omega
 ·intro L hL hk hb
  obtain ⟨j,hj⟩:=List.mem_iff_getElem?.1 hL
  have hb:boxed κ L.blk:=hb
  rcases mR hj with ⟨L0,e1,rfl⟩ | ⟨_,g,e1,rfl⟩
  ·obtain ⟨_,e2⟩:=oQ hk
   rw [e2] at hk hb
   exact ok.rF L0 (List.mem_of_getElem? e1) hk hb
  ·obtain ⟨i,L,_,e2,e3⟩:=out e1 hk
   rw [e3] at hk hb
   rcases blk (List.mem_of_getElem? e2) hk with ⟨r,i2,L2,c1,c2,c3,c4⟩ | c1
   ·exact ok.rF L2 (List.mem_of_getElem? c2) c3 (by rw [c4]; exact hb)
   ·have:=ok.iH _ hb; omega
 ·intro L hL hk
  obtain ⟨j,hj⟩:=List.mem_iff_getElem?.1 hL
  rcases mR hj with ⟨L0,e1,rfl⟩ | ⟨_,g,e1,rfl⟩
  ·obtain ⟨e0,e2⟩:=oQ hk
   rw [e2] at hk ⊢
   have:=aRu ok p e1 hk e0
   rw [le.same _ (ok.j9 L0 (List.mem_of_getElem? e1) hk) this]
   exact ok.oO L0 (List.mem_of_getElem? e1) hk
  ·obtain ⟨i,L,_,e2,e3⟩:=out e1 hk
   rw [e3] at hk ⊢
   exact ok1.oO L (List.mem_of_getElem? e2) hk
 ·exact ok1.fresh
 ·intro L hL hk hs
  obtain ⟨j,hj⟩:=List.mem_iff_getElem?.1 hL
  rcases mR hj with ⟨L0,e1,rfl⟩ | ⟨_,g,e1,rfl⟩
  ·cases hg:qD gs j with
   | true=>rw [hg] at hk; simp [cY.kill] at hk
   | false =>
    rw [hg] at hk hs
    exact ok.uS L0 (List.mem_of_getElem? e1) hk hs
  ·cases g with
   | full n sz =>
    have hs:sz=1:=of_decide_eq_true hs
    subst hs
    exact q.fu _ n e1
   | own i =>
    obtain ⟨L,hL⟩:=q.ex _ i e1
    simp only [GA.aN,hL,Option.getD_some] at hk hs ⊢
    exact ok1.uS L (List.mem_of_getElem? hL) hk hs
 ·intro L hL hk
  obtain ⟨j,hj⟩:=List.mem_iff_getElem?.1 hL
  rcases mR hj with ⟨L0,e1,rfl⟩ | ⟨_,g,e1,rfl⟩
  ·have h1:(L0.kill (qD gs j)).bt=L0.bt∧(L0.kill (qD gs j)).sz=L0.sz:=by cases qD gs j <;> exact ⟨rfl,rfl⟩
   rw [h1.1] at hk
   rw [h1.2]; exact ok.lbt L0 (List.mem_of_getElem? e1) hk
  ·cases g with
   | full n sz =>
    have hs:sz=1:=of_decide_eq_true hk
    subst hs
    rfl
   | own i =>
    obtain ⟨L,hL⟩:=q.ex _ i e1
    simp only [GA.aN,hL,Option.getD_some] at hk ⊢
    exact ok1.lbt L (List.mem_of_getElem? hL) hk
 ·exact ok.tP.le (aGc p le q)
def xV (gs:List GA) (T:List (Nat×Nat)):List (Nat×Nat):=T.mapIdx fun i x=>bif qD gs i then (0,0) else x
theorem aRv (L:cY) (b:Bool):(L.kill b).told=bif b then (0,0) else L.told:=by
 cases b with
 | false=>rfl
 | true=>simp [cY.kill,cY.told]
theorem aRw (hT:κ.aN.map cY.told=m.T):(back κ κ1 gs outs).aN.map cY.told=xV gs m.T++outs.map fun g=>(g.aN κ1).told:=by
 simp only [back,List.map_append,List.map_map,← hT,xV]
 congr 1
 apply List.ext_getElem?
 intro i
 simp only [List.getElem?_map,List.getElem?_mapIdx,Option.map_map]
 cases κ.aN[i]? with
 | none=>rfl
 | some L=>simp [aRv]
theorem back_mem (k : Mem κ h m) (p : wH κ ls gs) (le : Le (part κ ls gs) h κ1 h1) (k1 : Mem κ1 h1 m1) (q : OutOk κ1 outs) {H' : List LO} (hlen : H'.length = m.H.length) (hold : ∀ l,(∀ b : Nat,ls[b]? ≠ some l) → H'[l]? = m.H[l]?)
  (hnew : ∀ (b l blk : Nat) c,ls[b]? = some l → κ.box l = some blk → H'[l]? = some c → ∃ o,h1[blk]? = some o ∧ ORep (back κ κ1 gs outs) h1 c o) {T' : List (Nat × Nat)} (hT : xV gs m.T ++ outs.map (fun g=>(g.aN κ1).told) = T') :
  Mem (back κ κ1 gs outs) h1 ⟨H',T'⟩:=by
 obtain ⟨ok,hp,ht⟩:=k
 refine ⟨aYw ok p le k1.1 q,⟨fun l b hb=>by rw [hlen]; exact hp.1 l b hb,fun l b c h1' h2=>?_⟩,by rw [← hT]; exact aRw ht⟩
 have hb:κ.box l=some b:=h1'
 by_cases hl : ∃ r : Nat,ls[r]? = some l
 ·obtain ⟨r,hr⟩:=hl
  exact hnew r l b c hr hb h2
 ·have hl : ∀ r : Nat,ls[r]? ≠ some l:=fun r e=>hl ⟨r,e⟩
  simp only at h2
  rw [hold l hl] at h2
  obtain ⟨o,h3,h4⟩:=hp.2 l b c hb h2
  have no:¬ owned (part κ ls gs) b:=by
   rintro (⟨r,e⟩ | ⟨L,e,hk,rfl⟩)
   ·simp only [part,Option.bind_eq_some_iff] at e
    obtain ⟨l',e1,e2⟩:=e
    rw [ok.rE l' l b e2 hb] at e1
    exact hl r e1
   ·obtain ⟨_,i,_,e3⟩:=lJ p e hk
    exact ok.rF L (List.mem_of_getElem? e3) hk ⟨l,hb⟩
  exact ⟨o,by rw [le.same b (ok.iH b ⟨l,hb⟩) no]; exact h3,h4.mono (aGc p le q)⟩
theorem aUv (k : Mem κ h m) (p : wH κ ls gs) {ms : List LO} (hms : ms.length = ls.length) (hr : ∀ (b l blk : Nat) c,ls[b]? = some l → κ.box l = some blk → ms[b]? = some c → ∃ o,h[blk]? = some o ∧ ORep (part κ ls gs) h c o) :
  Mem (part κ ls gs) h ⟨ms,(part κ ls gs).aN.map cY.told⟩:=by
 refine ⟨aYv k.1 p,⟨fun b blk hb=>?_,fun b blk c hb hc=>?_⟩,rfl⟩
 ·simp only [part,Option.bind_eq_some_iff] at hb
  obtain ⟨l,h1,_⟩:=hb
  rw [hms]; exact (List.getElem?_eq_some_iff.1 h1).1
 ·simp only [part,Option.bind_eq_some_iff] at hb
  obtain ⟨l,h1,h2⟩:=hb
  exact hr b l blk c h1 h2 hc
end
end Go.Fbs

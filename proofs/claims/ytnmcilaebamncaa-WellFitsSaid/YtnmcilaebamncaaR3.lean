/- Common texts: values, words, what they answer; no statement of the seat. -/
import Derived.Test.YtnmcilaebamncaaR2
import Derived.Test.YtnmcilaebamncaaS2
set_option linter.unusedVariables false
set_option linter.unusedSimpArgs false
set_option linter.unusedSectionVars false
/- Closed runs: what a run answers,by the quicker evaluator. -/
namespace Go.Rx
theorem b8v {P:Program} {tt:T aV} {ft:T FE} {big d:Nat} {f:FuncId} {args:List RV} (hT:fQ P tt) (hm:P.follows .mixedOrders=true) (hF:aQx P ft) (h:(aL9 tt ft big d f args ⟨0,.e⟩).isTrue=true) :
  ∃ H1,a2f P f args ⟨0,.e⟩ (.bool true) H1:=by
 rw [aVk] at h
 exact bAo hT hm hF h
end Go.Rx

/- From a closed run to what is said of a function in the small language. -/
namespace Go.Fbs
theorem b8w {κ : Ctx} {w w' : World} {m : Hp} (k : Mem κ w.heap m) (hs : w.heap.size ≤ w'.heap.size) (ho : ∀ b,b < w.heap.size → w'.heap[b]? = w.heap[b]?) (os : w'.os = w.os) (out : w'.output = w.output) : Ext κ w m κ w' m:=by
 obtain ⟨ok,hp,lt⟩:=k
 have hc:∀ b i x,fG w.heap b i=some x→fG w'.heap b i=some x:=fun b i x h=>by
  have hb:b < w.heap.size:=by
   unfold fG at h
   cases hg : w.heap[b]? with
   | none=>rw [hg] at h; simp at h
   | some o=>exact (Array.getElem?_eq_some_iff.1 hg).1
  unfold fG at h ⊢
  rw [ho b hb]; exact h
 have le:Le κ w.heap κ w'.heap :=
  ⟨hs,fun b hb _=>ho b hb,fun _ _ _=>rfl,fun b i x _ h=>hc b i x h,fun _=>zxy _,fun _ _ h=>h,fun _ h=>.inl h,
   fun _ L h=>⟨L,h,.inl rfl⟩,fun L h hk=>.inl ⟨L,h,hk,rfl⟩⟩
 refine ⟨le,⟨⟨fun b h=>zuz (ok.jL b h) hs,ok.tG,ok.xB,fun L h hk=>zuz (ok.kW L h hk) hs,ok.lhw,ok.lnd,ok.uN,fun L h hk=>?_,fun b hb=>ok.fresh b (Nat.le_trans hs hb)⟩,⟨hp.1,fun l b c hb hc=>?_⟩,lt⟩,zxy _,fun _ _ e=>e,os,⟨out,hs⟩⟩
 ·rw [ho _ (ok.kW L h hk)]; exact ok.sG L h hk
 ·obtain ⟨o,h1,h2⟩:=hp.2 l b c hb hc
  refine ⟨o,by rw [ho _ (ok.jL b ⟨l,hb⟩)]; exact h1,?_⟩
  cases c with
  | cells cs=>obtain ⟨xs,E,h3,h4,h5⟩:=h2; exact ⟨xs,E,h3,h4.mono le,h5⟩
  | arr cs=>obtain ⟨xs,E,h3,h6,h4,h5⟩:=h2; exact ⟨xs,E,h3,h6,h4.mono le,h5⟩
  | map es=>obtain ⟨en,cl,h3,h4,h5,h6⟩:=h2; exact ⟨en,cl,h3,h4.mono le,h5.mono le,h6⟩
  | dead=>exact h2
noncomputable def cv1:Rx.RV→V
 | .bool b=>.bool b
 | .int k n=>.int k n
 | .str s=>.str (s.l.map UInt8.ofNat)
 | .dQ=>.dQ
 | .undef=>.undef
 | _=>.any
noncomputable def cv:Rx.RV→V
 | .aM cs=>.aM (cs.map cv1)
 | v=>cv1 v
theorem aVl {Γ : Rx.Gm} {κ:Ctx} {h:bN} {r:Rx.RV} {x:Value} (hr:Rx.aE Γ r x):aE κ h (cv1 r) x:=by
 cases hr with
 | bool b=>exact .bool b
 | int k n=>exact .int k n
 | str s=>exact .str _
 | dQ=>exact .dQ
 | undef=>exact .undef
 | _=>exact .any _
theorem bA5 {Γ : Rx.Gm} {κ:Ctx} {h:bN} {r:Rx.RV} {x:Value} (hr:Rx.aE Γ r x):aE κ h (cv r) x:=by
 cases r
 case aM cs =>
  cases hr with
  | aM _ xs hl hr =>
   refine .aM _ xs (by simpa using hl) fun i c x hc hx=>?_
   rw [zvz,zyy] at hc
   obtain ⟨c0,h1,rfl⟩:=hc
   exact aVl (hr i c0 x h1 hx)
 all_goals exact aVl hr
theorem b8x (r:Rx.RV):(cv1 r).aJ=cv1 r:=by cases r <;> rfl
theorem bA6 (r:Rx.RV):(cv r).aJ=cv r:=by
 cases r
 case aM cs =>
  simp only [cv,V.aJ,cF,List.map_map]
  congr 1
  refine List.map_congr_left fun c _=>b8x c
 all_goals rfl
noncomputable def uv:V→Option Rx.RV
 | .bool b=>some (.bool b)
 | .int k n=>some (.int k n)
 | .str s=>some (.str (Rx.Sb.of (s.map UInt8.toNat)))
 | _=>none
theorem bA7 {Γ : Rx.Gm} {κ:Ctx} {h:bN} {v:V} {r:Rx.RV} {x:Value} (hu:uv v=some r) (hr:aE κ h v x):Rx.aE Γ r x:=by
 unfold uv at hu
 split at hu
 ·simp at hu; subst hu; cases hr; exact .bool _
 ·simp at hu; subst hu; cases hr; exact .int _ _
 ·rename_i s
  simp at hu; subst hu
  cases hr
  have e:(⟨⟨s⟩⟩:ByteArray)=Rx.bytes (s.map UInt8.toNat):=by
   unfold Rx.bytes
   rw [List.map_map]
   have:(UInt8.ofNat ∘ UInt8.toNat)=id:=by funext b; simp
   rw [this,List.map_id]
  rw [e]
  exact Rx.aE.ofL fun b hb=>by
   obtain ⟨c,_,rfl⟩:=List.mem_map.1 hb
   exact c.toNat_lt
 ·simp at hu
noncomputable def uvs:List V→Option (List Rx.RV)
 | []=>some []
 | v::vs=>match uv v,uvs vs with
  | some r,some rs=>some (r::rs)
  | _,_=>none
theorem aQ6 {Γ : Rx.Gm} {κ:Ctx} {h:bN} : ∀ {vs:List V} {rs:List Rx.RV} {xs:List Value},uvs vs=some rs→aC κ h vs xs→Rx.aC Γ rs xs
 | [],rs,xs,hu,hr=>by
  simp [uvs] at hu; subst hu
  have:xs=[]:=List.eq_nil_of_length_eq_zero hr.1
  subst this
  exact ⟨rfl,fun i c x h=>by simp at h⟩
 | v::vs,rs,[],hu,hr=>by have:=hr.1; simp at this
 | v::vs,rs,x::xs,hu,hr=>by
  simp only [uvs] at hu
  split at hu
  ·rename_i r rs' h1 h2
   simp at hu; subst hu
   have ih:=aQ6 (Γ:=Γ) (xs:=xs) h2 ⟨by have:=hr.1; simpa using this,fun i c y hc hy=>hr.2 (i+1) c y (by simpa using hc) (by simpa using hy)⟩
   refine ⟨by simp [ih.1],fun i c y hc hy=>?_⟩
   cases i with
   | zero=>simp at hc hy; subst hc hy; exact bA7 h1 (hr.2 0 v x rfl rfl)
   | succ i=>exact ih.2 i c y (by simpa using hc) (by simpa using hy)
  ·simp at hu
theorem aXx {P:Program} {f:FuncId} {F:Spec} (he:aAd P f) (h:∀ args v,F args=some v→∃ rs r H1,uvs args=some rs∧v=cv r∧Rx.a2f P f rs ⟨0,.e⟩ r H1):dD P f F:=by
 refine ⟨he,fun args v hF=>?_⟩
 obtain ⟨rs,r,H1,h1,rfl,h2⟩:=h args v hF
 refine ⟨fun m κ w xs k ra=>?_,bA6 r⟩
 obtain ⟨fn,c,hf,hb,hname⟩:=he
 have h8 : fn.name ≠ "runtime.NumGoroutine" := by simpa using hname
 have hcall:(callFunc f ⟨xs⟩).run P w = .ok (.enter f ⟨xs⟩) w:=by simp [callFunc,hf,hb,h8]
 have h3:=h2 w.heap.size w.heap (fun _=>none) w xs (Rx.aNi _) (aQ6 h1 ra)
 rw [hcall] at h3
 refine h3.mono fun e w' ⟨x,Γ',he,hx,hv⟩=>⟨x,κ,he,b8w k hx.kept.size (fun b hb=>hx.mem.old b hb) hx.kept.os hx.kept.output,bA5 hv⟩
def aQ7:Spec:=fun args=>match args with | []=>some (.bool true) | _=>none
theorem aXy {P:Program} {f:FuncId} (he:aAd P f) {H1:Rx.HT} (h:Rx.a2f P f [] ⟨0,.e⟩ (.bool true) H1):dD P f aQ7 :=
 aXx he fun args v hF=>by
  unfold aQ7 at hF
  split at hF
  ·simp at hF; subst hF
   exact ⟨[],.bool true,H1,rfl,rfl,h⟩
  ·simp at hF
end Go.Fbs

/- Common texts: values, words, what they answer; no statement of the seat. -/
import Derived.Test.YtcihohnnmhfjoaaGreatDoorR2
import Derived.Test.YtcihohnnmhfjoaaGreatDoorS2
set_option linter.unusedVariables false
set_option linter.unusedSimpArgs false
set_option linter.unusedSectionVars false
/- Closed runs: what a run answers,by the quicker evaluator. -/
namespace Go.Rx
theorem run_okX {P : Program} {tt : T RTI} {ft : T FE} {big d : Nat} {f : FuncId} {args : List RV} (hT : TtOk P tt) (hm : P.follows .mixedOrders = true) (hF : FtOk P ft) (h : (funX tt ft big d f args ⟨0,.e⟩).isTrue = true) :
  ∃ H1,CallR P f args ⟨0,.e⟩ (.bool true) H1:=by
 rw [funX_eq] at h
 exact run_ok hT hm hF h
end Go.Rx

/- From a closed run to what is said of a function in the small language. -/
namespace Go.Fbs
theorem ext_old {κ : Ctx} {w w' : World} {m : Hp} (k : Mem κ w.heap m) (hs : w.heap.size ≤ w'.heap.size) (ho : ∀ b,b < w.heap.size → w'.heap[b]? = w.heap[b]?) (os : w'.os = w.os) (out : w'.output = w.output) : Ext κ w m κ w' m:=by
 obtain ⟨ok,hp,lt⟩:=k
 have hc : ∀ b i x,hcell w.heap b i = some x → hcell w'.heap b i = some x:=fun b i x h=>by
  have hb : b < w.heap.size:=by
   unfold hcell at h
   cases hg : w.heap[b]? with
   | none=>rw [hg] at h; simp at h
   | some o=>exact (Array.getElem?_eq_some_iff.1 hg).1
  unfold hcell at h ⊢
  rw [ho b hb]; exact h
 have le : Le κ w.heap κ w'.heap :=
  ⟨hs,fun b hb _=>ho b hb,fun _ _ _=>rfl,fun b i x _ h=>hc b i x h,fun _=>Nat.le_refl _,fun _ _ h=>h,fun _ h=>.inl h,
   fun _ L h=>⟨L,h,.inl rfl⟩,fun L h hk=>.inl ⟨L,h,hk,rfl⟩⟩
 refine ⟨le,⟨⟨fun b h=>Nat.lt_of_lt_of_le (ok.boxlt b h) hs,ok.boxhw,ok.boxnd,fun L h hk=>Nat.lt_of_lt_of_le (ok.lblt L h hk) hs,ok.lhw,ok.lnd,ok.lbox,fun L h hk=>?_,fun b hb=>ok.fresh b (Nat.le_trans hs hb)⟩,⟨hp.1,fun l b c hb hc=>?_⟩,lt⟩,Nat.le_refl _,fun _ _ e=>e,os,⟨out,hs⟩⟩
 ·rw [ho _ (ok.lblt L h hk)]; exact ok.lcells L h hk
 ·obtain ⟨o,h1,h2⟩:=hp.2 l b c hb hc
  refine ⟨o,by rw [ho _ (ok.boxlt b ⟨l,hb⟩)]; exact h1,?_⟩
  cases c with
  | cells cs=>obtain ⟨xs,E,h3,h4,h5⟩:=h2; exact ⟨xs,E,h3,h4.mono le,h5⟩
  | arr cs=>obtain ⟨xs,E,h3,h6,h4,h5⟩:=h2; exact ⟨xs,E,h3,h6,h4.mono le,h5⟩
  | map es=>obtain ⟨en,cl,h3,h4,h5,h6⟩:=h2; exact ⟨en,cl,h3,h4.mono le,h5.mono le,h6⟩
  | dead=>exact h2
noncomputable def cv1 : Rx.RV → V
 | .bool b=>.bool b
 | .int k n=>.int k n
 | .str s=>.str (s.l.map UInt8.ofNat)
 | .nilp=>.nilp
 | .undef=>.undef
 | _=>.any
noncomputable def cv : Rx.RV → V
 | .tup cs=>.tup (cs.map cv1)
 | v=>cv1 v
theorem rep_cv1 {Γ : Rx.Gm} {κ : Ctx} {h : Heap} {r : Rx.RV} {x : Value} (hr : Rx.Rep Γ r x) : Rep κ h (cv1 r) x:=by
 cases hr with
 | bool b=>exact .bool b
 | int k n=>exact .int k n
 | str s=>exact .str _
 | nilp=>exact .nilp
 | undef=>exact .undef
 | _=>exact .any _
theorem rep_cv {Γ : Rx.Gm} {κ : Ctx} {h : Heap} {r : Rx.RV} {x : Value} (hr : Rx.Rep Γ r x) : Rep κ h (cv r) x:=by
 cases r
 case tup cs =>
  cases hr with
  | tup _ xs hl hr =>
   refine .tup _ xs (by simpa using hl) fun i c x hc hx=>?_
   rw [List.getElem?_map,Option.map_eq_some_iff] at hc
   obtain ⟨c0,h1,rfl⟩:=hc
   exact rep_cv1 (hr i c0 x h1 hx)
 all_goals exact rep_cv1 hr
theorem cv1_erA (r : Rx.RV) : (cv1 r).erA = cv1 r:=by cases r <;> rfl
theorem cv_erA (r : Rx.RV) : (cv r).erA = cv r:=by
 cases r
 case tup cs =>
  simp only [cv,V.erA,erAs_map,List.map_map]
  congr 1
  refine List.map_congr_left fun c _=>cv1_erA c
 all_goals rfl
noncomputable def uv : V → Option Rx.RV
 | .bool b=>some (.bool b)
 | .int k n=>some (.int k n)
 | .str s=>some (.str (Rx.Sb.of (s.map UInt8.toNat)))
 | _=>none
theorem rep_uv {Γ : Rx.Gm} {κ : Ctx} {h : Heap} {v : V} {r : Rx.RV} {x : Value} (hu : uv v = some r) (hr : Rep κ h v x) : Rx.Rep Γ r x:=by
 unfold uv at hu
 split at hu
 ·simp at hu; subst hu; cases hr; exact .bool _
 ·simp at hu; subst hu; cases hr; exact .int _ _
 ·rename_i s
  simp at hu; subst hu
  cases hr
  have e : (⟨⟨s⟩⟩ : ByteArray) = Rx.bytes (s.map UInt8.toNat):=by
   unfold Rx.bytes
   rw [List.map_map]
   have : (UInt8.ofNat ∘ UInt8.toNat) = id:=by funext b; simp
   rw [this,List.map_id]
  rw [e]
  exact Rx.Rep.ofL fun b hb=>by
   obtain ⟨c,_,rfl⟩:=List.mem_map.1 hb
   exact c.toNat_lt
 ·simp at hu
noncomputable def uvs : List V → Option (List Rx.RV)
 | []=>some []
 | v :: vs=>match uv v,uvs vs with
  | some r,some rs=>some (r :: rs)
  | _,_=>none
theorem reps_uvs {Γ : Rx.Gm} {κ : Ctx} {h : Heap} : ∀ {vs : List V} {rs : List Rx.RV} {xs : List Value},uvs vs = some rs → Reps κ h vs xs → Rx.Reps Γ rs xs
 | [],rs,xs,hu,hr=>by
  simp [uvs] at hu; subst hu
  have : xs = []:=List.eq_nil_of_length_eq_zero hr.1
  subst this
  exact ⟨rfl,fun i c x h=>by simp at h⟩
 | v :: vs,rs,[],hu,hr=>by have:=hr.1; simp at this
 | v :: vs,rs,x :: xs,hu,hr=>by
  simp only [uvs] at hu
  split at hu
  ·rename_i r rs' h1 h2
   simp at hu; subst hu
   have ih:=reps_uvs (Γ:=Γ) (xs:=xs) h2 ⟨by have:=hr.1; simpa using this,fun i c y hc hy=>hr.2 (i + 1) c y (by simpa using hc) (by simpa using hy)⟩
   refine ⟨by simp [ih.1],fun i c y hc hy=>?_⟩
   cases i with
   | zero=>simp at hc hy; subst hc hy; exact rep_uv h1 (hr.2 0 v x rfl rfl)
   | succ i=>exact ih.2 i c y (by simpa using hc) (by simpa using hy)
  ·simp at hu
theorem specL_runs {P : Program} {f : FuncId} {F : Spec} (he : Enter P f) (h : ∀ args v,F args = some v → ∃ rs r H1,uvs args = some rs ∧ v = cv r ∧ Rx.CallR P f rs ⟨0,.e⟩ r H1) : SpecL P f F:=by
 refine ⟨he,fun args v hF=>?_⟩
 obtain ⟨rs,r,H1,h1,rfl,h2⟩:=h args v hF
 refine ⟨fun m κ w xs k ra=>?_,cv_erA r⟩
 obtain ⟨fn,c,hf,hb,hname⟩:=he
 have h8 : fn.name ≠ "runtime.NumGoroutine" := by simpa using hname
 have hcall : (callFunc f ⟨xs⟩).run P w = .ok (.enter f ⟨xs⟩) w:=by simp [callFunc,hf,hb,h8]
 have h3:=h2 w.heap.size w.heap (fun _=>none) w xs (Rx.mem_none0 _) (reps_uvs h1 ra)
 rw [hcall] at h3
 refine h3.mono fun e w' ⟨x,Γ',he,hx,hv⟩=>⟨x,κ,he,ext_old k hx.kept.size (fun b hb=>hx.mem.old b hb) hx.kept.os hx.kept.output,rep_cv hv⟩
def F_true : Spec:=fun args=>match args with | []=>some (.bool true) | _=>none
theorem specL_true {P : Program} {f : FuncId} (he : Enter P f) {H1 : Rx.HT} (h : Rx.CallR P f [] ⟨0,.e⟩ (.bool true) H1) : SpecL P f F_true :=
 specL_runs he fun args v hF=>by
  unfold F_true at hF
  split at hF
  ·simp at hF; subst hF
   exact ⟨[],.bool true,H1,rfl,rfl,h⟩
  ·simp at hF
end Go.Fbs

/- Lists as arguments of a closed run: frozen places ahead of it. -/
namespace Go.Fbs
section
variable {Γ : Rx.Gm} {κ : Ctx} {h : Heap}
theorem rep_empty {g : Tag} {x : Value} (r : Rep κ h (.sl g []) x) : Rx.Rep Γ .sle x:=by
 cases r with
 | slnil=>exact .sle _ (.inl rfl)
 | sl=>exact .sle _ (.inr ⟨_,_,rfl⟩)
noncomputable def uc : V → Option Rx.RV
 | .sl _ []=>some .sle
 | v=>uv v
theorem rep_uc {v : V} {c : Rx.RV} {x : Value} (hu : uc v = some c) (hr : Rep κ h v x) : Rx.Rep Γ c x:=by
 unfold uc at hu
 split at hu
 ·simp only [Option.some.injEq] at hu; subst hu; exact rep_empty hr
 ·exact rep_uv hu hr
noncomputable def ucs : List V → Option (List Rx.RV)
 | []=>some []
 | v :: vs=>match uc v,ucs vs with
  | some r,some rs=>some (r :: rs)
  | _,_=>none
theorem ucs_get : ∀ {vs : List V} {rs : List Rx.RV},ucs vs = some rs → rs.length = vs.length ∧ ∀ (i : Nat) c,rs[i]? = some c → ∃ v,vs[i]? = some v ∧ uc v = some c
 | [],rs,h=>by simp only [ucs,Option.some.injEq] at h; subst h; exact ⟨rfl,fun i c h=>by simp at h⟩
 | v :: vs,rs,h=>by
  simp only [ucs] at h
  split at h
  ·rename_i r rs' h1 h2
   simp only [Option.some.injEq] at h; subst h
   obtain ⟨g1,g2⟩:=ucs_get h2
   refine ⟨by simp [g1],fun i c hc=>?_⟩
   cases i with
   | zero=>simp only [List.getElem?_cons_zero,Option.some.injEq] at hc; subst hc; exact ⟨v,rfl,h1⟩
   | succ i=>exact g2 i c (by simpa using hc)
  ·simp at h
theorem rep_list {g : Tag} {es : List V} {x : Value} {rs : List Rx.RV} {t : Rx.T Rx.RV} {sz : Nat} (hr : Rep κ h (.sl g es) x) (hne : flat es ≠ []) (hu : ucs (flat es) = some rs)
  (ht : ∀ (i : Nat) c,rs[i]? = some c → t.get i = some c) :
  ∃ p : Rx.Pl,p.b < h.size ∧ (∀ Γ,Rx.ORep Γ h p (.ro 0 rs.length t)) ∧ ∀ (Γ : Rx.Gm) l,Γ l = some p → Rx.Rep Γ (.slw l 0 es.length sz) x:=by
 obtain ⟨ul,ug⟩:=ucs_get hu
 cases hr with
 | slnil=>exact absurd rfl hne
 | sl _ _ b off cap sz' xs hx hue hl hr hc htag =>
  have hlen : 0 < (flat es).length:=List.length_pos_iff.2 hne
  have cell : ∀ i y,xs[i]? = some y → ∃ arr E fz,h[b]? = some (.cells arr E fz) ∧ arr[off + i]? = some y:=fun i y hy=>by
   have h1:=(hx i y hy).2.1
   unfold hcell at h1
   split at h1
   ·rename_i arr E fz hb; exact ⟨arr,E,fz,hb,h1⟩
   ·simp at h1
  obtain ⟨x0,hx0⟩ : ∃ x0,xs[0]? = some x0:=⟨xs[0]'(by omega),List.getElem?_eq_getElem (by omega)⟩
  obtain ⟨arr,E,fz,hb,_⟩:=cell 0 x0 hx0
  refine ⟨⟨b,off,arr.size⟩,(Array.getElem?_eq_some_iff.1 hb).1,fun Γ=>⟨arr,E,fz,hb,rfl,fun i hi=>?_,.inl rfl⟩,fun Γ l hl'=>.slw l 0 _ sz _ _ cap hl' hc fun _=>rfl⟩
  have hc' : rs[i]? = some rs[i]:=List.getElem?_eq_getElem hi
  obtain ⟨v,hv,huc⟩:=ug i _ hc'
  have hxi : xs[i]? = some (xs[i]'(by omega)):=List.getElem?_eq_getElem (by omega)
  obtain ⟨arr',E',fz',hb',hy⟩:=cell i _ hxi
  rw [hb] at hb'
  have hb':=Option.some.inj hb'
  injection hb' with ha _ _
  subst ha
  exact ⟨_,_,ht i _ hc',hy,rep_uc huc (hr i v _ hv hxi),(hx i _ hxi).2.2⟩
end
noncomputable def trOf : List Rx.RV → Nat → Rx.T Rx.RV → Rx.T Rx.RV
 | [],_,t=>t
 | v :: l,i,t=>trOf l (i + 1) (Rx.T.put (Rx.paN i) v t)
theorem trOf_get : ∀ (l : List Rx.RV) (i : Nat) (t : Rx.T Rx.RV) (j : Nat),(trOf l i t).get j = if i ≤ j ∧ j < i + l.length then l[j - i]? else t.get j
 | [],i,t,j=>by rw [if_neg (by simp only [List.length_nil]; omega)]; rfl
 | v :: l,i,t,j=>by
  rw [trOf,trOf_get l,Rx.T.get_put]
  simp only [List.length_cons]
  by_cases h : i + 1 ≤ j ∧ j < i + 1 + l.length
  ·rw [if_pos h,if_pos (by omega)]
   obtain ⟨k,hk⟩ : ∃ k,j = i + 1 + k:=⟨j - (i + 1),by omega⟩
   subst hk
   rw [show i + 1 + k - (i + 1) = k by omega,show i + 1 + k - i = k + 1 by omega,List.getElem?_cons_succ]
  ·rw [if_neg h]
   by_cases h2 : j = i
   ·subst h2; rw [if_pos rfl,if_pos (by omega),Nat.sub_self,List.getElem?_cons_zero]
   ·rw [if_neg h2,if_neg (by omega)]
noncomputable def hqOf : List Rx.RO → Nat → Rx.TQ Rx.RO → Rx.TQ Rx.RO
 | [],_,t=>t
 | v :: l,i,t=>hqOf l (i + 1) (Rx.TQ.put i v t)
theorem hqOf_get : ∀ (l : List Rx.RO) (i : Nat) (t : Rx.TQ Rx.RO) (j : Nat),(hqOf l i t).get j = if i ≤ j ∧ j < i + l.length then l[j - i]? else t.get j
 | [],i,t,j=>by rw [if_neg (by simp only [List.length_nil]; omega)]; rfl
 | v :: l,i,t,j=>by
  rw [hqOf,hqOf_get l,Rx.TQ.get_put]
  simp only [List.length_cons]
  by_cases h : i + 1 ≤ j ∧ j < i + 1 + l.length
  ·rw [if_pos h,if_pos (by omega)]
   obtain ⟨k,hk⟩ : ∃ k,j = i + 1 + k:=⟨j - (i + 1),by omega⟩
   subst hk
   rw [show i + 1 + k - (i + 1) = k by omega,show i + 1 + k - i = k + 1 by omega,List.getElem?_cons_succ]
  ·rw [if_neg h]
   by_cases h2 : j = i
   ·subst h2; rw [if_pos rfl,if_pos (by omega),Nat.sub_self,List.getElem?_cons_zero]
   ·rw [if_neg h2,if_neg (by omega)]
noncomputable def hOf (l : List Rx.RO) : Rx.HT:=⟨l.length,hqOf l 0 .e⟩
theorem hOf_get (l : List Rx.RO) (j : Nat) : (hOf l).get j = l[j]?:=by
 show (hqOf l 0 .e).get j = _
 rw [hqOf_get,Rx.TQ.get_e]
 by_cases h : j < l.length
 ·rw [if_pos (by omega),Nat.sub_zero]
 ·rw [if_neg (by omega),List.getElem?_eq_none (by omega)]
def PlsOk (h : Heap) (ps : List Rx.Pl) (os : List Rx.RO) : Prop :=
 ps.length = os.length ∧ ∀ (i : Nat) p o,ps[i]? = some p → os[i]? = some o → p.b < h.size ∧ o.live = false ∧ ∀ Γ,Rx.ORep Γ h p o
theorem PlsOk.nil {h : Heap} : PlsOk h [] []:=⟨rfl,fun i p o h1 _=>by simp at h1⟩
theorem PlsOk.append {h : Heap} {ps qs : List Rx.Pl} {os us : List Rx.RO} (a : PlsOk h ps os) (b : PlsOk h qs us) : PlsOk h (ps ++ qs) (os ++ us):=by
 refine ⟨by rw [List.length_append,List.length_append,a.1,b.1],fun i p o h1 h2=>?_⟩
 by_cases hi : i < ps.length
 ·rw [List.getElem?_append_left hi] at h1
  rw [List.getElem?_append_left (by rw [← a.1]; exact hi)] at h2
  exact a.2 i p o h1 h2
 ·rw [List.getElem?_append_right (by omega)] at h1
  rw [List.getElem?_append_right (by rw [← a.1]; omega),← a.1] at h2
  exact b.2 _ p o h1 h2
theorem mem_of_pls {h : Heap} {ps : List Rx.Pl} {os : List Rx.RO} (k : PlsOk h ps os) : Rx.Mem h.size h (fun l=>ps[l]?) h (hOf os) where
 size:=Nat.le_refl _
 old _ _:=rfl
 lt l p hp:=by
  have:=(List.getElem?_eq_some_iff.1 hp).1
  show l < os.length
  rw [← k.1]; exact this
 blk l p hp:=by
  have hl:=(List.getElem?_eq_some_iff.1 hp).1
  exact (k.2 l p (os[l]'(by rw [← k.1]; exact hl)) hp (List.getElem?_eq_getElem _)).1
 obj l p o hp ho:=(k.2 l p o hp (by rw [← hOf_get]; exact ho)).2.2 _
 own l p o hp ho hl:=by rw [(k.2 l p o hp (by rw [← hOf_get]; exact ho)).2.1] at hl; simp at hl
 excl l l' p p' o hp _ _ ho hl:=by rw [(k.2 l p o hp (by rw [← hOf_get]; exact ho)).2.1] at hl; simp at hl
def laOk (es : List V) (sz : Nat) (os : List Rx.RO) (rv : Nat → Rx.RV) : Prop :=
 (es = [] ∧ os = [] ∧ rv = fun _=>.sle) ∨ (flat es ≠ [] ∧ ∃ rs,ucs (flat es) = some rs ∧ os = [.ro 0 rs.length (trOf rs 0 .e)] ∧ rv = fun b=>.slw b 0 es.length sz)
theorem laOk.nil {sz : Nat} : laOk [] sz [] (fun _=>.sle):=.inl ⟨rfl,rfl,rfl⟩
theorem laOk.some {es : List V} {sz : Nat} {rs : List Rx.RV} (h : flat es ≠ []) (hu : ucs (flat es) = some rs) : laOk es sz [.ro 0 rs.length (trOf rs 0 .e)] (fun b=>.slw b 0 es.length sz):=.inr ⟨h,rs,hu,rfl,rfl⟩
theorem la_placed {κ : Ctx} {h : Heap} {g : Tag} {es : List V} {x : Value} {sz : Nat} {os : List Rx.RO} {rv : Nat → Rx.RV} (hr : Rep κ h (.sl g es) x) (hl : laOk es sz os rv) :
  ∃ ps,PlsOk h ps os ∧ ∀ (Γ : Rx.Gm) (base : Nat),(∀ i p,ps[i]? = some p → Γ (base + i) = some p) → Rx.Rep Γ (rv base) x:=by
 rcases hl with ⟨rfl,rfl,rfl⟩ | ⟨hne,rs,hu,rfl,rfl⟩
 ·exact ⟨[],.nil,fun Γ _ _=>rep_empty hr⟩
 ·obtain ⟨p,h1,h2,h3⟩:=rep_list (sz:=sz) (t:=trOf rs 0 .e) hr hne hu fun i c hc=>by
   rw [trOf_get,if_pos ⟨Nat.zero_le _,by have:=(List.getElem?_eq_some_iff.1 hc).1; omega⟩,Nat.sub_zero]; exact hc
  refine ⟨[p],⟨rfl,fun i q o hq ho=>?_⟩,fun Γ base hg=>h3 Γ base (hg 0 p rfl)⟩
  cases i with
  | succ i=>simp at hq
  | zero =>
   simp only [List.getElem?_cons_zero,Option.some.injEq] at hq ho
   subst hq ho
   exact ⟨h1,rfl,h2⟩
theorem specL_or {P : Program} {f : FuncId} {F1 F2 : Spec} (a : SpecL P f F1) (b : SpecL P f F2) : SpecL P f fun args=>F1 args <|> F2 args:=by
 refine ⟨a.1,fun args v hF=>?_⟩
 cases h : F1 args with
 | some v1 =>
  have hF : (F1 args <|> F2 args) = some v:=hF
  rw [h] at hF
  have hv : some v1 = some v:=hF
  exact a.2 args v (by rw [h,hv])
 | none =>
  have hF : (F1 args <|> F2 args) = some v:=hF
  rw [h] at hF
  exact b.2 args v hF
end Go.Fbs

/- What a closed run yields,as words: its new memory is sealed. -/
namespace Go.Fbs
def newHw (κ : Ctx) (n : Nat) (h : Heap) : Ctx:=⟨fun b=>if b < n then κ.hw b else match h[b]? with | some (.cells arr _ _)=>arr.size | _=>0,κ.box,κ.lease⟩
theorem newHw_old {κ : Ctx} {n : Nat} {h : Heap} {b : Nat} (hb : b < n) : (newHw κ n h).hw b = κ.hw b:=if_pos hb
theorem newHw_new {κ : Ctx} {n : Nat} {h : Heap} {b : Nat} {arr : Array Value} {E : TypeId} {fz : Nat × Nat} (hb : n ≤ b) (hg : h[b]? = some (.cells arr E fz)) : (newHw κ n h).hw b = arr.size:=by
 show (if b < n then κ.hw b else match h[b]? with | some (.cells arr _ _)=>arr.size | _=>0) = _
 rw [if_neg (by omega),hg]
theorem newHw_ext {κ : Ctx} {w w' : World} {m : Hp} (k : Mem κ w.heap m) (hs : w.heap.size ≤ w'.heap.size) (ho : ∀ b,b < w.heap.size → w'.heap[b]? = w.heap[b]?) (os : w'.os = w.os) (out : w'.output = w.output) : Ext κ w m (newHw κ w.heap.size w'.heap) w' m:=by
 obtain ⟨ok,hp,lt⟩:=k
 have hc : ∀ b i x,hcell w.heap b i = some x → hcell w'.heap b i = some x:=fun b i x h=>by
  have hb : b < w.heap.size:=by
   unfold hcell at h
   cases hg : w.heap[b]? with
   | none=>rw [hg] at h; simp at h
   | some o=>exact (Array.getElem?_eq_some_iff.1 hg).1
  unfold hcell at h ⊢
  rw [ho b hb]; exact h
 have le : Le κ w.heap (newHw κ w.heap.size w'.heap) w'.heap :=
  ⟨hs,fun b hb _=>ho b hb,fun b hb _=>newHw_old hb,fun b i x _ h=>hc b i x h,fun b=>by
   by_cases hb : b < w.heap.size
   ·rw [newHw_old hb]; exact Nat.le_refl _
   ·rw [ok.fresh b (by omega)]; exact Nat.zero_le _,fun _ _ h=>h,fun _ h=>.inl h,
   fun _ L h=>⟨L,h,.inl rfl⟩,fun L h hk=>.inl ⟨L,h,hk,rfl⟩⟩
 refine ⟨le,⟨⟨fun b h=>Nat.lt_of_lt_of_le (ok.boxlt b h) hs,fun b h=>?_,ok.boxnd,fun L h hk=>Nat.lt_of_lt_of_le (ok.lblt L h hk) hs,fun L h hk=>?_,ok.lnd,ok.lbox,fun L h hk=>?_,fun b hb=>?_⟩,⟨hp.1,fun l b c hb hc=>?_⟩,lt⟩,Nat.le_refl _,fun _ _ e=>e,os,⟨out,hs⟩⟩
 ·rw [newHw_old (ok.boxlt b h)]; exact ok.boxhw b h
 ·rw [newHw_old (ok.lblt L h hk)]; exact ok.lhw L h hk
 ·rw [ho _ (ok.lblt L h hk)]; exact ok.lcells L h hk
 ·show (if b < w.heap.size then κ.hw b else match w'.heap[b]? with | some (.cells arr _ _)=>arr.size | _=>0) = 0
  rw [if_neg (by omega),Array.getElem?_eq_none hb]
 ·obtain ⟨o,h1,h2⟩:=hp.2 l b c hb hc
  refine ⟨o,by rw [ho _ (ok.boxlt b ⟨l,hb⟩)]; exact h1,?_⟩
  cases c with
  | cells cs=>obtain ⟨xs,E,h3,h4,h5⟩:=h2; exact ⟨xs,E,h3,h4.mono le,h5⟩
  | arr cs=>obtain ⟨xs,E,h3,h6,h4,h5⟩:=h2; exact ⟨xs,E,h3,h6,h4.mono le,h5⟩
  | map es=>obtain ⟨en,cl,h3,h4,h5,h6⟩:=h2; exact ⟨en,cl,h3,h4.mono le,h5.mono le,h6⟩
  | dead=>exact h2
def eqNs : List Nat → List UInt8 → Bool
 | [],[]=>true
 | a :: x,b :: y=>Nat.beq a b.toNat && eqNs x y
 | _,_=>false
theorem eqNs_eq : ∀ {x : List Nat} {y : List UInt8},eqNs x y = true → x.map UInt8.ofNat = y
 | [],[],_=>rfl
 | [],_ :: _,h=>by simp [eqNs] at h
 | _ :: _,[],h=>by simp [eqNs] at h
 | a :: x,b :: y,h=>by
  simp only [eqNs,Bool.and_eq_true] at h
  have h1:=Nat.eq_of_beq_eq_true h.1
  rw [List.map_cons,eqNs_eq h.2,h1]
  simp
noncomputable def isV (H : Rx.HT) : Nat → Rx.RV → V → Bool
 | 0,_,_=>false
 | d + 1,r,v =>
  match v with
  | .bool b=>(match r with | .bool c=>b == c | _=>false)
  | .int k n=>(match r with | .int k' n'=>decide (k = k') && decide (n = n') | _=>false)
  | .str s=>(match r with | .str sb=>eqNs sb.l s | _=>false)
  | .nilp=>(match r with | .nilp=>true | _=>false)
  | .any=>true
  | .sl .ro es=>(match r with
   | .slnil=>es.isEmpty
   | .sl l off n sz _=>decide (n = es.length) && (decide (0 < n) && (es.all (fun e=>e.cells.length == sz) && (match H.get l with
    | some (.cells _ m t)=>decide (off + (flat es).length ≤ m) && (flat es).zipIdx.all (fun p=>match t.get (off + p.2) with | some r=>isV H d r p.1 | none=>false)
    | _=>false)))
   | _=>false)
  | .agg cs=>(match r with | .agg rs=>decide (rs.length = cs.length) && (cs.zip rs).all (fun p=>isV H d p.2 p.1) | _=>false)
  | .tup cs=>(match r with | .tup rs=>decide (rs.length = cs.length) && (cs.zip rs).all (fun p=>isV H d p.2 p.1) | _=>false)
  | _=>false
theorem isV_rep {κ : Ctx} {N : Nat} {h0 h : Heap} {Γ : Rx.Gm} {H : Rx.HT} (mm : Rx.Mem N h0 Γ h H) (hk : ∀ b arr E fz,N ≤ b → h[b]? = some (.cells arr E fz) → arr.size ≤ κ.hw b) :
  ∀ (d : Nat) (r : Rx.RV) (v : V) (x : Value),isV H d r v = true → Rx.Rep Γ r x → Rep κ h v x
 | 0,_,_,_,e,_=>by simp [isV] at e
 | d + 1,r,v,x,e,hr=>by
  have ih:=isV_rep mm hk d
  unfold isV at e
  split at e
  ·split at e <;> simp at e
   subst e; cases hr; exact .bool _
  ·split at e <;> simp at e
   obtain ⟨rfl,rfl⟩:=e; cases hr; exact .int _ _
  ·split at e <;> (try simp only [reduceCtorEq,Bool.false_eq_true] at e)
   cases hr with
   | str sb =>
    have:=eqNs_eq e
    unfold Rx.bytes
    rw [this]; exact .str _
  ·split at e <;> simp at e
   cases hr; exact .nilp
  ·exact .any _
  ·split at e
   ·simp at e; subst e; cases hr; exact .slnil _ (fun i hi=>by simp at hi)
   ·rename_i es _ l off n sz c
    simp only [Bool.and_eq_true,decide_eq_true_eq] at e
    obtain ⟨e1,e2,e3,e4⟩:=e
    subst e1
    split at e4
    ·rename_i g m t hg
     simp only [Bool.and_eq_true,decide_eq_true_eq] at e4
     obtain ⟨e5,e6⟩:=e4
     cases hr with
     | sl _ _ _ _ _ p a cap hp hn hc ha =>
     obtain ⟨rfl,_⟩:=ha (by omega)
     obtain ⟨arr,E,fz,a1,a2,a3,a4,a5,a6⟩:=mm.obj l p _ hp hg
     have hN:=mm.own l p _ hp hg rfl
     have cell : ∀ (i : Nat) v,(flat es)[i]? = some v → ∃ y,arr[p.base + off + i]? = some y ∧ Rep κ h v y ∧ y.oneCell' = true:=fun i v hv=>by
      have hi:=(List.getElem?_eq_some_iff.1 hv).1
      obtain ⟨c,y,h1,h2,h3,h4⟩:=a5 (off + i) (by omega)
      have h5:=List.all_eq_true.1 e6 (v,i) (by
       rw [List.mem_zipIdx_iff_getElem?]; exact hv)
      simp only [h1] at h5
      exact ⟨y,by rw [← h2]; congr 1; omega,ih c v y h5 h3,h4⟩
     have hxs : ∀ (i : Nat) v,(flat es)[i]? = some v → ∃ y,(((List.range (flat es).length).map fun i=>arr[p.base + off + i]?.getD Go.undef))[i]? = some y ∧ arr[p.base + off + i]? = some y:=fun i v hv=>by
      obtain ⟨y,h1,_,_⟩:=cell i v hv
      have hi:=(List.getElem?_eq_some_iff.1 hv).1
      refine ⟨y,?_,h1⟩
      rw [List.getElem?_map,List.getElem?_range hi]
      simp [h1]
     refine .sl .ro es p.b (p.base + off) cap sz ((List.range (flat es).length).map fun i=>arr[p.base + off + i]?.getD Go.undef) (fun i y hy=>?_) (fun q hq=>?_) (by simp) (fun i c y hc hy=>?_) hn trivial
     ·have hi : i < (flat es).length:=by have:=(List.getElem?_eq_some_iff.1 hy).1; simpa using this
      obtain ⟨y',h1,h2⟩:=hxs i _ (List.getElem?_eq_getElem hi)
      obtain ⟨y2,h3,_,h4⟩:=cell i _ (List.getElem?_eq_getElem hi)
      rw [hy] at h1
      obtain rfl:=Option.some.inj h1
      rw [h2] at h3
      obtain rfl:=Option.some.inj h3
      refine ⟨Nat.lt_of_lt_of_le (Array.getElem?_eq_some_iff.1 h2).1 (hk p.b arr E fz hN a1),?_,h4⟩
      unfold hcell
      rw [a1]; exact h2
     ·have:=List.all_eq_true.1 e3 q hq
      simpa using this
     ·obtain ⟨y',h1,h2⟩:=hxs i c hc
      obtain ⟨y2,h3,h4,_⟩:=cell i c hc
      rw [hy] at h1
      obtain rfl:=Option.some.inj h1
      rw [h2] at h3
      obtain rfl:=Option.some.inj h3
      exact h4
    ·simp at e4
   ·simp at e
  ·split at e
   ·rename_i cs _ rs
    simp only [Bool.and_eq_true,decide_eq_true_eq] at e
    cases hr with
    | agg _ xs hl ho hr =>
    refine .agg cs xs (by rw [hl,e.1]) ho fun i c x hc hx=>?_
    have hi:=(List.getElem?_eq_some_iff.1 hc).1
    have hr' : rs[i]? = some (rs[i]'(by rw [e.1]; exact hi)):=List.getElem?_eq_getElem _
    have h5:=List.all_eq_true.1 e.2 (c,rs[i]'(by rw [e.1]; exact hi)) (List.mem_of_getElem? (i:=i) (by rw [List.getElem?_zip_eq_some]; exact ⟨hc,hr'⟩))
    exact ih _ _ _ h5 (hr i _ x hr' hx)
   ·simp at e
  ·split at e
   ·rename_i cs _ rs
    simp only [Bool.and_eq_true,decide_eq_true_eq] at e
    cases hr with
    | tup _ xs hl hr =>
    refine .tup cs xs (by rw [hl,e.1]) fun i c x hc hx=>?_
    have hi:=(List.getElem?_eq_some_iff.1 hc).1
    have hr' : rs[i]? = some (rs[i]'(by rw [e.1]; exact hi)):=List.getElem?_eq_getElem _
    have h5:=List.all_eq_true.1 e.2 (c,rs[i]'(by rw [e.1]; exact hi)) (List.mem_of_getElem? (i:=i) (by rw [List.getElem?_zip_eq_some]; exact ⟨hc,hr'⟩))
    exact ih _ _ _ h5 (hr i _ x hr' hx)
   ·simp at e
  ·simp at e
theorem specL_runsV {P : Program} {f : FuncId} {F : Spec} (he : Enter P f) (h : ∀ args v,F args = some v → ∃ rs r H1 d,uvs args = some rs ∧ isV H1 d r v = true ∧ v.erA = v ∧ Rx.CallR P f rs ⟨0,.e⟩ r H1) : SpecL P f F:=by
 refine ⟨he,fun args v hF=>?_⟩
 obtain ⟨rs,r,H1,d,h1,hv,her,h2⟩:=h args v hF
 refine ⟨fun m κ w xs k ra=>?_,her⟩
 obtain ⟨fn,c,hf,hb,hname⟩:=he
 have h8 : fn.name ≠ "runtime.NumGoroutine" := by simpa using hname
 have hcall : (callFunc f ⟨xs⟩).run P w = .ok (.enter f ⟨xs⟩) w:=by simp [callFunc,hf,hb,h8]
 have h3:=h2 w.heap.size w.heap (fun _=>none) w xs (Rx.mem_none0 _) (reps_uvs h1 ra)
 rw [hcall] at h3
 exact h3.mono fun e w' ⟨x,Γ',he,hx,hr⟩=>⟨x,newHw κ w.heap.size w'.heap,he,newHw_ext k hx.kept.size (fun b hb=>hx.mem.old b hb) hx.kept.os hx.kept.output,
  isV_rep hx.mem (fun b arr E fz hb hg=>Nat.le_of_eq (newHw_new hb hg).symm) d r v x hv hr⟩
theorem specL_listsV {P : Program} {f : FuncId} {F : Spec} (he : Enter P f) (h : ∀ args v,F args = some v → ∃ k t ks ls sz1 sz2 o1 r1 o2 r2 r H1 d,args = [.agg [.int .i64 k,.str t,.sl .ro ks,.sl .ro ls]] ∧ laOk ks sz1 o1 r1 ∧ laOk ls sz2 o2 r2 ∧ isV H1 d r v = true ∧ v.erA = v ∧
   Rx.CallR P f [.agg [.int .i64 k,.str (Rx.Sb.of (t.map UInt8.toNat)),r1 0,r2 o1.length]] (hOf (o1 ++ o2)) r H1) : SpecL P f F:=by
 refine ⟨he,fun args v hF=>?_⟩
 obtain ⟨k,t,ks,ls,sz1,sz2,o1,r1,o2,r2,r,H1,d,rfl,l1,l2,hv,her,h2⟩:=h args v hF
 refine ⟨fun m κ w xs km ra=>?_,her⟩
 obtain ⟨fn,c,hf,hb,hname⟩:=he
 have h8 : fn.name ≠ "runtime.NumGoroutine" := by simpa using hname
 have hcall : (callFunc f ⟨xs⟩).run P w = .ok (.enter f ⟨xs⟩) w:=by simp [callFunc,hf,hb,h8]
 obtain ⟨hlen,hrep⟩:=ra
 match xs,hlen with
 | [x],_ =>
 have hx:=hrep 0 _ x rfl rfl
 cases hx with
 | agg _ ys hl ho hr =>
 match ys,hl with
 | [y0,y1,y2,y3],_ =>
 obtain ⟨p1,k1,g1⟩:=la_placed (hr 2 _ y2 rfl rfl) l1
 obtain ⟨p2,k2,g2⟩:=la_placed (hr 3 _ y3 rfl rfl) l2
 have kk:=k1.append k2
 have hR : Rx.Reps (fun l=>(p1 ++ p2)[l]?) [.agg [.int .i64 k,.str (Rx.Sb.of (t.map UInt8.toNat)),r1 0,r2 o1.length]] [.agg ⟨[y0,y1,y2,y3]⟩]:=by
  refine ⟨rfl,fun i c x hc hx=>?_⟩
  cases i with
  | succ i=>simp at hc
  | zero =>
   simp only [List.getElem?_cons_zero,Option.some.injEq] at hc hx
   subst hc hx
   refine .agg _ _ rfl ho fun i c x hc hx=>?_
   match i with
   | 0=>simp only [List.getElem?_cons_zero,Option.some.injEq] at hc hx; subst hc hx; exact rep_uv (v:=.int .i64 k) rfl (hr 0 _ _ rfl rfl)
   | 1=>simp only [List.getElem?_cons_zero,List.getElem?_cons_succ,Option.some.injEq] at hc hx; subst hc hx; exact rep_uv (v:=.str t) rfl (hr 1 _ _ rfl rfl)
   | 2 =>
    simp only [List.getElem?_cons_zero,List.getElem?_cons_succ,Option.some.injEq] at hc hx; subst hc hx
    exact g1 _ 0 fun i p hp=>by
     rw [Nat.zero_add,List.getElem?_append_left (List.getElem?_eq_some_iff.1 hp).1]; exact hp
   | 3 =>
    simp only [List.getElem?_cons_zero,List.getElem?_cons_succ,Option.some.injEq] at hc hx; subst hc hx
    exact g2 _ _ fun i p hp=>by
     rw [← k1.1,List.getElem?_append_right (Nat.le_add_right _ _),Nat.add_sub_cancel_left]; exact hp
   | n + 4=>simp at hc
 have h3:=h2 w.heap.size w.heap _ w _ (mem_of_pls kk) hR
 rw [hcall] at h3
 exact h3.mono fun e w' ⟨x,Γ',he,hx,hr⟩=>⟨x,newHw κ w.heap.size w'.heap,he,newHw_ext km hx.kept.size (fun b hb=>hx.mem.old b hb) hx.kept.os hx.kept.output,
  isV_rep hx.mem (fun b arr E fz hb hg=>Nat.le_of_eq (newHw_new hb hg).symm) d r v x hv hr⟩
end Go.Fbs

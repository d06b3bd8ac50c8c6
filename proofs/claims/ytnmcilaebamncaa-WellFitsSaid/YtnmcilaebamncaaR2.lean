/- Common texts: values, words, what they answer; no statement of the seat. -/
import Derived.Test.YtnmcilaebamncaaR1
import Derived.Maps.RangeRun
import Derived.Lib.UnsafeStr
import Derived.OrdersIn
import Derived.LoopNIn
import Derived.OwnWalkIn
import Derived.Test.YtnmcilaebamncaaR0
import Derived.LoopN
import Derived.Lib.Bytealg
import Derived.Room.MakeNoZero
import Derived.Carry
import Derived.ChangeMaps5
import Derived.OpenShut
set_option linter.unusedVariables false
set_option linter.unusedSimpArgs false
set_option linter.unusedSectionVars false
/- Closed runs: maps that are written. -/
namespace Go.Rx
section
variable {P:Program} {N:Nat} {h0:bN} {Γ : Gm} {w:World} {H H':HT} {tt:T aV} {n:Nat} {env:T RV} {a:Act}
theorem aT2 {t:TypeId} {v:RV} (m:Mem N h0 Γ w.heap H) (e:HT.a5k H (.map [] [] 0) (fun l H=>OR.ok (.map l) H) = .ok v H') :
  eS N h0 Γ w H ((do pure (.value (← Instr.makeMap t none)):Sem Next).run P w) v H':=by
 obtain ⟨H1,h1,h2⟩:=a2z H (.map [] [] 0) (fun l H=>OR.ok (.map l) H)
 rw [h1] at e
 simp at e
 obtain ⟨rfl,rfl⟩:=e
 refine ⟨.map (some w.heap.size),put Γ H.sz ⟨w.heap.size,0,0⟩,{ w with heap:=w.heap.push (.map #[] 0) },.inl ?_,aFp (o:=.map [] [] 0) (ob:=.map #[] 0) m ⟨[],by simp,aC.nil,aC.nil,rfl⟩ h2 rfl rfl rfl,?_⟩
 ·simp [Instr.makeMap,run_newObj]
 ·exact .map H.sz ⟨w.heap.size,0,0⟩ (by simp [put])
theorem aQh {t k e0:TypeId} (ht:P.underlying t=some (.map k e0)) {q:IntKind} {z:Int} {v:RV} (m:Mem N h0 Γ w.heap H) (e:HT.a5k H (.map [] [] 0) (fun l H=>OR.ok (.map l) H) = .ok v H') :
  eS N h0 Γ w H ((do pure (.value (← Instr.makeMap t (some (.int q z)))):Sem Next).run P w) v H':=by
 obtain ⟨H1,h1,h2⟩:=a2z H (.map [] [] 0) (fun l H=>OR.ok (.map l) H)
 rw [h1] at e
 simp at e
 obtain ⟨rfl,rfl⟩:=e
 refine ⟨.map (some w.heap.size),put Γ H.sz ⟨w.heap.size,0,0⟩,{ w with heap:=w.heap.push (.map #[] 0) },.inl ?_,aFp (o:=.map [] [] 0) (ob:=.map #[] 0) m ⟨[],by simp,aC.nil,aC.nil,rfl⟩ h2 rfl rfl rfl,?_⟩
 ·simp [Instr.makeMap,run_newObj,run_underlying ht,asInt,asIntOf]
 ·exact .map H.sz ⟨w.heap.size,0,0⟩ (by simp [put])
theorem aFq {β:Type} : ∀ (es:List (RV×RV)) (i:Nat) (e:RV×RV) (k:List (RV×RV)→β),aLy es i e k=k (es.set i e)
 | [],i,e,k=>rfl
 | x::es,0,e,k=>rfl
 | x::es,i+1,e,k=>by
  have:aLy (x::es) (i+1) e k=aLy es i e fun r=>k (x::r):=rfl
  rw [this,aFq es i e]; rfl
theorem aC.set {cs:List RV} {xs:List Value} (r:aC Γ cs xs) {i:Nat} {c:RV} {x:Value} (hc:aE Γ c x):aC Γ (cs.set i c) (xs.set i x):=by
 refine ⟨by simp [r.1],fun j d y h1 h2=>?_⟩
 rw [List.getElem?_set] at h1 h2
 rw [r.1] at h2
 split at h1
 ·rename_i hij
  rw [if_pos hij] at h2
  split at h1 <;> simp_all
 ·rename_i hij
  rw [if_neg hij] at h2
  exact r.2 j d y h1 h2
theorem aC.eraseIdx {cs:List RV} {xs:List Value} (r:aC Γ cs xs) (i:Nat):aC Γ (cs.eraseIdx i) (xs.eraseIdx i):=by
 rw [List.eraseIdx_eq_take_drop_succ,List.eraseIdx_eq_take_drop_succ]
 exact (r.take i).append (r.drop (i+1))
theorem a25 {α β:Type} (f:α→β) (l:List α) (j:Nat):(l.eraseIdx j).map f=(l.map f).eraseIdx j:=by
 rw [List.eraseIdx_eq_take_drop_succ,List.eraseIdx_eq_take_drop_succ,List.map_append,List.map_take,List.map_drop]
theorem map_set (m : Mem N h0 Γ w.heap H) {l : Nat} {p : Pl} {es es' : List (RV × RV)} {bs bs' : List Nat} {ck ck' : Nat} {en en' : List MapEntry} (hp : Γ l = some p) (ho : H.get l = some (.map es bs ck)) (hh : w.heap[p.b]? = some (.map ⟨en⟩ ck))
  (r1:aC Γ (es'.map (·.1)) (en'.map (·.key))) (r2:aC Γ (es'.map (·.2)) (en'.map (·.val))) (r3:en'.map (·.born)=bs') (hH:Upd H H' l (.map es' bs' ck')) :
  (setObj p.b (.map ⟨en'⟩ ck')).run P w = .ok () { w with heap:=w.heap.setIfInBounds p.b (.map ⟨en'⟩ ck') } ∧ Ext N h0 Γ w H Γ { w with heap:=w.heap.setIfInBounds p.b (.map ⟨en'⟩ ck') } H':=by
 have hlt:p.b < w.heap.size:=(Array.getElem?_eq_some_iff.1 hh).1
 refine ⟨by simp [setObj,Sem.run,hh],tA.refl Γ,?_,by rw [hH.1]; exact zxy _,fun _ _ h=>h,rfl,rfl,by simp,b0k hh (by simp) rfl⟩
 refine a8o (o':=.map es' bs' ck') m hp ho rfl (by simp) (fun b hb=>?_) ⟨en',?_,r1,r2,r3⟩ hH
 ·simp only
  rw [Array.getElem?_setIfInBounds_ne (fun h=>hb h.symm)]
 ·simp only
  rw [Array.getElem?_setIfInBounds,if_pos rfl,if_pos hlt]
theorem aQi {l:Lf} {x y:RV} {xa ya:Value} (hk:a0i [l]=true) (e:eqC l x y=some true) (rx:aE Γ x xa) (ry:aE Γ y ya) (d:Nat):Instr.sameBits d ya xa=true:=by
 unfold eqC at e
 split at e
 ·rename_i p q
  obtain rfl:=iF rx; obtain rfl:=iF ry
  cases p <;> cases q <;> simp [aX,bU] at e <;> simp [Instr.sameBits]
 ·rename_i k p k' q
  obtain rfl:=bR rx; obtain rfl:=bR ry
  replace e:=cC e; obtain ⟨h1,e⟩:=e
  obtain rfl:=a2y.1 h1
  rw [yD] at e
  simp at e; subst e
  simp [Instr.sameBits]
 ·rename_i s s'
  obtain ⟨rfl,h1⟩:=gQ rx; obtain ⟨rfl,h2⟩:=gQ ry
  rw [a8n] at e
  simp at e
  rw [e]
  simp [Instr.sameBits,beq_toListBytes]
 ·obtain rfl:=kH rx; obtain rfl:=kH ry
  simp [Instr.sameBits]
 ·simp at e
 ·simp at e
 ·rename_i l1 o1 l2 o2
  obtain ⟨p1,h1,rfl⟩:=fH rx
  obtain ⟨p2,h2,rfl⟩:=fH ry
  replace e:=cC e; obtain ⟨h3,e⟩:=e
  obtain rfl:=zzx h3
  simp at e
  subst e
  rw [h1] at h2; simp at h2; subst h2
  simp [Instr.sameBits]
 all_goals first | (simp [a0i] at hk; done) | (simp at e; done)
theorem aQj:∀ {ls:List Lf} {cs ds:List RV} {xs ys:List Value},a0i ls=true→pY ls cs ds=some true→aC Γ cs xs→aC Γ ds ys→∀ d,(ys.zip xs).all (fun p=>Instr.sameBits d p.1 p.2)=true∧ys.length=xs.length
 | [],cs,ds,xs,ys,hk,e,rx,ry,d=>by
  cases cs <;> cases ds <;> simp [pY] at e
  obtain rfl:=rx.mY; obtain rfl:=ry.mY
  simp
 | l::ls,cs,ds,xs,ys,hk,e,rx,ry,d=>by
  cases cs with
  | nil=>simp [pY] at e
  | cons c cs =>
   cases ds with
   | nil=>simp [pY] at e
   | cons c' ds =>
    obtain ⟨x,xs',rfl,r1,r2⟩:=rx.fJ
    obtain ⟨y,ys',rfl,r3,r4⟩:=ry.fJ
    simp only [pY] at e
    replace e:=aG e; obtain ⟨b,hb,e⟩:=e
    have hk1:a0i [l]=true∧a0i ls=true:=by
     cases l <;> simp only [a0i] at hk ⊢ <;> first | exact ⟨trivial,hk⟩ | (simp at hk)
    cases b with
    | false =>
     rw [bU] at e
     replace e:=aG e; obtain ⟨_,_,e⟩:=e
     simp at e
    | true =>
     rw [aX] at e
     obtain ⟨h1,h2⟩:=aQj hk1.2 e r2 r4 d
     have:=aQi hk1.1 hb r1 r3 d
     simp only [List.zip_cons_cons,List.all_cons,this,h1,zwx,h2]
     exact ⟨rfl,trivial⟩
theorem b3r {ki:aV} {key k:RV} {ka kb:Value} {ls:List Lf} (hls:ki.eq=some ls) (hkl:a0i ls=true) (e:eqV ki key k=some true) (rk:aE Γ key ka) (rk':aE Γ k kb):Instr.sameBits 10000 kb ka=true:=by
 unfold eqV at e
 rw [hls,aP] at e
 replace e:=cC e; obtain ⟨hsh,e⟩:=e
 cases hag:ki.agg with
 | true =>
  rw [hag,aX] at hsh
  cases key <;> simp only [lQ,aX,bU] at hsh <;> first | (simp at hsh; done) | skip
  cases k <;> first | (simp [lQ] at hsh; done) | skip
  obtain ⟨xs,r1,_,rfl⟩:=nT rk
  obtain ⟨ys,r2,_,rfl⟩:=nT rk'
  obtain ⟨h1,h2⟩:=aQj hkl e r1 r2 9999
  unfold Instr.sameBits
  simp only [zxz,beq_iff_eq]
  exact ⟨h2,h1⟩
 | false =>
  rw [hag,bU] at hsh
  have hx:lQ key=false:=by cases hx:lQ key with | false=>rfl | true=>rw [hx] at hsh; simp [aX,bU] at hsh
  have hy:lQ k=false:=by cases hy:lQ k with | false=>rfl | true=>rw [hx,hy] at hsh; simp [aX,bU] at hsh
  rw [wA hx,wA hy] at e
  obtain ⟨l,rfl,hc⟩:=aL0 e
  exact aQi hkl hc rk rk' 10000
theorem a90 {en : List MapEntry} {j : Nat} {e' : MapEntry} (h6 : en[j]? = some e') (f : MapEntry → MapEntry) : (⟨en⟩ : Array MapEntry).modify j f = ⟨en.set j (f e')⟩:=by
 have hjl:j < en.length:=(zzy.1 h6).1
 have hje:en[j]=e':=(zzy.1 h6).2
 apply Array.ext_getElem?
 intro i
 rw [Array.getElem?_modify]
 simp only [List.getElem?_toArray,List.getElem?_set]
 by_cases hij:j=i
 ·subst hij
  simp [hjl,hje]
 ·simp [hij]
theorem aC9 {ki:aV} {key k':RV} {ka kb:Value} (hkb:a9w ki key=true) (h9:eqV ki key k'=some true) (rk:aE Γ key ka) (rk':aE Γ k' kb):(Instr.keyThatStays kb ka).run P w = .ok ka w:=by
 obtain ⟨⟨ls,hls,hkl⟩,_⟩:=aVd hkb
 have:Instr.sameBits 10000 kb ka=true:=b3r hls hkl h9 rk rk'
 simp [Instr.keyThatStays,this]
theorem aHy {en : List MapEntry} {j : Nat} {e' : MapEntry} (h6 : en[j]? = some e') (f : MapEntry → MapEntry) (hf : ∀ e,(f e).born = e.born) : (en.set j (f e')).map (·.born) = en.map (·.born):=by
 rw [List.map_set,hf]
 apply List.ext_getElem?
 intro i
 rw [List.getElem?_set]
 split
 ·rename_i hij; subst hij
  split
  ·simp [h6]
  ·rename_i hl; rw [List.getElem?_eq_none (by omega)]
 ·rfl
theorem a6s (hT:fQ P tt) {t:TypeId} {x key u v:RV} {xa ka ua:Value} (m:Mem N h0 Γ w.heap H) (ra:aE Γ x xa) (rk:aE Γ key ka) (ru:aE Γ u ua) (e:xF tt H t x key u = .ok v H') :
  eS N h0 Γ w H ((do Instr.mapUpdate t xa ka ua; pure .skip:Sem Next).run P w) v H':=by
 unfold xF at e
 replace e:=dG e; obtain ⟨ti,hti,e⟩:=e
 obtain ⟨tok,rfl⟩:=hT _ _ hti
 have hd:=tok.d
 split at e
 ·rename_i kt e0 hdd
  rw [hdd] at hd
  have hd:P.underlying ti.t=some (.map kt e0):=hd
  replace e:=dG e; obtain ⟨ki,hki,e⟩:=e
  replace e:=dG e; obtain ⟨ei,hei,e⟩:=e
  replace e:=bQ e; obtain ⟨hkb,e⟩:=e
  replace e:=bQ e; obtain ⟨huk,e⟩:=e
  obtain ⟨kok,rfl⟩:=hT _ _ hki
  split at e
  ·rename_i l
   replace e:=aY e; obtain ⟨o,ho,e⟩:=e
   split at e
   ·rename_i es bs ck
    replace e:=aY e; obtain ⟨r,hr,e⟩:=e
    obtain ⟨p,hp,rfl⟩:=xG ra
    obtain ⟨en,hh,r1,r2,r3⟩:=m.obj l p _ hp ho
    obtain ⟨q,hq,hm⟩:=a2e (w:=w) kok rk r1 r2 hr
    have hck:=wC (w:=w) kok rk hkb false
    have hg:(getObj p.b).run P w = .ok (.map ⟨en⟩ ck) w:=by simp [getObj,Sem.run,hh]
    have hq':(Instr.findKey ki.t ka (⟨en⟩:Array MapEntry).toList).run P w = .ok q w:=hq
    cases r with
    | none =>
     rw [jC,nV,nV] at e
     obtain ⟨H1,h1,h2⟩:=fC H l (.map (es++[(key,u)]) (bs++[ck]) (Nat.succ ck)) (fun H=>OR.ok .undef H)
     rw [h1] at e
     simp at e
     obtain ⟨rfl,rfl⟩:=e
     obtain ⟨h3,h4⟩:=map_set (P:=P) (en':=en++[{ key:=ka,val:=ua,born:=ck }]) m hp ho hh (by simpa using r1.append (aC.cons rk aC.nil)) (by simpa using r2.append (aC.cons ru aC.nil)) (by simp [r3]) h2
     subst hm
     refine ⟨Go.undef,Γ,_,.inr ⟨?_,rfl⟩,h4,.undef⟩
     simp only [Instr.mapUpdate,Sem.run_bind,run_underlying hd,Result.andThen_ok,hg,hck,hq']
     have:(⟨en⟩:Array MapEntry).push { key:=ka,val:=ua,born:=ck } = ⟨en++[{ key:=ka,val:=ua,born:=ck }]⟩:=by simp
     rw [this,h3]
     rfl
    | some pr =>
     obtain ⟨j,old⟩:=pr
     rw [aP,aFq] at e
     obtain ⟨H1,h1,h2⟩:=fC H l (.map (es.set j (key,u)) bs ck) (fun H=>OR.ok .undef H)
     rw [h1] at e
     simp at e
     obtain ⟨rfl,rfl⟩:=e
     obtain ⟨y,e',rfl,h5,h6,h7,k',h8,h9⟩:=hm
     obtain ⟨h3,h4⟩:=map_set (P:=P) (en':=en.set j { e' with key:=ka,val:=ua }) m hp ho hh
      (by rw [List.map_set,List.map_set]; exact r1.set rk) (by rw [List.map_set,List.map_set]; exact r2.set ru) (by rw [← r3]; exact aHy h6 (fun e=>{ e with key:=ka,val:=ua }) (fun _=>rfl)) h2
     have hks:=aC9 (P:=P) (w:=w) hkb h9 rk (r1.2 j k' e'.key (by simp [h8]) (by simp [h6]))
     refine ⟨Go.undef,Γ,_,.inr ⟨?_,rfl⟩,h4,.undef⟩
     simp only [Instr.mapUpdate,Sem.run_bind,run_underlying hd,Result.andThen_ok,hg,hck,hq']
     have hget:((((⟨en⟩:Array MapEntry)[j]?).map (·.key)).getD ka)=e'.key:=by simp [h6]
     simp only [hget,hks,Sem.run_bind,Result.andThen_ok]
     rw [a90 h6,h3]
     rfl
   ·simp at e
  ·simp at e
 ·simp at e
theorem aL4 (hT:fQ P tt) {t:TypeId} {x key v:RV} {xa ka:Value} (m:Mem N h0 Γ w.heap H) (ra:aE Γ x xa) (rk:aE Γ key ka) (e:a6o tt H t x key = .ok v H') :
  eS N h0 Γ w H ((do pure (.value (← Instr.mapEntry t xa ka)):Sem Next).run P w) v H':=by
 unfold a6o at e
 replace e:=dG e; obtain ⟨ti,hti,e⟩:=e
 obtain ⟨tok,rfl⟩:=hT _ _ hti
 have hd:=tok.d
 split at e
 ·rename_i kt e0 hdd
  rw [hdd] at hd
  have hd:P.underlying ti.t=some (.map kt e0):=hd
  replace e:=dG e; obtain ⟨ki,hki,e⟩:=e
  replace e:=dG e; obtain ⟨ei,hei,e⟩:=e
  replace e:=aY e; obtain ⟨z,hz,e⟩:=e
  replace e:=bQ e; obtain ⟨hkb,e⟩:=e
  obtain ⟨kok,rfl⟩:=hT _ _ hki
  obtain ⟨eok,rfl⟩:=hT _ _ hei
  obtain ⟨x0,h6z,h7z,_⟩:=aNd (P:=P) (w:=w) (Γ:=Γ) eok hz
  split at e
  ·rename_i l
   replace e:=aY e; obtain ⟨o,ho,e⟩:=e
   split at e
   ·rename_i es bs ck
    replace e:=aY e; obtain ⟨r,hr,e⟩:=e
    obtain ⟨p,hp,rfl⟩:=xG ra
    obtain ⟨en,hh,r1,r2,r3⟩:=m.obj l p _ hp ho
    obtain ⟨q,hq,hm⟩:=a2e (w:=w) kok rk r1 r2 hr
    have hck:=wC (w:=w) kok rk hkb false
    have hg:(getObj p.b).run P w = .ok (.map ⟨en⟩ ck) w:=by simp [getObj,Sem.run,hh]
    have hq':(Instr.findKey ki.t ka (⟨en⟩:Array MapEntry).toList).run P w = .ok q w:=hq
    cases r with
    | none =>
     rw [jC,nV,nV] at e
     obtain ⟨H1,h1,h2⟩:=fC H l (.map (es++[(key,z)]) (bs++[ck]) (Nat.succ ck)) (fun H=>OR.ok (.aM [z,.int .i64 (.ofNat ck)]) H)
     rw [h1] at e
     simp at e
     obtain ⟨rfl,rfl⟩:=e
     obtain ⟨h3,h4⟩:=map_set (P:=P) (en':=en++[{ key:=ka,val:=x0,born:=ck }]) m hp ho hh (by simpa using r1.append (aC.cons rk aC.nil)) (by simpa using r2.append (aC.cons h7z aC.nil)) (by simp [r3]) h2
     subst hm
     refine ⟨.tuple #[x0,goInt ck],Γ,_,.inl ?_,h4,.aM _ [x0,goInt ck] rfl (aC.cons h7z (aC.cons (.int _ _) aC.nil)).2⟩
     simp only [Instr.mapEntry,Sem.run_bind,run_underlying hd,Result.andThen_ok,hg,hck,hq',h6z]
     have:(⟨en⟩:Array MapEntry).push { key:=ka,val:=x0,born:=ck } = ⟨en++[{ key:=ka,val:=x0,born:=ck }]⟩:=by simp
     rw [this,h3]
     rfl
    | some pr =>
     obtain ⟨j,old⟩:=pr
     rw [aP] at e
     replace e:=aY e; obtain ⟨bb,hbb,e⟩:=e
     rw [aFq] at e
     obtain ⟨H1,h1,h2⟩:=fC H l (.map (es.set j (key,old)) bs ck) (fun H=>OR.ok (.aM [old,.int .i64 (.ofNat bb)]) H)
     rw [h1] at e
     simp at e
     obtain ⟨rfl,rfl⟩:=e
     obtain ⟨y,e',rfl,h5,h6,h7,k',h8,h9⟩:=hm
     have hb':bb=e'.born:=by
      rw [kD,← r3,zvz,h6] at hbb
      simpa using hbb.symm
     obtain ⟨h3,h4⟩:=map_set (P:=P) (en':=en.set j { e' with key:=ka }) m hp ho hh
      (by rw [List.map_set,List.map_set]; exact r1.set rk) (by rw [List.map_set,List.map_set,h7]; exact r2.set h5) (by rw [← r3]; exact aHy h6 (fun e=>{ e with key:=ka }) (fun _=>rfl)) h2
     have hks:=aC9 (P:=P) (w:=w) hkb h9 rk (r1.2 j k' e'.key (by simp [h8]) (by simp [h6]))
     refine ⟨.tuple #[y,goInt bb],Γ,_,.inl ?_,h4,.aM _ [y,goInt bb] rfl (aC.cons h5 (aC.cons (.int _ _) aC.nil)).2⟩
     simp only [Instr.mapEntry,Sem.run_bind,run_underlying hd,Result.andThen_ok,hg,hck,hq']
     have hget:((((⟨en⟩:Array MapEntry)[j]?).map (·.key)).getD ka)=e'.key:=by simp [h6]
     simp only [hget,hks,Sem.run_bind,Result.andThen_ok]
     rw [a90 h6,h3]
     simp [h6,hb']
   ·simp at e
  ·simp at e
 ·simp at e
theorem a92 {b : Nat} : ∀ {bs : List Nat} {i j : Nat},idxOf b bs i = some j → i ≤ j ∧ bs[j - i]? = some b ∧ ∀ k,k < j - i → bs[k]? ≠ some b
 | [],i,j,e=>by simp [idxOf] at e
 | x::r,i,j,e=>by
  simp only [idxOf] at e
  rw [cK] at e
  split at e
  ·rename_i h
   simp at e; subst e
   have:=zzx h
   simp [this]
  ·rename_i h
   obtain ⟨h1,h2,h3⟩:=a92 e
   refine ⟨by omega,?_,fun k hk=>?_⟩
   ·rw [show j - i=(j - Nat.succ i)+1 by omega,zvx]; exact h2
   ·cases k with
    | zero=>intro hx; simp at hx; exact h (by rw [hx]; simp)
    | succ k=>rw [zvx]; exact h3 k (by omega)
theorem aHz {t:TypeId} {x st u v:RV} {xa sa ua:Value} (m:Mem N h0 Γ w.heap H) (ra:aE Γ x xa) (rs:aE Γ st sa) (ru:aE Γ u ua) (e:a2d H x st u = .ok v H') :
  eS N h0 Γ w H ((do Instr.entryStore t xa sa ua; pure .skip:Sem Next).run P w) v H':=by
 unfold a2d at e
 split at e
 ·rename_i l k b
  obtain rfl:=bR rs
  replace e:=aY e; obtain ⟨o,ho,e⟩:=e
  split at e
  ·rename_i es bs ck
   replace e:=aY e; obtain ⟨i,hi,e⟩:=e
   replace e:=aY e; obtain ⟨e0,he0,e⟩:=e
   replace e:=bQ e; obtain ⟨huk,e⟩:=e
   rw [aFq] at e
   obtain ⟨p,hp,rfl⟩:=xG ra
   obtain ⟨en,hh,r1,r2,r3⟩:=m.obj l p _ hp ho
   obtain ⟨_,hb1,hb2⟩:=a92 hi
   simp only [Nat.sub_zero] at hb1 hb2
   rw [← r3,zvz,zyy] at hb1
   obtain ⟨e',h6,hborn⟩:=hb1
   rw [kD] at he0
   obtain ⟨H1,h1,h2⟩:=fC H l (.map (es.set i (e0.1,u)) bs ck) (fun H=>OR.ok .undef H)
   rw [h1] at e
   simp at e
   obtain ⟨rfl,rfl⟩:=e
   obtain ⟨h3,h4⟩:=map_set (P:=P) (en':=en.set i { e' with val:=ua }) m hp ho hh
    (by rw [List.map_set,List.map_set]; exact r1.set (r1.2 i e0.1 e'.key (by simp [he0]) (by simp [h6]))) (by rw [List.map_set,List.map_set]; exact r2.set ru) (by rw [← r3]; exact aHy h6 (fun e=>{ e with val:=ua }) (fun _=>rfl)) h2
   have hg:(getObj p.b).run P w = .ok (.map ⟨en⟩ ck) w:=by simp [getObj,Sem.run,hh]
   have hfind : (⟨en⟩ : Array MapEntry).findIdx? (fun e=>(e.born : Int) == Int.ofNat b) = some i:=by
    rw [Array.findIdx?_eq_some_iff_getElem]
    have hil:i < en.length:=(zzy.1 h6).1
    have hie:en[i]=e':=(zzy.1 h6).2
    refine ⟨hil,by simp [hie,hborn],fun j hj=>?_⟩
    have:=hb2 j hj
    rw [← r3,zvz,zyz (show j < en.length by omega)] at this
    simp at this ⊢
    omega
   refine ⟨Go.undef,Γ,_,.inr ⟨?_,rfl⟩,h4,.undef⟩
   simp only [Instr.entryStore,Sem.run_bind,hg,Result.andThen_ok,asInt,asIntOf,Sem.run_pure,hfind]
   rw [a90 h6,h3]
   rfl
  ·simp at e
 ·simp at e
theorem aT3 (hT:fQ P tt) {t:TypeId} {x v:RV} {xa:Value} (m:Mem N h0 Γ w.heap H) (ra:aE Γ x xa) (e:aJm tt H t x = .ok v H') :
  eS N h0 Γ w H ((do pure (.value (← Instr.range t xa)):Sem Next).run P w) v H':=by
 unfold aJm at e
 replace e:=dG e; obtain ⟨ti,hti,e⟩:=e
 obtain ⟨tok,rfl⟩:=hT _ _ hti
 have hd:=tok.d
 split at e
 ·rename_i kt e0 hdd
  rw [hdd] at hd
  have hd:P.underlying ti.t=some (.map kt e0):=hd
  split at e
  ·rename_i l
   replace e:=aY e; obtain ⟨o,ho,e⟩:=e
   split at e
   ·rename_i es bs ck
    obtain ⟨p,hp,rfl⟩:=xG ra
    obtain ⟨en,hh,r1,r2,r3⟩:=m.obj l p _ hp ho
    have hg:(getObj p.b).run P w = .ok (.map ⟨en⟩ ck) w:=by simp [getObj,Sem.run,hh]
    obtain ⟨H1,h1,h2⟩:=a2z H (.a0h l ck [] ck) (fun l H=>OR.ok (.ptr l 0) H)
    rw [h1] at e
    simp only [OR.ok.injEq] at e
    obtain ⟨rfl,rfl⟩:=e
    have hb:p.b < w.heap.size:=m.cJ l p hp
    have hne:l≠H.sz:=fun h=>by have:=m.lt l p hp; omega
    refine ⟨.pointer (some ⟨w.heap.size,0,none⟩),put Γ H.sz ⟨w.heap.size,0,0⟩,{ w with heap:=w.heap.push (.mapIter (some p.b) ck #[] ck) },.inl ?_,aFp (o:=.a0h l ck [] ck) (ob:=.mapIter (some p.b) ck #[] ck) m ⟨p,?_,by simp,rfl⟩ h2 rfl rfl rfl,?_⟩
    ·simp [Instr.range,run_underlying hd,Sem.run_bind,hg,run_newObj]
    ·simp [put,hne,hp]
    ·exact .ptr H.sz 0 ⟨w.heap.size,0,0⟩ (by simp [put])
   ·simp at e
  ·simp at e
 ·simp at e
theorem aVe (b:Nat):∀ (l:List Nat),jH b l=l.contains b
 | []=>rfl
 | x::r=>by
  have ih:=aVe b r
  show aH (Nat.beq x b) true (jH b r)=_
  rw [ih,List.contains_cons]
  cases h:Nat.beq x b with
  | true=>rw [bDv.1 h]; simp [aX]
  | false =>
   have:(b == x)=false:=by
    rw [beq_eq_false_iff_ne]
    intro e; rw [e] at h; simp at h
   simp [bU,this]
where bDv {a b:Nat} : Nat.beq a b=true↔a=b:=by rw [Nat.beq_eq]
theorem aJt (n:Nat):∀ {l:List Nat},aW1 n l=true→∀ x ∈ l,x < n
 | [],_,x,h=>by simp at h
 | y::r,e,x,h=>by
  have e:aH (Nat.blt y n) (aW1 n r) false=true:=e
  rw [cK] at e
  split at e
  ·rename_i hy
   rw [Nat.blt_eq] at hy
   rcases List.mem_cons.1 h with rfl | h
   ·exact hy
   ·exact aJt n e x h
  ·simp at e
theorem aJu (seen:List Nat):∀ {es:List (RV×RV)} {en:List MapEntry},es.length=en.length →
  (a6p seen (en.map (·.born)) es).map (·.1)=(en.filter fun e=>!seen.contains e.born).map (·.born) ∧
  ∀ p ∈ a6p seen (en.map (·.born)) es,∃ (i : Nat) (e : MapEntry),en[i]? = some e ∧ es[i]? = some p.2 ∧ e.born = p.1 ∧ e ∈ en.filter fun e=>!seen.contains e.born
 | [],[],_=>⟨rfl,fun p h=>by simp [a6p] at h⟩
 | [],_::_,h=>by simp at h
 | _::_,[],h=>by simp at h
 | x::es,y::en,h=>by
  obtain ⟨h1,h2⟩:=aJu seen (es:=es) (en:=en) (by simpa using h)
  simp only [List.map_cons,a6p,aVe]
  cases hc:seen.contains y.born with
  | true =>
   have hf:(y::en).filter (fun e=>!seen.contains e.born)=en.filter fun e=>!seen.contains e.born:=by simp only [List.filter_cons,hc,Bool.not_true,Bool.false_eq_true,if_false]
   rw [aX,hf]
   refine ⟨h1,fun p hp=>?_⟩
   obtain ⟨i,e,g1,g2,g3,g4⟩:=h2 p hp
   exact ⟨i+1,e,by simpa using g1,by simpa using g2,g3,g4⟩
  | false =>
   have hf:(y::en).filter (fun e=>!seen.contains e.born)=y::en.filter fun e=>!seen.contains e.born:=by simp only [List.filter_cons,hc,Bool.not_false,if_true]
   rw [bU,hf]
   refine ⟨by rw [List.map_cons,List.map_cons,h1],fun p hp=>?_⟩
   rcases List.mem_cons.1 hp with rfl | hp
   ·exact ⟨0,y,rfl,rfl,rfl,by simp⟩
   ·obtain ⟨i,e,g1,g2,g3,g4⟩:=h2 p hp
    exact ⟨i+1,e,by simpa using g1,by simpa using g2,g3,List.mem_cons_of_mem _ g4⟩
theorem aXg {ty:TypeId} {x v:RV} {xa:Value} {str:Bool} (m:Mem N h0 Γ w.heap H) (ra:aE Γ x xa) (e:aOu H x str = .ok v H') :
  eS N h0 Γ w H ((do pure (.value (← Instr.next xa str ty)):Sem Next).run P w) v H':=by
 unfold aOu at e
 cases str with
 | true=>rw [aX] at e; simp at e
 | false =>
 rw [bU] at e
 split at e
 ·rename_i l off
  replace e:=bQ e; obtain ⟨h0,e⟩:=e
  rw [Nat.beq_eq] at h0
  subst h0
  replace e:=aY e; obtain ⟨o,ho,e⟩:=e
  split at e
  ·rename_i lm since seen last
   replace e:=aY e; obtain ⟨o2,ho2,e⟩:=e
   split at e
   ·rename_i es bs ck
    replace e:=bQ e; obtain ⟨hlt,e⟩:=e
    replace e:=bQ e; obtain ⟨hle,e⟩:=e
    have hle:=zxx hle
    obtain ⟨p,hp,rfl⟩:=fH ra
    obtain ⟨q,hq,hh,hb⟩:=m.obj l p _ hp ho
    obtain ⟨en,hm,r1,r2,r3⟩:=m.obj lm q _ hq ho2
    subst r3
    have hlen:es.length=en.length:=by have:=r1.1; simpa using this.symm
    obtain ⟨l1,l2⟩:=aJu seen hlen
    have hlt:=aJt since hlt
    have hold:∀ y ∈ (⟨en⟩:Array MapEntry).toList,y.born < since:=fun y hy=>hlt _ (List.mem_map.2 ⟨y,hy,rfl⟩)
    have hbase:p.base+0=0:=by omega
    have hleft:(leftOf ⟨en⟩ ⟨seen⟩).toList=en.filter fun e=>!seen.contains e.born:=by
     unfold leftOf; simp
    rcases run_next_at (P:=P) w ty p.b q.b since last ⟨seen⟩ ⟨en⟩ ck hh hm hold hle with ⟨h4,h5⟩ | ⟨y,hy,w1,hw1,h5⟩
    ·have hn:a6p seen (en.map (·.born)) es=[]:=by
      have h6:(en.filter fun e=>!seen.contains e.born)=[]:=by rw [← hleft]; simpa using h4
      rw [h6] at l1
      simpa using l1
     rw [hn] at e
     simp only [OR.ok.injEq] at e
     obtain ⟨rfl,rfl⟩:=e
     refine eS.same (y:=.tuple #[.bool false]) ?_ m (.aM _ [.bool false] rfl (aC.cons (.bool _) aC.nil).2)
     rw [hbase]
     simp [h5]
    ·split at e
     ·rename_i hn
      rw [hn] at l1
      have:(en.filter fun e=>!seen.contains e.born)=[]:=by simpa using l1.symm
      rw [hleft,this] at hy
      simp at hy
     ·rename_i pr hn
      have hone:∃ z,(en.filter fun e=>!seen.contains e.born)=[z]∧z.born=pr.1:=by
       rw [hn] at l1
       cases hf:(en.filter fun e=>!seen.contains e.born) with
       | nil=>rw [hf] at l1; simp at l1
       | cons z zs=>rw [hf] at l1; simp at l1; exact ⟨z,by rw [l1.2],l1.1.symm⟩
      obtain ⟨z,hz,hzb⟩:=hone
      rw [hleft,hz] at hy
      have hyz:y=z:=by simpa using hy
      subst hyz
      obtain ⟨i,e1,g1,g2,g3,g4⟩:=l2 pr (by rw [hn]; simp)
      rw [hz] at g4
      have he1:e1=y:=by simpa using g4
      subst he1
      obtain ⟨k,vv⟩:=pr.2
      rw [nV] at e
      obtain ⟨H1,h6,h7⟩:=fC H l (.a0h lm since (seen++[pr.1]) ck) (fun H=>OR.ok (.aM [.bool true,pr.2.1,pr.2.2]) H)
      rw [h6] at e
      simp only [OR.ok.injEq] at e
      obtain ⟨rfl,rfl⟩:=e
      have rk:aE Γ pr.2.1 e1.key:=r1.2 i _ _ (by simp [g2]) (by simp [g1])
      have rv:aE Γ pr.2.2 e1.val:=r2.2 i _ _ (by simp [g2]) (by simp [g1])
      have hlt2:p.b < w.heap.size:=m.cJ l p hp
      have hw1h:w1.heap=w.heap∧w1.os=w.os∧w1.output=w.output:=by
       rcases hw1 with rfl | rfl
       ·exact ⟨rfl,rfl,rfl⟩
       ·exact ⟨rfl,rfl,rfl⟩
      refine ⟨.tuple #[.bool true,e1.key,e1.val],Γ,_,.inl (by rw [hbase]; simp [h5]; rfl),?_,.aM _ [.bool true,e1.key,e1.val] rfl (aC.cons (.bool _) (aC.cons rk (aC.cons rv aC.nil))).2⟩
      refine ⟨tA.refl Γ,?_,by rw [h7.1]; exact zxy _,fun _ _ h=>h,hw1h.2.1,hw1h.2.2,by simp [ChangeMaps.setBlock,hw1h.1],b0k (o':=.mapIter (some q.b) since ((⟨seen⟩:Array Nat).push e1.born) ck) hh (by simp) (by simp only [ChangeMaps.setBlock,hw1h.1]; simp)⟩
      refine a8o (o':=.a0h lm since (seen++[pr.1]) ck) m hp ho rfl (by simp [ChangeMaps.setBlock,hw1h.1]) (fun b hb2=>?_) ⟨q,hq,?_,hb⟩ h7
      ·simp only [ChangeMaps.setBlock,hw1h.1]
       rw [Array.getElem?_setIfInBounds_ne (fun h=>hb2 h.symm)]
      ·simp only [ChangeMaps.setBlock,hw1h.1]
       rw [Array.getElem?_setIfInBounds,if_pos rfl,if_pos hlt2,hzb]
     ·simp at e
   ·simp at e
  ·simp at e
 ·simp at e
theorem aQk:∀ (l:List Nat),aW2 l=l.getLast?
 | []=>rfl
 | x::r=>by
  have ih:=aQk r
  show aF (aW2 r) (some x) some=_
  rw [ih]
  cases r with
  | nil=>rfl
  | cons y r =>
   rw [List.getLast?_cons_cons]
   cases h : (y :: r).getLast? with
   | none=>simp at h
   | some z=>rfl
theorem aXh {x v:RV} {xa:Value} (m:Mem N h0 Γ w.heap H) (ra:aE Γ x xa) (e:aJn H x=some v):∃ z,(Instr.entry xa).run P w = .ok z w∧aE Γ v z:=by
 unfold aJn at e
 split at e
 ·rename_i l off
  replace e:=cC e; obtain ⟨h0,e⟩:=e
  rw [Nat.beq_eq] at h0
  subst h0
  replace e:=aG e; obtain ⟨o,ho,e⟩:=e
  split at e
  ·rename_i lm since seen last
   replace e:=aG e; obtain ⟨b,hbb,e⟩:=e
   replace e:=aG e; obtain ⟨o2,ho2,e⟩:=e
   split at e
   ·rename_i es bs ck
    replace e:=cC e; obtain ⟨hck,e⟩:=e
    rw [Nat.beq_eq] at hck
    subst hck
    replace e:=aG e; obtain ⟨i,hi,e⟩:=e
    replace e:=aG e; obtain ⟨e0,he0,e⟩:=e
    simp only [zzz] at e
    subst e
    obtain ⟨p,hp,rfl⟩:=fH ra
    obtain ⟨q,hq,hh,hb⟩:=m.obj l p _ hp ho
    obtain ⟨en,hm,r1,r2,r3⟩:=m.obj lm q _ hq ho2
    obtain ⟨_,hb1,hb2⟩:=a92 hi
    simp only [Nat.sub_zero] at hb1 hb2
    rw [← r3,zvz,zyy] at hb1
    obtain ⟨e',h6,hborn⟩:=hb1
    rw [kD] at he0
    rw [aQk] at hbb
    have hback : (⟨seen⟩ : Array Nat).back? = some b:=by rw [← hbb,Array.back?_eq_getElem?,List.getLast?_eq_getElem?]; simp
    have hfind : (⟨en⟩ : Array MapEntry).find? (fun e=>e.born == b) = some e':=by
     rw [← Array.find?_toList,List.find?_eq_some_iff_getElem]
     have hil:i < en.length:=(zzy.1 h6).1
     have hie:en[i]=e':=(zzy.1 h6).2
     refine ⟨by simp [hborn],i,hil,hie,fun j hj=>?_⟩
     have:=hb2 j hj
     rw [← r3,zvz,zyz (show j < en.length by omega)] at this
     simpa using this
    have hbase:p.base+0=0:=by omega
    refine ⟨.tuple #[e'.key,e'.val],?_,.aM _ [e'.key,e'.val] rfl (aC.cons (r1.2 i e0.1 e'.key (by simp [he0]) (by simp [h6])) (aC.cons (r2.2 i e0.2 e'.val (by simp [he0]) (by simp [h6])) aC.nil)).2⟩
    rw [hbase]
    simp only [Instr.entry,getObj,Sem.run_bind,Sem.run,hh,hm,Result.andThen,hback,hfind,bne_self_eq_false,Bool.false_eq_true,if_false]
    rfl
   ·simp at e
  ·simp at e
 ·simp at e
theorem aQl (hT:fQ P tt) {t u ty:TypeId} {x key v:RV} {xa ka:Value} (m:Mem N h0 Γ w.heap H) (ra:aE Γ x xa) (rk:aE Γ key ka) (e:aLz tt H t x key = .ok v H') :
  eS N h0 Γ w H ((do pure (.value (← Builtin.delete_ #[t,u] ty #[xa,ka])):Sem Next).run P w) v H':=by
 unfold aLz at e
 replace e:=dG e; obtain ⟨ti,hti,e⟩:=e
 obtain ⟨tok,rfl⟩:=hT _ _ hti
 have hd:=tok.d
 have r0:aE Γ (.aM []) (.tuple #[]):=.aM [] [] rfl (by simp)
 split at e
 ·rename_i kt e0 hdd
  rw [hdd] at hd
  have hd:P.underlying ti.t=some (.map kt e0):=hd
  replace e:=dG e; obtain ⟨ki,hki,e⟩:=e
  replace e:=bQ e; obtain ⟨hkb,e⟩:=e
  obtain ⟨kok,rfl⟩:=hT _ _ hki
  split at e
  ·simp at e
   obtain ⟨rfl,rfl⟩:=e
   obtain rfl:=tL ra
   have hck:=wC (w:=w) kok rk hkb true
   exact eS.same (by simp [Builtin.delete_,run_underlying hd,hck]) m r0
  ·rename_i l
   replace e:=aY e; obtain ⟨o,ho,e⟩:=e
   split at e
   ·rename_i es bs ck
    replace e:=aY e; obtain ⟨r,hr,e⟩:=e
    obtain ⟨p,hp,rfl⟩:=xG ra
    obtain ⟨en,hh,r1,r2,r3⟩:=m.obj l p _ hp ho
    obtain ⟨q,hq,hm⟩:=a2e (w:=w) kok rk r1 r2 hr
    have hck:=wC (w:=w) kok rk hkb en.isEmpty
    have hg:(getObj p.b).run P w = .ok (.map ⟨en⟩ ck) w:=by simp [getObj,Sem.run,hh]
    cases r with
    | none =>
     rw [jC] at e
     simp at e
     obtain ⟨rfl,rfl⟩:=e
     subst hm
     obtain ⟨h3,h4⟩:=map_set (P:=P) (en':=en) (es':=es) (bs':=bs) (ck':=ck) m hp ho hh r1 r2 r3 (H':=H) ⟨rfl,fun j=>by by_cases h:j=l <;> simp [h,ho]⟩
     refine ⟨.tuple #[],Γ,_,.inl ?_,h4,r0⟩
     simp [Builtin.delete_,run_underlying hd,hg,hck,hq,h3]
    | some pr =>
     obtain ⟨j,old⟩:=pr
     rw [aP,a1j,nV,a1k,a1j,nV,a1k] at e
     obtain ⟨H1,h1,h2⟩:=fC H l (.map (es.take j++es.drop (Nat.succ j)) (bs.take j++bs.drop (Nat.succ j)) ck) (fun H=>OR.ok (.aM []) H)
     rw [h1] at e
     simp at e
     obtain ⟨rfl,rfl⟩:=e
     obtain ⟨y,e',rfl,h5,h6,h7,k',h8,h9⟩:=hm
     rw [← List.eraseIdx_eq_take_drop_succ,← List.eraseIdx_eq_take_drop_succ] at h2
     obtain ⟨h3,h4⟩:=map_set (P:=P) (en':=en.eraseIdx j) m hp ho hh (by rw [a25,a25]; exact r1.eraseIdx j) (by rw [a25,a25]; exact r2.eraseIdx j) (by rw [a25,r3]) h2
     refine ⟨.tuple #[],Γ,_,.inl ?_,h4,r0⟩
     have hjl:j < en.length:=(zzy.1 h6).1
     have hera:(⟨en⟩:Array MapEntry).eraseIdxIfInBounds j=⟨en.eraseIdx j⟩:=by
      unfold Array.eraseIdxIfInBounds
      rw [dif_pos (show j < (⟨en⟩:Array MapEntry).size from hjl)]
      apply Array.ext'
      simp
     simp [Builtin.delete_,run_underlying hd,hg,hck,hq,hera,h3]
   ·simp at e
  ·simp at e
 ·simp at e
noncomputable def aQm (tt:T aV) (H:HT) (t:TypeId) (x:RV):OR :=
 cM tt t .bad fun ti=>match ti.d,x with
  | .sl _,.slnil=>.ok (.aM []) H
  | .sl e,.sl l off n sz _=>aH (Nat.beq n 0) (.ok (.aM []) H) (cM tt e .bad fun ei=>aF ei.z .bad fun z=>aH (Nat.beq sz ei.sz) (aH (Nat.ble 1 ei.sz) (aC7 n z fun zs =>
    yC H l .bad fun g w t=>aH (Nat.ble (Nat.add off (Nat.mul n sz)) w) (nG zs t off fun t=>HT.gZ H l (.cells g w t) fun H=>.ok (.aM []) H) .bad) .bad) .bad)
  | _,_=>.bad
theorem aH0 {Γ : Gm} : aE Γ (.aM []) (.tuple #[]):=.aM [] [] rfl (fun i c x h _=>by simp at h)
theorem aT4 (hT:fQ P tt) {t ty:TypeId} {x v:RV} {xa:Value} (m:Mem N h0 Γ w.heap H) (ra:aE Γ x xa) (e:aQm tt H t x = .ok v H') :
  eS N h0 Γ w H ((do pure (.value (← Builtin.clear_ #[t] ty #[xa])):Sem Next).run P w) v H':=by
 unfold aQm at e
 replace e:=dG e; obtain ⟨ti,hti,e⟩:=e
 obtain ⟨tok,rfl⟩:=hT _ _ hti
 have hd:=tok.d
 split at e
 ·rename_i e0 hdd
  rw [hdd] at hd
  have hd:P.underlying ti.t=some (.slice e0):=hd
  simp at e
  obtain ⟨rfl,rfl⟩:=e
  obtain rfl:=j5 ra
  exact eS.same (y:=.tuple #[]) (by simp [Builtin.clear_,run_underlying hd]) m aH0
 ·rename_i e0 l off n sz c hdd
  rw [hdd] at hd
  have hd:P.underlying ti.t=some (.slice e0):=hd
  obtain ⟨p,ad,cap,hp,hn,hc,had,rfl⟩:=jB ra
  rw [cK] at e
  split at e
  ·rename_i h0
   obtain rfl:=zzx h0
   simp at e
   obtain ⟨rfl,rfl⟩:=e
   exact eS.same (y:=.tuple #[]) (by simp [Builtin.clear_,run_underlying hd]) m aH0
  ·rename_i h0
   have hn0:n≠0:=fun h=>h0 (by rw [h]; rfl)
   obtain ⟨k,rfl⟩:∃ k,n=k+1:=⟨n - 1,by omega⟩
   replace e:=dG e; obtain ⟨ei,hei,e⟩:=e
   replace e:=aY e; obtain ⟨z,hz,e⟩:=e
   replace e:=bQ e; obtain ⟨hsz,e⟩:=e
   obtain rfl:=zzx hsz
   replace e:=bQ e; obtain ⟨hpos,e⟩:=e
   have hpos:=zxx hpos
   rw [zH] at e
   replace e:=zG e; obtain ⟨g,w',t,hl,e⟩:=e
   replace e:=bQ e; obtain ⟨hle,e⟩:=e
   have hle:off+(k+1)*ei.sz≤w':=zxx hle
   obtain ⟨t',h1,h2⟩:=qX (List.replicate (k+1) z).flatten t off (fun t=>HT.gZ H l (.cells g w' t) fun H=>OR.ok (.aM []) H)
   obtain ⟨H1,h3,h4⟩:=fC H l (.cells g w' t') (fun H=>OR.ok (.aM []) H)
   rw [h1,h3] at e
   simp only [OR.ok.injEq] at e
   obtain ⟨rfl,rfl⟩:=e
   obtain ⟨f1,f2,zv,f3,f4,f5,f6⟩:=aHv hT hei hz w Γ
   obtain ⟨zs,g1,g2,g3⟩:=a23 (n:=k+1) f4 f5 (by omega)
   have hlen:(List.replicate (k+1) z).flatten.length=(k+1)*ei.sz:=by simp [f2]
   obtain ⟨h7,h8⟩:=a6r (P:=P) (cs:=(List.replicate (k+1) z).flatten) (xs:=zs) m hp hl g2 g3 (by rw [hlen]; exact hle) h2 h4
   obtain ⟨rfl,_⟩:=had (by omega)
   refine ⟨.tuple #[],Γ,_,.inl ?_,h8,aH0⟩
   have hzc:Builtin.zeroCells zv.cells (k+1)=⟨zs⟩:=by
    unfold Builtin.zeroCells
    rw [f6,← f2,← g1,f2,f6]
   simp [Builtin.clear_,run_underlying hd,f3,hzc,h7]
 ·simp at e
noncomputable def a94 (x:RV) (H:HT):OR :=
 match x with
 | .slnil=>.ok .dQ H
 | .sl l off n _ _=>aH (Nat.ble 1 n) (.ok (.ptr l off) H) .bad
 | _=>.bad
theorem aJv {ts:Array TypeId} {ty:TypeId} {x v:RV} {xa:Value} (m:Mem N h0 Γ w.heap H) (ra:aE Γ x xa) (e:a94 x H = .ok v H') :
  eS N h0 Γ w H ((do pure (.value (← Builtin.unsafeSliceData_ ts ty #[xa])):Sem Next).run P w) v H':=by
 unfold a94 at e
 split at e
 ·simp at e
  obtain ⟨rfl,rfl⟩:=e
  obtain rfl:=j5 ra
  exact cE (Go.Lib.run_unsafeSliceData_nil w ts ty 0 0) m .dQ
 ·rename_i l off n sz c
  replace e:=bQ e; obtain ⟨hn,e⟩:=e
  have hn:=zxx hn
  simp at e
  obtain ⟨rfl,rfl⟩:=e
  obtain ⟨p,ad,cap,hp,hnc,hc,had,rfl⟩:=jB ra
  obtain ⟨rfl,_⟩:=had (by omega)
  exact cE (Go.Lib.run_unsafeSliceData_row w ts ty _ n cap (by omega)) m (.ptr l off p hp)
 ·simp at e
noncomputable def a3s (tt:T aV) (H:HT) (pt:TypeId) (x n:RV):OR :=
 cM tt pt .bad fun ti=>match ti.d,x,n with
  | .ptr _,.dQ,.int .i64 (.ofNat 0)=>.ok (.str ⟨0,0⟩) H
  | .ptr e,.ptr l 0,.int .i64 (.ofNat n)=>aH (Nat.ble 1 n) (aH (Nat.ble n 1000000) (cM tt e .bad fun ei=>aH (Nat.beq ei.sz 1) (aF (H.get l) .bad fun o=>match o with
    | .cells g m t=>aH (Nat.beq g (Nat.succ e)) (aH (Nat.ble n m) (pA t n 0 .bad fun cs=>aF (z6 cs) .bad fun bs=>aP3 bs fun s=>HT.gZ H l (.ro g m t) fun H=>.ok (.str s) H) .bad) .bad
    | .ro g m t=>aH (Nat.beq g (Nat.succ e)) (aH (Nat.ble n m) (pA t n 0 .bad fun cs=>aF (z6 cs) .bad fun bs=>aP3 bs fun s=>HT.gZ H l (.ro g m t) fun H=>.ok (.str s) H) .bad) .bad
    | _=>.bad) .bad) .bad) .bad
  | _,_,_=>.bad
theorem aG5 {w : World} {b n : Nat} {arr : Array Value} {E : TypeId} {fz : Nat × Nat} (h1 : w.heap[b]? = some (.cells arr E fz)) (hn : n ≠ 0) :
  ∃ fz',(w.freeze ⟨b,0,none⟩ n).heap[b]? = some (.cells arr E fz') ∧ (w.freeze ⟨b,0,none⟩ n).heap.size = w.heap.size ∧ (∀ i,i ≠ b → (w.freeze ⟨b,0,none⟩ n).heap[i]? = w.heap[i]?) ∧ Kept w (w.freeze ⟨b,0,none⟩ n):=by
 obtain ⟨lo,hi⟩:=fz
 refine ⟨if lo == hi then (0,0+n) else (min lo 0,max hi (0+n)),?_,?_,fun i hi=>?_,?_⟩
 ·simp only [World.freeze,hn,if_false,Array.getElem?_modify,if_true,h1,Option.map_some]
 ·simp [World.freeze,hn]
 ·simp only [World.freeze,hn,if_false,Array.getElem?_modify]
  rw [if_neg (fun h=>hi h.symm)]
 ·exact ⟨by simp [World.freeze,hn],by simp [World.freeze,hn],by simp [World.freeze,hn],fun b h=>by
   simp only [World.freeze,hn,if_false,Array.getElem?_modify,h]
   split <;> rfl⟩
theorem aDa (hT:fQ P tt) {pt it ty:TypeId} {x nn v:RV} {xa na:Value} (m:Mem N h0 Γ w.heap H) (ra:aE Γ x xa) (rn:aE Γ nn na) (e:a3s tt H pt x nn = .ok v H') :
  eS N h0 Γ w H ((do pure (.value (← Builtin.unsafeString_ #[pt,it] ty #[xa,na])):Sem Next).run P w) v H':=by
 unfold a3s at e
 replace e:=dG e; obtain ⟨ti,hti,e⟩:=e
 obtain ⟨tok,rfl⟩:=hT _ _ hti
 have hd:=tok.d
 split at e
 ·simp at e
  obtain ⟨rfl,rfl⟩:=e
  obtain rfl:=kH ra
  obtain rfl:=bR rn
  exact cE (Go.Lib.run_unsafeString_none w ti.t it ty none) m (.str ⟨0,0⟩)
 ·rename_i e0 l n hdd
  rw [hdd] at hd
  have hd:P.underlying ti.t=some (.pointer e0):=hd
  obtain rfl:=bR rn
  obtain ⟨p,hp,rfl⟩:=fH ra
  replace e:=bQ e; obtain ⟨hn1,e⟩:=e
  have hn1:=zxx hn1
  replace e:=bQ e; obtain ⟨hn2,e⟩:=e
  have hn2:=zxx hn2
  replace e:=dG e; obtain ⟨ei,hei,e⟩:=e
  obtain ⟨eok,heit⟩:=hT _ _ hei
  replace e:=bQ e; obtain ⟨hsz,e⟩:=e
  have hsz:=zzx hsz
  have fG:P.cellsOf e0=1:=by
   have:=eok.sz
   rw [heit,hsz] at this
   unfold dW at this
   unfold Program.cellsOf
   rw [this]; rfl
  replace e:=aY e; obtain ⟨o,ho,e⟩:=e
  split at e
  ·rename_i g mm t
   replace e:=bQ e; obtain ⟨hg,e⟩:=e
   have hg:=zzx hg
   replace e:=bQ e; obtain ⟨hle,e⟩:=e
   have hle:=zxx hle
   obtain ⟨cs,e,h4,h5⟩:=pL _ _ _ _ _ e
   replace e:=aY e; obtain ⟨bs,hbs,e⟩:=e
   rw [a8l] at e
   obtain ⟨H1,h6,h7⟩:=fC H l (.ro g mm t) (fun H=>OR.ok (.str (Sb.of bs)) H)
   rw [h6] at e
   simp at e
   obtain ⟨rfl,rfl⟩:=e
   obtain ⟨arr,E,fz,a1,a2,a3,a4,a5,a6⟩:=m.obj l p _ hp ho
   obtain ⟨rfl,hbase⟩:e0=E∧p.base=0:=by
    rcases a6 with h | ⟨h,hb⟩
    ·rw [h] at hg; simp at hg
    ·rw [h] at hg; exact ⟨by simpa using hg.symm,hb⟩
   obtain ⟨xs,b1,b2,b3⟩:=a5.list (by omega) h4 h5
   obtain ⟨rfl,hb256⟩:=yP hbs
   have hxs:=a9z b1
   have hbl:bs.length=n:=by simpa using h4
   have hn0:n≠0:=by omega
   obtain ⟨fz',c1,c2,c3,c4⟩:=aG5 (w:=w) (n:=n) a1 hn0
   have hsh : w.shape? p.b = some (e0,arr.size):=by unfold World.shape?; rw [a1]
   have harr:n≤arr.size:=by
    have hlast : xs[n - 1]? = some (Value.int .u8 (Int.ofNat (bs[n - 1]'(by omega)))):=by
     rw [hxs]
     simp [zyz (show n - 1 < bs.length by omega)]
    have:=(Array.getElem?_eq_some_iff.1 (b3 _ _ hlast)).1
    omega
   have hcells : ∀ j y,(bs.map UInt8.ofNat)[j]? = some y → w.cell? ((⟨p.b,0,none⟩ : Addr).add j) = some (.int .u8 y.toNat):=by
    intro j y hj
    have hjl:j < bs.length:=by have:=(zzy.1 hj).1; simpa using this
    have hy:y=UInt8.ofNat bs[j]:=by
     rw [zvz,zyz hjl] at hj
     simpa using hj.symm
    have hx : xs[j]? = some (Value.int .u8 (Int.ofNat bs[j])):=by
     rw [hxs]
     simp [zyz hjl]
    have h9:=b3 j _ hx
    rw [show p.base+0+j=j by omega] at h9
    have hlt:=hb256 bs[j] (List.getElem_mem hjl)
    have hyt:(y.toNat:Int)=Int.ofNat bs[j]:=by
     rw [hy]; simp; omega
    rw [hyt,Addr.add_mid,cell_of rfl a1,Nat.zero_add]
    exact h9
   have hrun:=Go.Lib.run_unsafeString_row (P:=P) w ti.t it ty e0 hd fG p.b arr.size hsh (bs.map UInt8.ofNat) (by intro h; simp at h; subst h; simp at hbl; omega) (by simp; omega) (by simp; omega) hcells
   simp only [List.length_map,hbl] at hrun
   have hw:Mem N h0 Γ (w.freeze ⟨p.b,0,none⟩ n).heap H1:=a8o (o':=.ro g mm t) m hp ho rfl c2 c3 ⟨arr,e0,fz',c1,a2,a5,a6⟩ h7
   refine ⟨_,Γ,_,.inl ?_,⟨tA.refl Γ,hw,by rw [h7.1]; exact zxy _,fun _ _ h=>h,c4⟩,aE.ofL hb256⟩
   rw [hbase]
   show (do pure (.value (← Builtin.unsafeString_ #[ti.t,it] ty #[.pointer (some ⟨p.b,0+0,none⟩),.int .i64 (n:Int)])):Sem Next).run P w=_
   simp only [Sem.run_bind,Nat.add_zero,hrun,Result.andThen_ok]
   rfl
  ·rename_i g mm t
   replace e:=bQ e; obtain ⟨hg,e⟩:=e
   have hg:=zzx hg
   replace e:=bQ e; obtain ⟨hle,e⟩:=e
   have hle:=zxx hle
   obtain ⟨cs,e,h4,h5⟩:=pL _ _ _ _ _ e
   replace e:=aY e; obtain ⟨bs,hbs,e⟩:=e
   rw [a8l] at e
   obtain ⟨H1,h6,h7⟩:=fC H l (.ro g mm t) (fun H=>OR.ok (.str (Sb.of bs)) H)
   rw [h6] at e
   simp at e
   obtain ⟨rfl,rfl⟩:=e
   obtain ⟨arr,E,fz,a1,a2,a5,a6⟩:=m.obj l p _ hp ho
   obtain ⟨rfl,hbase⟩:e0=E∧p.base=0:=by
    rcases a6 with h | ⟨h,hb⟩
    ·rw [h] at hg; simp at hg
    ·rw [h] at hg; exact ⟨by simpa using hg.symm,hb⟩
   obtain ⟨xs,b1,b2,b3⟩:=a5.list (by omega) h4 h5
   obtain ⟨rfl,hb256⟩:=yP hbs
   have hxs:=a9z b1
   have hbl:bs.length=n:=by simpa using h4
   have hn0:n≠0:=by omega
   obtain ⟨fz',c1,c2,c3,c4⟩:=aG5 (w:=w) (n:=n) a1 hn0
   have hsh : w.shape? p.b = some (e0,arr.size):=by unfold World.shape?; rw [a1]
   have harr:n≤arr.size:=by
    have hlast : xs[n - 1]? = some (Value.int .u8 (Int.ofNat (bs[n - 1]'(by omega)))):=by
     rw [hxs]
     simp [zyz (show n - 1 < bs.length by omega)]
    have:=(Array.getElem?_eq_some_iff.1 (b3 _ _ hlast)).1
    omega
   have hcells : ∀ j y,(bs.map UInt8.ofNat)[j]? = some y → w.cell? ((⟨p.b,0,none⟩ : Addr).add j) = some (.int .u8 y.toNat):=by
    intro j y hj
    have hjl:j < bs.length:=by have:=(zzy.1 hj).1; simpa using this
    have hy:y=UInt8.ofNat bs[j]:=by
     rw [zvz,zyz hjl] at hj
     simpa using hj.symm
    have hx : xs[j]? = some (Value.int .u8 (Int.ofNat bs[j])):=by
     rw [hxs]
     simp [zyz hjl]
    have h9:=b3 j _ hx
    rw [show p.base+0+j=j by omega] at h9
    have hlt:=hb256 bs[j] (List.getElem_mem hjl)
    have hyt:(y.toNat:Int)=Int.ofNat bs[j]:=by
     rw [hy]; simp; omega
    rw [hyt,Addr.add_mid,cell_of rfl a1,Nat.zero_add]
    exact h9
   have hrun:=Go.Lib.run_unsafeString_row (P:=P) w ti.t it ty e0 hd fG p.b arr.size hsh (bs.map UInt8.ofNat) (by intro h; simp at h; subst h; simp at hbl; omega) (by simp; omega) (by simp; omega) hcells
   simp only [List.length_map,hbl] at hrun
   have hw:Mem N h0 Γ (w.freeze ⟨p.b,0,none⟩ n).heap H1:=a8o (o':=.ro g mm t) m hp ho (by rw [hg]; rfl) c2 c3 ⟨arr,e0,fz',c1,a2,a5,a6⟩ h7
   refine ⟨_,Γ,_,.inl ?_,⟨tA.refl Γ,hw,by rw [h7.1]; exact zxy _,fun _ _ h=>h,c4⟩,aE.ofL hb256⟩
   rw [hbase]
   show (do pure (.value (← Builtin.unsafeString_ #[ti.t,it] ty #[.pointer (some ⟨p.b,0+0,none⟩),.int .i64 (n:Int)])):Sem Next).run P w=_
   simp only [Sem.run_bind,Nat.add_zero,hrun,Result.andThen_ok]
   rfl
  ·simp at e
 ·simp at e
end
end Go.Rx

/- Closed runs: operations. -/
namespace Go.Rx
abbrev dK:=FuncId→List RV→HT→OR
noncomputable def gX (o:Option RV) (H:HT):OR:=aF o .bad fun v=>.ok v H
noncomputable def b3s (x y:RV):Option RV :=
 match x,y with
 | .int k a,.int k' b=>aH (a2w k k') (some (.int k (aH (ltI b a) b a))) none
 | _,_=>none
noncomputable def b3t (x y:RV):Option RV :=
 match x,y with
 | .int k a,.int k' b=>aH (a2w k k') (some (.int k (aH (ltI a b) b a))) none
 | _,_=>none
noncomputable def oK (tt:T aV) (b:Builtin) (ts:List TypeId) (vs:List RV) (H:HT):OR :=
 match b,ts,vs with
 | .len,[t],[x]=>gX (a9k tt H t x) H
 | .cap,[t],[x]=>gX (b3g tt t x) H
 | .append,[t,u],[x,y]=>(match x,y with | .slnil,.int _ (.ofNat n)=>aOt tt H t u n | _,_=>lB tt H t u x y)
 | .copy,[t,_],[x,y]=>copyV tt H t x y
 | .delete,[t,_],[x,y]=>aLz tt H t x y
 | .min,_,[x,y]=>gX (b3s x y) H
 | .max,_,[x,y]=>gX (b3t x y) H
 | .clear,[t],[x]=>aQm tt H t x
 | .unsafeSliceData,_,[x]=>a94 x H
 | .unsafeString,[pt,_],[x,y]=>a3s tt H pt x y
 | _,_,_=>.bad
def Y0:Nat:=4294967296
noncomputable def aXi (C:dK) (env:T RV) (f:Operand) (args:List Operand) (H:HT):OR :=
 aF (ev env f) .bad fun u=>match u with
  | .func g caps=>aH (Nat.beq g Y0) .bad (aF (gJ env args) .bad fun vs=>iB vs caps fun vs=>C g vs H)
  | .yld l=>aF (gJ env args) .bad fun vs=>C Y0 (.yld l::vs) H
  | _=>.bad
noncomputable def aZ (c a b:RV):Option RV :=
 match c with
 | .bool t=>some (aH t a b)
 | _=>none
noncomputable def fA (env:T RV) (x:Operand) (k:RV→OR):OR:=aF (ev env x) .bad k
noncomputable def lO (env:T RV) (x y:Operand) (k:RV→RV→OR):OR:=aF (ev env x) .bad fun u=>aF (ev env y) .bad fun v=>k u v
noncomputable def ev3 (env:T RV) (x y z:Operand) (k:RV→RV→RV→OR):OR:=aF (ev env x) .bad fun u=>aF (ev env y) .bad fun v=>aF (ev env z) .bad fun r=>k u v r
section
variable (tt:T aV) (C:dK)
noncomputable def aQn (H:HT) (t:TypeId):OR:=cM tt t .bad fun ti=>aF ti.z .bad fun z=>aJl H (Nat.succ t) z
noncomputable def b3u (H:HT) (v:RV):OR:=aH v.fZ (aJl H 0 v.cells) .bad
noncomputable def aOv (H:HT) (t:TypeId) (x:RV):OR:=cM tt t .bad fun ti=>gX (nF ti H x) H
noncomputable def a8p (H:HT) (t:TypeId) (x y:RV):OR:=cM tt t .bad fun ti=>mP ti H x y
noncomputable def a95 (H:HT) (t:TypeId):OR:=cM tt t .bad fun ti=>match ti.d with
 | .map _ _=>HT.a5k H (.map [] [] 0) fun l H=>.ok (.map l) H
 | _=>.bad
noncomputable def a26 (env:T RV) (H:HT) (fn:Fn) (first captured:List Operand):OR :=
 match fn,first with
 | .func f,[]=>gX (aF (gJ env captured) none fun vs=>some (.func f vs)) H
 | _,_=>.bad
noncomputable def aH1 (env:T RV) (H:HT) (t:TypeId) (r:Option Operand):OR :=
 match r with
 | none=>a95 tt H t
 | some x=>fA env x fun u=>match u with | .int _ _=>a95 tt H t | _=>.bad
noncomputable def a5m (env:T RV) (H:HT) (t:TypeId) (x:Operand) (lo hi mx:Option Operand):OR :=
 match mx with
 | none=>fA env x fun u=>aF (qK env lo) .bad fun l=>aF (qK env hi) .bad fun h=>gX (qV tt t u l h) H
 | some m=>match hi with
  | some hx=>fA env x fun u=>aF (qK env lo) .bad fun l=>fA env hx fun h=>fA env m fun q=>gX (aP4 tt t u l h q) H
  | none=>.bad
noncomputable def aXj (op:BinOp) (t:TypeId):Option RV:=cM tt t none fun ti=>match ti.d with
 | .iface=>(match op with | .eql=>some (.bool true) | .neq=>some (.bool false) | _=>none)
 | _=>none
noncomputable def isK (o:Operand):Bool:=match o with | .const _=>true | _=>false
noncomputable def aXk (op:BinOp) (t:TypeId) (x y:Operand) (u v:RV):Option RV :=
 match u with
 | .yZ=>(match v with | .yZ=>aH (isK x) (aXj tt op t) (aH (isK y) (aXj tt op t) none) | _=>none)
 | u=>a1f tt op t u v
noncomputable def uB (env:T RV) (H:HT) (op:Op):OR :=
 match op with
 | .move x=>gX (ev env x) H
 | .assign x=>gX (ev env x) H
 | .pick c a b=>ev3 env c a b fun c a b=>gX (aZ c a b) H
 | .alloc t=>aQn tt H t
 | .box _ x=>fA env x fun v=>b3u H v
 | .build t parts=>gX (y0 tt env t parts.toList) H
 | .buildSlice t len parts=>nE tt env H t len parts.toList
 | .load t x=>fA env x fun u=>aOv tt H t u
 | .store t x y=>lO env x y fun u v=>a8p tt H t u v
 | .nilCheck x=>fA env x fun u=>gX (a7k u) H
 | .binOp op t x y _=>lO env x y fun u v=>gX (aXk tt op t x y u v) H
 | .unOp op _ x=>fA env x fun u=>gX (rU op u) H
 | .convert src dst x=>fA env x fun u=>j7 tt H src dst u
 | .makeFunc fn first captured=>a26 env H fn first.toList captured.toList
 | .makeMap t r=>aH1 tt env H t r
 | .makeSlice t l c=>lO env l c fun u v=>jA tt H t u v
 | .slice t x lo hi mx=>a5m tt env H t x lo hi mx
 | .fieldAddr t x f=>fA env x fun u=>gX (kC tt t u f) H
 | .field t x f=>fA env x fun u=>gX (tZ tt t u f) H
 | .indexAddr t x i=>lO env x i fun u v=>gX (iE tt t u v) H
 | .index t x i=>lO env x i fun u v=>gX (pW tt t u v) H
 | .lookup t x i ok=>lO env x i fun u v=>gX (aFo tt H t u v ok) H
 | .mapUpdate t m k x=>ev3 env m k x fun m k x=>xF tt H t m k x
 | .insert t m k x=>ev3 env m k x fun m k x=>xF tt H t m k x
 | .extract x i=>fA env x fun u=>gX (aD u i) H
 | .mapEntry t m k=>lO env m k fun m k=>a6o tt H t m k
 | .entryStore _ m k x=>ev3 env m k x fun m k x=>a2d H m k x
 | .range t x=>fA env x fun u=>aJm tt H t u
 | .next x s=>fA env x fun u=>aOu H u s
 | .entry x=>fA env x fun u=>gX (aJn H u) H
 | .call c=>match c.callee with
   | .builtin b=>aF (gJ env c.args.toList) .bad fun vs=>oK tt b c.argTypes.toList vs H
   | .value f=>aXi C env f c.args.toList H
   | _=>.bad
 | _=>.bad
end
section
variable {P:Program} {N:Nat} {h0:bN} {Γ : Gm} {w:World} {H H':HT} {tt:T aV} {C:dK} {env:T RV} {a:Act}
theorem b3v (hT:fQ P tt) {op:BinOp} {t:TypeId} {ox oy:Operand} {x y v:RV} {a b:Value} (e:aXk tt op t ox oy x y=some v) (ra:aE Γ x a) (rb:aE Γ y b) :
  ∃ z,(do eqGuard op t ox oy a b; binOp op t a b:Sem Value).run P w = .ok z w∧aE Γ v z:=by
 unfold aXk at e
 split at e
 ·split at e
  ·cases ra; cases rb
   have hk:(isK ox=true∨isK oy=true)∧aXj tt op t=some v:=by
    rw [cK] at e
    split at e
    ·rename_i h; exact ⟨.inl h,e⟩
    ·rw [cK] at e
     split at e
     ·rename_i h; exact ⟨.inr h,e⟩
     ·simp at e
   clear e
   obtain ⟨hk,e⟩:=hk
   unfold aXj at e
   replace e:=dN e; obtain ⟨ti,hti,e⟩:=e
   obtain ⟨tok,rfl⟩:=hT _ _ hti
   have hd:=tok.d
   have hg:∀ op,(eqGuard op ti.t ox oy .nilIface .nilIface).run P w = .ok () w:=by
    intro op
    rcases hk with h | h
    ·cases ox <;> simp [isK] at h
     cases op <;> simp [eqGuard]
    ·cases oy <;> simp [isK] at h
     cases op <;> cases ox <;> simp [eqGuard]
   split at e
   ·rename_i hdd
    rw [hdd] at hd
    obtain ⟨ms,hd⟩:=hd
    have heq:(Op.equal ti.t .nilIface .nilIface).run P w = .ok true w:=by
     show (Op.equalIn (9999+1) ti.t .nilIface .nilIface).run P w=_
     unfold Op.equalIn
     simp only [Sem.run_bind,run_underlying hd,Result.andThen_ok]
     rfl
    split at e
    ·simp at e; subst e
     refine ⟨.bool true,?_,.bool true⟩
     simp only [Sem.run_bind,hg,Result.andThen_ok]
     simp [binOp,heq]
    ·simp at e; subst e
     refine ⟨.bool false,?_,.bool false⟩
     simp only [Sem.run_bind,hg,Result.andThen_ok]
     simp [binOp,heq]
    ·simp at e
   ·simp at e
  ·simp at e
 ·exact aHp hT e ra rb
def frF (ρ:Option Nat):Fence:={ Fence.wide with round:=ρ }
theorem aXl {ρ:Option Nat} {n:Nat} {P:Program} {f:FuncId} {args:Array Value} {w:World} {R:Ending→World→Prop} (h:Calls P f args w R):CallsIn (frF ρ) n P f args w R:=by
 have h:=(callsIn_wide (n:=n)).2 h
 exact h
def a2f (P:Program) (f:FuncId) (args:List RV) (H:HT) (v:RV) (H':HT):Prop :=
 ∀ (N:Nat) (h0:bN) (Γ : Gm) (w:World) (xs:List Value),Mem N h0 Γ w.heap H→aC Γ args xs →
  match (callFunc f ⟨xs⟩).run P w with
  | .ok (.enter g ys) w1=>Calls P g ys w1 fun e w'=>∃ x Γ',e = .returned x∧Ext N h0 Γ w H Γ' w' H'∧aE Γ' v x
  | .ok (.value x) w'=>∃ Γ',Ext N h0 Γ w H Γ' w' H'∧aE Γ' v x
  | _=>False
def b0m (P:Program) (args:List RV) (H:HT) (v:RV) (H':HT):Prop :=
 ∀ l vs,args = .yld l::vs→∀ (N:Nat) (h0:bN) (Γ : Gm) (w:World) (xs:List Value) (p:Pl),Mem N h0 Γ w.heap H → Γ l=some p→aC Γ vs xs →
  ∃ fn tmps asg body,(Instr.yield p.b ⟨xs⟩).run P w = .ok (.round p.b fn tmps asg body) w ∧
   RoundIn Fence.wide 0 P p.b fn tmps asg body w fun e w'=>∃ x Γ',e = .returned x∧Ext N h0 Γ w H Γ' w' H'∧aE Γ' v x
def bG8 (P : Program) (args : List RV) : Prop := ∀ g cs, args = [.func g cs] → ∃ fn c, P.funcs[g]? = some fn ∧ fn.body = some c ∧ (fn.name == "runtime.NumGoroutine") = false
def wD (P:Program) (C:dK):Prop:=∀ f args H v H',C f args H = .ok v H'→(f≠Y0→a2f P f args H v H')∧(f=Y0→b0m P args H v H'∧bG8 P args)
def yX (P:Program) (ρ:Option Nat) (N:Nat) (h0:bN) (Γ : Gm) (w:World) (H:HT) (o:Oper) (a:Act) (v:RV) (H':HT):Prop :=
 ∀ Q,o.wpIn (frF ρ) 0 P a w (fun a' w'=>∃ x Γ',a'=a.put o.dst x∧Ext N h0 Γ w H Γ' w' H'∧aE Γ' v x) Q
theorem yX.bF {ρ:Option Nat} {o:Oper} {v:RV} (h:eS N h0 Γ w H ((execOp a.eval o).run P w) v H') (hd:∀ c,o.op ≠ .defer c:=by intro c h; simp at h):yX P ρ N h0 Γ w H o a v H':=by
 intro Q
 obtain ⟨y,Γ',w',hr,x,r⟩:=h
 refine ⟨fun _ _=>trivial,?_⟩
 rw [Oper.semAt_plain _ _ o hd]
 rcases hr with hr | ⟨hr,rfl⟩
 ·rw [hr]; exact ⟨y,Γ',rfl,x,r⟩
 ·rw [hr]; exact ⟨Go.undef,Γ',rfl,x,r⟩
theorem dH {o:Option RV} {v:RV} (e:gX o H = .ok v H'):o=some v∧H'=H:=by
 unfold gX at e
 replace e:=aY e; obtain ⟨u,h1,e⟩:=e
 simp at e
 obtain ⟨rfl,rfl⟩:=e
 exact ⟨h1,rfl⟩
theorem fP {x:Operand} {k:RV→OR} {v:RV} (e:fA env x k = .ok v H'):∃ u,ev env x=some u∧k u = .ok v H':=aY e
theorem qY {x y:Operand} {k:RV→RV→OR} {v:RV} (e:lO env x y k = .ok v H'):∃ u u',ev env x=some u∧ev env y=some u'∧k u u' = .ok v H':=by
 unfold lO at e
 replace e:=aY e; obtain ⟨u,h1,e⟩:=e
 replace e:=aY e; obtain ⟨u',h2,e⟩:=e
 exact ⟨u,u',h1,h2,e⟩
theorem a8q {x y z:Operand} {k:RV→RV→RV→OR} {v:RV} (e:ev3 env x y z k = .ok v H'):∃ u u' u'',ev env x=some u∧ev env y=some u'∧ev env z=some u''∧k u u' u'' = .ok v H':=by
 unfold ev3 at e
 replace e:=aY e; obtain ⟨u,h1,e⟩:=e
 replace e:=aY e; obtain ⟨u',h2,e⟩:=e
 replace e:=aY e; obtain ⟨u'',h3,e⟩:=e
 exact ⟨u,u',u'',h1,h2,h3,e⟩
theorem b3w {x y v:RV} {xa ya:Value} {ts:Array TypeId} {t:TypeId} (ra:aE Γ x xa) (rb:aE Γ y ya) (e:b3s x y=some v):∃ z,(Builtin.min_ ts t #[xa,ya]).run P w = .ok z w∧aE Γ v z:=by
 unfold b3s at e
 split at e
 ·rename_i k p k' q
  replace e:=cC e; obtain ⟨_,e⟩:=e
  simp at e; subst e
  obtain rfl:=bR ra; obtain rfl:=bR rb
  refine ⟨.int k (if q < p then q else p),by simp [Builtin.min_,Builtin.min2],?_⟩
  rw [a5l,cK]; simp; exact .int _ _
 ·simp at e
theorem b3x {x y v:RV} {xa ya:Value} {ts:Array TypeId} {t:TypeId} (ra:aE Γ x xa) (rb:aE Γ y ya) (e:b3t x y=some v):∃ z,(Builtin.max_ ts t #[xa,ya]).run P w = .ok z w∧aE Γ v z:=by
 unfold b3t at e
 split at e
 ·rename_i k p k' q
  replace e:=cC e; obtain ⟨_,e⟩:=e
  simp at e; subst e
  obtain rfl:=bR ra; obtain rfl:=bR rb
  refine ⟨.int k (if q > p then q else p),by simp [Builtin.max_,Builtin.max2],?_⟩
  rw [a5l,cK]; simp; exact .int _ _
 ·simp at e
theorem aOj (hT:fQ P tt) {b:Builtin} {ts:Array TypeId} {t:TypeId} {cs:Array Bool} {vs:List RV} {xs:List Value} {v:RV} (m:Mem N h0 Γ w.heap H) (r:aC Γ vs xs) (e:oK tt b ts.toList vs H = .ok v H') :
  eS N h0 Γ w H ((builtin b ts t cs ⟨xs⟩).run P w) v H':=by
 obtain ⟨ts⟩:=ts
 unfold oK at e
 have one:∀ {x:RV},aC Γ [x] xs→∃ y,xs=[y]∧aE Γ x y:=fun {x} r=>by
  obtain ⟨y,ys,rfl,h1,h2⟩:=r.fJ
  obtain rfl:=h2.mY
  exact ⟨y,rfl,h1⟩
 have two:∀ {x x':RV},aC Γ [x,x'] xs→∃ y y',xs=[y,y']∧aE Γ x y∧aE Γ x' y':=fun {x x'} r=>by
  obtain ⟨y,ys,rfl,h1,h2⟩:=r.fJ
  obtain ⟨y',ys',rfl,h3,h4⟩:=h2.fJ
  obtain rfl:=h4.mY
  exact ⟨y,y',rfl,h1,h3⟩
 split at e
 ·rename_i t1 x hts
  simp only at hts; subst hts
  obtain ⟨h1,rfl⟩:=dH e
  obtain ⟨y,rfl,ry⟩:=one r
  obtain ⟨z,h2,h3⟩:=b3p (P:=P) (ty:=t) hT m ry h1
  exact cE h2 m h3
 ·rename_i t1 x hts
  simp only at hts; subst hts
  obtain ⟨h1,rfl⟩:=dH e
  obtain ⟨y,rfl,ry⟩:=one r
  obtain ⟨z,h2,h3⟩:=b3q (P:=P) (w:=w) (ty:=t) hT ry h1
  exact cE h2 m h3
 ·rename_i t1 u x y hts
  simp only at hts; subst hts
  obtain ⟨y,y',rfl,r1,r2⟩:=two r
  split at e
  ·obtain rfl:=j5 r1; obtain rfl:=bR r2
   exact aXd hT m e
  ·exact aQf hT m r1 r2 e
 ·rename_i t1 u x y hts
  simp only at hts; subst hts
  obtain ⟨y,y',rfl,r1,r2⟩:=two r
  exact aXf hT m r1 r2 e
 ·rename_i t1 u x y hts
  simp only at hts; subst hts
  obtain ⟨y,y',rfl,r1,r2⟩:=two r
  exact aQl hT m r1 r2 e
 ·obtain ⟨h1,rfl⟩:=dH e
  obtain ⟨y,y',rfl,r1,r2⟩:=two r
  obtain ⟨z,h2,h3⟩:=b3w (P:=P) (w:=w) (ts:=⟨ts⟩) (t:=t) r1 r2 h1
  exact cE h2 m h3
 ·obtain ⟨h1,rfl⟩:=dH e
  obtain ⟨y,y',rfl,r1,r2⟩:=two r
  obtain ⟨z,h2,h3⟩:=b3x (P:=P) (w:=w) (ts:=⟨ts⟩) (t:=t) r1 r2 h1
  exact cE h2 m h3
 ·rename_i t1 x hts
  simp only at hts; subst hts
  obtain ⟨y,rfl,ry⟩:=one r
  exact aT4 hT m ry e
 ·obtain ⟨y,rfl,ry⟩:=one r
  exact aJv m ry e
 ·rename_i pt it x y hts
  simp only at hts; subst hts
  obtain ⟨y,y',rfl,r1,r2⟩:=two r
  exact aDa hT m r1 r2 e
 ·simp at e
theorem a9o {f:Operand} {args:Array Operand} {ts:Array TypeId} {t:TypeId} {g:FuncId} {cs:List Value} (hf:a.eval f = .func (.func g) #[] ⟨cs⟩) :
  (do let d ← resolve a.eval { callee:=.value f,args,argTypes:=ts } t; invoke d.target d.args:Sem Next).run P w=(callFunc g ⟨args.toList.map a.eval++cs⟩).run P w:=by
 simp only [resolve,hf,Deferred.ofValue,Sem.run_bind,Sem.run_pure,Result.andThen_ok,invoke]
 have e2:(#[]++Array.map a.eval args ++ { toList:=cs } : Array Value)=⟨args.toList.map a.eval++cs⟩:=by apply Array.ext'; simp
 rw [e2]
theorem yX.aFi {ρ:Option Nat} {o:Oper} {v:RV} {f:FuncId} {xs:List Value} {args:List RV} (hr:(execOp a.eval o).run P w=(callFunc f ⟨xs⟩).run P w) (hc:a2f P f args H v H')
  (m:Mem N h0 Γ w.heap H) (ra:aC Γ args xs) (hd:∀ c,o.op ≠ .defer c:=by intro c h; simp at h):yX P ρ N h0 Γ w H o a v H':=by
 intro Q
 refine ⟨fun _ _=>trivial,?_⟩
 rw [Oper.semAt_plain _ _ o hd]
 have:=hc N h0 Γ w xs m ra
 rw [hr]
 generalize (callFunc f ⟨xs⟩).run P w=r at *
 cases r with
 | halt h w'=>exact this.elim
 | ok nx w' =>
  cases nx with
  | value x =>
   obtain ⟨Γ',h1,h2⟩:=this
   exact ⟨x,Γ',rfl,h1,h2⟩
  | enter g ys =>
   refine ⟨fun h=>by simp [frF,Fence.wide] at h,aXl (Calls.mono this fun e w'' he=>?_)⟩
   obtain ⟨x,Γ',rfl,l,r⟩:=he
   exact ⟨x,Γ',rfl,l,r⟩
  | _=>exact this.elim
theorem aQo {f:Operand} {args:Array Operand} {ts:Array TypeId} {t:TypeId} {b:Nat} (hf:a.eval f = .func (.yield b) #[] #[]) :
  (do let d ← resolve a.eval { callee:=.value f,args,argTypes:=ts } t; invoke d.target d.args:Sem Next).run P w=(Instr.yield b ⟨args.toList.map a.eval⟩).run P w:=by
 simp only [resolve,hf,Deferred.ofValue,Sem.run_bind,Sem.run_pure,Result.andThen_ok,invoke]
 have e2:(#[]++Array.map a.eval args:Array Value)=⟨args.toList.map a.eval⟩:=by apply Array.ext'; simp
 rw [e2]
theorem yX.b3y {ρ:Option Nat} {o:Oper} {v:RV} {l:Nat} {p:Pl} {xs:List Value} {vs:List RV} (hp : Γ l=some p) (hr:(execOp a.eval o).run P w=(Instr.yield p.b ⟨xs⟩).run P w) (hc:b0m P (.yld l::vs) H v H')
  (m:Mem N h0 Γ w.heap H) (ra:aC Γ vs xs) (hd:∀ c,o.op ≠ .defer c:=by intro c h; simp at h):yX P ρ N h0 Γ w H o a v H':=by
 intro Q
 refine ⟨fun _ _=>trivial,?_⟩
 rw [Oper.semAt_plain _ _ o hd]
 obtain ⟨fn,tmps,asg,body,h1,h2⟩:=hc l vs rfl N h0 Γ w xs p m hp ra
 rw [hr,h1,Oper.uponIn_round]
 refine ⟨fun h=>by simp [frF,Fence.wide] at h,RoundIn.mono (F:=frF ρ) h2 fun e w'' he=>?_⟩
 obtain ⟨x,Γ',rfl,l,r⟩:=he
 exact ⟨x,Γ',rfl,l,r⟩
theorem aH2 {ρ:Option Nat} (hT:fQ P tt) (hC:wD P C) {o:Oper} {v:RV} (m:Mem N h0 Γ w.heap H) (re:pC Γ env a o.op.operands.toList) (e:uB tt C env H o.op = .ok v H'):yX P ρ N h0 Γ w H o a v H':=by
 obtain ⟨dst,op,ty,pos,after,guard⟩:=o
 simp only at e re
 cases op <;> simp only [uB] at e
 case move x=>obtain ⟨h1,rfl⟩:=dH e; exact .bF (eS.same (y:=a.eval x) (by simp [execOp]) m (re x (by simp [Op.operands]) v h1))
 case assign x=>obtain ⟨h1,rfl⟩:=dH e; exact .bF (eS.same (y:=a.eval x) (by simp [execOp]) m (re x (by simp [Op.operands]) v h1))
 case pick c x y =>
  replace e:=a8q e; obtain ⟨u,u',u'',h1,h2,h3,e⟩:=e
  obtain ⟨h4,rfl⟩:=dH e
  have r1:=re c (by simp [Op.operands]) u h1
  have r2:=re x (by simp [Op.operands]) u' h2
  have r3:=re y (by simp [Op.operands]) u'' h3
  unfold aZ at h4
  split at h4
  ·rename_i t
   simp at h4; subst h4
   have hc:=iF r1
   cases t with
   | true=>exact .bF (eS.same (y:=a.eval x) (by simp [execOp,hc,asBool]) m r2)
   | false=>exact .bF (eS.same (y:=a.eval y) (by simp [execOp,hc,asBool]) m r3)
  ·simp at h4
 case alloc t =>
  unfold aQn at e
  replace e:=dG e; obtain ⟨ti,hti,e⟩:=e
  replace e:=aY e; obtain ⟨z,hz,e⟩:=e
  exact .bF (by simpa only [execOp] using aXc hT hti hz m e)
 case box t x =>
  replace e:=fP e; obtain ⟨u,h1,e⟩:=e
  unfold b3u at e
  replace e:=bQ e; obtain ⟨hk,e⟩:=e
  exact .bF (by simpa only [execOp] using b3n (re x (by simp [Op.operands]) u h1) hk m e)
 case build t parts =>
  obtain ⟨h1,rfl⟩:=dH e
  have:=aTz (a:=a) hT (re.sub (by simp [Op.operands])) m h1
  refine .bF ?_
  simp only [execOp]
  have e2:(parts.map fun (i,x)=>(i,a.eval x))=⟨parts.toList.map fun p=>(p.1,a.eval p.2)⟩:=by apply Array.ext'; simp
  rw [e2]; exact this
 case buildSlice t len parts =>
  have:=aHw (a:=a) hT (re.sub (by simp [Op.operands])) m e
  refine .bF ?_
  simp only [execOp]
  have e2:(parts.map fun (i,x)=>(i,a.eval x))=⟨parts.toList.map fun p=>(p.1,a.eval p.2)⟩:=by apply Array.ext'; simp
  rw [e2]; exact this
 case load t x =>
  replace e:=fP e; obtain ⟨u,h1,e⟩:=e
  unfold aOv at e
  replace e:=dG e; obtain ⟨ti,hti,e⟩:=e
  obtain ⟨h2,rfl⟩:=dH e
  obtain ⟨tok,rfl⟩:=hT _ _ hti
  obtain ⟨y,h3,h4⟩:=aM7 (P:=P) m tok (re x (by simp [Op.operands]) u h1) h2
  exact .bF (cE h3 m h4)
 case store t x y =>
  replace e:=qY e; obtain ⟨u,u',h1,h2,e⟩:=e
  unfold a8p at e
  replace e:=dG e; obtain ⟨ti,hti,e⟩:=e
  obtain ⟨tok,rfl⟩:=hT _ _ hti
  exact .bF (by simpa only [execOp] using aTy tok m (re x (by simp [Op.operands]) u h1) (re y (by simp [Op.operands]) u' h2) e)
 case nilCheck x =>
  replace e:=fP e; obtain ⟨u,h1,e⟩:=e
  obtain ⟨h2,rfl⟩:=dH e
  have r1:=re x (by simp [Op.operands]) u h1
  unfold a7k at h2
  split at h2
  ·simp at h2; subst h2
   obtain ⟨p,hp,hx⟩:=fH r1
   exact .bF (eS.same (y:=a.eval x) (by simp [execOp,hx]) m r1)
  ·simp at h2; subst h2
   obtain ⟨xs,_,hx⟩:=vW r1
   exact .bF (eS.same (y:=a.eval x) (by simp [execOp,hx]) m r1)
  ·simp at h2
 case binOp op t x y yt =>
  replace e:=qY e; obtain ⟨u,u',h1,h2,e⟩:=e
  obtain ⟨h3,rfl⟩:=dH e
  obtain ⟨z,h4,h5⟩:=b3v (P:=P) (w:=w) hT h3 (re x (by simp [Op.operands]) u h1) (re y (by simp [Op.operands]) u' h2)
  exact .bF (cE h4 m h5)
 case unOp op t x =>
  replace e:=fP e; obtain ⟨u,h1,e⟩:=e
  obtain ⟨h3,rfl⟩:=dH e
  obtain ⟨z,h4,h5⟩:=b72 (P:=P) (w:=w) (re x (by simp [Op.operands]) u h1) h3
  exact .bF (cE h4 m h5)
 case convert src dst x =>
  replace e:=fP e; obtain ⟨u,h1,e⟩:=e
  exact .bF (aOi hT m (re x (by simp [Op.operands]) u h1) e)
 case makeFunc fn first captured =>
  unfold a26 at e
  split at e
  ·rename_i f hf0
   obtain ⟨h1,rfl⟩:=dH e
   replace h1:=aG h1; obtain ⟨vs,h2,h1⟩:=h1
   simp at h1; subst h1
   have hf:first = #[]:=by apply Array.ext'; simpa using hf0
   subst hf
   have r:=pC.gJ (re.sub (xs:=captured.toList) (by simp [Op.operands])) h2
   refine .bF (eS.same (y:=.func (.func f) #[] ⟨captured.toList.map a.eval⟩) ?_ m (.func f vs _ r.1 r.2))
   have e2:captured.map a.eval=⟨captured.toList.map a.eval⟩:=by apply Array.ext'; simp
   simp [execOp,Instr.makeFunc,e2]
  ·simp at e
 case makeMap t r =>
  have mk:∀ {H':HT} {v:RV},a95 tt H t = .ok v H'→(∃ k e0,P.underlying t=some (.map k e0))∧(HT.a5k H (.map [] [] 0) fun l H=>OR.ok (.map l) H) = .ok v H':=fun {H' v} e1=>by
   unfold a95 at e1
   replace e1:=dG e1; obtain ⟨ti,hti,e1⟩:=e1
   obtain ⟨tok,htt⟩:=hT _ _ hti
   have hd:=tok.d
   rw [htt] at hd
   split at e1
   ·rename_i k e0 hdd
    rw [hdd] at hd
    exact ⟨⟨k,e0,hd⟩,e1⟩
   ·simp at e1
  unfold aH1 at e
  split at e
  ·obtain ⟨_,e⟩:=mk e
   exact .bF (by simpa only [execOp,Option.map_none] using aT2 m e)
  ·rename_i x
   replace e:=fP e; obtain ⟨u,h1,e⟩:=e
   split at e
   ·rename_i q z
    obtain ⟨⟨k,e0,hu⟩,e⟩:=mk e
    have hx:=bR (re x (by simp [Op.operands]) _ h1)
    refine .bF ?_
    have:=aQh (P:=P) (q:=q) (z:=z) hu m e
    simpa only [execOp,Option.map_some,hx] using this
   ·simp at e
 case makeSlice t l c =>
  replace e:=qY e; obtain ⟨u,u',h1,h2,e⟩:=e
  exact .bF (aJr hT m (re l (by simp [Op.operands]) u h1) (re c (by simp [Op.operands]) u' h2) e)
 case slice t x lo hi mx =>
  unfold a5m at e
  split at e
  ·replace e:=fP e; obtain ⟨u,h1,e⟩:=e
   replace e:=aY e; obtain ⟨l,hl,e⟩:=e
   replace e:=aY e; obtain ⟨h,hh,e⟩:=e
   obtain ⟨h3,rfl⟩:=dH e
   have rl:=pC.opt (a:=a) (re.sub (xs:=lo.toList) (by intro y hy; simp only [Op.operands,Array.toList_append]; cases lo <;> simp_all)) hl
   have rh:=pC.opt (a:=a) (re.sub (xs:=hi.toList) (by intro y hy; simp only [Op.operands,Array.toList_append]; cases hi <;> simp_all)) hh
   obtain ⟨z,h4,h5⟩:=aW9 (P:=P) (w:=w) hT (re x (by simp [Op.operands]) u h1) rl rh h3
   exact .bF (cE h4 m h5)
  ·split at e
   ·replace e:=fP e; obtain ⟨u,h1,e⟩:=e
    replace e:=aY e; obtain ⟨l,hl,e⟩:=e
    replace e:=fP e; obtain ⟨u2,h2,e⟩:=e
    replace e:=fP e; obtain ⟨u3,h3,e⟩:=e
    obtain ⟨h4,rfl⟩:=dH e
    have rl:=pC.opt (a:=a) (re.sub (xs:=lo.toList) (by intro y hy; simp only [Op.operands,Array.toList_append]; cases lo <;> simp_all)) hl
    obtain ⟨z,h5,h6⟩:=aXa (P:=P) (w:=w) hT (re x (by simp [Op.operands]) u h1) rl (re _ (by simp [Op.operands]) u2 h2) (re _ (by simp [Op.operands]) u3 h3) h4
    exact .bF (cE h5 m h6)
   ·simp at e
 case fieldAddr t x f =>
  replace e:=fP e; obtain ⟨u,h1,e⟩:=e
  obtain ⟨h3,rfl⟩:=dH e
  obtain ⟨z,h4,h5⟩:=aL1 (P:=P) (w:=w) hT (re x (by simp [Op.operands]) u h1) h3
  exact .bF (cE h4 m h5)
 case field t x f =>
  replace e:=fP e; obtain ⟨u,h1,e⟩:=e
  obtain ⟨h3,rfl⟩:=dH e
  obtain ⟨z,h4,h5⟩:=aW7 (P:=P) (w:=w) hT (re x (by simp [Op.operands]) u h1) h3
  exact .bF (cE h4 m h5)
 case indexAddr t x i =>
  replace e:=qY e; obtain ⟨u,u',h1,h2,e⟩:=e
  obtain ⟨h3,rfl⟩:=dH e
  obtain ⟨z,h4,h5⟩:=aL2 (P:=P) (w:=w) hT (re x (by simp [Op.operands]) u h1) (re i (by simp [Op.operands]) u' h2) h3
  exact .bF (cE h4 m h5)
 case index t x i =>
  replace e:=qY e; obtain ⟨u,u',h1,h2,e⟩:=e
  obtain ⟨h3,rfl⟩:=dH e
  obtain ⟨z,h4,h5⟩:=aW8 (P:=P) (w:=w) hT (re x (by simp [Op.operands]) u h1) (re i (by simp [Op.operands]) u' h2) h3
  exact .bF (cE h4 m h5)
 case lookup t x i ok =>
  replace e:=qY e; obtain ⟨u,u',h1,h2,e⟩:=e
  obtain ⟨h3,rfl⟩:=dH e
  obtain ⟨z,h4,h5⟩:=aT1 (P:=P) (w:=w) hT m (re x (by simp [Op.operands]) u h1) (re i (by simp [Op.operands]) u' h2) h3
  exact .bF (cE h4 m h5)
 case mapUpdate t x k y =>
  replace e:=a8q e; obtain ⟨u,u',u'',h1,h2,h3,e⟩:=e
  exact .bF (by simpa only [execOp] using a6s hT m (re x (by simp [Op.operands]) u h1) (re k (by simp [Op.operands]) u' h2) (re y (by simp [Op.operands]) u'' h3) e)
 case insert t x k y =>
  replace e:=a8q e; obtain ⟨u,u',u'',h1,h2,h3,e⟩:=e
  exact .bF (by simpa only [execOp] using a6s hT m (re x (by simp [Op.operands]) u h1) (re k (by simp [Op.operands]) u' h2) (re y (by simp [Op.operands]) u'' h3) e)
 case mapEntry t x k =>
  replace e:=qY e; obtain ⟨u,u',h1,h2,e⟩:=e
  exact .bF (by simpa only [execOp] using aL4 hT m (re x (by simp [Op.operands]) u h1) (re k (by simp [Op.operands]) u' h2) e)
 case entryStore t x k y =>
  replace e:=a8q e; obtain ⟨u,u',u'',h1,h2,h3,e⟩:=e
  exact .bF (by simpa only [execOp] using aHz m (re x (by simp [Op.operands]) u h1) (re k (by simp [Op.operands]) u' h2) (re y (by simp [Op.operands]) u'' h3) e)
 case range t x =>
  replace e:=fP e; obtain ⟨u,h1,e⟩:=e
  exact .bF (by simpa only [execOp] using aT3 hT m (re x (by simp [Op.operands]) u h1) e)
 case next x s =>
  replace e:=fP e; obtain ⟨u,h1,e⟩:=e
  exact .bF (by simpa only [execOp] using aXg m (re x (by simp [Op.operands]) u h1) e)
 case entry x =>
  replace e:=fP e; obtain ⟨u,h1,e⟩:=e
  obtain ⟨h3,rfl⟩:=dH e
  obtain ⟨z,h4,h5⟩:=aXh (P:=P) (w:=w) m (re x (by simp [Op.operands]) u h1) h3
  exact .bF (cE h4 m h5)
 case extract x i =>
  replace e:=fP e; obtain ⟨u,h1,e⟩:=e
  obtain ⟨h3,rfl⟩:=dH e
  obtain ⟨z,h4,h5⟩:=aP8 (P:=P) (w:=w) (re x (by simp [Op.operands]) u h1) h3
  exact .bF (cE h4 m h5)
 case call c =>
  obtain ⟨callee,args,ts⟩:=c
  simp only at e
  split at e
  ·rename_i b
   replace e:=aY e; obtain ⟨vs,hvs,e⟩:=e
   have r:=pC.gJ (re.sub (xs:=args.toList) (by simp [Op.operands,Call.operands])) hvs
   refine .bF ?_
   have:=aOj (P:=P) (t:=ty) (cs:=args.map fun | .const _=>true | _=>false) hT m r e
   simp only [execOp,resolve,Sem.run_bind,Sem.run_pure,Result.andThen_ok,invoke]
   have e2:args.map a.eval=⟨args.toList.map a.eval⟩:=by apply Array.ext'; simp
   rw [e2]
   exact this
  ·rename_i f
   unfold aXi at e
   replace e:=aY e; obtain ⟨u,hu,e⟩:=e
   split at e
   ·rename_i g caps
    rw [cK] at e
    split at e
    ·simp at e
    rename_i hne
    replace e:=aY e; obtain ⟨vs,hvs,e⟩:=e
    rw [nV] at e
    obtain ⟨cs,rc,hfe⟩:=vW (re f (by simp [Op.operands,Call.operands]) _ hu)
    have r:=pC.gJ (re.sub (xs:=args.toList) (by intro y hy; simp only [Op.operands,Call.operands,Array.toList_append]; simp; right; simpa using hy)) hvs
    exact .aFi (a9o hfe) ((hC g _ _ _ _ e).1 (fun h=>hne (by rw [h]; simp))) m (r.append rc)
   ·rename_i l
    replace e:=aY e; obtain ⟨vs,hvs,e⟩:=e
    have hfe:=re f (by simp [Op.operands,Call.operands]) _ hu
    have r:=pC.gJ (re.sub (xs:=args.toList) (by intro y hy; simp only [Op.operands,Call.operands,Array.toList_append]; simp; right; simpa using hy)) hvs
    obtain ⟨p,hp,hfe⟩:∃ p,Γ l=some p∧a.eval f = .func (.yield p.b) #[] #[]:=by
     generalize a.eval f=x at hfe
     cases hfe with
     | yld _ p hp=>exact ⟨p,hp,rfl⟩
    exact .b3y hp (aQo hfe) ((hC Y0 _ _ _ _ e).2 rfl).1 m r
   ·simp at e
  ·simp at e
 all_goals simp at e
end
end Go.Rx

/- Closed runs: regions. -/
namespace Go.Rx
open Go.Fbs (maskOf masksFrom edgesBack pairOk noDup Closed mask_listed noDup_spec listedOf listedOf_set closed_set ready_iff unl unl_set lst lst_of_listedOf listed_false unl_pos)
section
variable (tt:T aV) (C:dK) (n:Nat)
noncomputable def eK {β:Type} (env:T RV) (dst:Option Tmp) (v:RV) (d:β) (k:T RV→β):β :=
 match dst with
 | none=>k env
 | some t=>aH (Nat.blt t n) (T.gZ env t v k) d
noncomputable def vH (ops:List Oper) (env:T RV) (o:Oper):Option Bool :=
 match o.guard with
 | none=>some true
 | some (j,want)=>aF (lK ops j) none fun oj=>aF oj.dst none fun t=>aF (env.get t) none fun v=>match v with
  | .bool b=>some (aH b want (aH want false true))
  | .undef=>some false
  | _=>none
noncomputable def opsV (ops:List Oper):List Oper→T RV→HT→Out
 | [],env,H=>.j4 env H
 | o::r,env,H=>aF (vH ops env o) .bad fun b=>aH b
   (match uB tt C env H o.op with
   | .ok v H=>eK n env o.dst v .bad fun env=>opsV ops r env H
   | .bad=>.bad)
   (eK n env o.dst .undef .bad fun env=>opsV ops r env H)
end
section
variable {P:Program} {δ:List Deferred} {ρ:Option Nat} {N:Nat} {h0:bN} {Γ : Gm} {w:World} {H H':HT} {tt:T aV} {C:dK} {env:T RV} {a:Act} {n:Nat}
theorem wE {α:Type} {env:T RV} {dst:Option Tmp} {v:RV} {d:α} {k:T RV→α} : (∃ env',eK n env dst v d k=k env'∧(∀ t,env'.get t=if dst=some t then some v else env.get t)∧∀ t,dst=some t→t < n)∨eK n env dst v d k=d:=by
 unfold eK
 cases dst with
 | none=>exact .inl ⟨env,rfl,fun t=>by simp,fun t h=>by simp at h⟩
 | some t =>
  simp only
  rw [cK]
  split
  ·rename_i h
   obtain ⟨env',h1,h2⟩:=T.fC env t v k
   refine .inl ⟨env',h1,fun j=>?_,fun j hj=>?_⟩
   ·rw [h2]
    by_cases hj:j=t
    ·subst hj; simp
    ·have:¬ t=j:=fun e=>hj e.symm
     simp [hj,this]
   ·simp at hj; subst hj; rw [Nat.blt_eq] at h; exact h
  ·exact .inr rfl
theorem bT.put (r:bT δ Γ n env a) {env':T RV} {dst:Option Tmp} {v:RV} {x:Value} (hg:∀ t,env'.get t=if dst=some t then some v else env.get t) (hn:∀ t,dst=some t→t < n) (hv:aE Γ v x):bT δ Γ n env' (a.put dst x):=by
 refine ⟨by cases dst <;> exact r.1,by cases dst <;> simp [Act.put,r.2.1],fun i u hu=>?_⟩
 rw [hg] at hu
 split at hu
 ·rename_i hd
  simp at hu; subst hu
  have:=hn i hd
  subst hd
  refine ⟨x,?_,hv⟩
  simp only [Act.put]
  rw [Array.getElem?_setIfInBounds,if_pos rfl,if_pos (by rw [r.2.1]; exact this)]
 ·rename_i hd
  obtain ⟨y,h1,h2⟩:=r.2.2 i u hu
  refine ⟨y,?_,h2⟩
  cases dst with
  | none=>exact h1
  | some d =>
   simp only [Act.put]
   rw [Array.getElem?_setIfInBounds_ne (fun e=>hd (by rw [e]))]; exact h1
def b3z (Γ : Gm) (ops : List Oper) (env : T RV) (a : Act) (o : Oper) : Prop:=∀ j want oj t v,o.guard = some (j,want) → ops[j]? = some oj → oj.dst = some t → env.get t = some v → ∃ x,a.tmps[t]? = some x ∧ aE Γ v x
theorem a27 {ops:List Oper} {o:Oper} {b:Bool} (re:b3z Γ ops env a o) (e:vH ops env o=some b):Region.wanted o (yielded ops.toArray a.tmps)=b:=by
 unfold vH at e
 unfold Region.wanted
 split at e
 ·rename_i hg
  rw [hg]; simpa using e
 ·rename_i j want hg
  rw [hg]
  simp only
  replace e:=aG e; obtain ⟨oj,h1,e⟩:=e
  replace e:=aG e; obtain ⟨t,h2,e⟩:=e
  replace e:=aG e; obtain ⟨v,h3,e⟩:=e
  rw [kD] at h1
  obtain ⟨x,h4,h5⟩:=re j want oj t v hg h1 h2 h3
  have h6:((ops.toArray[j]?).bind (·.dst)).bind (a.tmps[·]?)=some x:=by
   rw [List.getElem?_toArray,h1]
   simp [h2,h4]
  split at e
  ·rename_i c
   obtain rfl:=iF h5
   simp at e
   simp only [yielded,h6]
   cases c <;> cases want <;> simp [aX,bU] at e <;> subst e <;> rfl
  ·obtain rfl:=aCx h5
   simp at e; subst e
   simp only [yielded,h6]
   rfl
  ·simp at e
theorem bT.gd (r:bT δ Γ n env a) (ops:List Oper) (o:Oper):b3z Γ ops env a o:=fun _ _ _ t v _ _ _ h=>r.2.2 t v h
theorem a96 (hT:fQ P tt) (hC:wD P C) {ops:List Oper} {Q:Exit→Act→World→Prop} : ∀ {rest:List Oper} {env:T RV} {H:HT} {env':T RV} {H':HT},
  opsV tt C n ops rest env H = .j4 env' H'→∀ (Γ : Gm) (w:World) (a:Act),Mem N h0 Γ w.heap H→bT δ Γ n env a →
  (∀ Γ' w' a',Ext N h0 Γ w H Γ' w' H'→bT δ Γ' n env' a'→Q .normal a' w')→wpListIn (frF ρ) 0 P ops.toArray Q rest a w
 | [],env,H,env',H',e,Γ,w,a,m,re,hQ=>by
  simp [opsV] at e
  obtain ⟨rfl,rfl⟩:=e
  exact hQ Γ w a (Ext.refl m) re
 | o::rest,env,H,env',H',e,Γ,w,a,m,re,hQ=>by
  simp only [opsV] at e
  replace e:=l9 e
  rcases e with ⟨_,e⟩ | ⟨b,hb,e⟩
  ·simp at e
  have hw:=a27 (re.gd ops o) hb
  cases b with
  | true =>
   rw [aX] at e
   split at e
   ·rename_i v H1 h1
    unfold wpListIn
    rw [if_pos hw]
    refine Oper.wpIn_mono ?_ (aH2 hT hC m (re.on _) h1 Q)
    rintro a1 w1 ⟨x,Γ1,rfl,hx,hr⟩
    rcases wE (n:=n) (env:=env) (dst:=o.dst) (v:=v) (d:=Out.bad) (k:=fun env=>opsV tt C n ops rest env H1) with ⟨env1,h2,h3,h4⟩ | h2
    ·rw [h2] at e
     exact a96 hT hC e Γ1 w1 _ hx.mem ((re.mono hx.gle).put h3 h4 hr) (fun Γ' w' a' h5 h6=>hQ Γ' w' a' (hx.trans h5) h6)
    ·rw [h2] at e; simp at e
   ·simp at e
  | false =>
   rw [bU] at e
   unfold wpListIn
   rw [if_neg (by rw [hw]; simp)]
   rcases wE (n:=n) (env:=env) (dst:=o.dst) (v:=.undef) (d:=Out.bad) (k:=fun env=>opsV tt C n ops rest env H) with ⟨env1,h2,h3,h4⟩ | h2
   ·rw [h2] at e
    exact ⟨fun _ _=>trivial,a96 hT hC e Γ w _ m (re.put h3 h4 .undef) hQ⟩
   ·rw [h2] at e; simp at e
theorem aQp (hT:fQ P tt) (hC:wD P C) {ops:List Oper} {id:Nat} {Q:Exit→Act→World→Prop} {env':T RV} {H':HT} (e:opsV tt C n ops ops env H = .j4 env' H') (m:Mem N h0 Γ w.heap H) (re:bT δ Γ n env a)
  (hQ:∀ Γ' w' a',Ext N h0 Γ w H Γ' w' H'→bT δ Γ' n env' a'→Q .normal a' w'):(Code.region id ops.toArray false).wpIn (frF ρ) 0 P Q a w :=
 wpIn_region_lit (a96 hT hC e Γ w a m re hQ)
theorem b30 {ops rest:List Oper} : ∀ {env:T RV} {H:HT},(∃ env' H',opsV tt C n ops rest env H = .j4 env' H')∨opsV tt C n ops rest env H = .bad:=by
 induction rest with
 | nil=>intro env H; exact .inl ⟨env,H,rfl⟩
 | cons o r ih =>
  intro env H
  simp only [opsV]
  cases hw:vH ops env o with
  | none=>exact .inr rfl
  | some b =>
   rw [aP]
   cases b with
   | true =>
    rw [aX]
    cases ho:uB tt C env H o.op with
    | bad=>exact .inr rfl
    | ok v H1 =>
     simp only
     rcases wE (n:=n) (env:=env) (dst:=o.dst) (v:=v) (d:=Out.bad) (k:=fun env=>opsV tt C n ops r env H1) with ⟨env1,h2,_⟩ | h2
     ·rw [h2]; exact ih
     ·exact .inr h2
   | false =>
    rw [bU]
    rcases wE (n:=n) (env:=env) (dst:=o.dst) (v:=.undef) (d:=Out.bad) (k:=fun env=>opsV tt C n ops r env H) with ⟨env1,h2,_⟩ | h2
    ·rw [h2]; exact ih
    ·exact .inr h2
end
end Go.Rx

/- Closed runs: regions whose order is drawn. -/
namespace Go.Rx
open Go.Fbs (maskOf masksFrom edgesBack pairOk noDup Closed mask_listed noDup_spec listedOf listedOf_set closed_set ready_iff unl unl_set lst lst_of_listedOf listed_false unl_pos)
mutual
noncomputable def aQq:RV→RV→Bool
 | .bool a,.bool b=>aH a b (aH b false true)
 | .int k a,.int k' b=>aH (a2w k k') (eqI a b) false
 | .str a,.str b=>aH (Nat.beq a.n b.n) (Nat.beq a.c b.c) false
 | .dQ,.dQ=>true
 | .ptr l o,.ptr l' o'=>aH (Nat.beq l l') (Nat.beq o o') false
 | .slnil,.slnil=>true
 | .sl l o n s c,.sl l' o' n' s' c'=>aH (Nat.beq l l') (aH (Nat.beq o o') (aH (Nat.beq n n') (aH (Nat.beq s s') (match c,c' with | none,none=>true | some x,some y=>Nat.beq x y | _,_=>false) false) false) false) false
 | .dM,.dM=>true
 | .map l,.map l'=>Nat.beq l l'
 | .yY,.yY=>true
 | .func f cs,.func g ds=>aH (Nat.beq f g) (a2g cs ds) false
 | .agg cs,.agg ds=>a2g cs ds
 | .aM cs,.aM ds=>a2g cs ds
 | .undef,.undef=>true
 | .yld l,.yld l'=>Nat.beq l l'
 | _,_=>false
noncomputable def a2g:List RV→List RV→Bool
 | [],[]=>true
 | x::xs,y::ys=>aH (aQq x y) (a2g xs ys) false
 | _,_=>false
end
theorem nW {x y:Bool} : aH x y false=true↔x=true∧y=true:=by cases x <;> simp [aX,bU]
theorem lR {a b:Nat} : Nat.beq a b=true↔a=b:=by rw [Nat.beq_eq]
mutual
theorem aVg:∀ (x y:RV),aQq x y=true→x=y:=by
 intro x y h
 unfold aQq at h
 split at h
 ·rename_i a b; cases a <;> cases b <;> simp [aX,bU] at h <;> rfl
 ·rw [nW,a2y,yD,decide_eq_true_iff] at h; obtain ⟨rfl,rfl⟩:=h; rfl
 ·rename_i a b; rw [nW,lR,lR] at h; obtain ⟨h1,h2⟩:=h; cases a; cases b; simp only at h1 h2; subst h1 h2; rfl
 ·rfl
 ·rw [nW,lR,lR] at h; obtain ⟨rfl,rfl⟩:=h; rfl
 ·rfl
 ·rename_i l o n s c l' o' n' s' c'
  rw [nW,nW,nW,nW,lR,lR,lR,lR] at h
  obtain ⟨rfl,rfl,rfl,rfl,h⟩:=h
  cases c with
  | none=>cases c' with
   | none=>rfl
   | some=>simp at h
  | some=>cases c' with
   | none=>simp at h
   | some=>rw [lR.1 h]
 ·rfl
 ·rw [lR] at h; subst h; rfl
 ·rfl
 ·rename_i f cs g ds
  rw [nW,lR] at h; obtain ⟨rfl,h⟩:=h; rw [a5n cs ds h]
 ·rename_i cs ds; rw [a5n cs ds h]
 ·rename_i cs ds; rw [a5n cs ds h]
 ·rfl
 ·rw [lR] at h; subst h; rfl
 ·simp at h
theorem a5n:∀ (x y:List RV),a2g x y=true→x=y:=by
 intro x y h
 cases x with
 | nil =>
  cases y with
  | nil=>rfl
  | cons=>simp [a2g] at h
 | cons x xs =>
  cases y with
  | nil=>simp [a2g] at h
  | cons y ys =>
   simp only [a2g] at h
   rw [nW] at h
   rw [aVg x y h.1,a5n xs ys h.2]
end
noncomputable def bAm (l:List (Nat×Operand)):Bool:=@List.rec (Nat×Operand) (fun _=>Bool) true (fun p _ ih=>match p.2 with | .const _=>ih | _=>false) l
noncomputable def cls (wd:Bool) (tt:T aV) (o:Oper):Nat :=
 match o.op with
 | .move _ | .assign _ | .pick .. | .build .. | .nilCheck _ | .binOp .. | .unOp .. | .makeFunc .. | .slice .. | .fieldAddr .. | .field .. | .indexAddr .. | .index .. | .extract ..=>0
 | .load .. | .lookup ..=>1
 | .call c=>match c.callee with
  | .builtin .len | .builtin .cap=>1
  | .builtin .min | .builtin .max=>0
  | _=>3
 | .convert s d _=>cM tt s 3 fun si=>cM tt d 3 fun di=>match si.d,di.d with
  | .int _,.int _ | .str,.str=>0
  | .sl _,.str=>1
  | _,_=>3
 | .alloc _=>match o.guard with | none=>2 | some _=>3
 | .buildSlice _ _ parts=>match o.guard with | none=>aH (bAm parts.toList || wd) 2 3 | some _=>3
 | _=>3
theorem aQr {wd:Bool} {tt:T aV} (o:Oper):cls wd tt o≤3:=by
 unfold cls
 split <;> try omega
 ·split <;> omega
 ·unfold cM aF
  cases tt.get _ <;> simp <;> cases tt.get _ <;> simp
  split <;> omega
 ·split <;> omega
 ·split
  ·rw [cK]; split <;> omega
  ·omega
theorem qA {o:Option RV} {v:RV} {H H':HT} (e:gX o H = .ok v H'):H'=H∧∀ H2,gX o H2 = .ok v H2:=by
 obtain ⟨rfl,rfl⟩:=dH e
 exact ⟨rfl,fun H2=>rfl⟩
section
variable {wd:Bool} {tt:T aV} {C:dK} {env:T RV} {H H':HT}
theorem aH3 {o:Oper} (hc:cls wd tt o≤1) {v:RV} (e:uB tt C env H o.op = .ok v H'):H'=H:=by
 obtain ⟨dst,op,ty,pos,after,guard⟩:=o
 unfold cls at hc
 simp only at e hc
 cases op <;> simp only [uB] at e <;> simp only at hc <;> try omega
 case move=>exact (dH e).2
 case assign=>exact (dH e).2
 case pick=>obtain ⟨_,_,_,_,_,_,e⟩:=a8q e; exact (dH e).2
 case build=>exact (dH e).2
 case load =>
  obtain ⟨_,_,e⟩:=fP e
  unfold aOv at e
  replace e:=dG e; obtain ⟨_,_,e⟩:=e
  exact (dH e).2
 case nilCheck=>obtain ⟨_,_,e⟩:=fP e; exact (dH e).2
 case binOp=>obtain ⟨_,_,_,_,e⟩:=qY e; exact (dH e).2
 case unOp=>obtain ⟨_,_,e⟩:=fP e; exact (dH e).2
 case convert s d x =>
  obtain ⟨u,_,e⟩:=fP e
  unfold j7 at e
  replace e:=dG e; obtain ⟨si,hs,e⟩:=e
  replace e:=dG e; obtain ⟨di,hd,e⟩:=e
  simp only [cM,hs,hd,aP] at hc
  split at e
  ·rw [tB] at e; simp at e; exact e.2.symm
  ·simp at e; exact e.2.symm
  ·replace e:=dG e; obtain ⟨ei,_,e⟩:=e
   split at e <;> simp at e
   exact e.2.symm
  ·replace e:=dG e; obtain ⟨ei,_,e⟩:=e
   split at e
   ·replace e:=a1l e; obtain ⟨_,_,_,e⟩:=e
    replace e:=bQ e; obtain ⟨_,e⟩:=e
    obtain ⟨_,e,_⟩:=pL _ _ _ _ _ e
    replace e:=aY e; obtain ⟨_,_,e⟩:=e
    rw [a8l] at e
    simp at e; exact e.2.symm
   ·simp at e
  ·rename_i h1 h2 _
   rw [h1,h2] at hc
   simp at hc
  ·rename_i h1 h2 _
   rw [h1,h2] at hc
   simp at hc
  ·rename_i h1 h2 _
   rw [h1,h2] at hc
   simp at hc
  ·simp at e
 case makeFunc =>
  unfold a26 at e
  split at e
  ·exact (dH e).2
  ·simp at e
 case slice =>
  unfold a5m at e
  split at e
  ·obtain ⟨_,_,e⟩:=fP e
   replace e:=aY e; obtain ⟨_,_,e⟩:=e
   replace e:=aY e; obtain ⟨_,_,e⟩:=e
   exact (dH e).2
  ·split at e
   ·obtain ⟨_,_,e⟩:=fP e
    replace e:=aY e; obtain ⟨_,_,e⟩:=e
    obtain ⟨_,_,e⟩:=fP e
    obtain ⟨_,_,e⟩:=fP e
    exact (dH e).2
   ·simp at e
 case fieldAddr=>obtain ⟨_,_,e⟩:=fP e; exact (dH e).2
 case field=>obtain ⟨_,_,e⟩:=fP e; exact (dH e).2
 case indexAddr=>obtain ⟨_,_,_,_,e⟩:=qY e; exact (dH e).2
 case index=>obtain ⟨_,_,_,_,e⟩:=qY e; exact (dH e).2
 case lookup=>obtain ⟨_,_,_,_,e⟩:=qY e; exact (dH e).2
 case extract=>obtain ⟨_,_,e⟩:=fP e; exact (dH e).2
 case alloc=>split at hc <;> omega
 case buildSlice =>
  split at hc
  ·rw [cK] at hc; split at hc <;> omega
  ·omega
 case call c =>
  obtain ⟨callee,args,ts⟩:=c
  simp only at e hc
  split at hc
  ·replace e:=aY e; obtain ⟨vs,_,e⟩:=e
   unfold oK at e
   split at e <;> first | exact (dH e).2 | (simp at e; done) | simp_all
  ·replace e:=aY e; obtain ⟨vs,_,e⟩:=e
   unfold oK at e
   split at e <;> first | exact (dH e).2 | (simp at e; done) | simp_all
  ·replace e:=aY e; obtain ⟨vs,_,e⟩:=e
   unfold oK at e
   split at e <;> first | exact (dH e).2 | (simp at e; done) | simp_all
  ·replace e:=aY e; obtain ⟨vs,_,e⟩:=e
   unfold oK at e
   split at e <;> first | exact (dH e).2 | (simp at e; done) | simp_all
  ·omega
theorem b31 {o:Oper} (hc:cls wd tt o=0) {v:RV} (e:uB tt C env H o.op = .ok v H') (H2:HT):uB tt C env H2 o.op = .ok v H2:=by
 obtain ⟨dst,op,ty,pos,after,guard⟩:=o
 unfold cls at hc
 simp only at e hc ⊢
 have k1:∀ {x:Operand} {f:RV→Option RV},fA env x (fun u=>gX (f u) H) = .ok v H'→fA env x (fun u=>gX (f u) H2) = .ok v H2:=fun {x f} e=>by
  obtain ⟨u,h1,e⟩:=fP e
  unfold fA; rw [h1,aP]; exact (qA e).2 H2
 have k2:∀ {x y:Operand} {f:RV→RV→Option RV},lO env x y (fun u v=>gX (f u v) H) = .ok v H'→lO env x y (fun u v=>gX (f u v) H2) = .ok v H2:=fun {x y f} e=>by
  obtain ⟨u,u',h1,h2,e⟩:=qY e
  unfold lO; rw [h1,aP,h2,aP]; exact (qA e).2 H2
 cases op <;> simp only [uB] at e ⊢ <;> simp only at hc <;> try omega
 case move=>exact (qA e).2 H2
 case assign=>exact (qA e).2 H2
 case pick =>
  obtain ⟨u,u',u'',h1,h2,h3,e⟩:=a8q e
  unfold ev3; rw [h1,aP,h2,aP,h3,aP]; exact (qA e).2 H2
 case build=>exact (qA e).2 H2
 case nilCheck=>exact k1 e
 case binOp=>exact k2 e
 case unOp=>exact k1 e
 case convert s d x =>
  obtain ⟨u,hu,e⟩:=fP e
  unfold fA; rw [hu,aP]
  unfold j7 at e ⊢
  replace e:=dG e; obtain ⟨si,hs,e⟩:=e
  replace e:=dG e; obtain ⟨di,hd,e⟩:=e
  simp only [cM,hs,hd,aP] at hc ⊢
  split at e
  ·rename_i h1 h2
   rw [tB] at e; simp at e
   simp only [h1,h2,tB]
   rw [← e.1]
  ·simp at e
   obtain ⟨rfl,rfl⟩:=e
   simp_all
  all_goals simp_all
 case makeFunc =>
  unfold a26 at e ⊢
  split at e
  ·exact (qA e).2 H2
  ·simp at e
 case slice =>
  unfold a5m at e ⊢
  split at e
  ·obtain ⟨u,hu,e⟩:=fP e
   replace e:=aY e; obtain ⟨l,hl,e⟩:=e
   replace e:=aY e; obtain ⟨h,hh,e⟩:=e
   unfold fA; rw [hu,aP,hl,aP,hh,aP]; exact (qA e).2 H2
  ·split at e
   ·obtain ⟨u,hu,e⟩:=fP e
    replace e:=aY e; obtain ⟨l,hl,e⟩:=e
    obtain ⟨u2,hu2,e⟩:=fP e
    obtain ⟨u3,hu3,e⟩:=fP e
    unfold fA; rw [hu,aP,hl,aP,hu2,aP,hu3,aP]; exact (qA e).2 H2
   ·simp at e
 case fieldAddr=>exact k1 e
 case field=>exact k1 e
 case indexAddr=>exact k2 e
 case index=>exact k2 e
 case extract=>exact k1 e
 case alloc=>split at hc <;> omega
 case buildSlice =>
  split at hc
  ·rw [cK] at hc; split at hc <;> omega
  ·omega
 case call c =>
  obtain ⟨callee,args,ts⟩:=c
  simp only at e
  cases callee with
  | builtin b =>
   simp only at e hc ⊢
   replace e:=aY e; obtain ⟨vs,hvs,e⟩:=e
   simp only [hvs,aP]
   split at hc
   ·omega
   ·omega
   ·unfold oK at e ⊢
    split at e <;> first | exact (qA e).2 H2 | (simp at e; done) | simp_all
   ·unfold oK at e ⊢
    split at e <;> first | exact (qA e).2 H2 | (simp at e; done) | simp_all
   ·omega
  | _=>simp at hc
end
end Go.Rx

/- Closed runs: regions whose order is drawn: the evaluator,and its trace. -/
namespace Go.Rx
open Go.Fbs (maskOf masksFrom edgesBack pairOk noDup Closed mask_listed noDup_spec listedOf listedOf_set closed_set ready_iff unl unl_set lst lst_of_listedOf listed_false unl_pos)
noncomputable def eX (wd:Bool) (tt:T aV) (o:Oper):Bool:=Nat.beq (cls wd tt o) 3
noncomputable def kS (wd:Bool) (tt:T aV):List Oper→Nat→Nat
 | _,0=>0
 | [],_+1=>0
 | o::r,j+1=>aH (eX wd tt o) (Nat.succ (kS wd tt r j)) (kS wd tt r j)
noncomputable def vJ (wd:Bool) (tt:T aV) (ops:List Oper) (p:Nat):Bool:=aF (lK ops p) false (eX wd tt)
noncomputable def adm (wd:Bool) (tt:T aV) (ops:List Oper) (ms:List Nat) (j t:Nat):Bool :=
 (List.range ops.length).all fun p=>aH (vJ wd tt ops p) (aH (Nat.blt (kS wd tt ops p) t) (!(ms.getD p 0).testBit j) (!(ms.getD j 0).testBit p)) true
noncomputable def oX (wd:Bool) (tt:T aV) (ops:List Oper):List (Nat×Nat) :=
 (List.range ops.length).flatMap fun j=>aF (lK ops j) [] fun o=>aH (Nat.beq (cls wd tt o) 1 || Nat.beq (cls wd tt o) 2)
  (((List.range (kS wd tt ops ops.length+1)).filter fun t=>adm wd tt ops (masksFrom [] ops) j t && (Nat.beq (cls wd tt o) 2 || !Nat.beq t (kS wd tt ops j))).map fun t=>(j,t)) []
noncomputable def mQ (wd:Bool) (tt:T aV) (ops:List Oper):Bool :=
 let ms:=masksFrom [] ops
 noDup (ops.map (·.dst)) && (List.range ops.length).all (fun j=>edgesBack j (ops.getD j default)) && (List.range ops.length).all (fun j=>(List.range j).all fun i=>pairOk ops ms i j &&
  (!(vJ wd tt ops i && vJ wd tt ops j) || (ms.getD j 0).testBit i)) &&
 (oX wd tt ops).all fun p=>(List.range ops.length).all fun i=>Nat.blt i p.1 || (match ops[p.1]?,ops[i]? with
  | some x,some y=>(match y.dst with | some d=>!(x.looksAt ops.toArray).contains d | none=>true)
  | _,_=>false)
inductive aDc where
 | ok (env:T RV) (Ms:List HT)
 | bad
section
variable (wd:Bool) (tt:T aV) (C:dK) (n:Nat)
noncomputable def a97 (env:T RV) (op:Op):Option (Nat×List RV) :=
 match op with
 | .alloc t=>cM tt t none fun ti=>aF ti.z none fun z=>some (Nat.succ t,z)
 | .buildSlice t len parts=>aF (zI tt env t len parts.toList) none fun p=>some (0,p.2)
 | _=>none
noncomputable def b6k (op:Op):Option (Nat×List RV) :=
 match op with
 | .alloc t=>cM tt t none fun ti=>aF ti.z none fun z=>some (Nat.succ t,z)
 | .buildSlice t len _=>aF (zI tt .e t len []) none fun p=>some (0,p.2)
 | _=>none
noncomputable def aDd (op:Op) (id:Nat):RV :=
 match op with
 | .buildSlice t len _=>aF (zI tt .e t len []) .undef fun p=>.sl id 0 len p.1 (some len)
 | _=>.ptr id 0
noncomputable def xQ (pc:Op→Option (Nat×List RV)):List Oper→HT→Option (List Nat×HT)
 | [],H=>some ([],H)
 | o::r,H=>aH (Nat.beq (cls wd tt o) 2)
   (aF (pc o.op) none fun q=>l8 H q.1 q.2 fun l H=>aF (xQ pc r H) none fun p=>some (l::p.1,p.2))
   (aF (xQ pc r H) none fun p=>some (0::p.1,p.2))
noncomputable def a0j (H:HT) (b:Bool) (o:aDc):aDc :=
 match o with
 | .ok env Ms=>.ok env (aH b (H::Ms) Ms)
 | .bad=>.bad
noncomputable def oL (ops:List Oper):List Oper→List Nat→T RV→HT→aDc
 | [],_,env,H=>.ok env [H]
 | o::r,ids,env,H=>match ids with
  | []=>.bad
  | id::ids=>aF (vH ops env o) .bad fun b=>aH b
    (aH (Nat.beq (cls wd tt o) 2)
     (eK n env o.dst (aDd tt o.op id) .bad fun env=>oL ops r ids env H)
     (match uB tt C env H o.op with
     | .ok v H'=>eK n env o.dst v .bad fun env=>a0j H (eX wd tt o) (oL ops r ids env H')
     | .bad=>.bad))
    (eK n env o.dst .undef .bad fun env=>a0j H (eX wd tt o) (oL ops r ids env H))
noncomputable def aFr (H:HT) (l e:Nat) (z:List RV):Bool :=
 yC H l false fun g m t=>aH (Nat.beq g e) (aH (Nat.beq m (dU z)) (pA t m 0 false fun r=>a2g r z) false) false
noncomputable def a3t (ops:List Oper) (ids:List Nat) (env:T RV) (Ms:List HT):List (Nat×Nat)→Bool
 | []=>true
 | (j,t)::r=>aH
   (aF (lK ops j) false fun o=>aF (lK Ms t) false fun M=>aH (Nat.beq (cls wd tt o) 2)
    (aF (a97 tt env o.op) false fun q=>aF (lK ids j) false fun l=>aFr M l q.1 q.2)
    (aF (vH ops env o) false fun b=>aH b
     (match uB tt C env M o.op with
     | .ok v _=>(match o.dst with | some d=>aF (env.get d) false fun u=>aQq v u | none=>true)
     | .bad=>false) true))
   (a3t ops ids env Ms r) false
noncomputable def aQt (ops:List Oper) (env:T RV) (H:HT) (k:T RV→Out):Out :=
 aH wd (aF (xQ wd tt (b6k tt) ops H) .bad fun p =>
  match oL wd tt C n ops ops p.1 env p.2 with
  | .ok env' _=>k env'
  | .bad=>.bad) (k .e)
noncomputable def a2h (ops:List Oper) (env:T RV) (H:HT):Out :=
 aH (mQ wd tt ops) (aQt wd tt C n ops env H fun pe=>aF (xQ wd tt (a97 tt pe) ops H) .bad fun p =>
  match oL wd tt C n ops ops p.1 env p.2 with
  | .ok env' Ms=>aH (a3t wd tt C ops p.1 env' Ms (oX wd tt ops)) (aF (lK Ms (kS wd tt ops ops.length)) .bad fun H'=>.j4 env' H') .bad
  | .bad=>.bad) .bad
noncomputable def b6l (tt:T aV) (ops:List Oper):Option (Nat×Nat) :=
 match ((List.range ops.length).filter (vJ false tt ops)).reverse with
 | y::x::_=>some (x,y)
 | _=>none
noncomputable def a4h (ops:List Oper) (x:Nat):Option Operand :=
 match ops[x]? with
 | some o=>(match o.op,o.guard,o.dst with
  | .store _ p _,none,none=>some p
  | _,_,_=>none)
 | none=>none
noncomputable def aQu (ops : List Oper) (x : Nat) : Bool:=(List.range ops.length).all fun i=>Nat.blt i x || (match ops[x]?,ops[i]? with
  | some a,some b=>(match b.dst with | some d=>!(a.looksAt ops.toArray).contains d | none=>true)
  | _,_=>false)
noncomputable def aFs (tt:T aV) (ops:List Oper) (x y:Nat):Bool :=
 let ms:=masksFrom [] ops
 noDup (ops.map (·.dst)) && (List.range ops.length).all (fun j=>edgesBack j (ops.getD j default)) && (List.range ops.length).all (fun j=>(List.range j).all fun i=>pairOk ops ms i j &&
  (!(vJ false tt ops i && vJ false tt ops j) || (ms.getD j 0).testBit i || (Nat.beq i x && Nat.beq j y))) &&
 ((oX false tt ops).all fun p=>aQu ops p.1) && (a4h ops x).isSome && (a4h ops y).isSome && vJ false tt ops x && vJ false tt ops y &&
 Nat.beq (kS false tt ops x+2) (kS false tt ops ops.length) && Nat.beq (kS false tt ops y+1) (kS false tt ops ops.length) &&
 ((List.range ops.length).all fun j=>(match ops[j]? with
  | some o=>!(Nat.beq (cls false tt o) 1 || Nat.beq (cls false tt o) 2)
  | none=>true) || ((List.range ops.length).any fun p=>!Nat.beq p x && vJ false tt ops p && (ms.getD p 0).testBit j) || (ms.getD j 0).testBit x) && aQu ops x && aQu ops y
noncomputable def aJw (ops:List Oper) (env:T RV) (x y:Nat):Bool :=
 aF (a4h ops x) false fun p=>aF (a4h ops y) false fun q=>aF (ev env p) false fun u=>aF (ev env q) false fun v =>
  match u,v with
  | .ptr l _,.ptr l' _=>!Nat.beq l l'
  | _,_=>false
noncomputable def a6u (tt:T aV) (C:dK) (n:Nat) (ops:List Oper) (env:T RV) (H:HT):Out :=
 aF (b6l tt ops) .bad fun s=>aH (aFs tt ops s.1 s.2) (aF (xQ false tt (a97 tt .e) ops H) .bad fun p =>
  match oL false tt C n ops ops p.1 env p.2 with
  | .ok env' Ms=>aH (a3t false tt C ops p.1 env' Ms (oX false tt ops)) (aH (aJw ops env' s.1 s.2) (aF (lK Ms (kS false tt ops ops.length)) .bad fun H'=>.j4 env' H') .bad) .bad
  | .bad=>.bad) .bad
noncomputable def yQ (tt:T aV) (C:dK) (n:Nat) (ops:List Oper) (env:T RV) (H:HT):Out :=
 aH (mQ false tt ops) (a2h false tt C n ops env H) (aH (mQ true tt ops) (a2h true tt C n ops env H) (a6u tt C n ops env H))
end
theorem b0n {tt:T aV} {C:dK} {n:Nat} {ops:List Oper} {env:T RV} {H:HT} : (∀ i g h,a6u tt C n ops env H ≠ .ext i g h)∧∀ g h,a6u tt C n ops env H ≠ .ret g h:=by
 have all:a6u tt C n ops env H = .bad∨∃ g h,a6u tt C n ops env H = .j4 g h:=by
  unfold a6u
  cases b6l tt ops with
  | none=>exact .inl rfl
  | some s =>
   rw [aP]
   cases aFs tt ops s.1 s.2 with
   | false=>exact .inl rfl
   | true =>
    rw [aX]
    cases xQ false tt (a97 tt .e) ops H with
    | none=>exact .inl rfl
    | some p =>
     rw [aP]
     cases oL false tt C n ops ops p.1 env p.2 with
     | bad=>exact .inl rfl
     | ok env' Ms =>
      simp only
      cases a3t false tt C ops p.1 env' Ms (oX false tt ops) with
      | false=>exact .inl rfl
      | true =>
       rw [aX]
       cases aJw ops env' s.1 s.2 with
       | false=>exact .inl rfl
       | true =>
        rw [aX]
        cases lK Ms (kS false tt ops ops.length) with
        | none=>exact .inl rfl
        | some H'=>exact .inr ⟨_,_,rfl⟩
 rcases all with h | ⟨g,h',h⟩ <;> rw [h] <;> exact ⟨by simp,by simp⟩
theorem aNe {wd:Bool} {tt:T aV} {C:dK} {n:Nat} {ops:List Oper} {env:T RV} {H:HT} : (∀ i g h,a2h wd tt C n ops env H ≠ .ext i g h)∧∀ g h,a2h wd tt C n ops env H ≠ .ret g h:=by
 have key:∀ pe:T RV,∀ o:Out,(aF (xQ wd tt (a97 tt pe) ops H) .bad fun p =>
  match oL wd tt C n ops ops p.1 env p.2 with
  | .ok env' Ms=>aH (a3t wd tt C ops p.1 env' Ms (oX wd tt ops)) (aF (lK Ms (kS wd tt ops ops.length)) .bad fun H'=>.j4 env' H') .bad
  | .bad=>.bad)=o→o = .bad∨∃ g h,o = .j4 g h:=by
  intro pe o h
  subst h
  cases xQ wd tt (a97 tt pe) ops H with
  | none=>exact .inl rfl
  | some p =>
   rw [aP]
   cases oL wd tt C n ops ops p.1 env p.2 with
   | bad=>exact .inl rfl
   | ok env' Ms =>
    simp only
    cases a3t wd tt C ops p.1 env' Ms (oX wd tt ops) with
    | false=>exact .inl rfl
    | true =>
     rw [aX]
     cases lK Ms (kS wd tt ops ops.length) with
     | none=>exact .inl rfl
     | some H'=>exact .inr ⟨_,_,rfl⟩
 have all:a2h wd tt C n ops env H = .bad∨∃ g h,a2h wd tt C n ops env H = .j4 g h:=by
  unfold a2h
  cases mQ wd tt ops with
  | false=>exact .inl rfl
  | true =>
   rw [aX]
   unfold aQt
   cases wd with
   | false=>exact key _ _ rfl
   | true =>
    rw [aX]
    cases xQ true tt (b6k tt) ops H with
    | none=>exact .inl rfl
    | some p =>
     rw [aP]
     cases oL true tt C n ops ops p.1 env p.2 with
     | bad=>exact .inl rfl
     | ok env' _=>exact key _ _ rfl
 rcases all with h | ⟨g,h',h⟩ <;> rw [h] <;> exact ⟨by simp,by simp⟩
theorem aNf {tt:T aV} {C:dK} {n:Nat} {ops:List Oper} {env:T RV} {H:HT} : (∀ i g h,yQ tt C n ops env H ≠ .ext i g h)∧∀ g h,yQ tt C n ops env H ≠ .ret g h:=by
 unfold yQ
 cases mQ false tt ops with
 | true=>exact aNe
 | false =>
  cases mQ true tt ops with
  | true=>exact aNe
  | false=>exact b0n
structure Step (wd:Bool) (tt:T aV) (C:dK) (n:Nat) (ops:List Oper) (o:Oper) (id:Nat) (env env':T RV) (v:RV) (H H':HT):Prop where
 get:∀ t,env'.get t=if o.dst=some t then some v else env.get t
 lt:∀ t,o.dst=some t→t < n
 run:(vH ops env o=some true∧((cls wd tt o=2∧v=aDd tt o.op id∧H'=H)∨(cls wd tt o≠2∧uB tt C env H o.op = .ok v H')))∨(vH ops env o=some false∧v = .undef∧H'=H)
section
variable {wd:Bool} {tt:T aV} {C:dK} {n:Nat} {ops:List Oper}
theorem a44 (l:List Oper):kS wd tt l 0=0:=by cases l <;> rfl
theorem qQ (o:Oper) (r:List Oper) (j:Nat):kS wd tt (o::r) (j+1)=(if eX wd tt o=true then kS wd tt r j+1 else kS wd tt r j):=by
 show aH _ _ _=_
 rw [cK]
theorem a45 {o:Oper} : eX wd tt o=true↔cls wd tt o=3:=by unfold eX; rw [lR]
theorem aJx:∀ {rest:List Oper} {ids:List Nat} {env:T RV} {H:HT} {env':T RV} {Ms:List HT},oL wd tt C n ops rest ids env H = .ok env' Ms →
  ∃ (es : Nat → T RV) (val : Nat → RV) (M : Nat → HT),es 0 = env ∧ M 0 = H ∧ es rest.length = env' ∧ rest.length ≤ ids.length ∧ (∀ t,t ≤ kS wd tt rest rest.length → Ms[t]? = some (M t)) ∧
   ∀ (j : Nat) o id,rest[j]? = some o → ids[j]? = some id → Step wd tt C n ops o id (es j) (es (j + 1)) (val j) (M (kS wd tt rest j)) (M (kS wd tt rest (j + 1)))
 | [],ids,env,H,env',Ms,e=>by
  simp [oL] at e
  obtain ⟨rfl,rfl⟩:=e
  refine ⟨fun _=>env,fun _=>.undef,fun _=>H,rfl,rfl,rfl,by simp,fun t ht=>?_,by simp⟩
  have h0:t=0:=by simpa [kS] using ht
  subst h0; rfl
 | o::r,ids,env,H,env',Ms,e=>by
  simp only [oL] at e
  split at e
  ·simp at e
  rename_i id ids
  have key:∀ (env1:T RV) (v:RV) (H1:HT) (Ms1:List HT),Step wd tt C n ops o id env env1 v H H1→oL wd tt C n ops r ids env1 H1 = .ok env' Ms1→Ms=(if eX wd tt o=true then H::Ms1 else Ms1)→(eX wd tt o=false→H1=H) →
    ∃ (es : Nat → T RV) (val : Nat → RV) (M : Nat → HT),es 0 = env ∧ M 0 = H ∧ es (o :: r).length = env' ∧ (o :: r).length ≤ (id :: ids).length ∧ (∀ t,t ≤ kS wd tt (o :: r) (o :: r).length → Ms[t]? = some (M t)) ∧
     ∀ (j : Nat) o' id',(o :: r)[j]? = some o' → (id :: ids)[j]? = some id' → Step wd tt C n ops o' id' (es j) (es (j + 1)) (val j) (M (kS wd tt (o :: r) j)) (M (kS wd tt (o :: r) (j + 1))):=by
   intro env1 v H1 Ms1 st h1 h2 h3
   obtain ⟨es,val,M,e1,e2,e3,e4,e5,e6⟩:=aJx h1
   by_cases hs:eX wd tt o=true
   ·rw [if_pos hs] at h2
    refine ⟨fun i=>match i with | 0=>env | i+1=>es i,fun i=>match i with | 0=>v | i+1=>val i,fun i=>match i with | 0=>H | i+1=>M i,rfl,rfl,e3,by simpa using e4,fun t ht=>?_,fun j o' id' ho hi=>?_⟩
    ·rw [h2]
     cases t with
     | zero=>rfl
     | succ t =>
      rw [zvx]
      refine e5 t ?_
      rw [zwx,qQ,if_pos hs] at ht
      omega
    ·cases j with
     | zero =>
      simp at ho hi
      subst ho; subst hi
      simp only [a44,qQ,if_pos hs]
      rw [e1,e2]; exact st
     | succ j =>
      simp only [qQ,if_pos hs]
      exact e6 j o' id' (by simpa using ho) (by simpa using hi)
   ·have hs':eX wd tt o=false:=by simpa using hs
    rw [if_neg hs] at h2
    have hH:=h3 hs'
    subst hH
    refine ⟨fun i=>match i with | 0=>env | i+1=>es i,fun i=>match i with | 0=>v | i+1=>val i,M,rfl,e2,e3,by simpa using e4,fun t ht=>?_,fun j o' id' ho hi=>?_⟩
    ·rw [h2]
     refine e5 t ?_
     rw [zwx,qQ,if_neg hs] at ht
     exact ht
    ·cases j with
     | zero =>
      simp at ho hi
      subst ho; subst hi
      simp only [a44,qQ,if_neg hs]
      rw [e1,e2]; exact st
     | succ j =>
      simp only [qQ,if_neg hs]
      exact e6 j o' id' (by simpa using ho) (by simpa using hi)
  replace e:=l9 e
  rcases e with ⟨_,e⟩ | ⟨b,hb,e⟩
  ·simp at e
  cases b with
  | true =>
   rw [aX] at e
   rw [cK] at e
   split at e
   ·rename_i hc
    have hc:=lR.1 hc
    have hns:¬ eX wd tt o=true:=by rw [a45]; omega
    rcases wE (n:=n) (env:=env) (dst:=o.dst) (v:=aDd tt o.op id) (d:=aDc.bad) (k:=fun env=>oL wd tt C n ops r ids env H) with ⟨env1,h2,h3,h4⟩ | h2
    ·rw [h2] at e
     exact key env1 _ H Ms ⟨h3,h4,.inl ⟨hb,.inl ⟨hc,rfl,rfl⟩⟩⟩ e (by rw [if_neg hns]) (fun _=>rfl)
    ·rw [h2] at e; simp at e
   ·rename_i hc
    have hc:cls wd tt o≠2:=fun h=>hc (by rw [h]; rfl)
    split at e
    ·rename_i v H1 h1
     rcases wE (n:=n) (env:=env) (dst:=o.dst) (v:=v) (d:=aDc.bad) (k:=fun env=>a0j H (eX wd tt o) (oL wd tt C n ops r ids env H1)) with ⟨env1,h2,h3,h4⟩ | h2
     ·rw [h2] at e
      unfold a0j at e
      split at e
      ·rename_i env2 Ms1 h5
       simp at e
       obtain ⟨rfl,rfl⟩:=e
       refine key env1 v H1 Ms1 ⟨h3,h4,.inl ⟨hb,.inr ⟨hc,h1⟩⟩⟩ h5 (by rw [cK]) (fun hs=>?_)
       have:cls wd tt o≤1:=by
        have h6:cls wd tt o≠3:=fun h=>by rw [a45.2 h] at hs; simp at hs
        have h7:cls wd tt o≤3:=aQr (wd:=wd) (tt:=tt) o
        omega
       exact aH3 this h1
      ·simp at e
     ·rw [h2] at e; simp at e
    ·simp at e
  | false =>
   rw [bU] at e
   rcases wE (n:=n) (env:=env) (dst:=o.dst) (v:=.undef) (d:=aDc.bad) (k:=fun env=>a0j H (eX wd tt o) (oL wd tt C n ops r ids env H)) with ⟨env1,h2,h3,h4⟩ | h2
   ·rw [h2] at e
    unfold a0j at e
    split at e
    ·rename_i env2 Ms1 h5
     simp at e
     obtain ⟨rfl,rfl⟩:=e
     exact key env1 _ H Ms1 ⟨h3,h4,.inr ⟨hb,rfl,rfl⟩⟩ h5 (by rw [cK]) (fun _=>rfl)
    ·simp at e
   ·rw [h2] at e; simp at e
end
end Go.Rx

/- Closed runs: regions whose order is drawn: every order does what the text's order does. -/
namespace Go.Rx
open Go.Fbs (maskOf masksFrom edgesBack pairOk noDup Closed mask_listed noDup_spec listedOf listedOf_set closed_set ready_iff unl unl_set lst lst_of_listedOf listed_false unl_pos)
section
variable {wd:Bool} {tt:T aV} {C:dK} {n:Nat} {ops:List Oper}
theorem zJ {p : Nat} {o : Oper} (ho : ops[p]? = some o) : vJ wd tt ops p = true ↔ cls wd tt o = 3:=by
 unfold vJ
 rw [kD,ho,aP,a45]
structure bG9 (tt:T aV) (wd:Bool) (ops:List Oper) (x y:Nat):Prop where
 sx:∃ p,a4h ops x=some p
 sy:∃ p,a4h ops y=some p
 cx : ∃ o,ops[x]? = some o ∧ cls wd tt o = 3
 cy : ∃ o,ops[y]? = some o ∧ cls wd tt o = 3
 kx:kS wd tt ops x+2=kS wd tt ops ops.length
 ky:kS wd tt ops y+1=kS wd tt ops ops.length
 rd : ∀ (j : Nat) o,ops[j]? = some o → cls wd tt o = 1 ∨ cls wd tt o = 2 → (∃ (p : Nat) (q : Oper),p ≠ x ∧ ops[p]? = some q ∧ cls wd tt q = 3 ∧ ((masksFrom [] ops).getD p 0).testBit j = true) ∨ ((masksFrom [] ops).getD j 0).testBit x = true
 fx : ∀ (i : Nat) a b d,¬ i < x → ops[x]? = some a → ops[i]? = some b → b.dst = some d → d ∉ a.looksAt ops.toArray
 fy : ∀ (i : Nat) a b d,¬ i < y → ops[y]? = some a → ops[i]? = some b → b.dst = some d → d ∉ a.looksAt ops.toArray
structure sN (wd:Bool) (tt:T aV) (ops:List Oper) (sw:Option (Nat×Nat)):Prop where
 nd : ∀ (i j : Nat) x y d,ops[i]? = some x → ops[j]? = some y → x.dst = some d → y.dst = some d → i = j
 back : ∀ (j : Nat) o,ops[j]? = some o → ∀ e ∈ o.after,Region.binds .any e = true → e.on < j
 pair : ∀ (i j : Nat) x y,i < j → ops[i]? = some x → ops[j]? = some y → ((masksFrom [] ops).getD j 0).testBit i = true ∨ Oper.apart ops.toArray x y = true
 chain : ∀ (i j : Nat) x y,i < j → ops[i]? = some x → ops[j]? = some y → cls wd tt x = 3 → cls wd tt y = 3 → ((masksFrom [] ops).getD j 0).testBit i = true ∨ sw = some (i,j)
 fin : ∀ j t,(j,t) ∈ oX wd tt ops → ∀ (i : Nat) x y d,¬ i < j → ops[j]? = some x → ops[i]? = some y → y.dst = some d → d ∉ x.looksAt ops.toArray
 late:∀ x y,sw=some (x,y)→bG9 tt wd ops x y
theorem aC4 (h:mQ wd tt ops=true):sN wd tt ops none:=by
 unfold mQ at h
 simp only [zxz,List.all_eq_true,List.mem_range] at h
 obtain ⟨⟨⟨h1,h2⟩,h3⟩,h4⟩:=h
 have lt : ∀ {j : Nat} {o : Oper},ops[j]? = some o → j < ops.length:=fun h=>(zzy.1 h).1
 refine ⟨fun i j x y d hx hy hxd hyd=>?_,fun j o ho e he hb=>?_,fun i j x y hij hx hy=>?_,fun i j x y hij hx hy hc hc'=>?_,fun j t hm i x y d hij hx hy hd=>?_,fun _ _ h=>by simp at h⟩
 ·exact noDup_spec _ h1 i j d (by rw [zvz,hx]; simp [hxd]) (by rw [zvz,hy]; simp [hyd])
 ·have:=h2 j (lt ho)
  rw [List.getD_eq_getElem?_getD,ho] at this
  simp only [Option.getD_some,edgesBack,List.all_eq_true] at this
  have:=this e (by simpa using he)
  simpa [hb] using this
 ·have:=(h3 j (lt hy) i hij).1
  unfold pairOk at this
  rw [hx,hy] at this
  simpa using this
 ·have:=(h3 j (lt hy) i hij).2
  rw [(zJ hx).2 hc,(zJ hy).2 hc'] at this
  left; simpa using this
 ·have:=h4 (j,t) hm i (lt hy)
  simp only [Bool.or_eq_true] at this
  rcases this with h5 | h5
  ·rw [Nat.blt_eq] at h5; exact absurd h5 hij
  ·rw [hx,hy] at h5
   simp only [hd,Bool.not_eq_true'] at h5
   intro hmem
   rw [List.contains_iff_mem.2 hmem] at h5
   simp at h5
theorem aDe {x : Nat} (h : aQu ops x = true) : ∀ (i : Nat) a b d,¬ i < x → ops[x]? = some a → ops[i]? = some b → b.dst = some d → d ∉ a.looksAt ops.toArray:=by
 intro i a b d hij ha hb hd
 unfold aQu at h
 simp only [List.all_eq_true,List.mem_range,Bool.or_eq_true] at h
 rcases h i (zzy.1 hb).1 with h5 | h5
 ·rw [Nat.blt_eq] at h5; exact absurd h5 hij
 ·rw [ha,hb] at h5
  simp only [hd,Bool.not_eq_true'] at h5
  intro hmem
  rw [List.contains_iff_mem.2 hmem] at h5
  simp at h5
theorem aDf {x : Nat} (h : vJ wd tt ops x = true) : ∃ o,ops[x]? = some o ∧ cls wd tt o = 3:=by
 cases ho : ops[x]? with
 | none=>unfold vJ at h; rw [kD,ho] at h; simp [jC] at h
 | some o=>exact ⟨o,rfl,(zJ ho).1 h⟩
theorem aXm {x y:Nat} (h:aFs tt ops x y=true):sN false tt ops (some (x,y)):=by
 unfold aFs at h
 simp only [zxz,List.all_eq_true,List.mem_range] at h
 obtain ⟨⟨⟨⟨⟨⟨⟨⟨⟨⟨⟨⟨h1,h2⟩,h3⟩,h4⟩,h5⟩,h6⟩,h7⟩,h8⟩,h9⟩,h10⟩,h11⟩,h12⟩,h13⟩:=h
 have lt : ∀ {j : Nat} {o : Oper},ops[j]? = some o → j < ops.length:=fun h=>(zzy.1 h).1
 refine ⟨fun i j x y d hx hy hxd hyd=>?_,fun j o ho e he hb=>?_,fun i j x y hij hx hy=>?_,fun i j x' y' hij hx hy hc hc'=>?_,fun j t hm i x y d hij hx hy hd=>?_,fun x' y' h=>?_⟩
 ·exact noDup_spec _ h1 i j d (by rw [zvz,hx]; simp [hxd]) (by rw [zvz,hy]; simp [hyd])
 ·have:=h2 j (lt ho)
  rw [List.getD_eq_getElem?_getD,ho] at this
  simp only [Option.getD_some,edgesBack,List.all_eq_true] at this
  have:=this e (by simpa using he)
  simpa [hb] using this
 ·have:=(h3 j (lt hy) i hij).1
  unfold pairOk at this
  rw [hx,hy] at this
  simpa using this
 ·have:=(h3 j (lt hy) i hij).2
  rw [(zJ hx).2 hc,(zJ hy).2 hc'] at this
  simp only [Bool.and_self,Bool.not_true,Bool.false_or,Bool.or_eq_true,zxz,lR] at this
  rcases this with h | ⟨rfl,rfl⟩
  ·exact .inl h
  ·exact .inr rfl
 ·exact aDe (h4 (j,t) hm) i x y d hij hx hy hd
 ·simp only [zzz,zvy] at h
  obtain ⟨rfl,rfl⟩:=h
  refine ⟨Option.isSome_iff_exists.1 h5,Option.isSome_iff_exists.1 h6,aDf h7,aDf h8,lR.1 h9,lR.1 h10,fun j o ho hc=>?_,aDe h12,aDe h13⟩
  have:=h11 j (lt ho)
  rw [ho] at this
  simp only [Bool.or_eq_true] at this
  rcases this with (h | h) | h
  ·exfalso
   rcases hc with hc | hc <;> rw [hc] at h <;> simp at h
  ·left
   rw [List.any_eq_true] at h
   obtain ⟨p,_,h⟩:=h
   simp only [zxz,Bool.not_eq_true'] at h
   obtain ⟨⟨g1,g2⟩,g3⟩:=h
   obtain ⟨q,g4,g5⟩:=aDf g2
   exact ⟨p,q,fun e=>by subst e; rw [lR.2 rfl] at g1; simp at g1,g4,g5,g3⟩
  ·exact .inr h
theorem aFt:∀ (l:List Oper) (i j:Nat),i≤j→kS wd tt l i≤kS wd tt l j
 | [],i,j,_=>by cases i <;> cases j <;> simp [kS]
 | o::r,0,j,_=>by rw [a44]; exact Nat.zero_le _
 | o::r,i+1,0,h=>by omega
 | o::r,i+1,j+1,h=>by
  rw [qQ,qQ]
  have:=aFt r i j (by omega)
  split <;> omega
theorem zK : ∀ {l : List Oper} {j : Nat} {o : Oper},l[j]? = some o → kS wd tt l (j + 1) = if cls wd tt o = 3 then kS wd tt l j + 1 else kS wd tt l j
 | [],j,o,h=>by simp at h
 | x::r,0,o,h=>by
  simp at h; subst h
  rw [qQ,a44,a44]
  by_cases hc:cls wd tt x=3
  ·rw [if_pos (a45.2 hc),if_pos hc]
  ·rw [if_neg (fun h=>hc (a45.1 h)),if_neg hc]
 | x::r,j+1,o,h=>by
  have:=zK (l:=r) (j:=j) (o:=o) (by simpa using h)
  rw [qQ,qQ]
  split <;> rw [this] <;> split <;> omega
theorem aOw : ∀ {l : List Oper} {j t : Nat},j ≤ l.length → t < kS wd tt l j → ∃ p o,p < j ∧ l[p]? = some o ∧ cls wd tt o = 3 ∧ kS wd tt l p = t
 | l,0,t,_,h=>by rw [a44] at h; omega
 | l,j+1,t,hj,h=>by
  have ho:=zyz (show j < l.length by omega)
  rw [zK ho] at h
  split at h
  ·rename_i hc
   by_cases ht:t < kS wd tt l j
   ·obtain ⟨p,o,h1,h2,h3,h4⟩:=aOw (by omega) ht
    exact ⟨p,o,by omega,h2,h3,h4⟩
   ·exact ⟨j,_,by omega,ho,hc,by omega⟩
  ·obtain ⟨p,o,h1,h2,h3,h4⟩:=aOw (by omega) h
   exact ⟨p,o,by omega,h2,h3,h4⟩
theorem aDg {p q : Nat} {x y : Oper} (hx : ops[p]? = some x) (hy : ops[q]? = some y) (cx : cls wd tt x = 3) (cy : cls wd tt y = 3) (h : kS wd tt ops p = kS wd tt ops q) : p = q:=by
 have h1:=zK (wd:=wd) (tt:=tt) hx
 have h2:=zK (wd:=wd) (tt:=tt) hy
 rw [if_pos cx] at h1; rw [if_pos cy] at h2
 rcases Nat.lt_trichotomy p q with hlt | heq | hlt
 ·have:=aFt (wd:=wd) (tt:=tt) ops (p+1) q hlt; omega
 ·exact heq
 ·have:=aFt (wd:=wd) (tt:=tt) ops (q+1) p hlt; omega
theorem aJy {j t : Nat} {o : Oper} (ho : ops[j]? = some o) (hc : cls wd tt o = 1 ∨ cls wd tt o = 2) (ht : t ≤ kS wd tt ops ops.length) (ha : adm wd tt ops (masksFrom [] ops) j t = true) (hne : cls wd tt o = 1 → t ≠ kS wd tt ops j) : (j,t) ∈ oX wd tt ops:=by
 unfold oX
 rw [List.mem_flatMap]
 refine ⟨j,List.mem_range.2 (zzy.1 ho).1,?_⟩
 rw [kD,ho,aP]
 have:(Nat.beq (cls wd tt o) 1 || Nat.beq (cls wd tt o) 2)=true:=by
  rw [Bool.or_eq_true,lR,lR]; exact hc
 rw [this,aX,List.mem_map]
 refine ⟨t,?_,rfl⟩
 rw [List.mem_filter,List.mem_range,zxz,Bool.or_eq_true,lR]
 refine ⟨by omega,ha,?_⟩
 rcases hc with hc | hc
 ·right
  have:=hne hc
  cases hb:Nat.beq t (kS wd tt ops j) with
  | false=>rfl
  | true=>exact absurd (lR.1 hb) this
 ·exact .inl hc
theorem aH4 {ids:List Nat} {env:T RV} {Ms:List HT} : ∀ {ps:List (Nat×Nat)},a3t wd tt C ops ids env Ms ps=true→∀ j t,(j,t) ∈ ps →
  aF (lK ops j) false (fun o=>aF (lK Ms t) false fun M=>aH (Nat.beq (cls wd tt o) 2)
    (aF (a97 tt env o.op) false fun q=>aF (lK ids j) false fun l=>aFr M l q.1 q.2)
    (aF (vH ops env o) false fun b=>aH b
     (match uB tt C env M o.op with
     | .ok v _=>(match o.dst with | some d=>aF (env.get d) false fun u=>aQq v u | none=>true)
     | .bad=>false) true))=true
 | [],_,j,t,h=>by simp at h
 | (j',t')::r,e,j,t,h=>by
  simp only [a3t] at e
  rw [nW] at e
  rcases List.mem_cons.1 h with h | h
  ·simp at h
   obtain ⟨rfl,rfl⟩:=h
   exact e.1
  ·exact aH4 e.2 j t h
theorem qZ {α:Type} {o:Option α} {k:α→Bool} (e:aF o false k=true):∃ a,o=some a∧k a=true:=by
 rcases l9 e with ⟨_,h⟩ | h
 ·simp at h
 ·exact h
theorem b32 {N:Nat} {h0 h:bN} {Γ : Gm} {H H':HT} {o:RO} (m:Mem N h0 Γ h H) (hH:New H H' o):Mem N h0 Γ h H':=by
 have ne:∀ {l:Nat} {p:Pl},Γ l=some p→H'.get l=H.get l:=fun {l p} h=>by
  rw [hH.2,if_neg (fun e=>by have:=m.lt l p h; omega)]
 exact ⟨m.size,m.old,fun l p h=>by rw [hH.1]; have:=m.lt l p h; omega,m.cJ,fun l p o h1 h2=>m.obj l p o h1 (by rw [← ne h1]; exact h2),fun l p o h1 h2=>m.own l p o h1 (by rw [← ne h1]; exact h2),
  fun l l' p p' o h1 h2 h3 h4 h5=>by rw [ne h2]; exact m.a5i l l' p p' o h1 h2 h3 (by rw [← ne h1]; exact h4) h5⟩
theorem aDh {pc:Op→Option (Nat×List RV)} : ∀ {l:List Oper} {H H1:HT} {ids:List Nat},xQ wd tt pc l H=some (ids,H1)→H.sz≤H1.sz∧ids.length=l.length∧(∀ (N:Nat) (h0 h:bN) (Γ : Gm),Mem N h0 Γ h H→Mem N h0 Γ h H1) ∧
  (∀ (j : Nat) o id,l[j]? = some o → ids[j]? = some id → cls wd tt o = 2 → H.sz ≤ id ∧ id < H1.sz) ∧
  ∀ (i j : Nat) x y id,l[i]? = some x → l[j]? = some y → cls wd tt x = 2 → cls wd tt y = 2 → ids[i]? = some id → ids[j]? = some id → i = j
 | [],H,H1,ids,e=>by
  simp [xQ] at e
  obtain ⟨rfl,rfl⟩:=e
  exact ⟨zxy _,rfl,fun _ _ _ _ h=>h,by simp,by simp⟩
 | o::r,H,H1,ids,e=>by
  simp only [xQ] at e
  rw [cK] at e
  split at e
  ·rename_i hc
   have hc:=lR.1 hc
   ·replace e:=aG e; obtain ⟨⟨g,z⟩,hz,e⟩:=e
    obtain ⟨H2,t2,h1,h2,h3⟩:=yN H _ z (fun l H=>aF (xQ wd tt pc r H) none fun p=>some (l::p.1,p.2))
    rw [h1] at e
    replace e:=aG e; obtain ⟨p,hp,e⟩:=e
    simp at e
    obtain ⟨rfl,rfl⟩:=e
    obtain ⟨ids',H3⟩:=p
    obtain ⟨h4,h5,h6,h7,h8⟩:=aDh hp
    have hs:=h2.1
    refine ⟨by simp only; omega,by simp [h5],fun N h0 h Γ m=>h6 N h0 h Γ (b32 m h2),fun j o' id ho hi hc'=>?_,fun i j x y id hx hy cx cy hi hj=>?_⟩
    ·cases j with
     | zero=>simp at hi; subst hi; simp only; omega
     | succ j =>
      have:=h7 j o' id (by simpa using ho) (by simpa using hi) hc'
      simp only; omega
    ·cases i with
     | zero =>
      cases j with
      | zero=>rfl
      | succ j =>
       simp at hi; subst hi
       have:=h7 j y H.sz (by simpa using hy) (by simpa using hj) cy
       omega
     | succ i =>
      cases j with
      | zero =>
       simp at hj; subst hj
       have:=h7 i x H.sz (by simpa using hx) (by simpa using hi) cx
       omega
      | succ j=>rw [h8 i j x y id (by simpa using hx) (by simpa using hy) cx cy (by simpa using hi) (by simpa using hj)]
  ·rename_i hc
   have hc:cls wd tt o≠2:=fun h=>hc (by rw [h]; rfl)
   replace e:=aG e; obtain ⟨p,hp,e⟩:=e
   simp at e
   obtain ⟨rfl,rfl⟩:=e
   obtain ⟨ids',H3⟩:=p
   obtain ⟨h4,h5,h6,h7,h8⟩:=aDh hp
   refine ⟨h4,by simp [h5],h6,fun j o' id ho hi hc'=>?_,fun i j x y id hx hy cx cy hi hj=>?_⟩
   ·cases j with
    | zero=>simp at ho; subst ho; exact absurd hc' hc
    | succ j=>exact h7 j o' id (by simpa using ho) (by simpa using hi) hc'
   ·cases i with
    | zero=>simp at hx; subst hx; exact absurd cx hc
    | succ i =>
     cases j with
     | zero=>simp at hy; subst hy; exact absurd cy hc
     | succ j=>rw [h8 i j x y id (by simpa using hx) (by simpa using hy) cx cy (by simpa using hi) (by simpa using hj)]
structure Tr (wd:Bool) (tt:T aV) (C:dK) (n:Nat) (ops:List Oper) (ids:List Nat) (es:Nat→T RV) (val:Nat→RV) (M:Nat→HT):Prop where
 len:ops.length≤ids.length
 step : ∀ (j : Nat) o id,ops[j]? = some o → ids[j]? = some id → Step wd tt C n ops o id (es j) (es (j + 1)) (val j) (M (kS wd tt ops j)) (M (kS wd tt ops (j + 1)))
variable {ids:List Nat} {es:Nat→T RV} {val:Nat→RV} {M:Nat→HT}
theorem Tr.at (T : Tr wd tt C n ops ids es val M) {j : Nat} {o : Oper} (ho : ops[j]? = some o) : ∃ id,ids[j]? = some id ∧ Step wd tt C n ops o id (es j) (es (j + 1)) (val j) (M (kS wd tt ops j)) (M (kS wd tt ops (j + 1))):=by
 have hj:j < ids.length:=zuz (zzy.1 ho).1 T.len
 exact ⟨ids[j],zyz hj,T.step j o _ ho (zyz hj)⟩
theorem Tr.old (T : Tr wd tt C n ops ids es val M) {d : Nat} : ∀ j,j ≤ ops.length → (∀ (i : Nat) o,i < j → ops[i]? = some o → o.dst ≠ some d) → (es j).get d = (es 0).get d
 | 0,_,_=>rfl
 | j+1,hj,h=>by
  obtain ⟨id,_,st⟩:=T.at (zyz (show j < ops.length by omega))
  rw [st.get,if_neg (h j _ (by omega) (zyz (by omega)))]
  exact T.old j (by omega) (fun i o hi ho=>h i o (by omega) ho)
theorem Tr.new {sw : Option (Nat × Nat)} (T : Tr wd tt C n ops ids es val M) (f : sN wd tt ops sw) {d i : Nat} {o : Oper} (hio : ops[i]? = some o) (hd : o.dst = some d) : ∀ j,i < j → j ≤ ops.length → (es j).get d = some (val i)
 | 0,h,_=>by omega
 | j+1,h,hj=>by
  have ho:=zyz (show j < ops.length by omega)
  obtain ⟨id,_,st⟩:=T.at ho
  rw [st.get]
  by_cases hij:i=j
  ·subst hij
   rw [ho] at hio; simp at hio; subst hio
   rw [if_pos hd]
  ·rw [if_neg (fun e=>hij (f.nd i j _ _ d hio ho hd e))]
   exact T.new f hio hd j (by omega) (by omega)
end
end Go.Rx

/- Closed runs: regions whose order is drawn: the theorem. -/
namespace Go.Rx
open Go.Fbs (maskOf masksFrom edgesBack pairOk noDup Closed mask_listed noDup_spec listedOf listedOf_set closed_set ready_iff unl unl_set lst lst_of_listedOf listed_false unl_pos)
def dn (T k t:Nat):Prop:=(t≤T∧k < t)∨(t=T+1∧k+2≠T)
def Heq (K H:HT):Prop:=K.sz=H.sz∧∀ l,K.get l=H.get l
theorem Heq.refl (H:HT):Heq H H:=⟨rfl,fun _=>rfl⟩
theorem Heq.mem {N:Nat} {h0 h:bN} {Γ : Gm} {K H:HT} (e:Heq K H) (m:Mem N h0 Γ h K):Mem N h0 Γ h H :=
 ⟨m.size,m.old,fun l p h=>by rw [← e.1]; exact m.lt l p h,m.cJ,fun l p o h1 h2=>m.obj l p o h1 (by rw [e.2]; exact h2),fun l p o h1 h2=>m.own l p o h1 (by rw [e.2]; exact h2),
  fun l l' p p' o h1 h2 h3 h4 h5=>by rw [← e.2]; exact m.a5i l l' p p' o h1 h2 h3 (by rw [e.2]; exact h4) h5⟩
theorem Heq.ext {N:Nat} {h0:bN} {Γ0 Γ : Gm} {w0 w:World} {H0 K H:HT} (e:Heq K H) (x:Ext N h0 Γ0 w0 H0 Γ w K):Ext N h0 Γ0 w0 H0 Γ w H :=
 ⟨x.gle,e.mem x.mem,by rw [← e.1]; exact x.sz,x.hole,x.kept⟩
structure vG (sw:Option (Nat×Nat)) (δ:List Deferred) (wd:Bool) (tt:T aV) (n:Nat) (ops:List Oper) (ids:List Nat) (es:Nat→T RV) (val:Nat→RV) (M:Nat→HT) (N:Nat) (h0:bN) (Γ0:Gm) (w0:World) (H0:HT) (s1:Nat) (t:Nat) (S:Array Bool) (Γ : Gm) (w:World) (a:Act):Prop where
 size:S.size=ops.length
 szt:s1≤(M t).sz
 closed:Closed ops (listedOf S)
 tle:t≤kS wd tt ops ops.length+1
 swo:t=kS wd tt ops ops.length+1→∃ x y,sw=some (x,y)
 xN : ∀ p o,ops[p]? = some o → cls wd tt o = 3 → (listedOf S p = true ↔ dn (kS wd tt ops ops.length) (kS wd tt ops p) t)
 ext:Ext N h0 Γ0 w0 H0 Γ w (M t)
 defers:a.defers=δ
 yL:a.tmps.size=n
 hole : ∀ (j : Nat) o id,ops[j]? = some o → ids[j]? = some id → cls wd tt o = 2 → listedOf S j = false → Γ id = none
 new : ∀ (i : Nat) o d,ops[i]? = some o → listedOf S i = true → o.dst = some d → ∃ x,a.tmps[d]? = some x ∧ aE Γ (val i) x
 old : ∀ d v,(∀ (i : Nat) o,ops[i]? = some o → listedOf S i = true → o.dst ≠ some d) → (es 0).get d = some v → ∃ x,a.tmps[d]? = some x ∧ aE Γ v x
section
variable {sw:Option (Nat×Nat)} {P:Program} {δ:List Deferred} {ρ:Option Nat} {wd:Bool} {tt:T aV} {C:dK} {n:Nat} {ops:List Oper} {ids:List Nat} {es:Nat→T RV} {val:Nat→RV} {M:Nat→HT} {N:Nat} {h0:bN} {Γ0:Gm} {w0:World} {H0:HT} {s1:Nat} {t:Nat} {S:Array Bool} {Γ : Gm} {w:World} {a:Act}
theorem vG.look (T : Tr wd tt C n ops ids es val M) (f : sN wd tt ops sw) (m : vG sw δ wd tt n ops ids es val M N h0 Γ0 w0 H0 s1 t S Γ w a) {j : Nat} {o : Oper} (ho : ops[j]? = some o) (hun : listedOf S j = false)
  (hr : ∀ e ∈ o.after,Region.binds .any e = true → listedOf S e.on = true) {d : Nat} (hd : d ∈ o.looksAt ops.toArray) {v : RV} (hv : (es j).get d = some v) : ∃ x,a.tmps[d]? = some x ∧ aE Γ v x:=by
 have hj:=(zzy.1 ho).1
 by_cases hex : ∃ (i : Nat) (oi : Oper),i < j ∧ ops[i]? = some oi ∧ oi.dst = some d
 ·obtain ⟨i,oi,hi,hoi,hdi⟩:=hex
  rw [T.new f hoi hdi j hi (by omega)] at hv
  simp at hv; subst hv
  refine m.new i oi d hoi ?_ hdi
  rcases f.pair i j oi o hi hoi ho with h1 | h1
  ·exact mask_listed ho m.closed hr h1
  ·exact absurd hd ((Oper.apart_spec h1).1 d hdi)
 ·have hold:=T.old (d:=d) j (by omega) (fun i oi hi hoi hdi=>hex ⟨i,oi,hi,hoi,hdi⟩)
  rw [hold] at hv
  refine m.old d v (fun i oi hoi hli hdi=>?_) hv
  have hne:i≠j:=fun e=>by subst e; rw [hun] at hli; simp at hli
  have hlt:j < i:=by
   refine Nat.lt_of_le_of_ne (Nat.le_of_not_lt fun hlt=>hex ⟨i,oi,hlt,hoi,hdi⟩) (fun e=>hne e.symm)
  rcases f.pair j i o oi hlt ho hoi with h1 | h1
  ·have:=mask_listed hoi m.closed (fun e he hb=>m.closed i oi hoi hli e he hb) h1
   rw [hun] at this; simp at this
  ·exact (Oper.apart_spec h1).2.2 d hdi hd
theorem vG.b6m (T : Tr wd tt C n ops ids es val M) (f : sN wd tt ops sw) (m : vG sw δ wd tt n ops ids es val M N h0 Γ0 w0 H0 s1 t S Γ w a) {j : Nat} {o : Oper} (ho : ops[j]? = some o) (hun : listedOf S j = false)
  (hr : ∀ e ∈ o.after,Region.binds .any e = true → listedOf S e.on = true) {d : Nat} (hd : d ∈ o.looksAt ops.toArray) (hfin : ∀ (i : Nat) y,¬ i < j → ops[i]? = some y → y.dst ≠ some d) {v : RV} (hv : (es ops.length).get d = some v) : ∃ x,a.tmps[d]? = some x ∧ aE Γ v x:=by
 have hj:=(zzy.1 ho).1
 refine m.look T f ho hun hr hd ?_
 by_cases hex : ∃ (i : Nat) (oi : Oper),i < j ∧ ops[i]? = some oi ∧ oi.dst = some d
 ·obtain ⟨i,oi,hi,hoi,hdi⟩:=hex
  rw [T.new f hoi hdi _ (by omega) (zxy _)] at hv
  rw [T.new f hoi hdi j hi (by omega),hv]
 ·rw [T.old (d:=d) _ (zxy _) (fun i oi hi hoi hdi=>by
   by_cases h:i < j
   ·exact hex ⟨i,oi,h,hoi,hdi⟩
   ·exact hfin i oi h hoi hdi)] at hv
  rw [T.old (d:=d) j (by omega) (fun i oi hi hoi hdi=>hex ⟨i,oi,hi,hoi,hdi⟩),hv]
theorem aH5 {o : Oper} {env : T RV} (h : ∀ d v,d ∈ o.looksAt ops.toArray → env.get d = some v → ∃ x,a.tmps[d]? = some x ∧ aE Γ v x) : pC Γ env a o.op.operands.toList ∧ b3z Γ ops env a o:=by
 refine ⟨fun x hx v hv=>?_,fun j want oj d v hg hoj hd hv=>?_⟩
 ·cases x with
  | tmp d =>
   obtain ⟨y,h1,h2⟩:=h d v (by
    unfold Oper.looksAt
    refine List.mem_append.2 (.inl ?_)
    rw [List.mem_filterMap]
    exact ⟨.tmp d,hx,rfl⟩) hv
   obtain ⟨ht,h3⟩:=Array.getElem?_eq_some_iff.1 h1
   simpa [Act.eval,Array.getD,ht,h3] using h2
  | const c=>exact iC hv
  | func f =>
   simp only [ev,zzz] at hv
   subst hv
   exact .func f [] [] rfl (by simp)
  | global g=>simp [ev] at hv
 ·refine h d v ?_ hv
  unfold Oper.looksAt
  refine List.mem_append.2 (.inr ?_)
  rw [hg]
  simp [hoj,hd]
theorem vG.adm (m : vG sw δ wd tt n ops ids es val M N h0 Γ0 w0 H0 s1 t S Γ w a) {j : Nat} {o : Oper} (ho : ops[j]? = some o) (hun : listedOf S j = false) (hr : ∀ e ∈ o.after,Region.binds .any e = true → listedOf S e.on = true) (htle : t ≤ kS wd tt ops ops.length) :
  Rx.adm wd tt ops (masksFrom [] ops) j t=true:=by
 unfold Rx.adm
 rw [List.all_eq_true]
 intro p hp
 have hp':=List.mem_range.1 hp
 have hop:=zyz hp'
 cases hs:vJ wd tt ops p with
 | false=>rfl
 | true =>
  have hc:=(zJ hop).1 hs
  rw [aX,cK]
  split
  ·rename_i hlt
   rw [Nat.blt_eq] at hlt
   have hl:=(m.xN p _ hop hc).2 (.inl ⟨htle,hlt⟩)
   cases hb:((masksFrom [] ops).getD p 0).testBit j with
   | false=>rfl
   | true =>
    have:=mask_listed hop m.closed (fun e he hb=>m.closed p _ hop hl e he hb) hb
    rw [hun] at this; simp at this
  ·rename_i hlt
   cases hb:((masksFrom [] ops).getD j 0).testBit p with
   | false=>rfl
   | true =>
    have:=(m.xN p _ hop hc).1 (mask_listed ho m.closed hr hb)
    have:kS wd tt ops p < t:=by
     rcases this with h | h
     ·exact h.2
     ·omega
    rw [← Nat.blt_eq] at this
    exact absurd this hlt
theorem a98 {j : Nat} {o : Oper} (ho : ops[j]? = some o) (hc : cls wd tt o = 3) : kS wd tt ops j < kS wd tt ops ops.length:=by
 have h2:=zK (wd:=wd) (tt:=tt) ho
 rw [if_pos hc] at h2
 have h3:=aFt (wd:=wd) (tt:=tt) ops (j+1) ops.length (zzy.1 ho).1
 omega
theorem vG.bAn (f : sN wd tt ops sw) (m : vG sw δ wd tt n ops ids es val M N h0 Γ0 w0 H0 s1 t S Γ w a) {j : Nat} {o : Oper} (ho : ops[j]? = some o) (hun : listedOf S j = false) (hr : ∀ e ∈ o.after,Region.binds .any e = true → listedOf S e.on = true)
  (hc:cls wd tt o=3):(kS wd tt ops j=t∧t≤kS wd tt ops ops.length)∨(∃ x,sw=some (x,j)∧kS wd tt ops x=t∧t≤kS wd tt ops ops.length)∨(t=kS wd tt ops ops.length+1∧∃ y,sw=some (j,y)):=by
 have hlt:=a98 ho hc
 by_cases ht:t≤kS wd tt ops ops.length
 ·rcases Nat.lt_trichotomy (kS wd tt ops j) t with h | h | h
  ·have:=(m.xN j o ho hc).2 (.inl ⟨ht,h⟩)
   rw [hun] at this; simp at this
  ·exact .inl ⟨h,ht⟩
  ·obtain ⟨p,x,h1,h2,h3,h4⟩:=aOw (wd:=wd) (tt:=tt) (l:=ops) (j:=j) (Nat.le_of_lt (zzy.1 ho).1) h
   rcases f.chain p j x o h1 h2 ho h3 hc with hb | hb
   ·rcases (m.xN p x h2 h3).1 (mask_listed ho m.closed hr hb) with h5 | h5 <;> omega
   ·exact .inr (.inl ⟨p,hb,h4,ht⟩)
 ·have ht':t=kS wd tt ops ops.length+1:=by have:=m.tle; omega
  obtain ⟨x,y,hs⟩:=m.swo ht'
  have hl:=f.late x y hs
  refine .inr (.inr ⟨ht',y,?_⟩)
  by_cases hk:kS wd tt ops j+2=kS wd tt ops ops.length
  ·obtain ⟨ox,hx,cx⟩:=hl.cx
   have:j=x:=aDg ho hx hc cx (by have:=hl.kx; omega)
   rw [this,hs]
  ·have:=(m.xN j o ho hc).2 (.inr ⟨ht',hk⟩)
   rw [hun] at this; simp at this
theorem vG.close (m : vG sw δ wd tt n ops ids es val M N h0 Γ0 w0 H0 s1 t S Γ w a) (f : sN wd tt ops sw) (hidne : ∀ (i j : Nat) x y id,ops[i]? = some x → ops[j]? = some y → cls wd tt x = 2 → cls wd tt y = 2 → ids[i]? = some id → ids[j]? = some id → i = j)
  {j : Nat} {o : Oper} (ho : ops[j]? = some o) (hun : listedOf S j = false) (hr : ∀ e ∈ o.after,Region.binds .any e = true → S.getD e.on false = true) (hn : ∀ d,o.dst = some d → d < n)
  {t' : Nat} (htle : t' ≤ kS wd tt ops ops.length + 1) (hsw : t' = kS wd tt ops ops.length + 1 → ∃ x y,sw = some (x,y)) (heff : ∀ (p : Nat) q,ops[p]? = some q → cls wd tt q = 3 → ((p = j ∨ listedOf S p = true) ↔ dn (kS wd tt ops ops.length) (kS wd tt ops p) t')) (hs1 : s1 ≤ (M t').sz) {Γ' : Gm} {w' : World} {x : Value} (hx : Ext N h0 Γ0 w0 H0 Γ' w' (M t')) (hg : tA Γ Γ') (hrep : ∀ d,o.dst = some d → aE Γ' (val j) x)
  (hh : ∀ (i : Nat) oi id,ops[i]? = some oi → ids[i]? = some id → cls wd tt oi = 2 → i ≠ j → Γ id = none → Γ' id = none) :
  vG sw δ wd tt n ops ids es val M N h0 Γ0 w0 H0 s1 t' (S.setIfInBounds j true) Γ' w' (a.put o.dst x):=by
 have hj:j < S.size:=by rw [m.size]; exact (zzy.1 ho).1
 have hput : ∀ d,o.dst ≠ some d → (a.put o.dst x).tmps[d]? = a.tmps[d]?:=fun d hd=>by
  cases hdst:o.dst with
  | none=>rfl
  | some e =>
   simp only [Act.put]
   rw [Array.getElem?_setIfInBounds_ne (fun h=>hd (by rw [hdst,h]))]
 refine ⟨by simpa using m.size,hs1,closed_set m.size m.closed ho hr,htle,hsw,fun p op hop hc=>?_,hx,by cases o.dst <;> exact m.defers,by cases o.dst <;> simp [Act.put,m.yL],fun i oi id hoi hid hc hli=>?_,fun i oi d hoi hli hd=>?_,fun d v hno hv=>?_⟩
 ·rw [← heff p op hop hc,listedOf_set hj]
  by_cases hpj:p=j
  ·simp [hpj]
  ·simp [hpj]
 ·rw [listedOf_set hj] at hli
  by_cases hij:i=j
  ·rw [if_pos hij] at hli; simp at hli
  ·rw [if_neg hij] at hli
   exact hh i oi id hoi hid hc hij (m.hole i oi id hoi hid hc hli)
 ·rw [listedOf_set hj] at hli
  by_cases hij:i=j
  ·subst hij
   rw [ho] at hoi; simp at hoi; subst hoi
   refine ⟨x,?_,hrep d hd⟩
   rw [hd]
   simp only [Act.put]
   rw [Array.getElem?_setIfInBounds,if_pos rfl,if_pos (by rw [m.yL]; exact hn d hd)]
  ·rw [if_neg hij] at hli
   obtain ⟨y,h1,h2⟩:=m.new i oi d hoi hli hd
   exact ⟨y,by rw [hput d (fun e=>hij (f.nd i j _ _ d hoi ho hd e))]; exact h1,h2.mono hg⟩
 ·obtain ⟨y,h1,h2⟩:=m.old d v (fun i oi hoi hli=>hno i oi hoi (by
   rw [listedOf_set hj]
   by_cases hij:i=j
   ·rw [if_pos hij]
   ·rw [if_neg hij]; exact hli)) hv
  exact ⟨y,by rw [hput d (hno j o ho (by rw [listedOf_set hj,if_pos rfl]))]; exact h1,h2.mono hg⟩
theorem b33 {H:HT} {l e:Nat} {z:List RV} (h:aFr H l e z=true):∃ m t,H.get l=some (.cells e m t)∧m=z.length∧a6q t z:=by
 unfold aFr yC at h
 obtain ⟨o,h1,h⟩:=qZ h
 split at h
 ·rename_i g m t
  rw [nW,lR,nW,lR,pT] at h
  obtain ⟨rfl,rfl,h⟩:=h
  have:∃ cs,a2g cs z=true∧cs.length=z.length∧∀ i,i < z.length→t.get (0+i)=cs[i]?:=by
   have gen:∀ (n off:Nat) (k:List RV→Bool),pA t n off false k=true→∃ cs,k cs=true∧cs.length=n∧∀ i,i < n→t.get (off+i)=cs[i]?:=by
    intro n
    induction n with
    | zero=>intro off k e; exact ⟨[],e,rfl,fun i hi=>by omega⟩
    | succ n ih =>
     intro off k e
     have e:aF (t.get off) false (fun v=>pA t n (off+1) false fun r=>k (v::r))=true:=e
     obtain ⟨v,h1,e⟩:=qZ e
     obtain ⟨cs,h2,h3,h4⟩:=ih (off+1) _ e
     refine ⟨v::cs,h2,by simp [h3],fun i hi=>?_⟩
     cases i with
     | zero=>simpa using h1
     | succ i=>rw [zvx,← h4 i (by omega),show off+(i+1)=off+1+i by omega]
   exact gen _ _ _ h
  obtain ⟨cs,h2,h3,h4⟩:=this
  obtain rfl:=a5n _ _ h2
  exact ⟨_,t,h1,rfl,fun i hi=>by have:=h4 i hi; simpa using this⟩
 ·simp at h
theorem aT5 {env:T RV} {t:TypeId} {len:Nat} {parts:List (Nat×Operand)} {sz:Nat} {cs:List RV} (e:zI tt env t len parts=some (sz,cs)):∃ z,zI tt .e t len []=some (sz,z):=by
 unfold zI at e ⊢
 replace e:=dN e; obtain ⟨ti,hti,e⟩:=e
 rw [cM,hti,aP]
 split at e
 ·rename_i e0 hdd
  replace e:=dN e; obtain ⟨ei,hei,e⟩:=e
  replace e:=aG e; obtain ⟨z,hz,e⟩:=e
  replace e:=cC e; obtain ⟨h1,e⟩:=e
  replace e:=cC e; obtain ⟨h2,e⟩:=e
  rw [zH] at e
  replace e:=aG e; obtain ⟨cs',hcs,e⟩:=e
  simp only [zzz,zvy] at e
  obtain ⟨rfl,rfl⟩:=e
  rw [cM,hei,aP,hz,aP,h1,aX,h2,aX,zH]
  simp only [kB,aP]
  exact ⟨_,rfl⟩
 ·simp at e
theorem b77 (hT:fQ P tt) {env:T RV} {op:Op} (re:pC Γ env a op.operands.toList) {g:Nat} {cs:List RV} (h:a97 tt env op=some (g,cs)) (w:World):∃ (xs:List Value) (y:Value) (E:TypeId),
  (∀ o:Oper,o.op=op→(execOp a.eval o).run P w = .ok (.value y) { w with heap:=w.heap.push (.cells ⟨xs⟩ E (0,0)) })∧aC Γ cs xs∧(∀ x ∈ xs,x.oneCell'=true)∧(g=0∨g=E+1) ∧
  ∀ (Γ':Gm) (id:Nat),Γ' id=some ⟨w.heap.size,0,xs.length⟩→aE Γ' (aDd tt op id) y:=by
 unfold a97 at h
 split at h
 ·rename_i ty
  replace h:=dN h; obtain ⟨ti,hti,h⟩:=h
  replace h:=aG h; obtain ⟨z,hz,h⟩:=h
  simp only [zzz,zvy] at h
  obtain ⟨rfl,rfl⟩:=h
  obtain ⟨tok,rfl⟩:=hT _ _ hti
  obtain ⟨v0,z1,z2,z3,_,_⟩:=tok.z z hz
  obtain ⟨x0,z4,z5⟩:=pH (P:=P) w z1
  obtain ⟨r1,r2⟩:=gK (Γ:=Γ) (iC z5) (jO z5)
  rw [z2] at r1
  refine ⟨x0.cells.toList,.pointer (some ⟨w.heap.size,0,none⟩),ti.t,fun o ho=>?_,r1,r2,.inr rfl,fun Γ' id hΓ=>?_⟩
  ·unfold execOp
   rw [ho]
   simp [Instr.alloc,z4,newVar,newRow]
  ·exact .ptr id 0 _ hΓ
 ·rename_i t len parts
  replace h:=aG h; obtain ⟨⟨sz,cs'⟩,hb,h⟩:=h
  simp only [zzz,zvy] at h
  obtain ⟨rfl,rfl⟩:=h
  have re:pC Γ env a (parts.toList.map (·.2)):=by simpa [Op.operands] using re
  obtain ⟨ys,E,r1,r2,hlen,hrun⟩:=aT0 hT re hb w
  refine ⟨ys,.slice (some ⟨w.heap.size,0,none⟩) len len,E,fun o ho=>?_,r1,r2,.inl rfl,fun Γ' id hΓ=>?_⟩
  ·unfold execOp
   rw [ho]
   simp only
   have e2:(parts.map fun (i,x)=>(i,a.eval x))=⟨parts.toList.map fun p=>(p.1,a.eval p.2)⟩:=by apply Array.ext'; simp
   rw [e2]; exact hrun
  ·obtain ⟨z,hz⟩:=aT5 hb
   unfold aDd
   simp only [hz,aP]
   exact .sl id 0 len sz (some len) ⟨w.heap.size,0,ys.length⟩ ⟨w.heap.size,0,none⟩ len hΓ (zxy _) (lG.of_eq fun k h=>by simpa using h) (fun _=>⟨rfl,by have:=r1.1; show 0+0+len*sz≤ys.length; omega⟩)
 ·simp at h
def Swp (wd:Bool) (tt:T aV) (C:dK) (ops:List Oper) (es:Nat→T RV) (val:Nat→RV) (M:Nat→HT) (sw:Option (Nat×Nat)):Prop :=
 ∀ x y,sw = some (x,y) → (M (kS wd tt ops ops.length + 1)).sz = (M (kS wd tt ops x)).sz ∧ ∀ ox oy,ops[x]? = some ox → ops[y]? = some oy → ∃ K,uB tt C (es y) (M (kS wd tt ops x)) oy.op = .ok (val y) (M (kS wd tt ops ops.length + 1)) ∧
  uB tt C (es x) (M (kS wd tt ops ops.length+1)) ox.op = .ok (val x) K∧Heq K (M (kS wd tt ops ops.length))
theorem a7q {x : Nat} {p : Operand} {o : Oper} (ho : ops[x]? = some o) (h : a4h ops x = some p) : o.guard = none ∧ o.dst = none ∧ ∃ ty v,o.op = .store ty p v:=by
 unfold a4h at h
 rw [ho] at h
 simp only at h
 split at h
 ·rename_i h1 h2 h3
  simp at h
  subst h
  exact ⟨h2,h3,_,_,h1⟩
 ·simp at h
theorem vG.step (hT : fQ P tt) (hC : wD P C) (T : Tr wd tt C n ops ids es val M) (f : sN wd tt ops sw) (hsz : ∀ (j : Nat) o id,ops[j]? = some o → ids[j]? = some id → cls wd tt o = 2 → id < s1)
  (hsz0 : ∀ (j : Nat) o id,ops[j]? = some o → ids[j]? = some id → cls wd tt o = 2 → H0.sz ≤ id)
  (hidne : ∀ (i j : Nat) x y id,ops[i]? = some x → ops[j]? = some y → cls wd tt x = 2 → cls wd tt y = 2 → ids[i]? = some id → ids[j]? = some id → i = j) {Ms : List HT} (hMs : ∀ t,t ≤ kS wd tt ops ops.length → Ms[t]? = some (M t))
  (hchk : a3t wd tt C ops ids (es ops.length) Ms (oX wd tt ops) = true) (hS : Swp wd tt C ops es val M sw) (m : vG sw δ wd tt n ops ids es val M N h0 Γ0 w0 H0 s1 t S Γ w a) {j : Nat} {o : Oper} (ho : ops[j]? = some o) (hun : listedOf S j = false) (hr : ∀ e ∈ o.after,Region.binds .any e = true → S.getD e.on false = true)
  (Q:Exit→Act→World→Prop) (K:Act→World→Prop) (hK:∀ t' Γ' w' a',vG sw δ wd tt n ops ids es val M N h0 Γ0 w0 H0 s1 t' (S.setIfInBounds j true) Γ' w' a'→K a' w'):wpOpIn (frF ρ) 0 P ops.toArray Q j K a w:=by
 have hr':∀ e ∈ o.after,Region.binds .any e=true→listedOf S e.on=true:=hr
 obtain ⟨id,hid,st⟩:=T.at ho
 have hlook:=fun d v (hd:d ∈ o.looksAt ops.toArray) (hv:(es j).get d=some v)=>m.look T f ho hun hr' hd hv
 obtain ⟨hev,hgd⟩:=aH5 hlook
 have hoa : ops.toArray[j]? = some o:=by simpa using ho
 have hlate:cls wd tt o=1∨cls wd tt o=2→t≤kS wd tt ops ops.length:=fun hc=>by
  refine Nat.le_of_not_lt fun hlt=>?_
  have ht':t=kS wd tt ops ops.length+1:=by have:=m.tle; omega
  obtain ⟨x,y,hs⟩:=m.swo ht'
  have hl:=f.late x y hs
  have hkx:=hl.kx
  rcases hl.rd j o ho hc with ⟨p,q,h1,h2,h3,h4⟩ | h4
  ·obtain ⟨ox,hx,cx⟩:=hl.cx
   have hp:=(m.xN p q h2 h3).2 (.inr ⟨ht',fun e=>h1 (aDg h2 hx h3 cx (by omega))⟩)
   have:=mask_listed h2 m.closed (fun e he hb=>m.closed p _ h2 hp e he hb) h4
   rw [hun] at this; simp at this
  ·obtain ⟨ox,hx,cx⟩:=hl.cx
   rcases (m.xN x ox hx cx).1 (mask_listed ho m.closed hr' h4) with h5 | h5 <;> omega
 have heff0 : cls wd tt o ≠ 3 → ∀ (p : Nat) q,ops[p]? = some q → cls wd tt q = 3 → ((p = j ∨ listedOf S p = true) ↔ dn (kS wd tt ops ops.length) (kS wd tt ops p) t):=fun hc p q hp hq=>by
  rw [← m.xN p q hp hq]
  refine ⟨fun h=>h.resolve_left fun e=>?_,.inr⟩
  subst e
  rw [ho] at hp; simp at hp; subst hp
  exact hc hq
 have heff3 : cls wd tt o = 3 → kS wd tt ops j = t → t ≤ kS wd tt ops ops.length → ∀ (p : Nat) q,ops[p]? = some q → cls wd tt q = 3 → ((p = j ∨ listedOf S p = true) ↔ dn (kS wd tt ops ops.length) (kS wd tt ops p) (t + 1)):=fun hc hk ht p q hp hq=>by
  rw [m.xN p q hp hq]
  have h1:=a98 ho hc
  have h2:=a98 hp hq
  unfold dn
  constructor
  ·rintro (rfl | h)
   ·left; omega
   ·left; omega
  ·intro h
   by_cases hpj:p=j
   ·exact .inl hpj
   ·have:kS wd tt ops p≠kS wd tt ops j:=fun e=>hpj (aDg hp ho hq hc e)
    right; left; omega
 have hks:=zK (wd:=wd) (tt:=tt) ho
 have holes : ∀ {Γ' : Gm} {w' : World} {H' : HT},Ext N h0 Γ w (M t) Γ' w' H' → ∀ (i : Nat) oi id,ops[i]? = some oi → ids[i]? = some id → cls wd tt oi = 2 → i ≠ j → Γ id = none → Γ' id = none :=
  fun {Γ' w' H'} x i oi id' hoi hid' hc _ hn=>x.hole id' (zuz (hsz i oi id' hoi hid' hc) m.szt) hn
 unfold wpOpIn
 rw [hoa]
 simp only
 rcases st.run with ⟨hw,hrun⟩ | ⟨hw,hv,hM⟩
 ·rw [if_pos (a27 hgd hw)]
  have does : ∀ {t' : Nat} {K' : HT} (_ : t' ≤ kS wd tt ops ops.length + 1) (_ : t' = kS wd tt ops ops.length + 1 → ∃ x y,sw = some (x,y)) (_ : ∀ (p : Nat) q,ops[p]? = some q → cls wd tt q = 3 → ((p = j ∨ listedOf S p = true) ↔ dn (kS wd tt ops ops.length) (kS wd tt ops p) t')) (_ : Heq K' (M t')),
    cls wd tt o≠2→uB tt C (es j) (M t) o.op = .ok (val j) K'→o.wpIn (frF ρ) 0 P a w K Q:=by
   intro t' K' htle hsw heff hKM hc2 hop
   refine Oper.wpIn_mono ?_ (aH2 hT hC m.ext.mem hev hop Q)
   rintro a1 w1 ⟨x,Γ1,rfl,hx,hrep⟩
   exact hK t' Γ1 w1 _ (m.close f hidne ho hun hr st.lt htle hsw heff (by rw [← hKM.1]; exact Nat.le_trans m.szt hx.sz) (hKM.ext (m.ext.trans hx)) hx.gle (fun _ _=>hrep) (holes hx))
  rcases hrun with ⟨hc,hv,hM⟩ | ⟨hc,hop⟩
  ·-- a zero variable
   have htl:=hlate (.inr hc)
   have hmem:=aJy ho (.inr hc) htl (m.adm ho hun hr' htl) (fun h=>by omega)
   have hck:=aH4 hchk j t hmem
   rw [kD,ho,aP,kD,hMs t htl,aP,hc] at hck
   rw [show Nat.beq 2 2=true from rfl,aX] at hck
   obtain ⟨⟨g,z⟩,hpre,hck⟩:=qZ hck
   rw [kD,hid,aP] at hck
   obtain ⟨mm,tr,h1,rfl,h3⟩:=b33 hck
   have hnone:=m.hole j o id ho hid hc hun
   have hlookF:=fun d v (hd:d ∈ o.looksAt ops.toArray) (hv:(es ops.length).get d=some v) =>
    m.b6m T f ho hun hr' hd (fun i y hi hy hdy=>f.fin j t hmem i o y d hi ho hy hdy hd) hv
   obtain ⟨hevF,hgdF⟩:=aH5 hlookF
   obtain ⟨xs,y,E,hrunA,r1,r2,hgE,hy⟩:=b77 (Γ:=Γ) (a:=a) hT hevF hpre w
   have hlt:id < (M t).sz:=zuz (hsz j o id ho hid hc) m.szt
   have hmem1:Mem N h0 (put Γ id ⟨w.heap.size,0,xs.length⟩) (w.heap.push (.cells ⟨xs⟩ E (0,0))) (M t):=by
    refine aQa m.ext.mem hnone hlt (zxy _) (by simp) (fun b hb hlt=>?_) (by simp) m.ext.mem.size (fun l' p hp hpb=>?_) ?_ (fun i=>by
     split
     ·rename_i hi; rw [hi]; exact h1
     ·rfl)
    ·rw [Array.getElem?_push,if_neg (by omega)]
    ·have:=m.ext.mem.cJ l' p hp
     simp at hpb; omega
    ·have:=aQc (w:=w) (cs:=z) (xs:=xs) (rest:=[]) (t:=tr) (E:=E) (fz:=(0,0)) (l:=id) (q:=⟨w.heap.size,0,xs.length⟩) r1 r2 h3 (a1m hnone) rfl rfl (by simp) (wB _) hgE
     rw [List.append_nil] at this
     exact this
   have hext:Ext N h0 Γ0 w0 H0 (put Γ id ⟨w.heap.size,0,xs.length⟩) { w with heap:=w.heap.push (.cells ⟨xs⟩ E (0,0)) } (M t):=by
    refine ⟨m.ext.gle.trans (a1m hnone),hmem1,m.ext.sz,fun l hl hn=>?_,m.ext.kept.trans ⟨rfl,rfl,by simp,aVb rfl⟩⟩
    have:=hsz0 j o id ho hid hc
    unfold put
    rw [if_neg (by omega)]
    exact m.ext.hole l hl hn
   refine ⟨fun _ _=>trivial,?_⟩
   rw [Oper.semAt_plain _ _ o (fun c h=>by unfold cls at hc; rw [h] at hc; simp at hc),hrunA o rfl]
   show K (a.put o.dst _) _
   refine hK t _ _ _ (m.close f hidne ho hun hr st.lt m.tle m.swo (heff0 (by omega)) m.szt hext (a1m hnone) (fun _ _=>?_) (fun i oi id' hoi hid' hci hij hn=>?_))
   ·rw [hv]
    exact hy _ id (by simp [put])
   ·unfold put
    rw [if_neg (fun e=>hij (by subst e; exact hidne i j oi o id' hoi ho hci hc hid' hid))]
    exact hn
  ·by_cases hc3:cls wd tt o=3
   ·rw [if_pos hc3] at hks
    have hlt:=a98 ho hc3
    rcases m.bAn f ho hun hr' hc3 with ⟨hk,ht⟩ | ⟨x,hs,hk,ht⟩ | ⟨ht,y,hs⟩
    ·refine does (t':=t+1) (by omega) (fun h=>by omega) (heff3 hc3 hk ht) (Heq.refl _) hc ?_
     rw [hks,hk] at hop
     exact hop
    ·have hl:=f.late x j hs
     obtain ⟨ox,hx,cx⟩:=hl.cx
     obtain ⟨_,hsw⟩:=hS x j hs
     obtain ⟨K',h1,_,_⟩:=hsw ox o hx ho
     have hkx:=hl.kx
     have hky:=hl.ky
     refine does (t':=kS wd tt ops ops.length+1) (zxy _) (fun _=>⟨x,j,hs⟩) (fun p q hp hq=>?_) (Heq.refl _) hc (by rw [← hk]; exact h1)
     rw [m.xN p q hp hq]
     have h2:=a98 hp hq
     unfold dn
     constructor
     ·rintro (rfl | h)
      ·right; omega
      ·right; omega
     ·intro h
      by_cases hpj:p=j
      ·exact .inl hpj
      ·have:kS wd tt ops p≠kS wd tt ops j:=fun e=>hpj (aDg hp ho hq hc3 e)
       right; left; omega
    ·have hl:=f.late j y hs
     obtain ⟨oy,hy,cy⟩:=hl.cy
     obtain ⟨_,hsw⟩:=hS j y hs
     obtain ⟨K',_,h1,h2⟩:=hsw o oy ho hy
     have hkx:=hl.kx
     refine does (t':=kS wd tt ops ops.length) (by omega) (fun h=>by omega) (fun p q hp hq=>?_) h2 hc (by rw [ht]; exact h1)
     rw [m.xN p q hp hq]
     have h2:=a98 hp hq
     unfold dn
     constructor
     ·rintro (rfl | h)
      ·left; omega
      ·left; omega
     ·intro h
      by_cases hpj:p=j
      ·exact .inl hpj
      ·have:kS wd tt ops p≠kS wd tt ops j:=fun e=>hpj (aDg hp ho hq hc3 e)
       right; right; omega
   ·rw [if_neg hc3] at hks
    rw [hks] at hop
    by_cases hk:t=kS wd tt ops j
    ·exact does (t':=t) m.tle m.swo (heff0 hc3) (Heq.refl _) hc (by rw [hk]; exact hop)
    ·by_cases hc0:cls wd tt o=0
     ·exact does (t':=t) m.tle m.swo (heff0 hc3) (Heq.refl _) hc (b31 hc0 hop _)
     ·have hc1:cls wd tt o=1:=by have:=aQr (wd:=wd) (tt:=tt) o; omega
      have htl:=hlate (.inl hc1)
      have hmem:=aJy ho (.inl hc1) htl (m.adm ho hun hr' htl) (fun _=>hk)
      have hck:=aH4 hchk j t hmem
      rw [kD,ho,aP,kD,hMs t htl,aP,hc1] at hck
      rw [show Nat.beq 1 2=false from rfl,bU] at hck
      obtain ⟨b,hb,hck⟩:=qZ hck
      have hlookF:=fun d v (hd:d ∈ o.looksAt ops.toArray) (hv:(es ops.length).get d=some v) =>
       m.b6m T f ho hun hr' hd (fun i y hi hy hdy=>f.fin j t hmem i o y d hi ho hy hdy hd) hv
      obtain ⟨hevF,hgdF⟩:=aH5 hlookF
      have hbt:b=true:=by
       have h1:=a27 hgd hw
       have h2:=a27 hgdF hb
       rw [h1] at h2; exact h2.symm
      subst hbt
      rw [aX] at hck
      split at hck
      ·rename_i u H' hopF
       have hsame:=aH3 (wd:=wd) (by omega) hopF
       subst hsame
       refine Oper.wpIn_mono ?_ (aH2 hT hC m.ext.mem hevF hopF Q)
       rintro a1 w1 ⟨x,Γ1,rfl,hx,hrep⟩
       refine hK t Γ1 w1 _ (m.close f hidne ho hun hr st.lt m.tle m.swo (heff0 hc3) (Nat.le_trans m.szt hx.sz) (m.ext.trans hx) hx.gle (fun d hd=>?_) (holes hx))
       rw [hd] at hck
       simp only at hck
       rw [T.new f ho hd _ (zzy.1 ho).1 (zxy _),aP] at hck
       rw [← aVg _ _ hck]; exact hrep
      ·simp at hck
 ·rw [if_neg (by rw [a27 hgd hw]; simp)]
  by_cases hc3:cls wd tt o=3
  ·rw [if_pos hc3] at hks
   have hlt:=a98 ho hc3
   have bare:∀ {x:Nat},x=j→(∃ p,a4h ops x=some p)→False:=fun {x} e hp=>by
    subst e
    obtain ⟨p,hp⟩:=hp
    obtain ⟨hg,_⟩:=a7q ho hp
    unfold vH at hw
    rw [hg] at hw
    simp at hw
   rcases m.bAn f ho hun hr' hc3 with ⟨hk,ht⟩ | ⟨x,hs,hk,ht⟩ | ⟨ht,y,hs⟩
   ·rw [hks,hk] at hM
    refine ⟨fun _ _=>trivial,hK (t+1) Γ w _ (m.close f hidne ho hun hr st.lt (by omega) (fun h=>by omega) (heff3 hc3 hk ht) (by rw [hM]; exact m.szt) (by rw [hM]; exact m.ext) (tA.refl Γ) (fun _ _=>by rw [hv]; exact .undef) (fun _ _ _ _ _ _ _ hn=>hn))⟩
   ·exact (bare rfl (f.late x j hs).sy).elim
   ·exact (bare rfl (f.late j y hs).sx).elim
  ·refine ⟨fun _ _=>trivial,hK t Γ w _ (m.close f hidne ho hun hr st.lt m.tle m.swo (heff0 hc3) m.szt m.ext (tA.refl Γ) (fun _ _=>by rw [hv]; exact .undef) (fun _ _ _ _ _ _ _ hn=>hn))⟩
theorem aXn (hT : fQ P tt) (hC : wD P C) (T : Tr wd tt C n ops ids es val M) (f : sN wd tt ops sw) (hsz : ∀ (j : Nat) o id,ops[j]? = some o → ids[j]? = some id → cls wd tt o = 2 → id < s1)
  (hsz0 : ∀ (j : Nat) o id,ops[j]? = some o → ids[j]? = some id → cls wd tt o = 2 → H0.sz ≤ id)
  (hidne : ∀ (i j : Nat) x y id,ops[i]? = some x → ops[j]? = some y → cls wd tt x = 2 → cls wd tt y = 2 → ids[i]? = some id → ids[j]? = some id → i = j) {Ms : List HT} (hMs : ∀ t,t ≤ kS wd tt ops ops.length → Ms[t]? = some (M t))
  (hchk:a3t wd tt C ops ids (es ops.length) Ms (oX wd tt ops)=true) (hS:Swp wd tt C ops es val M sw) {Q:Exit→Act→World→Prop}
  (hQ:∀ Γ' w' a',Ext N h0 Γ0 w0 H0 Γ' w' (M (kS wd tt ops ops.length))→bT δ Γ' n (es ops.length) a'→Q .normal a' w') :
  ∀ (fuel t:Nat) (S:Array Bool) (Γ : Gm) (w:World) (a:Act),vG sw δ wd tt n ops ids es val M N h0 Γ0 w0 H0 s1 t S Γ w a→unl S≤fuel→wpAnyIn (frF ρ) 0 P .any ops.toArray Q fuel S a w:=by
 have done:∀ (t:Nat) (S:Array Bool) (Γ : Gm) (w:World) (a:Act),vG sw δ wd tt n ops ids es val M N h0 Γ0 w0 H0 s1 t S Γ w a→(∀ i,i < ops.length→listedOf S i=true)→Q .normal a w:=by
  intro t S Γ w a m hall
  have ht:t=kS wd tt ops ops.length:=by
   by_cases h9:t=kS wd tt ops ops.length+1
   ·exfalso
    obtain ⟨x,y,hs⟩:=m.swo h9
    have hl:=f.late x y hs
    obtain ⟨ox,hx,cx⟩:=hl.cx
    have hkx:=hl.kx
    rcases (m.xN x ox hx cx).1 (hall x (zzy.1 hx).1) with h5 | h5 <;> omega
   ·have htle:=m.tle
    refine Nat.le_antisymm (by omega) (Nat.le_of_not_lt fun hlt=>?_)
    obtain ⟨p,x,h1,h2,h3,h4⟩:=aOw (wd:=wd) (tt:=tt) (l:=ops) (zxy _) hlt
    rcases (m.xN p x h2 h3).1 (hall p h1) with h5 | h5 <;> omega
  subst ht
  refine hQ Γ w a m.ext ⟨m.defers,m.yL,fun d v hv=>?_⟩
  by_cases hex : ∃ (i : Nat) (oi : Oper),i < ops.length ∧ ops[i]? = some oi ∧ oi.dst = some d
  ·obtain ⟨i,oi,hi,hoi,hdi⟩:=hex
   rw [T.new f hoi hdi _ hi (zxy _)] at hv
   simp at hv; subst hv
   exact m.new i oi d hoi (hall i hi) hdi
  ·rw [T.old (d:=d) _ (zxy _) (fun i oi hi hoi hdi=>hex ⟨i,oi,hi,hoi,hdi⟩)] at hv
   exact m.old d v (fun i oi hoi _ hdi=>hex ⟨i,oi,(zzy.1 hoi).1,hoi,hdi⟩) hv
 intro fuel
 induction fuel with
 | zero =>
  intro t S Γ w a m hu
  have hall:∀ i,i < ops.length→listedOf S i=true:=fun i hi=>by
   cases h:listedOf S i with
   | true=>rfl
   | false=>have:=unl_pos (listed_false (by rw [m.size]; exact hi) h); omega
  refine ⟨?_,done t S Γ w a m hall⟩
  rw [List.eq_nil_iff_forall_not_mem]
  intro i hi
  obtain ⟨o,h1,h2,_⟩:=ready_iff.1 hi
  have hil:=(zzy.1 h1).1
  rw [lst_of_listedOf (by rw [m.size]; exact hil),hall i hil] at h2
  simp at h2
 | succ fuel ih =>
  intro t S Γ w a m hu
  refine ⟨fun hnil=>?_,fun i hi=>?_⟩
  ·refine done t S Γ w a m fun i hi=>?_
   have first:∀ k,k≤ops.length→∀ i,i < k→listedOf S i=true:=by
    intro k
    induction k with
    | zero=>intro _ i hi; omega
    | succ k ihk =>
     intro hk i hi
     by_cases hik:i=k
     ·subst hik
      cases h:listedOf S i with
      | true=>rfl
      | false =>
       exfalso
       have:i ∈ Region.ready .any ops.toArray S:=ready_iff.2 ⟨ops[i],zyz hk,by rw [lst_of_listedOf (by rw [m.size]; exact hk)]; exact h,fun e he hb=>ihk (by omega) e.on (f.back i _ (zyz hk) e he hb)⟩
       rw [hnil] at this; simp at this
     ·exact ihk (by omega) i (by omega)
   exact first ops.length (zxy _) i hi
  ·obtain ⟨o,h1,h2,h3⟩:=ready_iff.1 hi
   have hil:=(zzy.1 h1).1
   rw [lst_of_listedOf (by rw [m.size]; exact hil)] at h2
   have hset:=unl_set (listed_false (by rw [m.size]; exact hil) h2)
   exact m.step hT hC T f hsz hsz0 hidne hMs hchk hS h1 h2 h3 Q _ (fun t' Γ' w' a' m'=>ih t' _ Γ' w' a' m' (by omega))
theorem b78 {env:T RV} {H:HT} {k:T RV→Out} {env':T RV} {H':HT} (e:aQt wd tt C n ops env H k = .j4 env' H'):∃ pe,k pe = .j4 env' H':=by
 unfold aQt at e
 cases wd with
 | false=>exact ⟨_,e⟩
 | true =>
  rw [aX] at e
  replace e:=l9 e
  rcases e with ⟨_,e⟩ | ⟨p,hp,e⟩
  ·simp at e
  split at e
  ·exact ⟨_,e⟩
  ·simp at e
theorem aJz (hT:fQ P tt) (hC:wD P C) (hm:P.follows .mixedOrders=true) {id:Nat} {Q:Exit→Act→World→Prop} {env env1:T RV} {H H1 H2:HT} {Ms:List HT} {pc:Op→Option (Nat×List RV)} (f:sN wd tt ops sw)
  (hp:xQ wd tt pc ops H=some (ids,H1)) (hrun:oL wd tt C n ops ops ids env H1 = .ok env1 Ms) (hchk:a3t wd tt C ops ids env1 Ms (oX wd tt ops)=true) (hH2:lK Ms (kS wd tt ops ops.length)=some H2)
  (hS:∀ es val M,Tr wd tt C n ops ids es val M→es ops.length=env1→∃ My,Swp wd tt C ops es val (fun t=>if t=kS wd tt ops ops.length+1 then My else M t) sw)
  (m:Mem N h0 Γ w.heap H) (re:bT δ Γ n env a)
  (hQ:∀ Γ' w' a',Ext N h0 Γ w H Γ' w' H2→bT δ Γ' n env1 a'→Q .normal a' w'):(Code.region id ops.toArray true).wpIn (frF ρ) 0 P Q a w:=by
 obtain ⟨p1,p2,p3,p4,p5⟩:=aDh hp
 obtain ⟨es,val,M,e1,e2,e3,e4,e5,e6⟩:=aJx hrun
 have T:Tr wd tt C n ops ids es val M:=⟨e4,e6⟩
 obtain ⟨My,hSw⟩:=hS es val M T e3
 subst e3
 obtain rfl:H2=M (kS wd tt ops ops.length):=by
  rw [kD,e5 _ (zxy _)] at hH2
  simpa using hH2.symm
 generalize hM':(fun t=>if t=kS wd tt ops ops.length+1 then My else M t)=M' at hSw
 have hle:∀ t,t≤kS wd tt ops ops.length→M' t=M t:=fun t ht=>by
  subst hM'
  simp only
  rw [if_neg (by omega)]
 have T':Tr wd tt C n ops ids es val M':=⟨e4,fun j o id ho hi=>by
  have hj:=(zzy.1 ho).1
  rw [hle _ (aFt ops j ops.length (by omega)),hle _ (aFt ops (j+1) ops.length hj)]
  exact e6 j o id ho hi⟩
 rw [← hle _ (zxy _)] at hQ
 refine wpIn_region_any hm (aXn (s1:=H1.sz) (N:=N) (h0:=h0) (Γ0:=Γ) (w0:=w) (H0:=H) (sw:=sw) hT hC T' f (fun j o id ho hi hc=>(p4 j o id ho hi hc).2) (fun j o id ho hi hc=>(p4 j o id ho hi hc).1) p5 (fun t ht=>by rw [hle t ht]; exact e5 t ht) hchk hSw (fun Γ' w' a' h1 h2=>hQ Γ' w' a' h1 h2) _ 0 _ Γ _ a ?_ ?_)
 ·have hrep:∀ i,listedOf (Array.replicate ops.toArray.size false) i=false:=fun i=>by
   unfold listedOf; simp [Array.getD]
  refine ⟨by simp,by rw [hle _ (Nat.zero_le _),e2]; exact zxy _,fun j o _ hl=>by rw [hrep] at hl; simp at hl,Nat.zero_le _,fun h=>by omega,fun p o _ _=>?_,?_,re.1,re.2.1,fun j o id ho hi hc _=>?_,fun i o d _ hl=>by rw [hrep] at hl; simp at hl,fun d v _ hv=>?_⟩
  ·rw [hrep]; simp [dn]
  ·rw [hle _ (Nat.zero_le _),e2]
   exact ⟨tA.refl Γ,p3 N h0 _ Γ m,p1,fun _ _ h=>h,⟨rfl,rfl,zxy _,fun _ h=>h⟩⟩
  ·exact rO m (p4 j o id ho hi hc).1
  ·rw [e1] at hv
   exact re.2.2 d v hv
 ·unfold unl
  simp [List.count_replicate]
theorem aDi (hT:fQ P tt) (hC:wD P C) (hm:P.follows .mixedOrders=true) {id:Nat} {Q:Exit→Act→World→Prop} {env env':T RV} {H H':HT} (e:a2h wd tt C n ops env H = .j4 env' H') (m:Mem N h0 Γ w.heap H) (re:bT δ Γ n env a)
  (hQ:∀ Γ' w' a',Ext N h0 Γ w H Γ' w' H'→bT δ Γ' n env' a'→Q .normal a' w'):(Code.region id ops.toArray true).wpIn (frF ρ) 0 P Q a w:=by
 unfold a2h at e
 rw [cK] at e
 split at e
 ·rename_i hok
  have f:=aC4 hok
  obtain ⟨pe,e⟩:=b78 e
  replace e:=l9 e
  rcases e with ⟨_,e⟩ | ⟨p,hp,e⟩
  ·simp at e
  obtain ⟨ids,H1⟩:=p
  split at e
  ·rename_i env1 Ms hrun
   rw [cK] at e
   split at e
   ·rename_i hchk
    replace e:=l9 e
    rcases e with ⟨_,e⟩ | ⟨H2,hH2,e⟩
    ·simp at e
    simp at e
    obtain ⟨rfl,rfl⟩:=e
    exact aJz hT hC hm f hp hrun hchk hH2 (fun es val M _ _=>⟨M 0,fun x y h=>by simp at h⟩) m re hQ
   ·simp at e
  ·simp at e
 ·simp at e
theorem aH6 {β:Type} : ∀ (vs:List RV) (t:T RV) (off:Nat) (k:T RV→β),nG vs t off k=k (nG vs t off fun t=>t)
 | [],_,_,_=>rfl
 | v::vs,t,off,k=>by
  show T.gZ t off v (fun t=>nG vs t (Nat.succ off) k)=k (T.gZ t off v (fun t=>nG vs t (Nat.succ off) fun t=>t))
  rw [T.tJ,T.tJ]
  exact aH6 vs _ _ k
theorem aJ0 {ti:aV} {H H':HT} {l off:Nat} {v u:RV} (e:mP ti H (.ptr l off) v = .ok u H') :
  ∃ o,(∀ i,H'.get i=if i=l then some o else H.get i)∧H'.sz=H.sz∧∀ K:HT,K.get l=H.get l→∃ K',mP ti K (.ptr l off) v = .ok u K'∧(∀ i,K'.get i=if i=l then some o else K.get i)∧K'.sz=K.sz:=by
 have e0:=e
 unfold mP at e
 simp only at e
 obtain ⟨g,n,t,h1,e⟩:=zG e
 obtain ⟨b1,e⟩:=bQ e
 obtain ⟨b2,e⟩:=bQ e
 obtain ⟨b3,e⟩:=bQ e
 rw [aH6] at e
 have run:∀ (K:HT),K.get l=H.get l→∀ (u':RV) (K':HT),mP ti K (.ptr l off) v = .ok u' K'↔(HT.gZ K l (.cells g n (nG v.cells t off fun t=>t)) fun H=>OR.ok .undef H) = .ok u' K':=by
  intro K hK u' K'
  unfold mP yC
  simp only
  rw [hK,h1,aP]
  simp only
  rw [b1,aX,b2,aX,b3,aX,aH6]
 have set:∀ (K:HT),∃ K':HT,(HT.gZ K l (.cells g n (nG v.cells t off fun t=>t)) fun H=>OR.ok .undef H) = .ok .undef K'∧(∀ i,K'.get i=if i=l then some (.cells g n (nG v.cells t off fun t=>t)) else K.get i)∧K'.sz=K.sz:=by
  intro K
  unfold HT.gZ
  obtain ⟨t',h2,h3⟩:=TQ.fC K.t l (.cells g n (nG v.cells t off fun t=>t)) (fun t=>OR.ok .undef ⟨K.sz,t⟩)
  exact ⟨⟨K.sz,t'⟩,h2,h3,rfl⟩
 refine ⟨.cells g n (nG v.cells t off fun t=>t),?_,?_,fun K hK=>?_⟩
 ·obtain ⟨K',h2,h3,h4⟩:=set H
  rw [h2] at e
  simp at e
  rw [← e.2]; exact h3
 ·obtain ⟨K',h2,h3,h4⟩:=set H
  rw [h2] at e
  simp at e
  rw [← e.2]; exact h4
 ·obtain ⟨K0,h5,_,_⟩:=set H
  rw [h5] at e
  simp at e
  obtain ⟨rfl,_⟩:=e
  obtain ⟨K',h2,h3,h4⟩:=set K
  exact ⟨K',(run K hK _ _).2 h2,h3,h4⟩
theorem Tr.fin (T : Tr wd tt C n ops ids es val M) (f : sN wd tt ops sw) {j : Nat} {o : Oper} (ho : ops[j]? = some o) {d : Nat} (hd : d ∈ o.looksAt ops.toArray) (hfin : ∀ (i : Nat) y,¬ i < j → ops[i]? = some y → y.dst ≠ some d) : (es j).get d = (es ops.length).get d:=by
 have hj:=(zzy.1 ho).1
 by_cases hex : ∃ (i : Nat) (oi : Oper),i < j ∧ ops[i]? = some oi ∧ oi.dst = some d
 ·obtain ⟨i,oi,hi,hoi,hdi⟩:=hex
  rw [T.new f hoi hdi _ (by omega) (zxy _),T.new f hoi hdi j hi (by omega)]
 ·rw [T.old (d:=d) _ (zxy _) (fun i oi hi hoi hdi=>by
   by_cases h:i < j
   ·exact hex ⟨i,oi,h,hoi,hdi⟩
   ·exact hfin i oi h hoi hdi),T.old (d:=d) j (by omega) (fun i oi hi hoi hdi=>hex ⟨i,oi,hi,hoi,hdi⟩)]
theorem Tr.aOx (T : Tr wd tt C n ops ids es val M) (f : sN wd tt ops sw) {j : Nat} {o : Oper} (ho : ops[j]? = some o) {p : Operand} (hp : p ∈ o.op.operands.toList) (hfin : ∀ (i : Nat) a b d,¬ i < j → ops[j]? = some a → ops[i]? = some b → b.dst = some d → d ∉ a.looksAt ops.toArray) :
  ev (es j) p=ev (es ops.length) p:=by
 cases p with
 | tmp d =>
  have hd:d ∈ o.looksAt ops.toArray:=by
   unfold Oper.looksAt
   refine List.mem_append.2 (.inl ?_)
   rw [List.mem_filterMap]
   exact ⟨.tmp d,hp,rfl⟩
  exact T.fin f ho hd fun i y hi hy hdy=>hfin i o y d hi ho hy hdy hd
 | _=>rfl
theorem b0o (T:Tr wd tt C n ops ids es val M) {x y:Nat} (f:sN wd tt ops (some (x,y))) (ha:aJw ops (es ops.length) x y=true) :
  ∃ My,Swp wd tt C ops es val (fun t=>if t=kS wd tt ops ops.length+1 then My else M t) (some (x,y)):=by
 have hl:=f.late x y rfl
 obtain ⟨ox,hx,cx⟩:=hl.cx
 obtain ⟨oy,hy,cy⟩:=hl.cy
 have hkx:=hl.kx
 have hky:=hl.ky
 unfold aJw at ha
 obtain ⟨p,hp,ha⟩:=qZ ha
 obtain ⟨q,hq,ha⟩:=qZ ha
 obtain ⟨u,hu,ha⟩:=qZ ha
 obtain ⟨v,hv,ha⟩:=qZ ha
 obtain ⟨l,off,l',off',rfl,rfl,hne⟩:∃ l off l' off',u = .ptr l off∧v = .ptr l' off'∧l≠l':=by
  cases u with
  | ptr l off=>cases v with
   | ptr l' off'=>exact ⟨l,off,l',off',rfl,rfl,fun h=>by subst h; simp at ha⟩
   | _=>simp at ha
  | _=>simp at ha
 obtain ⟨gx,_,tx,vx,ex⟩:=a7q hx hp
 obtain ⟨gy,_,ty,vy,ey⟩:=a7q hy hq
 obtain ⟨idx,_,stx⟩:=T.at hx
 obtain ⟨idy,_,sty⟩:=T.at hy
 have runx:uB tt C (es x) (M (kS wd tt ops x)) ox.op = .ok (val x) (M (kS wd tt ops x+1)):=by
  have hks:=zK (wd:=wd) (tt:=tt) hx
  rw [if_pos cx] at hks
  rcases stx.run with ⟨_,⟨h,_⟩ | ⟨_,h⟩⟩ | ⟨h,_⟩
  ·omega
  ·rw [hks] at h; exact h
  ·unfold vH at h; rw [gx] at h; simp at h
 have runy:uB tt C (es y) (M (kS wd tt ops x+1)) oy.op = .ok (val y) (M (kS wd tt ops ops.length)):=by
  have hks:=zK (wd:=wd) (tt:=tt) hy
  rw [if_pos cy] at hks
  rcases sty.run with ⟨_,⟨h,_⟩ | ⟨_,h⟩⟩ | ⟨h,_⟩
  ·omega
  ·rw [hks,show kS wd tt ops y=kS wd tt ops x+1 by omega,show kS wd tt ops x+1+1=kS wd tt ops ops.length by omega] at h; exact h
  ·unfold vH at h; rw [gy] at h; simp at h
 rw [ex] at runx
 rw [ey] at runy
 simp only [uB] at runx runy
 obtain ⟨u1,u2,hu1,hu2,runx⟩:=qY runx
 obtain ⟨v1,v2,hv1,hv2,runy⟩:=qY runy
 rw [T.aOx f hx (by rw [ex]; simp [Op.operands]) hl.fx,hu] at hu1
 rw [T.aOx f hy (by rw [ey]; simp [Op.operands]) hl.fy,hv] at hv1
 simp only [zzz] at hu1 hv1
 subst hu1; subst hv1
 unfold a8p at runx runy
 obtain ⟨tix,htx,runx⟩:=dG runx
 obtain ⟨tiy,hty,runy⟩:=dG runy
 obtain ⟨o1,a1,a2,a3⟩:=aJ0 runx
 obtain ⟨o2,b1,b2,b3⟩:=aJ0 runy
 obtain ⟨My,c1,c2,c3⟩:=b3 (M (kS wd tt ops x)) (by rw [a1,if_neg (fun h=>hne h.symm)])
 obtain ⟨K,d1,d2,d3⟩:=a3 My (by rw [c2,if_neg hne])
 refine ⟨My,fun x' y' h=>?_⟩
 simp only [zzz,zvy] at h
 obtain ⟨rfl,rfl⟩:=h
 simp only
 rw [if_pos trivial,if_neg (by omega),if_neg (by omega)]
 refine ⟨c3,fun ox' oy' hx' hy'=>?_⟩
 rw [hx] at hx'; rw [hy] at hy'
 simp only [zzz] at hx' hy'
 subst hx'; subst hy'
 have hu1':ev (es x) p=some (.ptr l off):=by rw [T.aOx f hx (by rw [ex]; simp [Op.operands]) hl.fx,hu]
 have hv1':ev (es y) q=some (.ptr l' off'):=by rw [T.aOx f hy (by rw [ey]; simp [Op.operands]) hl.fy,hv]
 refine ⟨K,?_,?_,by rw [d3,c3,b2,a2],fun i=>?_⟩
 ·rw [ey]
  simp only [uB]
  unfold lO a8p cM
  rw [hv1',aP,hv2,aP]
  show aF (tt.get ty) .bad (fun ti=>mP ti (M (kS wd tt ops x)) (.ptr l' off') v2)=_
  rw [hty,aP]
  exact c1
 ·rw [ex]
  simp only [uB]
  unfold lO a8p cM
  rw [hu1',aP,hu2,aP]
  show aF (tt.get tx) .bad (fun ti=>mP ti My (.ptr l off) u2)=_
  rw [htx,aP]
  exact d1
 ·rw [d2,b1,c2,a1]
  by_cases h1:i=l
  ·subst h1; simp [hne]
  ·simp [h1]
theorem aQw (hT:fQ P tt) (hC:wD P C) (hm:P.follows .mixedOrders=true) {id:Nat} {Q:Exit→Act→World→Prop} {env env':T RV} {H H':HT} (e:a6u tt C n ops env H = .j4 env' H') (m:Mem N h0 Γ w.heap H) (re:bT δ Γ n env a)
  (hQ:∀ Γ' w' a',Ext N h0 Γ w H Γ' w' H'→bT δ Γ' n env' a'→Q .normal a' w'):(Code.region id ops.toArray true).wpIn (frF ρ) 0 P Q a w:=by
 unfold a6u at e
 replace e:=l9 e
 rcases e with ⟨_,e⟩ | ⟨s,hs,e⟩
 ·simp at e
 rw [cK] at e
 split at e
 ·rename_i hok
  have f:=aXm hok
  replace e:=l9 e
  rcases e with ⟨_,e⟩ | ⟨p,hp,e⟩
  ·simp at e
  obtain ⟨ids,H1⟩:=p
  split at e
  ·rename_i env1 Ms hrun
   rw [cK] at e
   split at e
   ·rename_i hchk
    rw [cK] at e
    split at e
    ·rename_i hap
     replace e:=l9 e
     rcases e with ⟨_,e⟩ | ⟨H2,hH2,e⟩
     ·simp at e
     simp at e
     obtain ⟨rfl,rfl⟩:=e
     exact aJz hT hC hm f hp hrun hchk hH2 (fun es val M T h=>b0o T f (by rw [h]; exact hap)) m re hQ
    ·simp at e
   ·simp at e
  ·simp at e
 ·simp at e
theorem a7m (hT:fQ P tt) (hC:wD P C) (hm:P.follows .mixedOrders=true) {id:Nat} {Q:Exit→Act→World→Prop} {env env':T RV} {H H':HT} (e:yQ tt C n ops env H = .j4 env' H') (m:Mem N h0 Γ w.heap H) (re:bT δ Γ n env a)
  (hQ:∀ Γ' w' a',Ext N h0 Γ w H Γ' w' H'→bT δ Γ' n env' a'→Q .normal a' w'):(Code.region id ops.toArray true).wpIn (frF ρ) 0 P Q a w:=by
 unfold yQ at e
 rw [cK] at e
 split at e
 ·exact aDi hT hC hm e m re hQ
 ·rw [cK] at e
  split at e
  ·exact aDi hT hC hm e m re hQ
  ·exact aQw hT hC hm e m re hQ
end
end Go.Rx

/- Closed runs: code,functions. -/
namespace Go.Rx
noncomputable def a99 (f:T RV→HT→Out) (k:Nat):T RV→HT→Out :=
 @Nat.rec (fun _=>T RV→HT→Out) (fun _ _=>.bad) (fun _ ih env H=>match f env H with | .j4 env H=>ih env H | .ext id env H=>.ext id env H | .ret env H=>.ret env H | .bad=>.bad) k
section
variable (tt:T aV) (C:dK) (n:Nat) (big:Nat)
noncomputable def qB (c:Code):T RV→HT→Out :=
 @Code.rec (fun _=>T RV→HT→Out)
  (fun env H=>.j4 env H)
  (fun _ ops draw env H=>aH draw (yQ tt C n ops.toList env H) (opsV tt C n ops.toList ops.toList env H))
  (fun _ _ ra rb env H=>match ra env H with | .j4 env H=>rb env H | .ext id env H=>.ext id env H | .ret env H=>.ret env H | .bad=>.bad)
  (fun c _ _ ra rb env H=>aF (ev env c) .bad fun v=>match v with | .bool t=>aH t (ra env H) (rb env H) | _=>.bad)
  (fun id _ rb env H=>match rb env H with | .j4 env H=>.j4 env H | .ext j env H=>aH (Nat.beq j id) (.j4 env H) (.ext j env H) | .ret env H=>.ret env H | .bad=>.bad)
  (fun _ rb env H=>a99 rb big env H)
  (fun _ _ _ _ _ _ _ _=>.bad)
  (fun id env H=>.ext id env H)
  (fun _ _ _ _=>.bad)
  (fun _ env H=>.j4 env H)
  (fun _ _ _=>.bad)
  (fun env H=>.ret env H)
  (fun _ _ _=>.bad) c
noncomputable def lS (env:T RV) (H:HT):List ResultVar→Option (List RV)
 | []=>some []
 | .tmp t::r=>aF (env.get t) none fun v=>aF (lS env H r) none fun vs=>some (v::vs)
 | .cell t ty::r=>aF (env.get t) none fun u=>cM tt ty none fun ti=>aF (nF ti H u) none fun v=>aF (lS env H r) none fun vs=>some (v::vs)
noncomputable def sO (rs:List ResultVar) (env:T RV) (H:HT):OR :=
 aF (lS tt env H rs) .bad fun vs=>match vs with
  | [v]=>.ok v H
  | vs=>.ok (.aM vs) H
end
inductive FE where
 | code (n:Nat) (res:List ResultVar) (c:Code)
 | same
 | known (b:Bool)
 | pure (g:List RV→Option RV)
 | room (e:TypeId)
noncomputable def aOy (e:TypeId) (args:List RV) (H:HT):OR :=
 match args with
 | [.int .i64 (.ofNat n)]=>aH (Nat.ble n 1000000) (l8 H (Nat.succ e) [] fun l H=>.ok (.sl l 0 n 1 none) H) .bad
 | _=>.bad
noncomputable def aJ1 (b:Bool) (args:List RV) (H:HT):OR:=match args with | []=>.ok (.bool b) H | _=>.bad
noncomputable def a6v (args:List RV) (H:HT):OR:=match args with | [x]=>.ok x H | _=>.bad
noncomputable def aH7 (tt:T aV) (ft:T FE) (big:Nat) (d:Nat):dK :=
 @Nat.rec (fun _=>dK) (fun _ _ _=>.bad) (fun _ C f args H=>aH (Nat.beq f Y0) .bad (aF (ft.get f) .bad fun fe=>match fe with
  | .code n res c=>dT (dU args) fun k=>aH (Nat.ble k n) (nG args .e 0 fun env=>match qB tt C n big c env H with
    | .j4 env H=>sO tt res env H
    | .ret env H=>sO tt res env H
    | _=>.bad) .bad
  | .same=>a6v args H
  | .known b=>aJ1 b args H
  | .pure g=>gX (g args) H
  | .room e=>aOy e args H)) d
section
variable {P:Program} {N:Nat} {h0:bN} {Γ : Gm} {w:World} {H H':HT} {tt:T aV} {C:dK} {n:Nat} {env:T RV} {a:Act} {big:Nat}
def rW (N:Nat) (h0:bN) (Γ : Gm) (w:World) (H:HT) (n:Nat) (R:Exit→Act→World→Prop):Out→Prop
 | .j4 env' H'=>∀ Γ' w' a',Ext N h0 Γ w H Γ' w' H'→bT [] Γ' n env' a'→R .normal a' w'
 | .ext id env' H'=>∀ Γ' w' a',Ext N h0 Γ w H Γ' w' H'→bT [] Γ' n env' a'→R (.exit id) a' w'
 | .ret env' H'=>∀ Γ' w' a',Ext N h0 Γ w H Γ' w' H'→bT [] Γ' n env' a'→R .ret a' w'
 | .bad=>False
theorem rW.ext {R:Exit→Act→World→Prop} {o:Out} (h:rW N h0 Γ w H n R o) {Γ':Gm} {w':World} {H':HT} (x:Ext N h0 Γ w H Γ' w' H'):rW N h0 Γ' w' H' n R o:=by
 cases o with
 | bad=>exact h
 | _=>exact fun Γ2 w2 a2 x2 r2=>h Γ2 w2 a2 (x.trans x2) r2
theorem aXo (hT:fQ P tt) (hC:wD P C) (hm:P.follows .mixedOrders=true):∀ (c:Code) (env:T RV) (H:HT) (Γ : Gm) (w:World) (a:Act) (R:Exit→Act→World→Prop),Mem N h0 Γ w.heap H→bT [] Γ n env a →
  rW N h0 Γ w H n R (qB tt C n big c env H)→c.wp P R a w:=by
 intro c
 induction c with
 | skip=>intro env H Γ w a R m re h; exact wp_skip (h Γ w a (Ext.refl m) re)
 | label l=>intro env H Γ w a R m re h; exact wp_label (h Γ w a (Ext.refl m) re)
 | exit id=>intro env H Γ w a R m re h; exact wp_exit (h Γ w a (Ext.refl m) re)
 | ret=>intro env H Γ w a R m re h; exact wp_ret (h Γ w a (Ext.refl m) re)
 | region id ops draw =>
  intro env H Γ w a R m re h
  have h:rW N h0 Γ w H n R (aH draw (yQ tt C n ops.toList env H) (opsV tt C n ops.toList ops.toList env H)):=h
  have hops:(⟨ops.toList⟩:Array Oper)=ops:=by cases ops; rfl
  cases draw with
  | true =>
   rw [aX] at h
   cases he:yQ tt C n ops.toList env H with
   | j4 env' H' =>
    rw [he] at h
    have:=a7m (ρ:=none) (id:=id) (Q:=R) hT hC hm he m re h
    rw [show ops.toList.toArray=ops by simp] at this
    exact wpIn_wide.1 this
   | bad=>rw [he] at h; exact h.elim
   | ext _ _ _=>exact (aNf.1 _ _ _ he).elim
   | ret _ _=>exact (aNf.2 _ _ he).elim
  | false =>
   rw [bU] at h
   rcases b30 (tt:=tt) (C:=C) (n:=n) (ops:=ops.toList) (rest:=ops.toList) (env:=env) (H:=H) with ⟨env',H',he⟩ | he
   ·rw [he] at h
    have:=aQp (ρ:=none) (id:=id) (Q:=R) hT hC he m re h
    rw [show ops.toList.toArray=ops by simp] at this
    exact wpIn_wide.1 this
   ·rw [he] at h; exact h.elim
 | seq x y ihx ihy =>
  intro env H Γ w a R m re h
  have h:rW N h0 Γ w H n R (match qB tt C n big x env H with | .j4 env H=>qB tt C n big y env H | .ext id env H=>.ext id env H | .ret env H=>.ret env H | .bad=>.bad):=h
  refine wp_seq (ihx env H Γ w a _ m re ?_)
  cases he:qB tt C n big x env H with
  | j4 env' H' =>
   rw [he] at h
   exact fun Γ' w' a' hx hr=>ihy env' H' Γ' w' a' R hx.mem hr (h.ext hx)
  | ext id env' H'=>rw [he] at h; exact h
  | ret env' H'=>rw [he] at h; exact h
  | bad=>rw [he] at h; exact h
 | cond c x y ihx ihy =>
  intro env H Γ w a R m re h
  have h:rW N h0 Γ w H n R (aF (ev env c) .bad fun v=>match v with | .bool t=>aH t (qB tt C n big x env H) (qB tt C n big y env H) | _=>.bad):=h
  cases hv:ev env c with
  | none=>rw [hv,jC] at h; exact h.elim
  | some v =>
   rw [hv,aP] at h
   split at h
   ·rename_i t
    refine wp_cond (iF (re.ev hv)) ?_
    cases t with
    | true=>exact ihx env H Γ w a R m re h
    | false=>exact ihy env H Γ w a R m re h
   ·exact h.elim
 | block id b ih =>
  intro env H Γ w a R m re h
  have h:rW N h0 Γ w H n R (match qB tt C n big b env H with | .j4 env H=>.j4 env H | .ext j env H=>aH (Nat.beq j id) (.j4 env H) (.ext j env H) | .ret env H=>.ret env H | .bad=>.bad):=h
  refine wp_block (ih env H Γ w a _ m re ?_)
  cases he:qB tt C n big b env H with
  | j4 env' H'=>rw [he] at h; exact h
  | ret env' H'=>rw [he] at h; exact h
  | bad=>rw [he] at h; exact h
  | ext j env' H' =>
   rw [he] at h
   simp only at h
   rw [cK] at h
   intro Γ' w' a' hx hr
   simp only [Exit.inBlock]
   split at h
   ·rename_i hj
    rw [if_pos (zzx hj)]
    exact h Γ' w' a' hx hr
   ·rename_i hj
    rw [if_neg (fun e=>hj (by rw [e]; simp))]
    exact h Γ' w' a' hx hr
 | loop b ih =>
  intro env H Γ w a R m re h
  have h:rW N h0 Γ w H n R (a99 (qB tt C n big b) big env H):=h
  have key:∀ (k:Nat) (env1:T RV) (H1:HT) (Γ1:Gm) (w1:World) (a1:Act),rW N h0 Γ w H n R (a99 (qB tt C n big b) k env1 H1)→Ext N h0 Γ w H Γ1 w1 H1→bT [] Γ1 n env1 a1→Code.rounds P b R k a1 w1:=by
   intro k
   induction k with
   | zero=>intro env1 H1 Γ1 w1 a1 h; exact h.elim
   | succ k ihk =>
    intro env1 H1 Γ1 w1 a1 h hx hr
    have h:rW N h0 Γ w H n R (match qB tt C n big b env1 H1 with | .j4 env H=>a99 (qB tt C n big b) k env H | .ext id env H=>.ext id env H | .ret env H=>.ret env H | .bad=>.bad):=h
    refine ih env1 H1 Γ1 w1 a1 _ hx.mem hr ?_
    cases he:qB tt C n big b env1 H1 with
    | j4 env' H' =>
     rw [he] at h
     exact fun Γ' w' a' hx' hr'=>ihk env' H' Γ' w' a' h (hx.trans hx') hr'
    | ext id env' H'=>rw [he] at h; exact fun Γ' w' a' hx' hr'=>h Γ' w' a' (hx.trans hx') hr'
    | ret env' H'=>rw [he] at h; exact fun Γ' w' a' hx' hr'=>h Γ' w' a' (hx.trans hx') hr'
    | bad=>rw [he] at h; exact h
  exact wp_loop_rounds big (key big env H Γ w a h (Ext.refl m) re)
 | rangeFunc=>intro env H Γ w a R m re h; exact h.elim
 | scope=>intro env H Γ w a R m re h; exact h.elim
 | goto=>intro env H Γ w a R m re h; exact h.elim
 | refuse=>intro env H Γ w a R m re h; exact h.elim
theorem wF (hT:fQ P tt) (m:Mem N h0 Γ w.heap H) {δ:List Deferred} (re:bT δ Γ n env a):∀ {rs:List ResultVar} {vs:List RV},lS tt env H rs=some vs →
  ∃ xs:List Value,(rs.mapM (fun r=>match r with | .tmp t=>pure (a.tmps.getD t undef) | .cell b t=>do loadVar t (← asAddr (a.tmps.getD b undef))):Sem (List Value)).run P w = .ok xs w∧aC Γ vs xs
 | [],vs,e=>by simp [lS] at e; subst e; exact ⟨[],by simp,aC.nil⟩
 | .tmp t::rs,vs,e=>by
  simp only [lS] at e
  replace e:=aG e; obtain ⟨v,h1,e⟩:=e
  replace e:=aG e; obtain ⟨vs',h2,e⟩:=e
  simp at e; subst e
  obtain ⟨xs,h3,h4⟩:=wF hT m re h2
  refine ⟨a.tmps.getD t undef::xs,?_,aC.cons (by have:=re.ev (x:=.tmp t) h1; simpa [Act.eval] using this) h4⟩
  simp only [List.mapM_cons,Sem.run_bind,Sem.run_pure,Result.andThen_ok]
  rw [h3]; rfl
 | .cell t ty::rs,vs,e=>by
  simp only [lS] at e
  replace e:=aG e; obtain ⟨u,h1,e⟩:=e
  replace e:=dN e; obtain ⟨ti,hti,e⟩:=e
  replace e:=aG e; obtain ⟨v,h5,e⟩:=e
  replace e:=aG e; obtain ⟨vs',h2,e⟩:=e
  simp at e; subst e
  obtain ⟨xs,h3,h4⟩:=wF hT m re h2
  have hu:aE Γ u (a.tmps.getD t undef):=by have:=re.ev (x:=.tmp t) h1; simpa [Act.eval] using this
  obtain ⟨tok,rfl⟩:=hT _ _ hti
  obtain ⟨y,hy,ry⟩:=aM7 (P:=P) m tok hu h5
  refine ⟨y::xs,?_,aC.cons ry h4⟩
  have hload:(do loadVar ti.t (← asAddr (a.tmps.getD t undef)):Sem Value).run P w = .ok y w:=by
   unfold nF at h5
   split at h5
   ·obtain ⟨p,_,he⟩:=fH hu
    rw [he] at hy ⊢
    simpa [Instr.loadAt,Instr.sureAddr,asAddr] using hy
   ·simp at h5
  simp only [List.mapM_cons,Sem.run_bind]
  simp only [Sem.run_bind] at hload
  rw [hload]
  simp only [Result.andThen_ok]
  rw [h3]; rfl
theorem aAa (hT:fQ P tt) {fn:Func} {v:RV} (m:Mem N h0 Γ w.heap H) {δ:List Deferred} (re:bT δ Γ n env a) (e:sO tt fn.results.toList env H = .ok v H') :
  H'=H∧∃ x,(results fn a.tmps).run P w = .ok x w∧aE Γ v x:=by
 unfold sO at e
 replace e:=aY e; obtain ⟨vs,hv,e⟩:=e
 obtain ⟨xs,h1,h2⟩:=wF hT m re hv
 have hrun:(results fn a.tmps).run P w = .ok (if h:(⟨xs⟩:Array Value).size=1 then (⟨xs⟩:Array Value)[0] else .tuple ⟨xs⟩) w:=by
  unfold results
  rw [Array.mapM_eq_mapM_toList]
  simp only [Sem.run_bind,Sem.run_map]
  exact (congrArg (fun r:Result (List Value)=>(r.andThen fun a w'=>Result.ok a.toArray w').andThen fun a w'=>Sem.run P (pure (if h:a.size=1 then a[0] else Value.tuple a)) w') h1).trans (by simp)
 split at e
 ·rename_i u
  simp at e
  obtain ⟨rfl,rfl⟩:=e
  obtain ⟨x,xs',rfl,rx,r'⟩:=h2.fJ
  obtain rfl:=r'.mY
  exact ⟨rfl,x,by rw [hrun]; rfl,rx⟩
 ·rename_i hne
  simp at e
  obtain ⟨rfl,rfl⟩:=e
  refine ⟨rfl,.tuple ⟨xs⟩,?_,.aM _ _ h2.1 h2.2⟩
  rw [hrun,dif_neg]
  intro h1
  have:vs.length=1:=by rw [← h2.1]; exact h1
  match vs,this,hne with
  | [v],_,hne=>exact hne v rfl
def fW (P:Program) (f:FuncId):FE→Prop
 | .code n res c => ∃ fn, P.funcs[f]? = some fn ∧ fn.body = some c ∧ fn.ntmps = n ∧ fn.results.toList = res ∧ (fn.name == "runtime.NumGoroutine") = false
 | .same=>∀ (x:Value) (w:World),∃ w',(callFunc f ⟨[x]⟩).run P w = .ok (.value x) w'∧w'=w
 | .known b=>∀ H,a2f P f [] H (.bool b) H
 | .pure g=>∀ (Γ : Gm) (args:List RV) (xs:List Value) (v:RV) (w:World),g args=some v→aC Γ args xs→∃ x,(callFunc f ⟨xs⟩).run P w = .ok (.value x) w∧aE Γ v x
 | .room e=>∀ args H v H',aOy e args H = .ok v H'→a2f P f args H v H'
def aQx (P:Program) (ft:T FE):Prop:=∀ f fe,ft.get f=some fe→fW P f fe
theorem a2i {args : List RV} {xs : List Value} (r : aC Γ args xs) {n : Nat} (hn : args.length ≤ n) {env : T RV} (hg : ∀ j,env.get j = if 0 ≤ j ∧ j < 0 + args.length then args[j - 0]? else (T.e : T RV).get j) :
  bT [] Γ n env { tmps:=(⟨xs⟩:Array Value)++Array.replicate (n - (⟨xs⟩:Array Value).size) Go.undef,defers:=[] }:=by
 have hl:(⟨xs⟩:Array Value).size=args.length:=r.1
 refine ⟨rfl,by simp; have:=r.1; omega,fun i v hv=>?_⟩
 rw [hg] at hv
 split at hv
 ·rename_i hi
  have hv : args[i]? = some v:=hv
  obtain ⟨x,h1,h2⟩:=r.get hv
  refine ⟨x,?_,h2⟩
  rw [Array.getElem?_append,hl,if_pos (by omega)]
  simpa using h1
 ·simp [T.a9t] at hv
theorem aJ2 (hT:fQ P tt) (hm:P.follows .mixedOrders=true) {ft:T FE} (hF:aQx P ft):∀ d,wD P (aH7 tt ft big d)
 | 0=>fun f args H v H' e=>by
  have e:OR.bad = .ok v H':=e
  simp at e
 | d+1=>fun f args H v H' e=>by
  have hC:=aJ2 hT hm hF d
  cases hy:Nat.beq f Y0 with
  | true =>
   have e:aH (Nat.beq f Y0) OR.bad _=OR.ok v H':=e
   rw [hy,aX] at e; simp at e
  | false =>
  refine ⟨fun _=>?_,fun h=>by rw [h] at hy; simp at hy⟩
  have e:aH (Nat.beq f Y0) OR.bad (aF (ft.get f) OR.bad fun fe=>match fe with
   | .code n res c=>dT (dU args) fun k=>aH (Nat.ble k n) (nG args .e 0 fun env=>match qB tt (aH7 tt ft big d) n big c env H with
     | .j4 env H=>sO tt res env H
     | .ret env H=>sO tt res env H
     | _=>.bad) .bad
   | .same=>a6v args H
   | .known b=>aJ1 b args H
   | .pure g=>gX (g args) H
   | .room e=>aOy e args H) = .ok v H':=e
  rw [hy,bU] at e
  replace e:=aY e; obtain ⟨fe,hfe,e⟩:=e
  have hok:=hF f fe hfe
  intro N h0 Γ w xs m ra
  cases fe with
  | code n res c =>
   obtain ⟨fn,h1,h2,h3,h4,h5⟩:=hok
   simp only at e
   rw [eM,pT] at e
   replace e:=bQ e; obtain ⟨hn,e⟩:=e
   have hn:=zxx hn
   obtain ⟨env,h6,h7⟩:=qX args .e 0 (fun env=>match qB tt (aH7 tt ft big d) n big c env H with
     | .j4 env H=>sO tt res env H
     | .ret env H=>sO tt res env H
     | _=>.bad)
   rw [h6] at e
   have h8 : fn.name ≠ "runtime.NumGoroutine" := by simpa using h5
   have hcall:(callFunc f ⟨xs⟩).run P w = .ok (.enter f ⟨xs⟩) w:=by simp [callFunc,h1,h2,h8]
   rw [hcall]
   simp only
   have hre:=a2i ra hn h7
   refine calls_of_wp h1 h2 (aXo (N:=N) (h0:=h0) (n:=n) (big:=big) hT hC hm c env H Γ w _ _ m (by rw [h3]; exact hre) ?_)
   have fin:∀ (env':T RV) (H1:HT),sO tt res env' H1 = .ok v H'→∀ Γ' w' a',Ext N h0 Γ w H Γ' w' H1→bT [] Γ' n env' a' →
     a'.defers=[]∧∃ v',(results fn a'.tmps).run P w' = .ok v' w'∧∃ x' Γ'',Ending.returned v' = .returned x'∧Ext N h0 Γ w H Γ'' w' H'∧aE Γ'' v x':=by
    intro env' H1 he Γ' w' a' hx hr
    rw [← h4] at he
    obtain ⟨rfl,x,hx1,hx2⟩:=aAa hT hx.mem hr he
    exact ⟨hr.1,x,hx1,x,Γ',rfl,hx,hx2⟩
   split at e
   ·rename_i env' H1 he
    rw [he]
    exact fun Γ' w' a' hx hr=>fin env' H1 e Γ' w' a' hx hr
   ·rename_i env' H1 he
    rw [he]
    exact fun Γ' w' a' hx hr=>fin env' H1 e Γ' w' a' hx hr
   ·simp at e
  | same =>
   simp only [a6v] at e
   split at e
   ·rename_i x
    simp at e
    obtain ⟨rfl,rfl⟩:=e
    obtain ⟨y,ys,rfl,ry,r'⟩:=ra.fJ
    obtain rfl:=r'.mY
    obtain ⟨w',h1,rfl⟩:=hok y w
    rw [h1]
    exact ⟨Γ,Ext.refl m,ry⟩
   ·simp at e
  | known b =>
   simp only [aJ1] at e
   split at e
   ·simp at e
    obtain ⟨rfl,rfl⟩:=e
    exact hok H N h0 Γ w xs m ra
   ·simp at e
  | pure g =>
   obtain ⟨h1,rfl⟩:=dH e
   obtain ⟨x,h2,h3⟩:=hok Γ args xs v w h1 ra
   rw [h2]
   exact ⟨Γ,Ext.refl m,h3⟩
  | room e0=>exact hok args H v H' e N h0 Γ w xs m ra
theorem aNi (h:bN):Mem h.size h (fun _=>none) h ⟨0,.e⟩ :=
 ⟨zxy _,fun _ _=>rfl,fun _ _ h=>by simp at h,fun _ _ h=>by simp at h,fun _ _ _ h=>by simp at h,fun _ _ _ h=>by simp at h,fun _ _ _ _ _ h=>by simp at h⟩
end
noncomputable def aFu {α:Type} (l:List (Nat×α)) (t:T α):T α :=
 @List.rec (Nat×α) (fun _=>T α→T α) (fun t=>t) (fun p _ ih t=>T.gZ t p.1 p.2 ih) l t
theorem aG6 {α:Type} : ∀ {l:List (Nat×α)} {t:T α} {f:Nat} {x:α},(aFu l t).get f=some x→(f,x) ∈ l∨t.get f=some x
 | [],t,f,x,h=>.inr h
 | p::l,t,f,x,h=>by
  obtain ⟨t',h1,h2⟩:=T.fC t p.1 p.2 (aFu l)
  have h:(T.gZ t p.1 p.2 (aFu l)).get f=some x:=h
  rw [h1] at h
  rcases aG6 h with h3 | h3
  ·exact .inl (List.mem_cons_of_mem _ h3)
  ·rw [h2] at h3
   split at h3
   ·rename_i he
    simp at h3
    left
    rw [he,← h3]; exact List.mem_cons_self
   ·exact .inr h3
noncomputable def ofList {α:Type} (l:List (Nat×α)):T α:=aFu l .e
theorem aJ3 {α:Type} {l:List (Nat×α)} {f:Nat} {x:α} (h:(ofList l).get f=some x):(f,x) ∈ l:=by
 rcases aG6 h with h | h
 ·exact h
 ·simp [T.a9t] at h
end Go.Rx

/- Closed runs: types that can be compared. -/
namespace Go.Rx
section
variable (P:Program)
mutual
def pU:Nat→TypeId→Option (List Lf)
 | 0,_=>none
 | d+1,t =>
  match P.underlying t with
  | some .bool=>some [.b]
  | some (.int _)=>some [.i]
  | some .string=>some [.s]
  | some (.pointer e)=>match dW P e with
   | some (_+1)=>some [.p]
   | _=>none
  | some (.slice _)=>some [.sl]
  | some (.map _ _)=>some [.m]
  | some (.func _ _ _)=>some [.f]
  | some (.struct fs)=>if P.stoodInHeld t then none else uK d fs.toList 0
  | _=>none
def uK:Nat→List Field→Nat→Option (List Lf)
 | _,[],_=>some []
 | 0,_::_,_=>none
 | d+1,f::fs,off =>
  if f.name = "_" then none else if f.offset = off then
   match pU d f.type,uK d fs (off+(dW P f.type).getD 0),dW P f.type with
   | some a,some b,some n=>if a.length=n then some (a++b) else none
   | _,_,_=>none
  else none
end
end
theorem aFv:∀ {ls:List Lf} {xs ys:List RV} {r:Bool},pY ls xs ys=some r→xs.length=ls.length∧ys.length=ls.length
 | [],xs,ys,r,e=>by cases xs <;> cases ys <;> simp [pY] at e; simp
 | l::ls,[],ys,r,e=>by simp [pY] at e
 | l::ls,x::xs,[],r,e=>by simp [pY] at e
 | l::ls,x::xs,y::ys,r,e=>by
  simp only [pY] at e
  replace e:=aG e; obtain ⟨b,_,e⟩:=e
  cases b with
  | true=>have:=aFv e; simp [this.1,this.2]
  | false =>
   rw [bU] at e
   replace e:=aG e; obtain ⟨q,h,_⟩:=e
   have:=aFv h; simp [this.1,this.2]
theorem aL5:∀ {la lb:List Lf} {xs ys:List RV} {r:Bool},pY (la++lb) xs ys=some r→∃ p q,pY la (xs.take la.length) (ys.take la.length)=some p∧pY lb (xs.drop la.length) (ys.drop la.length)=some q∧r=(p && q)
 | [],lb,xs,ys,r,e=>⟨true,r,by simp [pY],by simpa using e,by simp⟩
 | l::la,lb,[],ys,r,e=>by simp [pY] at e
 | l::la,lb,x::xs,[],r,e=>by simp [pY] at e
 | l::la,lb,x::xs,y::ys,r,e=>by
  simp only [List.cons_append,pY] at e
  replace e:=aG e; obtain ⟨b,hb,e⟩:=e
  cases b with
  | true =>
   rw [aX] at e
   obtain ⟨p,q,h1,h2,h3⟩:=aL5 e
   refine ⟨p,q,?_,by simpa using h2,h3⟩
   simp only [zwx,List.take_succ_cons,pY,hb,aP,aX]
   exact h1
  | false =>
   rw [bU] at e
   replace e:=aG e; obtain ⟨c,hc,e⟩:=e
   simp at e; subst e
   obtain ⟨p,q,h1,h2,h3⟩:=aL5 hc
   refine ⟨false,q,?_,by simpa using h2,by simp⟩
   simp only [zwx,List.take_succ_cons,pY,hb,aP,bU,h1]
def Fits (P:Program) (t:TypeId) (v:RV) (x:Value):Prop :=
 (kG P t=some false→x.oneCell'=true)∧(kG P t=some true→∃ xs,v = .agg xs)
section
variable {P:Program} {Γ : Gm}
theorem aDj {v:RV} {x:Value} (r:aE Γ v x) (h:x.oneCell'=true):lQ v=false:=by
 cases r <;> simp [Value.oneCell'] at h <;> rfl
theorem aOk (w:World) (b o o':Nat):(sameAddr ⟨b,o,none⟩ ⟨b,o',none⟩).run P w = .ok (Nat.beq o o') w:=by
 unfold sameAddr
 have:((⟨b,o,none⟩:Addr) == ⟨b,o',none⟩)=Nat.beq o o':=by
  rw [Bool.eq_iff_iff,lR]; simp
 simp [this]
theorem aH8 {t:TypeId} {n:Nat} (w:World) (hs:dW P t=some n) {a:Bool} (ha:kG P t=some a) (hone:a=false→n=1) {cs:List RV} {xs:List Value} (hr:aC Γ cs xs) (ho:∀ x ∈ xs,x.oneCell'=true) {off:Nat} (hle:off+n≤cs.length) :
  ∃ v x,(part t ⟨xs⟩ off).run P w = .ok x w∧aE Γ v x∧v.cells=(cs.drop off).take n∧Fits P t v x:=by
 have h1:=vY (P:=P) w ha
 have h2:=dJ (P:=P) w hs
 cases a with
 | true =>
  refine ⟨.agg ((cs.drop off).take n),.agg ⟨(xs.drop off).take n⟩,by simp [part,h1,h2],.agg _ _ (by simp [hr.1]) (fun x hx=>ho x (List.mem_of_mem_drop (List.mem_of_mem_take hx))) ((hr.drop off).take n).2,rfl,fun h=>by rw [ha] at h; simp at h,fun _=>⟨_,rfl⟩⟩
 | false =>
  obtain rfl:=hone rfl
  have hlt:off < cs.length:=by omega
  obtain ⟨x,hx,rx⟩:=hr.get (zyz hlt)
  have hox:=ho x (zyx hx)
  refine ⟨cs[off],x,by simp [part,h1,hx],rx,?_,fun _=>hox,fun h=>by rw [ha] at h; simp at h⟩
  rw [wA (aDj rx hox)]
  rw [List.drop_eq_getElem_cons hlt]; rfl
theorem a6w {t:TypeId} {d:Nat} {ls:List Lf} (h:pU P (d+1) t=some ls) :
  (P.underlying t=some .bool∧ls=[.b])∨(∃ k,P.underlying t=some (.int k)∧ls=[.i])∨(P.underlying t=some .string∧ls=[.s])∨(∃ e n,P.underlying t=some (.pointer e)∧dW P e=some (n+1)∧ls=[.p]) ∨
  (∃ e,P.underlying t=some (.slice e)∧ls=[.sl])∨(∃ k e,P.underlying t=some (.map k e)∧ls=[.m])∨(∃ a b c,P.underlying t=some (.func a b c)∧ls=[.f]) ∨
  (∃ fs,P.underlying t=some (.struct fs)∧P.stoodInHeld t=false∧uK P d fs.toList 0=some ls):=by
 rw [pU] at h
 split at h
 ·rename_i hu; simp at h; exact .inl ⟨hu,h.symm⟩
 ·rename_i k hu; simp at h; exact .inr (.inl ⟨k,hu,h.symm⟩)
 ·rename_i hu; simp at h; exact .inr (.inr (.inl ⟨hu,h.symm⟩))
 ·rename_i e hu
  split at h
  ·rename_i n hn; simp at h; exact .inr (.inr (.inr (.inl ⟨e,n,hu,hn,h.symm⟩)))
  ·simp at h
 ·rename_i e hu; simp at h; exact .inr (.inr (.inr (.inr (.inl ⟨e,hu,h.symm⟩))))
 ·rename_i k e hu; simp at h; exact .inr (.inr (.inr (.inr (.inr (.inl ⟨k,e,hu,h.symm⟩)))))
 ·rename_i a b c hu; simp at h; exact .inr (.inr (.inr (.inr (.inr (.inr (.inl ⟨a,b,c,hu,h.symm⟩))))))
 ·rename_i fs hu
  split at h
  ·simp at h
  ·rename_i hs; exact .inr (.inr (.inr (.inr (.inr (.inr (.inr ⟨fs,hu,by simpa using hs,h⟩))))))
 ·simp at h
theorem aAb {t:TypeId} {d:Nat} {ls:List Lf} (h:pU P d t=some ls):∃ a,kG P t=some a∧(a=false→ls.length=1):=by
 cases d with
 | zero=>simp [pU] at h
 | succ d =>
  unfold kG
  rcases a6w h with ⟨hu,rfl⟩ | ⟨k,hu,rfl⟩ | ⟨hu,rfl⟩ | ⟨e,n,hu,_,rfl⟩ | ⟨e,hu,rfl⟩ | ⟨k,e,hu,rfl⟩ | ⟨a,b,c,hu,rfl⟩ | ⟨fs,hu,_,_⟩ <;> rw [hu]
  all_goals first | exact ⟨false,rfl,fun _=>rfl⟩ | exact ⟨true,rfl,fun h=>by simp at h⟩
theorem b79 {t:TypeId} {d:Nat} {l:Lf} {w:World} {x y:RV} {a b:Value} {r:Bool} (h:pU P (d+1) t=some [l]) (hna:kG P t=some false) (e:eqC l x y=some r) (ra:aE Γ x a) (rb:aE Γ y b) (D:Nat):(Op.equalIn (D+1) t a b).run P w = .ok r w:=by
 have hns:∀ fs,P.underlying t≠some (.struct fs):=fun fs hu=>by unfold kG at hna; rw [hu] at hna; simp at hna
 have inv:=a6w h
 unfold eqC at e
 split at e
 ·rename_i p q
  have hu:P.underlying t=some .bool:=by
   rcases inv with ⟨hu,_⟩ | ⟨_,_,h⟩ | ⟨_,h⟩ | ⟨_,_,_,_,h⟩ | ⟨_,_,h⟩ | ⟨_,_,_,h⟩ | ⟨_,_,_,_,h⟩ | ⟨_,h,_⟩ <;> first | exact hu | (simp at h; done) | exact absurd h (hns _)
  obtain rfl:=iF ra; obtain rfl:=iF rb
  rw [run_equalIn_bool' w D t _ _ hu]
  simp at e; subst e
  cases p <;> cases q <;> rfl
 ·rename_i k p k' q
  have hu:∃ k,P.underlying t=some (.int k):=by
   rcases inv with ⟨_,h⟩ | ⟨k,hu,_⟩ | ⟨_,h⟩ | ⟨_,_,_,_,h⟩ | ⟨_,_,h⟩ | ⟨_,_,_,h⟩ | ⟨_,_,_,_,h⟩ | ⟨_,h,_⟩ <;> first | exact ⟨k,hu⟩ | (simp at h; done) | exact absurd h (hns _)
  obtain ⟨kk,hu⟩:=hu
  obtain rfl:=bR ra; obtain rfl:=bR rb
  replace e:=cC e; obtain ⟨h1,e⟩:=e
  obtain rfl:=a2y.1 h1
  simp only [zzz] at e; subst e
  rw [run_equalIn_int w D t _ _ _ _ hu,yD]
  congr 1
 ·rename_i s s'
  have hu:P.underlying t=some .string:=by
   rcases inv with ⟨_,h⟩ | ⟨_,_,h⟩ | ⟨hu,_⟩ | ⟨_,_,_,_,h⟩ | ⟨_,_,h⟩ | ⟨_,_,_,h⟩ | ⟨_,_,_,_,h⟩ | ⟨_,h,_⟩ <;> first | exact hu | (simp at h; done) | exact absurd h (hns _)
  obtain ⟨rfl,h1⟩:=gQ ra; obtain ⟨rfl,h2⟩:=gQ rb
  simp at e; subst e
  rw [run_equalIn_string w D t _ _ hu,a8n,sM,sM]
  congr 1
  rw [Bool.eq_iff_iff,beq_iff_eq,decide_eq_true_iff]
  exact aU7 h1 h2
 all_goals first | (simp at e; done) | skip
 case h_4 | h_5 | h_6 | h_7 =>
  have hu:∃ e n,P.underlying t=some (.pointer e)∧dW P e=some (n+1):=by
   rcases inv with ⟨_,h⟩ | ⟨_,_,h⟩ | ⟨_,h⟩ | ⟨e,n,hu,hn,_⟩ | ⟨_,_,h⟩ | ⟨_,_,_,h⟩ | ⟨_,_,_,_,h⟩ | ⟨_,h,_⟩ <;> first | exact ⟨e,n,hu,hn⟩ | (simp at h; done) | exact absurd h (hns _)
  obtain ⟨e0,n,hu,hn⟩:=hu
  have hs:=dJ (P:=P) w hn
  first
  | (obtain rfl:=kH ra; obtain rfl:=kH rb; simp at e; subst e; simp [Op.equalIn,run_underlying hu]; done)
  | (obtain rfl:=kH ra; obtain ⟨p,_,rfl⟩:=fH rb; simp at e; subst e; simp [Op.equalIn,run_underlying hu]; done)
  | (obtain ⟨p,_,rfl⟩:=fH ra; obtain rfl:=kH rb; simp at e; subst e; simp [Op.equalIn,run_underlying hu]; done)
  | (obtain ⟨p,hp,rfl⟩:=fH ra; obtain ⟨p',hp',rfl⟩:=fH rb
     replace e:=cC e
     obtain ⟨h1,e⟩:=e
     obtain rfl:=lR.1 h1
     rw [hp] at hp'; simp at hp'; subst hp'
     simp only [zzz] at e; subst e
     have hq:=fun o o'=>aOk (P:=P) w p.b (p.base+o) (p.base+o')
     have hb:∀ o o',Nat.beq (p.base+o) (p.base+o')=Nat.beq o o':=fun o o'=>by rw [Bool.eq_iff_iff,lR,lR]; omega
     simp only [hb] at hq
     simp [Op.equalIn,run_underlying hu,hs,hq])
 case h_8 | h_9 | h_10 =>
  have hu:∃ e,P.underlying t=some (.slice e):=by
   rcases inv with ⟨_,h⟩ | ⟨_,_,h⟩ | ⟨_,h⟩ | ⟨_,_,_,_,h⟩ | ⟨e,hu,_⟩ | ⟨_,_,_,h⟩ | ⟨_,_,_,_,h⟩ | ⟨_,h,_⟩ <;> first | exact ⟨e,hu⟩ | (simp at h; done) | exact absurd h (hns _)
  obtain ⟨e0,hu⟩:=hu
  first
  | (obtain rfl:=j5 ra; obtain rfl:=j5 rb; simp at e; subst e; simp [Op.equalIn,run_underlying hu]; done)
  | (obtain rfl:=j5 ra; obtain ⟨_,_,_,_,_,_,_,rfl⟩:=jB rb; simp at e; subst e; simp [Op.equalIn,run_underlying hu]; done)
  | (obtain rfl:=j5 rb; obtain ⟨_,_,_,_,_,_,_,rfl⟩:=jB ra; simp at e; subst e; simp [Op.equalIn,run_underlying hu])
 case h_11 | h_12 | h_13 =>
  have hu:∃ k e,P.underlying t=some (.map k e):=by
   rcases inv with ⟨_,h⟩ | ⟨_,_,h⟩ | ⟨_,h⟩ | ⟨_,_,_,_,h⟩ | ⟨_,_,h⟩ | ⟨k,e,hu,_⟩ | ⟨_,_,_,_,h⟩ | ⟨_,h,_⟩ <;> first | exact ⟨k,e,hu⟩ | (simp at h; done) | exact absurd h (hns _)
  obtain ⟨k0,e0,hu⟩:=hu
  first
  | (obtain rfl:=tL ra; obtain rfl:=tL rb; simp at e; subst e; simp [Op.equalIn,run_underlying hu]; done)
  | (obtain rfl:=tL ra; obtain ⟨_,_,rfl⟩:=xG rb; simp at e; subst e; simp [Op.equalIn,run_underlying hu]; done)
  | (obtain rfl:=tL rb; obtain ⟨_,_,rfl⟩:=xG ra; simp at e; subst e; simp [Op.equalIn,run_underlying hu])
 case h_14 | h_15 | h_16 =>
  have hu:∃ a b c,P.underlying t=some (.func a b c):=by
   rcases inv with ⟨_,h⟩ | ⟨_,_,h⟩ | ⟨_,h⟩ | ⟨_,_,_,_,h⟩ | ⟨_,_,h⟩ | ⟨_,_,_,h⟩ | ⟨a,b,c,hu,_⟩ | ⟨_,h,_⟩ <;> first | exact ⟨a,b,c,hu⟩ | (simp at h; done) | exact absurd h (hns _)
  obtain ⟨a0,b0,c0,hu⟩:=hu
  first
  | (obtain rfl:=a9x ra; obtain rfl:=a9x rb; simp at e; subst e; simp [Op.equalIn,run_underlying hu]; done)
  | (obtain rfl:=a9x ra; obtain ⟨_,_,rfl⟩:=vW rb; simp at e; subst e; simp [Op.equalIn,run_underlying hu]; done)
  | (obtain rfl:=a9x rb; obtain ⟨_,_,rfl⟩:=vW ra; simp at e; subst e; simp [Op.equalIn,run_underlying hu])
mutual
theorem aNj:∀ (d:Nat) (t:TypeId) (ls:List Lf),pU P d t=some ls→∀ (D:Nat),d≤D→∀ (w:World) (x y:RV) (a b:Value) (r:Bool),pY ls x.cells y.cells=some r→aE Γ x a→aE Γ y b→Fits P t x a→Fits P t y b →
  (Op.equalIn D t a b).run P w = .ok r w
 | 0,t,ls,h,_,_,_,_,_,_,_,_,_,_,_,_,_=>by simp [pU] at h
 | d+1,t,ls,h,D,hD,w,x,y,a,b,r,e,ra,rb,fa,fb=>by
  obtain ⟨D,rfl⟩:∃ D',D=D'+1:=⟨D - 1,by omega⟩
  obtain ⟨ag,hag,h1⟩:=aAb h
  cases ag with
  | false =>
   have hla:=h1 rfl
   have hx:=aDj ra (fa.1 hag)
   have hy:=aDj rb (fb.1 hag)
   rw [wA hx,wA hy] at e
   obtain ⟨l,rfl,hc⟩:=aL0 e
   exact b79 h hag hc ra rb D
  | true =>
   rcases a6w h with ⟨hu,_⟩ | ⟨_,hu,_⟩ | ⟨hu,_⟩ | ⟨_,_,hu,_⟩ | ⟨_,hu,_⟩ | ⟨_,_,hu,_⟩ | ⟨_,_,_,hu,_⟩ | ⟨fs,hu,hs,hf⟩
   all_goals first | (exfalso; unfold kG at hag; rw [hu] at hag; simp at hag; done) | skip
   obtain ⟨xs,rfl⟩:=fa.2 hag
   obtain ⟨ys,rfl⟩:=fb.2 hag
   obtain ⟨as,ra',oa,rfl⟩:=nT ra
   obtain ⟨bs,rb',ob,rfl⟩:=nT rb
   have hfo:P.fieldsOf t=fs:=by simp [Program.fieldsOf,hu]
   rw [run_equalIn_struct w D t _ _ (by rw [hfo]; exact hu) hs,hfo]
   exact aJ4 d fs.toList 0 ls hf D (by omega) w xs ys as bs r (by rw [List.drop_zero,List.drop_zero]; exact e) ⟨Nat.zero_le _,Nat.zero_le _⟩ ra' rb' oa ob
theorem aJ4:∀ (d:Nat) (fs:List Field) (off:Nat) (ls:List Lf),uK P d fs off=some ls→∀ (D:Nat),d≤D→∀ (w:World) (xs ys:List RV) (as bs:List Value) (r:Bool),pY ls (xs.drop off) (ys.drop off)=some r→off≤xs.length∧off≤ys.length→aC Γ xs as→aC Γ ys bs →
  (∀ x ∈ as,x.oneCell'=true)→(∀ x ∈ bs,x.oneCell'=true)→(Op.eqFields D ⟨as⟩ ⟨bs⟩ fs).run P w = .ok r w
 | d,[],off,ls,h,D,hD,w,xs,ys,as,bs,r,e,hle,ra,rb,oa,ob=>by
  have:ls=[]:=by cases d <;> simp [uK] at h <;> first | exact h | exact h.symm
  subst this
  have:r=true:=by
   cases hx:xs.drop off <;> cases hy:ys.drop off <;> rw [hx,hy] at e <;> simp [pY] at e
   first | exact e | exact e.symm
  subst this
  simp [Op.eqFields]
 | 0,f::fs,off,ls,h,_,_,_,_,_,_,_,_,_,_,_,_,_,_=>by simp [uK] at h
 | d+1,f::fs,off,ls,h,D,hD,w,xs,ys,as,bs,r,e,hle,ra,rb,oa,ob=>by
  rw [uK] at h
  split at h
  ·simp at h
  rename_i hname
  split at h
  ·rename_i hoff
   split at h
   ·rename_i la lb n h1 h2 h3
    split at h
    ·rename_i hl
     simp at h; subst h
     obtain ⟨p,q,e1,e2,rfl⟩:=aL5 e
     rw [List.drop_drop,List.drop_drop] at e2
     rw [h3] at h2
     simp only [Option.getD_some] at h2
     rw [hl] at e1 e2
     have hlx:off+n≤xs.length:=by
      have:=(aFv e).1
      simp [hl] at this; omega
     have hly:off+n≤ys.length:=by
      have:=(aFv e).2
      simp [hl] at this; omega
     obtain ⟨ag,hag,hone⟩:=aAb h1
     obtain ⟨v1,x1,p1,p2,p3,p4⟩:=aH8 (Γ:=Γ) w h3 hag (fun h=>by rw [← hl]; exact hone h) ra oa hlx
     obtain ⟨v2,x2,q1,q2,q3,q4⟩:=aH8 (Γ:=Γ) w h3 hag (fun h=>by rw [← hl]; exact hone h) rb ob hly
     have h4:=aNj d f.type la h1 D (by omega) w v1 v2 x1 x2 p (by rw [p3,q3]; exact e1) p2 q2 p4 q4
     rw [← hoff] at p1 q1
     simp only [Op.eqFields,ne_eq,hname,not_false_eq_true,if_true,Sem.run_bind,p1,q1,h4,Result.andThen_ok]
     cases p with
     | true =>
      have:=aJ4 d fs (off+n) lb h2 D (by omega) w xs ys as bs q e2 ⟨hlx,hly⟩ ra rb oa ob
      simpa using this
     | false=>simp
    ·simp at h
   ·simp at h
  ·simp at h
end
mutual
theorem aVh:∀ (d:Nat) (t:TypeId) (ls:List Lf),pU P d t=some ls→∀ (D:Nat),d≤D→∀ (em:Bool) (w:World) (v:RV) (x:Value),aE Γ v x→Fits P t v x→(kG P t=some true→v.cells.length=ls.length)→(Instr.checkKey em D t x).run P w = .ok () w
 | 0,t,ls,h,_,_,_,_,_,_,_,_,_=>by simp [pU] at h
 | d+1,t,ls,h,D,hD,em,w,v,x,rv,fv,hlen=>by
  obtain ⟨D,rfl⟩:∃ D',D=D'+1:=⟨D - 1,by omega⟩
  rcases a6w h with ⟨hu,_⟩ | ⟨_,hu,_⟩ | ⟨hu,_⟩ | ⟨_,_,hu,_⟩ | ⟨_,hu,_⟩ | ⟨_,_,hu,_⟩ | ⟨_,_,_,hu,_⟩ | ⟨fs,hu,hs,hf⟩
  all_goals first | (simp [Instr.checkKey,run_underlying hu]; done) | skip
  have hag:kG P t=some true:=by unfold kG; rw [hu]
  obtain ⟨xs,rfl⟩:=fv.2 hag
  obtain ⟨as,ra',oa,rfl⟩:=nT rv
  have hk:=aQy d fs.toList 0 ls hf D (by omega) em w xs as (by have:=hlen hag; simpa [RV.cells] using this) ra' oa
  simp only [Instr.checkKey,Sem.run_bind,run_underlying hu,Result.andThen_ok]
  rw [← Array.forIn_toList]
  rw [hk]; rfl
theorem aQy:∀ (d:Nat) (fs:List Field) (off:Nat) (ls:List Lf),uK P d fs off=some ls→∀ (D:Nat),d≤D→∀ (em:Bool) (w:World) (xs:List RV) (as:List Value),xs.length=off+ls.length→aC Γ xs as→(∀ x ∈ as,x.oneCell'=true) →
  (forIn fs PUnit.unit fun f _ => (if f.name ≠ "_" then (do let x ← part f.type ⟨as⟩ f.offset; Instr.checkKey em D f.type x; pure (ForInStep.yield PUnit.unit)) else pure (ForInStep.yield PUnit.unit) : Sem (ForInStep PUnit))).run P w = .ok PUnit.unit w
 | d,[],off,ls,h,D,hD,em,w,xs,as,hle,ra,oa=>by simp
 | 0,f::fs,off,ls,h,_,_,_,_,_,_,_,_,_=>by simp [uK] at h
 | d+1,f::fs,off,ls,h,D,hD,em,w,xs,as,hle,ra,oa=>by
  rw [uK] at h
  split at h
  ·simp at h
  rename_i hname
  split at h
  ·rename_i hoff
   split at h
   ·rename_i la lb n h1 h2 h3
    split at h
    ·rename_i hl
     simp at h; subst h
     rw [h3] at h2
     simp only [Option.getD_some] at h2
     have hlx:off+n≤xs.length:=by simp at hle; omega
     obtain ⟨ag,hag,hone⟩:=aAb h1
     obtain ⟨v1,x1,p1,p2,p3,p4⟩:=aH8 (Γ:=Γ) w h3 hag (fun h=>by rw [← hl]; exact hone h) ra oa hlx
     have h4:=aVh d f.type la h1 D (by omega) em w v1 x1 p2 p4 (fun _=>by rw [p3]; simp; omega)
     have h5:=aQy d fs (off+n) lb h2 D (by omega) em w xs as (by simp at hle; omega) ra oa
     rw [← hoff] at p1
     rw [List.forIn_cons]
     simp only [Sem.run_bind,ne_eq,hname,not_false_eq_true,if_true,p1,h4,Result.andThen_ok,Sem.run_pure]
     exact h5
    ·simp at h
   ·simp at h
  ·simp at h
end
theorem b3h.of {t:TypeId} {d:Nat} {ls:List Lf} (h:pU P d t=some ls) (hg:P.eqGuardType P.depth t=false):b3h P d t ls :=
 ⟨hg,fun D hD Γ w x y a b r e ra rb h1 h2=>aNj d t ls h D hD w x y a b r e ra rb ⟨fun ha=>(h1 ha).1,fun ha=>(h2 ha).1⟩ ⟨fun ha=>(h1 ha).2,fun ha=>(h2 ha).2⟩⟩
theorem aW4.of {t:TypeId} {d:Nat} {ls:List Lf} {ag:Bool} {sz:Nat} (h:pU P d t=some ls) (ha:kG P t=some ag) (hs:sz=ls.length):aW4 P d t ag sz :=
 fun D hD em Γ w v x rv hok hag hna=>by
  refine aVh d t ls h D hD em w v x rv ⟨fun h0=>?_,fun h0=>?_⟩ (fun h0=>?_)
  ·rw [ha] at h0; simp at h0; exact a7p rv (hna h0) hok
  ·rw [ha] at h0; simp at h0; exact (hag h0).1
  ·rw [ha] at h0; simp at h0; rw [(hag h0).2,hs]
theorem cV.n {t:TypeId} {d:RTD} {sz cS:Nat} {ag:Bool} {z:Option (List RV)} (hd:aW3 P t d) (hs:dW P t=some sz) (ha:kG P t=some ag) (hb:jN P t=some cS)
  (hz:∀ z',z=some z'→∃ v,iS P t=some v∧v.cells=z'∧z'.length=sz∧(ag=true→v = .agg z')∧(ag=false→z'=[v])) (h1:ag=false→sz=1):cV P ⟨t,d,sz,ag,cS,z,none⟩ :=
 ⟨hd,hs,ha,hb,fun z' h=>let ⟨v,a,b,c,d,e⟩:=hz z' h; ⟨v,a,b,c,d,fun h=>⟨e h,h1 h⟩⟩,fun ls h=>by simp at h,h1,fun ls h=>by simp at h⟩
theorem cV.q {t:TypeId} {d:RTD} {sz cS:Nat} {ag:Bool} {z:Option (List RV)} {ls:List Lf} (hd:aW3 P t d) (hs:dW P t=some sz) (ha:kG P t=some ag) (hb:jN P t=some cS)
  (hz:∀ z',z=some z'→∃ v,iS P t=some v∧v.cells=z'∧z'.length=sz∧(ag=true→v = .agg z')∧(ag=false→z'=[v])) (h1:ag=false→sz=1) (he:pU P 20 t=some ls) (hg:P.eqGuardType P.depth t=false) (hl:sz=ls.length) :
  cV P ⟨t,d,sz,ag,cS,z,some ls⟩ :=
 ⟨hd,hs,ha,hb,fun z' h=>let ⟨v,a,b,c,d,e⟩:=hz z' h; ⟨v,a,b,c,d,fun h=>⟨e h,h1 h⟩⟩,fun ls' h=>by simp only [zzz] at h; subst h; exact .of he hg,h1,fun ls' h=>by simp only [zzz] at h; subst h; exact .of he ha hl⟩
theorem zA {t:TypeId} {sz:Nat} {z:List RV} {ag:Bool} (h:iS P t=some (.agg z)) (hl:z.length=sz) (ha:ag=true):∀ z',some z=some z'→∃ v,iS P t=some v∧v.cells=z'∧z'.length=sz∧(ag=true→v = .agg z')∧(ag=false→z'=[v]) :=
 fun z' e=>by simp only [zzz] at e; subst e; exact ⟨_,h,rfl,hl,fun _=>rfl,fun h=>by rw [ha] at h; simp at h⟩
theorem zS {t:TypeId} {v:RV} {ag:Bool} (h:iS P t=some v) (hc:v.cells=[v]) (ha:ag=false):∀ z',some [v]=some z'→∃ v,iS P t=some v∧v.cells=z'∧z'.length=1∧(ag=true→v = .agg z')∧(ag=false→z'=[v]) :=
 fun z' e=>by simp only [zzz] at e; subst e; exact ⟨_,h,hc,rfl,fun h=>by rw [ha] at h; simp at h,fun _=>rfl⟩
theorem b8a {l:List aV} (h:∀ ti ∈ l,cV P ti):fQ P (ofList (l.map fun ti=>(ti.t,ti))):=fun t ti hti=>by
 have:=aJ3 hti
 rw [List.mem_map] at this
 obtain ⟨ti',h1,h2⟩:=this
 simp at h2
 obtain ⟨rfl,rfl⟩:=h2
 exact ⟨h _ h1,rfl⟩
theorem b8b {l:List (Nat×FE)} (h:∀ p ∈ l,fW P p.1 p.2):aQx P (ofList l):=fun f fe hf=>h (f,fe) (aJ3 hf)
theorem all_nil {α:Type} {p:α→Prop} : ∀ a ∈ ([]:List α),p a:=fun _ h=>by simp at h
theorem all_cons {α:Type} {p:α→Prop} {a:α} {l:List α} (h:p a) (hl:∀ b ∈ l,p b):∀ b ∈ a::l,p b:=fun b hb=>by
 rcases List.mem_cons.1 hb with rfl | hb
 ·exact h
 ·exact hl b hb
end
end Go.Rx

/- Closed runs: what the printed tables use; what comes out. -/
namespace Go.Rx
def aT (f:Func):Code :=
 match f.body with
 | some c=>c
 | none=>.skip
def OR.isTrue:OR→Bool
 | .ok (.bool b) _=>b
 | _=>false
theorem b0p {o:OR} (h:o.isTrue=true):∃ H,o = .ok (.bool true) H:=by
 unfold OR.isTrue at h
 split at h
 ·subst h; exact ⟨_,rfl⟩
 ·simp at h
end Go.Rx

/- Closed runs: what a run answers,in the kit's words. -/
namespace Go.Rx
open Go.RowKit
def Grown (w w' : World) : Prop:=w.keptBut w' (fun _=>False) ∧ (∀ a : Addr,a.block < w.heap.size → w'.frozen? a = w.frozen? a) ∧ w.heap.size ≤ w'.heap.size
def aXp (w : World) (e : Ending) (w' : World) : Prop:=e = .returned (.bool true) ∧ Grown w w' ∧ ∀ i,i < w.heap.size → w'.heap[i]? = w.heap[i]?
theorem aDk {w w':World} {Γ Γ':Gm} {H H':HT} (x:Ext w.heap.size w.heap Γ w H Γ' w' H'):Grown w w':=by
 have same : ∀ i,i < w.heap.size → w'.heap[i]? = w.heap[i]?:=x.mem.old
 refine ⟨⟨x.kept.os,x.kept.output,fun i hi=>?_⟩,fun a ha=>by unfold World.frozen?; rw [same _ ha],x.kept.size⟩
 rw [same i hi]
 cases w.heap[i]? with
 | none=>rfl
 | some o=>cases o <;> simp
theorem aG7 {P : Program} {f : FuncId} {fn : Func} {c : Code} (hf : P.funcs[f]? = some fn) (hb : fn.body = some c) (hname : (fn.name == "runtime.NumGoroutine") = false) {args : List RV} {H1 : HT} (h : a2f P f args ⟨0, .e⟩ (.bool true) H1) (w : World) {xs : List Value} (hr : aC (fun _ => none) args xs) :
  Calls P f ⟨xs⟩ w (aXp w):=by
 have h8 : fn.name ≠ "runtime.NumGoroutine" := by simpa using hname
 have hcall:(callFunc f ⟨xs⟩).run P w = .ok (.enter f ⟨xs⟩) w:=by simp [callFunc,hf,hb,h8]
 have h:=h w.heap.size w.heap (fun _=>none) w xs (aNi _) hr
 rw [hcall] at h
 exact h.mono fun e w' ⟨x,Γ',he,hx,hv⟩=>⟨by cases hv; exact he,aDk hx,hx.mem.old⟩
theorem again {H:Type} {enc:TypeId×Value→H} {P:Program} {t:TypeId} (hl:laidOutB P=true) (hr:P.readableRec t=true) (hrow:t < P.types.size) {W W':World} {v:Value} {d:DataW H} {ps:List MemPlace}
  (h : DataW.Trod enc P W 0 (fun _=>true) true t v d ps) (hb : ∀ i,i < W.heap.size → W'.heap[i]? = W.heap[i]?) {sp : Nat → Bool} (hs : ∀ p ∈ ps,sp p.block = true) : DataW.Trod enc P W' 0 sp true t v d ps:=by
 obtain ⟨n,hn⟩:=h
 have hlt:=DataW.trod_lt n _ _ _ hn
 refine WideElems.Trod_stays hl hr hrow ⟨n,hn⟩ (fun p hp=>?_) hs
 cases p with
 | cell b o=>exact World.cell?_of_block (w:=W) (hb b (hlt _ hp))
 | map b=>exact hb b (hlt _ hp)
theorem aQz {H:Type} {enc:TypeId×Value→H} {P:Program} {f:Func} {s:ChangeSpec} {apart fresh handsOn back:Bool} {W W':World} {args:Array Value} {v:Value} {ds gs:List (DataW H)} {ps pa pv:List MemPlace}
  (hW:DataW.Whole enc P f.params.toList s.vars apart W args.toList ds gs ps)
  (hr:∀ (b:Nat) (sp:Nat→Bool) (hd:Bool),DataW.TrodAll enc P W' b sp hd f.resultTypes.toList (v.resultList f.resultTypes.size) (s.fn H (ds++gs)).results [])
  (ha:∀ sp:Nat→Bool,(∀ p ∈ ps,sp p.block=true)→DataW.TrodAll enc P W' 0 sp true f.params.toList args.toList (s.fn H (ds++gs)).args pa)
  (hv:∀ sp:Nat→Bool,(∀ p ∈ ps,sp p.block=true)→DataW.TrodVars enc P W' sp s.vars (s.fn H (ds++gs)).vars pv)
  (hp:ps=pa++pv) (hg:Grown W W')
  (ho : ∀ (j : Nat) (t : TypeId) (r : Value),f.resultTypes[j]? = some t → (v.resultList f.resultTypes.size)[j]? = some r → Value.okWide P W' .any 0 t r) :
  s.post enc P f apart fresh handsOn back W args v W':=by
 have low:∀ p ∈ ps,p.block < W.heap.size:=hW.lt
 have inB:∀ p ∈ ps,(fun b=>decide (b < W.heap.size)) p.block=true:=fun p h=>decide_eq_true (low p h)
 have same:ps=([]++pa)++pv:=by rw [List.nil_append]; exact hp
 refine ⟨ds,gs,ps,[],pa,pv,hW,hr _ _ _,ha _ inB,hv _ inB,World.keptBut_mono (fun _ h=>h.elim) hg.1,fun _=>?_⟩
 obtain ⟨_,_,_,_,_,nf,nd⟩:=hW
 refine ⟨ho,_,_,([]++pa)++pv,⟨[]++pa,pv,Go.ChangeShapes.trodAll_append (ha _ (fun _ _=>rfl)) (hr _ _ _),hv _ (fun _ _=>rfl),rfl,fun b off h=>?_,fun h=>?_⟩,fun p h _=>?_⟩
 ·rw [← same] at h
  rw [hg.2.1 ⟨b,off,none⟩ (low _ h)]
  exact nf b off h
 ·rw [← same]; exact nd h
 ·rw [← same] at h; exact h
section
variable {H:Type} {enc:TypeId×Value→H} {P:Program} {w:World} {base:Nat} {sp:Nat→Bool} {held:Bool} {r:Reach} {b0:Nat} {t:TypeId} {v:Value} {d:DataW H} {ps:List MemPlace}
theorem aVi {k:IntKind} (ht:P.underlying t=some (.int k)) (hval:Value.okWide P w r b0 t v) (hd:DataW.Trod enc P w base sp held t v d ps):∃ n:Int,v = .int k n∧(Lit.int k n).wf=true:=by
 obtain ⟨n,rfl,_,_,hw⟩:=Go.ChangeShapes.open_int ht hval hd
 exact ⟨n,rfl,hw⟩
end
theorem b8c {tt:T aV} {ft:T FE} {big d:Nat} {args:List RV} {H:HT} : aH7 tt ft big d Y0 args H = .bad:=by cases d <;> rfl
theorem bAo {P:Program} {tt:T aV} {ft:T FE} {big d:Nat} {f:FuncId} {args:List RV} (hT:fQ P tt) (hm:P.follows .mixedOrders=true) (hF:aQx P ft) (h:(aH7 tt ft big d f args ⟨0,.e⟩).isTrue=true) :
  ∃ H1,a2f P f args ⟨0,.e⟩ (.bool true) H1:=by
 obtain ⟨H1,h⟩:=b0p h
 refine ⟨H1,(aJ2 hT hm hF d f args _ _ H1 h).1 fun hf=>?_⟩
 subst hf
 rw [b8c] at h
 simp at h
end Go.Rx

/- Closed runs: the same evaluator,quicker: what a step takes is told by the one word that it looks at. -/
namespace Go.Rx
section
variable {β:Type}
noncomputable def b6o (v:RV) (d:β) (k:Nat→Nat→β):β:=match v with | .ptr l o=>k l o | _=>d
noncomputable def bDw (v:RV) (d:β) (k:IntKind→Int→β):β:=match v with | .int q n=>k q n | _=>d
noncomputable def aXq (v:RV) (d:β) (k:Sb→β):β:=match v with | .str s=>k s | _=>d
noncomputable def bHa (v:RV) (d:β) (z:β) (k:Nat→Nat→Nat→Nat→Option Nat→β):β:=match v with | .sl l o n s c=>k l o n s c | .slnil=>z | _=>d
noncomputable def bDx (v:RV) (d:β) (z:β) (k:Nat→Nat→Nat→Nat→Option Nat→β):β:=match v with | .sl l o n s c=>k l o n s c | .slnil=>z | .sle=>z | .slw l o n s=>k l o n s none | _=>d
noncomputable def bDy (v:RV) (d:β) (k:Nat→Nat→Nat→Nat→β):β:=match v with | .sl l o n s _=>k l o n s | .slw l o n s=>k l o n s | _=>d
noncomputable def b6p (v:RV) (d:β) (k:List RV→β):β:=match v with | .agg cs=>k cs | _=>d
noncomputable def dSt (v:RTD) (d:β) (k:List (Nat×TypeId)→β):β:=match v with | .st fs=>k fs | _=>d
noncomputable def bAp (v:RTD) (d:β) (k:TypeId→β) (a:Nat→TypeId→β):β:=match v with | .sl e=>k e | .arr n e=>a n e | _=>d
noncomputable def b8d (v:RTD) (d:β) (k:β) (a:Nat→TypeId→β):β:=match v with | .str=>k | .arr n e=>a n e | _=>d
noncomputable def b0q (v:RTD) (d:β) (k:β) (a:TypeId→β):β:=match v with | .str=>k | .sl e=>a e | _=>d
noncomputable def bAq (v:RTD) (d:β) (k:IntKind→β):β:=match v with | .int q=>k q | _=>d
end
inductive K4 where
 | int (k:IntKind) (n:Int) | str (s:Sb) | sym (s:Sy) | no | other
section
variable (tt:T aV)
noncomputable def a4i (t:TypeId) (x:RV) (f:Nat):Option RV :=
 cM tt t none fun ti=>dSt ti.d none fun fs=>b6o x none fun l off=>aF (lK fs f) none fun p=>cM tt p.2 none fun fi=>aH (Nat.ble 1 fi.sz) (dT (Nat.add off p.1) fun o=>some (.ptr l o)) none
noncomputable def aJ5 (t:TypeId) (x:RV) (f:Nat):Option RV :=
 cM tt t none fun ti=>dSt ti.d none fun fs=>b6p x none fun cs=>aF (lK fs f) none fun p=>cM tt p.2 none fun fi=>aFn fi cs p.1
noncomputable def a4j (t:TypeId) (x i:RV):Option RV :=
 cM tt t none fun ti=>bAp ti.d none
  (fun e=>bDy x none fun l off n sz=>cM tt e none fun ei=>aH (Nat.beq ei.sz sz) (uO i none fun m=>aH (Nat.blt m n) (dT (Nat.add off (Nat.mul m sz)) fun o=>some (.ptr l o)) none) none)
  (fun len e=>b6o x none fun l off=>cM tt e none fun ei=>uO i none fun m=>aH (Nat.blt m len) (aH (Nat.blt 1 len) (dT (Nat.add off (Nat.mul m ei.sz)) fun o=>some (.ptr l o)) none) none)
noncomputable def aJ6 (t:TypeId) (x i:RV):Option RV :=
 cM tt t none fun ti=>b8d ti.d none
  (aXq x none fun s=>uO i none fun n=>aH (Nat.blt n s.n) (dT (Nat.mod (Nat.shiftRight s.c (Nat.mul 8 n)) 256) fun b=>some (.int .u8 (.ofNat b))) none)
  (fun len e=>b6p x none fun cs=>cM tt e none fun ei=>uO i none fun n=>aH (Nat.blt n len) (aFn ei cs (Nat.mul n ei.sz)) none)
noncomputable def aQ0 (t:TypeId) (x:RV) (lo hi:Option RV):Option RV :=
 cM tt t none fun ti=>b0q ti.d none
  (aXq x none fun s=>pZ hi s.n s.n none fun h=>pZ lo 0 h none fun l=>aWy s l h fun r=>some (.str r))
  (fun e=>bHa x none (cM tt e none fun _=>pZ hi 0 0 none fun h=>pZ lo 0 h none fun _=>some .slnil)
   (fun b off n sz c=>cM tt e none fun ei=>aH (Nat.beq ei.sz sz)
    (pZ hi n (a3p c n) none fun h=>pZ lo 0 h none fun l =>
     dT (Nat.add off (Nat.mul l sz)) fun o=>dT (Nat.sub h l) fun m=>aOr c n l m fun c=>some (.sl b o m sz c)) none))
noncomputable def aQ1 (H:HT) (t:TypeId) (x:RV):Option RV :=
 cM tt t none fun ti=>b0q ti.d (a9k tt H t x) (aXq x none fun s=>some (.int .i64 (.ofNat s.n)))
  (fun _=>bDx x none (some (.int .i64 (.ofNat 0))) fun _ _ n _ _=>some (.int .i64 (.ofNat n)))
noncomputable def a1p (H:HT) (src dst:TypeId) (x:RV):OR :=
 cM tt src .bad fun si=>cM tt dst .bad fun di=>bAq si.d (j7 tt H src dst x) fun _=>bAq di.d .bad fun k=>bDw x .bad fun _ n=>a5j (wr k n) fun n=>.ok (.int k n) H
end
theorem a29 {β:Type} {tt:T aV} {t:TypeId} {d:β} {k k':aV→β} (h:∀ ti,tt.get t=some ti→k ti=k' ti):cM tt t d k=cM tt t d k':=by
 unfold cM
 cases hg:tt.get t with
 | none=>rfl
 | some ti=>exact h ti hg
theorem aOl (tt:T aV) (t:TypeId) (x:RV) (f:Nat):a4i tt t x f=kC tt t x f:=by
 unfold a4i kC
 refine a29 fun ti _=>?_
 obtain ⟨t',d,sz,ag,cS,z,eq⟩:=ti
 cases d <;> cases x <;> rfl
theorem b0r (tt:T aV) (t:TypeId) (x:RV) (f:Nat):aJ5 tt t x f=tZ tt t x f:=by
 unfold aJ5 tZ
 refine a29 fun ti _=>?_
 obtain ⟨t',d,sz,ag,cS,z,eq⟩:=ti
 cases d <;> cases x <;> rfl
theorem aOm (tt:T aV) (t:TypeId) (x i:RV):a4j tt t x i=iE tt t x i:=by
 unfold a4j iE
 refine a29 fun ti _=>?_
 obtain ⟨t',d,sz,ag,cS,z,eq⟩:=ti
 cases d <;> cases x <;> rfl
theorem b0s (tt:T aV) (t:TypeId) (x i:RV):aJ6 tt t x i=pW tt t x i:=by
 unfold aJ6 pW
 refine a29 fun ti _=>?_
 obtain ⟨t',d,sz,ag,cS,z,eq⟩:=ti
 cases d <;> cases x <;> rfl
theorem b0t (tt:T aV) (t:TypeId) (x:RV) (lo hi:Option RV):aQ0 tt t x lo hi=qV tt t x lo hi:=by
 unfold aQ0 qV
 refine a29 fun ti _=>?_
 obtain ⟨t',d,sz,ag,cS,z,eq⟩:=ti
 cases d <;> cases x <;> rfl
theorem a5o {β:Type} {tt:T aV} {t:TypeId} {d:β} {k:aV→β} {ti:aV} (h:tt.get t=some ti):cM tt t d k=k ti:=by
 unfold cM; rw [h]; rfl
theorem b8e (tt:T aV) (H:HT) (t:TypeId) (x:RV):aQ1 tt H t x=a9k tt H t x:=by
 cases hg:tt.get t with
 | none=>unfold aQ1 a9k cM; rw [hg]; rfl
 | some ti =>
  unfold aQ1
  rw [a5o hg]
  obtain ⟨t',d,sz,ag,cS,z,eq⟩:=ti
  cases d
  case str=>unfold a9k; rw [a5o hg]; cases x <;> rfl
  case sl e=>unfold a9k; rw [a5o hg]; cases x <;> rfl
  all_goals rfl
theorem aT6 (tt:T aV) (H:HT) (s d:TypeId) (x:RV):a1p tt H s d x=j7 tt H s d x:=by
 cases hs:tt.get s with
 | none=>unfold a1p j7 cM; rw [hs]; rfl
 | some si =>
  cases hd:tt.get d with
  | none=>unfold a1p j7 cM; rw [hs,hd]; rfl
  | some di =>
   unfold a1p
   rw [a5o hs,a5o hd]
   obtain ⟨t',d1,sz,ag,cS,z,eq⟩:=si
   obtain ⟨t2,d2,sz2,ag2,by2,z2,eq2⟩:=di
   cases d1
   case int k1 =>
    unfold j7
    rw [a5o hs,a5o hd]
    cases d2 <;> cases x <;> rfl
   all_goals rfl
noncomputable def aL6 (tt:T aV) (env:T RV) (H:HT) (t:TypeId) (x:Operand) (lo hi mx:Option Operand):OR :=
 match mx with
 | none=>fA env x fun u=>aF (qK env lo) .bad fun l=>aF (qK env hi) .bad fun h=>gX (aQ0 tt t u l h) H
 | some m=>a5m tt env H t x lo hi (some m)
theorem aXr {tt:T aV} {env:T RV} {H:HT} {t:TypeId} {x:Operand} {lo hi mx:Option Operand} : aL6 tt env H t x lo hi mx=a5m tt env H t x lo hi mx:=by
 unfold aL6 a5m
 cases mx with
 | none=>simp only [b0t]
 | some m=>rfl
noncomputable def b6q (k:TypeId→RV→OR) (ts:List TypeId) (vs:List RV):OR:=match ts,vs with | [t],[x]=>k t x | _,_=>.bad
noncomputable def b6r (k:TypeId→TypeId→RV→RV→OR) (ts:List TypeId) (vs:List RV):OR:=match ts,vs with | [t,u],[x,y]=>k t u x y | _,_=>.bad
noncomputable def app2 (tt:T aV) (H:HT) (t u:TypeId) (x y:RV):OR:=match x,y with | .slnil,.int _ (.ofNat n)=>aOt tt H t u n | _,_=>lB tt H t u x y
noncomputable def aH9 (tt:T aV) (b:Builtin) (ts:List TypeId) (vs:List RV) (H:HT):OR :=
 match b with
 | .len=>b6q (fun t x=>gX (aQ1 tt H t x) H) ts vs
 | .append=>b6r (app2 tt H) ts vs
 | b=>oK tt b ts vs H
theorem aT7 (tt:T aV) (b:Builtin) (ts:List TypeId) (vs:List RV) (H:HT):aH9 tt b ts vs H=oK tt b ts vs H:=by
 cases b
 case len =>
  show b6q (fun t x=>gX (aQ1 tt H t x) H) ts vs=_
  simp only [b8e]
  rcases ts with _ | ⟨t,_ | ⟨u,_ | ⟨q,ts⟩⟩⟩ <;> rcases vs with _ | ⟨x,_ | ⟨y,_ | ⟨z,vs⟩⟩⟩ <;> rfl
 case append =>
  show b6r (app2 tt H) ts vs=_
  rcases ts with _ | ⟨t,_ | ⟨u,_ | ⟨q,ts⟩⟩⟩ <;> rcases vs with _ | ⟨x,_ | ⟨y,_ | ⟨z,vs⟩⟩⟩ <;> rfl
 all_goals rfl
noncomputable def bAr (x:Operand) (tt:T aV) (C:dK) (env:T RV) (H:HT):OR:=gX (ev env x) H
noncomputable def b34 (x:Operand) (tt:T aV) (C:dK) (env:T RV) (H:HT):OR:=gX (ev env x) H
noncomputable def bAs (c:Operand) (a:Operand) (b:Operand) (tt:T aV) (C:dK) (env:T RV) (H:HT):OR:=ev3 env c a b fun c a b=>gX (aZ c a b) H
noncomputable def b8f (t:TypeId) (tt:T aV) (C:dK) (env:T RV) (H:HT):OR:=aQn tt H t
noncomputable def bDz (_u0:TypeId) (x:Operand) (tt:T aV) (C:dK) (env:T RV) (H:HT):OR:=fA env x fun v=>b3u H v
noncomputable def b8g (t:TypeId) (parts:Array (Nat×Operand)) (tt:T aV) (C:dK) (env:T RV) (H:HT):OR:=gX (y0 tt env t parts.toList) H
noncomputable def aQ2 (t:TypeId) (len:Nat) (parts:Array (Nat×Operand)) (tt:T aV) (C:dK) (env:T RV) (H:HT):OR:=nE tt env H t len parts.toList
noncomputable def b35 (t:TypeId) (m:Operand) (k:Operand) (x:Operand) (tt:T aV) (C:dK) (env:T RV) (H:HT):OR:=ev3 env m k x fun m k x=>xF tt H t m k x
noncomputable def bAt (t:TypeId) (x:Operand) (tt:T aV) (C:dK) (env:T RV) (H:HT):OR:=fA env x fun u=>aOv tt H t u
noncomputable def b8h (t:TypeId) (x:Operand) (y:Operand) (tt:T aV) (C:dK) (env:T RV) (H:HT):OR:=lO env x y fun u v=>a8p tt H t u v
def b8i (_:Nat) (_:T aV) (_:dK) (_:T RV) (_:HT):OR:=.bad
def b8j (_:Nat) (_:T aV) (_:dK) (_:T RV) (_:HT):OR:=.bad
noncomputable def aXs (x:Operand) (tt:T aV) (C:dK) (env:T RV) (H:HT):OR:=fA env x fun u=>gX (a7k u) H
noncomputable def b8k (op:BinOp) (t:TypeId) (x:Operand) (y:Operand) (_u4:TypeId) (tt:T aV) (_:dK) (env:T RV) (H:HT):OR:=lO env x y fun u v=>gX (aXk tt op t x y u v) H
noncomputable def bAu (op:UnOp) (_u1:TypeId) (x:Operand) (tt:T aV) (C:dK) (env:T RV) (H:HT):OR:=fA env x fun u=>gX (rU op u) H
noncomputable def b0u (src:TypeId) (dst:TypeId) (x:Operand) (tt:T aV) (C:dK) (env:T RV) (H:HT):OR:=fA env x fun u=>a1p tt H src dst u
def a8r (_:TypeId) (_:Operand) (_:T aV) (_:dK) (_:T RV) (_:HT):OR:=.bad
def aJ7 (_:TypeId) (_:Operand) (_:T aV) (_:dK) (_:T RV) (_:HT):OR:=.bad
noncomputable def aXt (fn:Fn) (first:(Array Operand)) (captured:(Array Operand)) (tt:T aV) (C:dK) (env:T RV) (H:HT):OR:=a26 env H fn first.toList captured.toList
noncomputable def b0v (t:TypeId) (r:(Option Operand)) (tt:T aV) (C:dK) (env:T RV) (H:HT):OR:=aH1 tt env H t r
def aXu (_:TypeId) (_:Operand) (_:T aV) (_:dK) (_:T RV) (_:HT):OR:=.bad
noncomputable def aT8 (t:TypeId) (l:Operand) (c:Operand) (tt:T aV) (C:dK) (env:T RV) (H:HT):OR:=lO env l c fun u v=>jA tt H t u v
noncomputable def b8l (t:TypeId) (x:Operand) (lo:(Option Operand)) (hi:(Option Operand)) (mx:(Option Operand)) (tt:T aV) (C:dK) (env:T RV) (H:HT):OR:=aL6 tt env H t x lo hi mx
noncomputable def aT9 (t:TypeId) (x:Operand) (f:Nat) (tt:T aV) (C:dK) (env:T RV) (H:HT):OR:=fA env x fun u=>gX (a4i tt t u f) H
noncomputable def b8m (t:TypeId) (x:Operand) (f:Nat) (tt:T aV) (C:dK) (env:T RV) (H:HT):OR:=fA env x fun u=>gX (aJ5 tt t u f) H
noncomputable def aUa (t:TypeId) (x:Operand) (i:Operand) (tt:T aV) (C:dK) (env:T RV) (H:HT):OR:=lO env x i fun u v=>gX (a4j tt t u v) H
noncomputable def b8n (t:TypeId) (x:Operand) (i:Operand) (tt:T aV) (C:dK) (env:T RV) (H:HT):OR:=lO env x i fun u v=>gX (aJ6 tt t u v) H
noncomputable def b36 (t:TypeId) (x:Operand) (i:Operand) (ok:Bool) (tt:T aV) (C:dK) (env:T RV) (H:HT):OR:=lO env x i fun u v=>gX (aFo tt H t u v ok) H
noncomputable def aUb (t:TypeId) (m:Operand) (k:Operand) (x:Operand) (tt:T aV) (C:dK) (env:T RV) (H:HT):OR:=ev3 env m k x fun m k x=>xF tt H t m k x
noncomputable def aXv (t:TypeId) (m:Operand) (k:Operand) (tt:T aV) (C:dK) (env:T RV) (H:HT):OR:=lO env m k fun m k=>a6o tt H t m k
noncomputable def aQ3 (_u0:TypeId) (m:Operand) (k:Operand) (x:Operand) (tt:T aV) (C:dK) (env:T RV) (H:HT):OR:=ev3 env m k x fun m k x=>a2d H m k x
noncomputable def b8o (t:TypeId) (x:Operand) (tt:T aV) (_:dK) (env:T RV) (H:HT):OR:=fA env x fun u=>aJm tt H t u
noncomputable def bAv (x:Operand) (s:Bool) (_:T aV) (_:dK) (env:T RV) (H:HT):OR:=fA env x fun u=>aOu H u s
noncomputable def b8p (x:Operand) (_:T aV) (_:dK) (env:T RV) (H:HT):OR:=fA env x fun u=>gX (aJn H u) H
def aQ4 (_:Operand) (_:TypeId) (_:TypeId) (_:Bool) (_:T aV) (_:dK) (_:T RV) (_:HT):OR:=.bad
noncomputable def b0w (x:Operand) (i:Nat) (tt:T aV) (C:dK) (env:T RV) (H:HT):OR:=fA env x fun u=>gX (aD u i) H
noncomputable def bAw (c:Call) (tt:T aV) (C:dK) (env:T RV) (H:HT):OR:=match c.callee with
   | .builtin b=>aF (gJ env c.args.toList) .bad fun vs=>aH9 tt b c.argTypes.toList vs H
   | .value f=>aXi C env f c.args.toList H
   | _=>.bad
def bHb (_:Call) (_:T aV) (_:dK) (_:T RV) (_:HT):OR:=.bad
def b8q (_:Call) (_:T aV) (_:dK) (_:T RV) (_:HT):OR:=.bad
def b8r (_:Operand) (_:T aV) (_:dK) (_:T RV) (_:HT):OR:=.bad
def bAx (_:Operand) (_:Operand) (_:T aV) (_:dK) (_:T RV) (_:HT):OR:=.bad
def bAy (_:TypeId) (_:Operand) (_:Bool) (_:T aV) (_:dK) (_:T RV) (_:HT):OR:=.bad
def b37 (_:(Array SelectCase)) (_:Bool) (_:T aV) (_:dK) (_:T RV) (_:HT):OR:=.bad
noncomputable def opF (tt:T aV) (C:dK) (env:T RV) (H:HT) (op:Op):OR :=
 @Op.rec (fun _=>T aV→dK→T RV→HT→OR) bAr b34 bAs b8f bDz b8g aQ2 b35 bAt b8h b8i b8j aXs b8k bAu b0u a8r aJ7 aXt b0v aXu aT8 b8l aT9 b8m aUa b8n b36 aUb aXv aQ3 b8o bAv b8p aQ4 b0w bAw bHb b8q b8r bAx bAy b37 op tt C env H
theorem bAz (tt:T aV) (C:dK) (env:T RV) (H:HT) (op:Op):opF tt C env H op=uB tt C env H op:=by
 cases op
 case binOp op t x y yt=>rfl
 case convert s d x=>show fA env x (fun u=>a1p tt H s d u)=fA env x fun u=>j7 tt H s d u; simp only [aT6]
 case fieldAddr t x f=>show fA env x (fun u=>gX (a4i tt t u f) H)=fA env x fun u=>gX (kC tt t u f) H; simp only [aOl]
 case field t x f=>show fA env x (fun u=>gX (aJ5 tt t u f) H)=fA env x fun u=>gX (tZ tt t u f) H; simp only [b0r]
 case indexAddr t x i=>show lO env x i (fun u v=>gX (a4j tt t u v) H)=lO env x i fun u v=>gX (iE tt t u v) H; simp only [aOm]
 case index t x i=>show lO env x i (fun u v=>gX (aJ6 tt t u v) H)=lO env x i fun u v=>gX (pW tt t u v) H; simp only [b0s]
 case slice t x lo hi mx=>exact aXr
 case call c =>
  obtain ⟨ce,args,ts⟩:=c
  cases ce with
  | builtin b=>show aF (gJ env args.toList) .bad (fun vs=>aH9 tt b ts.toList vs H)=aF (gJ env args.toList) .bad fun vs=>oK tt b ts.toList vs H; simp only [aT7]
  | value f=>rfl
  | invoke r m=>rfl
 all_goals rfl
section
variable (tt:T aV) (C:dK) (n:Nat)
noncomputable def yR (ops:List Oper) (env:T RV) (j:Nat) (want:Bool):Option Bool :=
 aF (lK ops j) none fun oj=>aF oj.dst none fun t=>aF (env.get t) none fun v=>match v with
  | .bool b=>some (aH b want (aH want false true))
  | .undef=>some false
  | _=>none
noncomputable def b38 (env:T RV) (dst:Option Tmp) (v:RV) (k:T RV→Out):Out :=
 @Option.rec Tmp (fun _=>Out) (k env) (fun t=>aH (Nat.blt t n) (T.gZ env t v k) .bad) dst
noncomputable def doF (o:Oper) (env:T RV) (H:HT) (k:T RV→HT→Out):Out :=
 @OR.rec (fun _=>Out) (fun v H=>b38 n env o.dst v fun env=>k env H) .bad (opF tt C env H o.op)
noncomputable def aXw (ops:List Oper) (o:Oper) (k:T RV→HT→Out) (env:T RV) (H:HT):Out :=
 @Option.rec (Nat×Bool) (fun _=>Out) (doF tt C n o env H k)
  (fun g=>aF (yR ops env g.1 g.2) .bad fun b=>aH b (doF tt C n o env H k) (b38 n env o.dst .undef fun env=>k env H)) o.guard
noncomputable def aL7 (ops rest:List Oper):T RV→HT→Out :=
 @List.rec Oper (fun _=>T RV→HT→Out) (fun env H=>.j4 env H) (fun o _ ih=>aXw tt C n ops o ih) rest
end
section
variable {tt:T aV} {C:dK} {n:Nat}
theorem aL8 (env:T RV) (dst:Option Tmp) (v:RV) (k:T RV→Out):b38 n env dst v k=eK n env dst v .bad k:=by cases dst <;> rfl
theorem aVj (ops:List Oper):∀ (rest:List Oper) (env:T RV) (H:HT),aL7 tt C n ops rest env H=opsV tt C n ops rest env H
 | [],env,H=>rfl
 | o::r,env,H=>by
  have ih:aL7 tt C n ops r=opsV tt C n ops r:=by funext env H; exact aVj ops r env H
  have h:aL7 tt C n ops (o::r) env H=aXw tt C n ops o (aL7 tt C n ops r) env H:=rfl
  rw [h,ih]
  simp only [opsV]
  have hdo:doF tt C n o env H (opsV tt C n ops r)=(match uB tt C env H o.op with
   | .ok v H=>eK n env o.dst v .bad fun env=>opsV tt C n ops r env H
   | .bad=>.bad):=by
   unfold doF
   rw [bAz]
   cases uB tt C env H o.op with
   | ok v H1=>exact aL8 env o.dst v _
   | bad=>rfl
  unfold aXw vH
  cases hg:o.guard with
  | none =>
   simp only [aP,aX]
   exact hdo
  | some g =>
   obtain ⟨j,want⟩:=g
   simp only
   show aF (yR ops env j want) Out.bad _=_
   unfold yR
   cases lK ops j with
   | none=>rfl
   | some oj =>
    simp only [aP]
    cases oj.dst with
    | none=>rfl
    | some t =>
     simp only [aP]
     cases env.get t with
     | none=>rfl
     | some v =>
      simp only [aP]
      cases v
      case bool b=>simp only [aP]; rw [hdo,aL8] <;> rfl
      case undef=>simp only [aP]; rw [hdo,aL8] <;> rfl
      all_goals rfl
noncomputable def bA0 {α:Type} (l:List α):Bool:=match l with | []=>true | _=>false
noncomputable def aJ8 (tt:T aV) (ops:List Oper):Bool:=aH (mQ false tt ops) (aH (bA0 (oX false tt ops)) (ops.all fun o=>!Nat.beq (cls false tt o) 2) false) false
theorem aJ9 {tt:T aV} {pc:Op→Option (Nat×List RV)} : ∀ {rest:List Oper} {H:HT},rest.all (fun o=>!Nat.beq (cls false tt o) 2)=true→xQ false tt pc rest H=some (rest.map fun _=>0,H)
 | [],H,_=>rfl
 | o::r,H,h=>by
  simp only [List.all_cons,zxz,Bool.not_eq_true'] at h
  simp only [xQ,h.1,bU]
  rw [aJ9 h.2]; rfl
theorem aKa {ops:List Oper} : ∀ {rest:List Oper} {ids:List Nat} {env:T RV} {H:HT},rest.all (fun o=>!Nat.beq (cls false tt o) 2)=true→ids.length=rest.length →
  (∃ env' H' Ms,opsV tt C n ops rest env H = .j4 env' H' ∧ oL false tt C n ops rest ids env H = .ok env' Ms ∧ Ms[kS false tt rest rest.length]? = some H') ∨ (opsV tt C n ops rest env H = .bad ∧ oL false tt C n ops rest ids env H = .bad)
 | [],ids,env,H,_,_=>.inl ⟨env,H,[H],rfl,rfl,rfl⟩
 | o::r,[],env,H,_,hl=>by simp at hl
 | o::r,id::ids,env,H,hc,hl=>by
  simp only [List.all_cons,zxz,Bool.not_eq_true'] at hc
  have hl:ids.length=r.length:=by simpa using hl
  simp only [opsV,oL,hc.1,bU]
  cases hw:vH ops env o with
  | none=>exact .inr ⟨rfl,rfl⟩
  | some b =>
   simp only [aP]
   have fin : ∀ (env1 : T RV) (H1 : HT),(eX false tt o = false → H1 = H) → (∃ env' H' Ms,opsV tt C n ops r env1 H1 = .j4 env' H' ∧ a0j H (eX false tt o) (oL false tt C n ops r ids env1 H1) = .ok env' Ms ∧ Ms[kS false tt (o :: r) (o :: r).length]? = some H') ∨
     (opsV tt C n ops r env1 H1 = .bad∧a0j H (eX false tt o) (oL false tt C n ops r ids env1 H1) = .bad):=by
    intro env1 H1 hs
    rcases aKa (ops:=ops) (rest:=r) (ids:=ids) (env:=env1) (H:=H1) hc.2 hl with ⟨env',H',Ms,h1,h2,h3⟩ | ⟨h1,h2⟩
    ·refine .inl ⟨env',H',if eX false tt o=true then H::Ms else Ms,h1,?_,?_⟩
     ·rw [h2]; simp only [a0j,cK]
     ·rw [zwx,qQ]
      by_cases h:eX false tt o=true
      ·rw [if_pos h,if_pos h,zvx]; exact h3
      ·rw [if_neg h,if_neg h]; exact h3
    ·exact .inr ⟨h1,by rw [h2]; rfl⟩
   have lay : ∀ (v : RV) (H1 : HT),(eX false tt o = false → H1 = H) → (∃ env' H' Ms,(eK n env o.dst v Out.bad fun env=>opsV tt C n ops r env H1) = .j4 env' H' ∧ (eK n env o.dst v aDc.bad fun env=>a0j H (eX false tt o) (oL false tt C n ops r ids env H1)) = .ok env' Ms ∧ Ms[kS false tt (o :: r) (o :: r).length]? = some H') ∨
     ((eK n env o.dst v Out.bad fun env=>opsV tt C n ops r env H1) = .bad∧(eK n env o.dst v aDc.bad fun env=>a0j H (eX false tt o) (oL false tt C n ops r ids env H1)) = .bad):=by
    intro v H1 hs
    unfold eK
    cases o.dst with
    | none=>exact fin env H1 hs
    | some t =>
     simp only
     rw [cK,cK]
     split
     ·rw [T.tJ,T.tJ]
      exact fin _ H1 hs
     ·exact .inr ⟨rfl,rfl⟩
   cases b with
   | true =>
    simp only [aX]
    cases ho:uB tt C env H o.op with
    | bad=>exact .inr ⟨rfl,rfl⟩
    | ok v H1 =>
     refine lay v H1 fun h=>?_
     have h2:cls false tt o≠3:=fun h3=>by rw [a45.2 h3] at h; simp at h
     have h4:cls false tt o≠2:=fun h5=>by rw [h5] at hc; simp at hc
     have:=aQr (wd:=false) (tt:=tt) o
     exact aH3 (wd:=false) (by omega) ho
   | false =>
    simp only [bU]
    exact lay .undef H fun _=>rfl
theorem b0x {ops:List Oper} (h:aJ8 tt ops=true) (env:T RV) (H:HT):yQ tt C n ops env H=opsV tt C n ops ops env H:=by
 unfold aJ8 at h
 rw [nW,nW] at h
 obtain ⟨h1,h2,h3⟩:=h
 have h2:oX false tt ops=[]:=by
  cases hp:oX false tt ops with
  | nil=>rfl
  | cons a l=>rw [hp] at h2; simp [bA0] at h2
 unfold yQ a2h aQt
 simp only [h1,aX,bU,aJ9 h3,aP]
 rcases aKa (tt:=tt) (C:=C) (n:=n) (ops:=ops) (rest:=ops) (ids:=ops.map fun _=>0) (env:=env) (H:=H) h3 (by simp) with ⟨env',H',Ms,e1,e2,e3⟩ | ⟨e1,e2⟩
 ·simp only [e2,h2,a3t,aX]
  rw [kD,e3,aP,e1]
 ·simp only [e2,e1]
noncomputable def b39 (tt:T aV) (C:dK) (n:Nat) (ops:List Oper) (draw:Bool) (env:T RV) (H:HT):Out :=
 aH draw (aH (aJ8 tt ops) (aL7 tt C n ops ops env H) (yQ tt C n ops env H)) (aL7 tt C n ops ops env H)
theorem b8s (ops:List Oper) (draw:Bool) (env:T RV) (H:HT):b39 tt C n ops draw env H=aH draw (yQ tt C n ops env H) (opsV tt C n ops ops env H):=by
 unfold b39
 rw [aVj]
 cases draw with
 | false=>rfl
 | true =>
  simp only [aX]
  cases hp:aJ8 tt ops with
  | false=>rfl
  | true=>rw [aX,b0x hp]
end
noncomputable def aOz (o:Out) (k:T RV→HT→Out):Out:=match o with | .j4 env H=>k env H | .ext id env H=>.ext id env H | .ret env H=>.ret env H | .bad=>.bad
noncomputable def b6t (v:RV) (x y:Out):Out:=match v with | .bool t=>aH t x y | _=>.bad
noncomputable def b0y (id:Nat) (o:Out):Out:=match o with | .j4 env H=>.j4 env H | .ext j env H=>aH (Nat.beq j id) (.j4 env H) (.ext j env H) | .ret env H=>.ret env H | .bad=>.bad
noncomputable def b0z (_:T aV) (_:dK) (_:Nat) (_:Nat) (env:T RV) (H:HT):Out:=.j4 env H
noncomputable def b4a (_:Nat) (ops:Array Oper) (draw:Bool) (tt:T aV) (C:dK) (n:Nat) (_:Nat) (env:T RV) (H:HT):Out:=b39 tt C n ops.toList draw env H
noncomputable def bD0 (_ _:Code) (ra rb:T aV→dK→Nat→Nat→T RV→HT→Out) (tt:T aV) (C:dK) (n big:Nat) (env:T RV) (H:HT):Out:=aOz (ra tt C n big env H) fun env H=>rb tt C n big env H
noncomputable def bA1 (c:Operand) (_ _:Code) (ra rb:T aV→dK→Nat→Nat→T RV→HT→Out) (tt:T aV) (C:dK) (n big:Nat) (env:T RV) (H:HT):Out:=aF (ev env c) .bad fun v=>b6t v (ra tt C n big env H) (rb tt C n big env H)
noncomputable def b8t (id:Nat) (_:Code) (rb:T aV→dK→Nat→Nat→T RV→HT→Out) (tt:T aV) (C:dK) (n big:Nat) (env:T RV) (H:HT):Out:=b0y id (rb tt C n big env H)
noncomputable def aO0 (f:T RV→HT→Out) (k:Nat):T RV→HT→Out :=
 @Nat.rec (fun _=>T RV→HT→Out) (fun _ _=>.bad) (fun _ ih env H=>aOz (f env H) ih) k
noncomputable def bA2 (_:Code) (rb:T aV→dK→Nat→Nat→T RV→HT→Out) (tt:T aV) (C:dK) (n big:Nat) (env:T RV) (H:HT):Out:=aO0 (rb tt C n big) big env H
noncomputable def bA3 (id:Nat) (_:T aV) (_:dK) (_ _:Nat) (env:T RV) (H:HT):Out:=.ext id env H
noncomputable def bD1 (_:T aV) (_:dK) (_ _:Nat) (env:T RV) (H:HT):Out:=.ret env H
noncomputable def aAc (c:Code):T aV→dK→Nat→Nat→T RV→HT→Out :=
 @Code.rec (fun _=>T aV→dK→Nat→Nat→T RV→HT→Out) b0z b4a bD0 bA1 b8t bA2
  (fun _ _ _ _ _ _ _ _ _ _ _ _=>.bad) bA3 (fun _ _ _ _ _ _ _ _=>.bad) (fun _=>b0z) (fun _ _ _ _ _ _ _=>.bad) bD1 (fun _ _ _ _ _ _ _=>.bad) c
theorem aQ5 (f:T RV→HT→Out):∀ (k:Nat),aO0 f k=a99 f k
 | 0=>rfl
 | k+1=>by
  funext env H
  show aOz (f env H) (aO0 f k)=(match f env H with | .j4 env H=>a99 f k env H | .ext id env H=>.ext id env H | .ret env H=>.ret env H | .bad=>.bad)
  rw [aQ5 f k]; rfl
theorem b8u (tt:T aV) (C:dK) (n big:Nat):∀ (c:Code),aAc c tt C n big=qB tt C n big c:=by
 intro c
 induction c with
 | region id ops draw=>funext env H; exact b8s ops.toList draw env H
 | seq x y ihx ihy =>
  funext env H
  show aOz (aAc x tt C n big env H) (fun env H=>aAc y tt C n big env H)=(match qB tt C n big x env H with | .j4 env H=>qB tt C n big y env H | .ext id env H=>.ext id env H | .ret env H=>.ret env H | .bad=>.bad)
  rw [ihx,ihy]; rfl
 | cond c x y ihx ihy =>
  funext env H
  show aF (ev env c) .bad (fun v=>b6t v (aAc x tt C n big env H) (aAc y tt C n big env H))=aF (ev env c) .bad (fun v=>match v with | .bool t=>aH t (qB tt C n big x env H) (qB tt C n big y env H) | _=>.bad)
  rw [ihx,ihy]; rfl
 | block id b ih =>
  funext env H
  show b0y id (aAc b tt C n big env H)=(match qB tt C n big b env H with | .j4 env H=>.j4 env H | .ext j env H=>aH (Nat.beq j id) (.j4 env H) (.ext j env H) | .ret env H=>.ret env H | .bad=>.bad)
  rw [ih]; rfl
 | loop b ih =>
  funext env H
  show aO0 (aAc b tt C n big) big env H=a99 (qB tt C n big b) big env H
  rw [ih,aQ5]
 | _=>rfl
noncomputable def bA4 (tt:T aV) (res:List ResultVar) (o:Out):OR:=match o with | .j4 env H=>sO tt res env H | .ret env H=>sO tt res env H | _=>.bad
noncomputable def feF (tt:T aV) (big:Nat) (C:dK) (fe:FE) (args:List RV) (H:HT):OR :=
 match fe with
 | .code n res c=>dT (dU args) fun k=>aH (Nat.ble k n) (nG args .e 0 fun env=>bA4 tt res (aAc c tt C n big env H)) .bad
 | .same=>a6v args H
 | .known b=>aJ1 b args H
 | .pure g=>gX (g args) H
 | .room e=>aOy e args H
noncomputable def aL9 (tt:T aV) (ft:T FE) (big:Nat) (d:Nat):dK :=
 @Nat.rec (fun _=>dK) (fun _ _ _=>.bad) (fun _ C f args H=>aH (Nat.beq f Y0) .bad (aF (ft.get f) .bad fun fe=>feF tt big C fe args H)) d
theorem aVk (tt:T aV) (ft:T FE) (big:Nat):∀ d,aL9 tt ft big d=aH7 tt ft big d
 | 0=>rfl
 | d+1=>by
  have ih:=aVk tt ft big d
  funext f args H
  show aH (Nat.beq f Y0) .bad (aF (ft.get f) .bad (fun fe=>feF tt big (aL9 tt ft big d) fe args H))=aH (Nat.beq f Y0) .bad (aF (ft.get f) .bad _)
  rw [ih]
  congr 2
  funext fe
  cases fe with
  | code n res c =>
   show dT (dU args) (fun k=>aH (Nat.ble k n) (nG args .e 0 fun env=>bA4 tt res (aAc c tt (aH7 tt ft big d) n big env H)) .bad)=_
   simp only [b8u]
   rfl
  | _=>rfl
end Go.Rx

/- Common texts: values, words, what they answer; no statement of the seat. -/
import Derived.Test.YtnmcilaebamncaaR1
import Derived.Maps.RangeRun
import Derived.Lib.UnsafeStr
import Derived.OrdersIn
import Derived.LoopNIn
import Derived.OwnWalkIn
import Derived.Test.YtnmcilaebamncaaR0
import Derived.LoopN
import Derived.Lib.Bytealg
import Derived.Room.MakeNoZero
import Derived.Carry
import Derived.ChangeMaps5
import Derived.OpenShut
set_option linter.unusedVariables false
set_option linter.unusedSimpArgs false
set_option linter.unusedSectionVars false
/- Closed runs: maps that are written. -/
namespace Go.Rx
section
variable {P:Program} {N:Nat} {h0:bX} {Γ : Gm} {w:World} {H H':HT} {tt:T bD} {n:Nat} {env:T RV} {a:Act}
theorem aR0 {t:TypeId} {v:RV} (m:Mem N h0 Γ w.heap H) (e:HT.a6a H (.map [] [] 0) (fun l H=>OR.ok (.map l) H) = .ok v H') :
  fV N h0 Γ w H ((do pure (.value (← Instr.makeMap t none)):Sem Next).run P w) v H':=by
 obtain ⟨H1,h1,h2⟩:=a3s H (.map [] [] 0) (fun l H=>OR.ok (.map l) H)
 rw [h1] at e
 simp at e
 obtain ⟨rfl,rfl⟩:=e
 refine ⟨.map (some w.heap.size),put Γ H.sz ⟨w.heap.size,0,0⟩,{ w with heap:=w.heap.push (.map #[] 0) },.inl ?_,aFg (o:=.map [] [] 0) (ob:=.map #[] 0) m ⟨[],by simp,aB.nil,aB.nil,rfl⟩ h2 rfl rfl rfl,?_⟩
 ·simp [Instr.makeMap,run_newObj]
 ·exact .map H.sz ⟨w.heap.size,0,0⟩ (by simp [put])
theorem aPf {t k e0:TypeId} (ht:P.underlying t=some (.map k e0)) {q:IntKind} {z:Int} {v:RV} (m:Mem N h0 Γ w.heap H) (e:HT.a6a H (.map [] [] 0) (fun l H=>OR.ok (.map l) H) = .ok v H') :
  fV N h0 Γ w H ((do pure (.value (← Instr.makeMap t (some (.int q z)))):Sem Next).run P w) v H':=by
 obtain ⟨H1,h1,h2⟩:=a3s H (.map [] [] 0) (fun l H=>OR.ok (.map l) H)
 rw [h1] at e
 simp at e
 obtain ⟨rfl,rfl⟩:=e
 refine ⟨.map (some w.heap.size),put Γ H.sz ⟨w.heap.size,0,0⟩,{ w with heap:=w.heap.push (.map #[] 0) },.inl ?_,aFg (o:=.map [] [] 0) (ob:=.map #[] 0) m ⟨[],by simp,aB.nil,aB.nil,rfl⟩ h2 rfl rfl rfl,?_⟩
 ·simp [Instr.makeMap,run_newObj,run_underlying ht,asInt,asIntOf]
 ·exact .map H.sz ⟨w.heap.size,0,0⟩ (by simp [put])
theorem aFh {β:Type} : ∀ (es:List (RV×RV)) (i:Nat) (e:RV×RV) (k:List (RV×RV)→β),aKk es i e k=k (es.set i e)
 | [],i,e,k=>rfl
 | x::es,0,e,k=>rfl
 | x::es,i+1,e,k=>by
  have:aKk (x::es) (i+1) e k=aKk es i e fun r=>k (x::r):=rfl
  rw [this,aFh es i e]; rfl
theorem aB.set {cs:List RV} {xs:List Value} (r:aB Γ cs xs) {i:Nat} {c:RV} {x:Value} (hc:aD Γ c x):aB Γ (cs.set i c) (xs.set i x):=by
 refine ⟨by simp [r.1],fun j d y h1 h2=>?_⟩
 rw [List.getElem?_set] at h1 h2
 rw [r.1] at h2
 split at h1
 ·rename_i hij
  rw [if_pos hij] at h2
  split at h1 <;> simp_all
 ·rename_i hij
  rw [if_neg hij] at h2
  exact r.2 j d y h1 h2
theorem aB.eraseIdx {cs:List RV} {xs:List Value} (r:aB Γ cs xs) (i:Nat):aB Γ (cs.eraseIdx i) (xs.eraseIdx i):=by
 rw [List.eraseIdx_eq_take_drop_succ,List.eraseIdx_eq_take_drop_succ]
 exact (r.take i).append (r.drop (i+1))
theorem a3v {α β:Type} (f:α→β) (l:List α) (j:Nat):(l.eraseIdx j).map f=(l.map f).eraseIdx j:=by
 rw [List.eraseIdx_eq_take_drop_succ,List.eraseIdx_eq_take_drop_succ,List.map_append,List.map_take,List.map_drop]
theorem map_set (m : Mem N h0 Γ w.heap H) {l : Nat} {p : Pl} {es es' : List (RV × RV)} {bs bs' : List Nat} {ck ck' : Nat} {en en' : List MapEntry} (hp : Γ l = some p) (ho : H.get l = some (.map es bs ck)) (hh : w.heap[p.b]? = some (.map ⟨en⟩ ck))
  (r1:aB Γ (es'.map (·.1)) (en'.map (·.key))) (r2:aB Γ (es'.map (·.2)) (en'.map (·.val))) (r3:en'.map (·.born)=bs') (hH:Upd H H' l (.map es' bs' ck')) :
  (setObj p.b (.map ⟨en'⟩ ck')).run P w = .ok () { w with heap:=w.heap.setIfInBounds p.b (.map ⟨en'⟩ ck') } ∧ Ext N h0 Γ w H Γ { w with heap:=w.heap.setIfInBounds p.b (.map ⟨en'⟩ ck') } H':=by
 have hlt:p.b < w.heap.size:=(Array.getElem?_eq_some_iff.1 hh).1
 refine ⟨by simp [setObj,Sem.run,hh],tR.refl Γ,?_,by rw [hH.1]; exact Nat.le_refl _,fun _ _ h=>h,rfl,rfl,by simp,aZa hh (by simp) rfl⟩
 refine a9l (o':=.map es' bs' ck') m hp ho rfl (by simp) (fun b hb=>?_) ⟨en',?_,r1,r2,r3⟩ hH
 ·simp only
  rw [Array.getElem?_setIfInBounds_ne (fun h=>hb h.symm)]
 ·simp only
  rw [Array.getElem?_setIfInBounds,if_pos rfl,if_pos hlt]
theorem aPg {l:Lf} {x y:RV} {xa ya:Value} (hk:a1e [l]=true) (e:eqC l x y=some true) (rx:aD Γ x xa) (ry:aD Γ y ya) (d:Nat):Instr.sameBits d ya xa=true:=by
 unfold eqC at e
 split at e
 ·rename_i p q
  obtain rfl:=jM rx; obtain rfl:=jM ry
  cases p <;> cases q <;> simp [bL,cD] at e <;> simp [Instr.sameBits]
 ·rename_i k p k' q
  obtain rfl:=bZ rx; obtain rfl:=bZ ry
  replace e:=cL e; obtain ⟨h1,e⟩:=e
  obtain rfl:=a3r.1 h1
  rw [yV] at e
  simp at e; subst e
  simp [Instr.sameBits]
 ·rename_i s s'
  obtain ⟨rfl,h1⟩:=iT rx; obtain ⟨rfl,h2⟩:=iT ry
  rw [a9k] at e
  simp at e
  rw [e]
  simp [Instr.sameBits,beq_toListBytes]
 ·obtain rfl:=lI rx; obtain rfl:=lI ry
  simp [Instr.sameBits]
 ·simp at e
 ·simp at e
 ·rename_i l1 o1 l2 o2
  obtain ⟨p1,h1,rfl⟩:=hZ rx
  obtain ⟨p2,h2,rfl⟩:=hZ ry
  replace e:=cL e; obtain ⟨h3,e⟩:=e
  obtain rfl:=Nat.eq_of_beq_eq_true h3
  simp at e
  subst e
  rw [h1] at h2; simp at h2; subst h2
  simp [Instr.sameBits]
 all_goals first | (simp [a1e] at hk; done) | (simp at e; done)
theorem aPh:∀ {ls:List Lf} {cs ds:List RV} {xs ys:List Value},a1e ls=true→qH ls cs ds=some true→aB Γ cs xs→aB Γ ds ys→∀ d,(ys.zip xs).all (fun p=>Instr.sameBits d p.1 p.2)=true∧ys.length=xs.length
 | [],cs,ds,xs,ys,hk,e,rx,ry,d=>by
  cases cs <;> cases ds <;> simp [qH] at e
  obtain rfl:=rx.lC; obtain rfl:=ry.lC
  simp
 | l::ls,cs,ds,xs,ys,hk,e,rx,ry,d=>by
  cases cs with
  | nil=>simp [qH] at e
  | cons c cs =>
   cases ds with
   | nil=>simp [qH] at e
   | cons c' ds =>
    obtain ⟨x,xs',rfl,r1,r2⟩:=rx.fP
    obtain ⟨y,ys',rfl,r3,r4⟩:=ry.fP
    simp only [qH] at e
    replace e:=aI e; obtain ⟨b,hb,e⟩:=e
    have hk1:a1e [l]=true∧a1e ls=true:=by
     cases l <;> simp only [a1e] at hk ⊢ <;> first | exact ⟨trivial,hk⟩ | (simp at hk)
    cases b with
    | false =>
     rw [cD] at e
     replace e:=aI e; obtain ⟨_,_,e⟩:=e
     simp at e
    | true =>
     rw [bL] at e
     obtain ⟨h1,h2⟩:=aPh hk1.2 e r2 r4 d
     have:=aPg hk1.1 hb r1 r3 d
     simp only [List.zip_cons_cons,List.all_cons,this,h1,List.length_cons,h2]
     exact ⟨rfl,trivial⟩
theorem b10 {ki:bD} {key k:RV} {ka kb:Value} {ls:List Lf} (hls:ki.eq=some ls) (hkl:a1e ls=true) (e:eqV ki key k=some true) (rk:aD Γ key ka) (rk':aD Γ k kb):Instr.sameBits 10000 kb ka=true:=by
 unfold eqV at e
 rw [hls,aP] at e
 replace e:=cL e; obtain ⟨hsh,e⟩:=e
 cases hag:ki.agg with
 | true =>
  rw [hag,bL] at hsh
  cases key <;> simp only [mS,bL,cD] at hsh <;> first | (simp at hsh; done) | skip
  cases k <;> first | (simp [mS] at hsh; done) | skip
  obtain ⟨xs,r1,_,rfl⟩:=nM rk
  obtain ⟨ys,r2,_,rfl⟩:=nM rk'
  obtain ⟨h1,h2⟩:=aPh hkl e r1 r2 9999
  unfold Instr.sameBits
  simp only [Bool.and_eq_true,beq_iff_eq]
  exact ⟨h2,h1⟩
 | false =>
  rw [hag,cD] at hsh
  have hx:mS key=false:=by cases hx:mS key with | false=>rfl | true=>rw [hx] at hsh; simp [bL,cD] at hsh
  have hy:mS k=false:=by cases hy:mS k with | false=>rfl | true=>rw [hx,hy] at hsh; simp [bL,cD] at hsh
  rw [xG hx,xG hy] at e
  obtain ⟨l,rfl,hc⟩:=aKm e
  exact aPg hkl hc rk rk' 10000
theorem aBb {en : List MapEntry} {j : Nat} {e' : MapEntry} (h6 : en[j]? = some e') (f : MapEntry → MapEntry) : (⟨en⟩ : Array MapEntry).modify j f = ⟨en.set j (f e')⟩:=by
 have hjl:j < en.length:=(List.getElem?_eq_some_iff.1 h6).1
 have hje:en[j]=e':=(List.getElem?_eq_some_iff.1 h6).2
 apply Array.ext_getElem?
 intro i
 rw [Array.getElem?_modify]
 simp only [List.getElem?_toArray,List.getElem?_set]
 by_cases hij:j=i
 ·subst hij
  simp [hjl,hje]
 ·simp [hij]
theorem aDx {ki:bD} {key k':RV} {ka kb:Value} (hkb:aA7 ki key=true) (h9:eqV ki key k'=some true) (rk:aD Γ key ka) (rk':aD Γ k' kb):(Instr.keyThatStays kb ka).run P w = .ok ka w:=by
 obtain ⟨⟨ls,hls,hkl⟩,_⟩:=aTs hkb
 have:Instr.sameBits 10000 kb ka=true:=b10 hls hkl h9 rk rk'
 simp [Instr.keyThatStays,this]
theorem aHd {en : List MapEntry} {j : Nat} {e' : MapEntry} (h6 : en[j]? = some e') (f : MapEntry → MapEntry) (hf : ∀ e,(f e).born = e.born) : (en.set j (f e')).map (·.born) = en.map (·.born):=by
 rw [List.map_set,hf]
 apply List.ext_getElem?
 intro i
 rw [List.getElem?_set]
 split
 ·rename_i hij; subst hij
  split
  ·simp [h6]
  ·rename_i hl; rw [List.getElem?_eq_none (by omega)]
 ·rfl
theorem a7e (hT:iK P tt) {t:TypeId} {x key u v:RV} {xa ka ua:Value} (m:Mem N h0 Γ w.heap H) (ra:aD Γ x xa) (rk:aD Γ key ka) (ru:aD Γ u ua) (e:xX tt H t x key u = .ok v H') :
  fV N h0 Γ w H ((do Instr.mapUpdate t xa ka ua; pure .skip:Sem Next).run P w) v H':=by
 unfold xX at e
 replace e:=dY e; obtain ⟨ti,hti,e⟩:=e
 obtain ⟨tok,rfl⟩:=hT _ _ hti
 have hd:=tok.d
 split at e
 ·rename_i kt e0 hdd
  rw [hdd] at hd
  have hd:P.underlying ti.t=some (.map kt e0):=hd
  replace e:=dY e; obtain ⟨ki,hki,e⟩:=e
  replace e:=dY e; obtain ⟨ei,hei,e⟩:=e
  replace e:=cA e; obtain ⟨hkb,e⟩:=e
  replace e:=cA e; obtain ⟨huk,e⟩:=e
  obtain ⟨kok,rfl⟩:=hT _ _ hki
  split at e
  ·rename_i l
   replace e:=bN e; obtain ⟨o,ho,e⟩:=e
   split at e
   ·rename_i es bs ck
    replace e:=bN e; obtain ⟨r,hr,e⟩:=e
    obtain ⟨p,hp,rfl⟩:=xY ra
    obtain ⟨en,hh,r1,r2,r3⟩:=m.obj l p _ hp ho
    obtain ⟨q,hq,hm⟩:=a26 (w:=w) kok rk r1 r2 hr
    have hck:=xH (w:=w) kok rk hkb false
    have hg:(getObj p.b).run P w = .ok (.map ⟨en⟩ ck) w:=by simp [getObj,Sem.run,hh]
    have hq':(Instr.findKey ki.t ka (⟨en⟩:Array MapEntry).toList).run P w = .ok q w:=hq
    cases r with
    | none =>
     rw [kP,oU,oU] at e
     obtain ⟨H1,h1,h2⟩:=hX H l (.map (es++[(key,u)]) (bs++[ck]) (Nat.succ ck)) (fun H=>OR.ok .undef H)
     rw [h1] at e
     simp at e
     obtain ⟨rfl,rfl⟩:=e
     obtain ⟨h3,h4⟩:=map_set (P:=P) (en':=en++[{ key:=ka,val:=ua,born:=ck }]) m hp ho hh (by simpa using r1.append (aB.cons rk aB.nil)) (by simpa using r2.append (aB.cons ru aB.nil)) (by simp [r3]) h2
     subst hm
     refine ⟨Go.undef,Γ,_,.inr ⟨?_,rfl⟩,h4,.undef⟩
     simp only [Instr.mapUpdate,Sem.run_bind,run_underlying hd,Result.andThen_ok,hg,hck,hq']
     have:(⟨en⟩:Array MapEntry).push { key:=ka,val:=ua,born:=ck } = ⟨en++[{ key:=ka,val:=ua,born:=ck }]⟩:=by simp
     rw [this,h3]
     rfl
    | some pr =>
     obtain ⟨j,old⟩:=pr
     rw [aP,aFh] at e
     obtain ⟨H1,h1,h2⟩:=hX H l (.map (es.set j (key,u)) bs ck) (fun H=>OR.ok .undef H)
     rw [h1] at e
     simp at e
     obtain ⟨rfl,rfl⟩:=e
     obtain ⟨y,e',rfl,h5,h6,h7,k',h8,h9⟩:=hm
     obtain ⟨h3,h4⟩:=map_set (P:=P) (en':=en.set j { e' with key:=ka,val:=ua }) m hp ho hh
      (by rw [List.map_set,List.map_set]; exact r1.set rk) (by rw [List.map_set,List.map_set]; exact r2.set ru) (by rw [← r3]; exact aHd h6 (fun e=>{ e with key:=ka,val:=ua }) (fun _=>rfl)) h2
     have hks:=aDx (P:=P) (w:=w) hkb h9 rk (r1.2 j k' e'.key (by simp [h8]) (by simp [h6]))
     refine ⟨Go.undef,Γ,_,.inr ⟨?_,rfl⟩,h4,.undef⟩
     simp only [Instr.mapUpdate,Sem.run_bind,run_underlying hd,Result.andThen_ok,hg,hck,hq']
     have hget:((((⟨en⟩:Array MapEntry)[j]?).map (·.key)).getD ka)=e'.key:=by simp [h6]
     simp only [hget,hks,Sem.run_bind,Result.andThen_ok]
     rw [aBb h6,h3]
     rfl
   ·simp at e
  ·simp at e
 ·simp at e
theorem aKq (hT:iK P tt) {t:TypeId} {x key v:RV} {xa ka:Value} (m:Mem N h0 Γ w.heap H) (ra:aD Γ x xa) (rk:aD Γ key ka) (e:a7a tt H t x key = .ok v H') :
  fV N h0 Γ w H ((do pure (.value (← Instr.mapEntry t xa ka)):Sem Next).run P w) v H':=by
 unfold a7a at e
 replace e:=dY e; obtain ⟨ti,hti,e⟩:=e
 obtain ⟨tok,rfl⟩:=hT _ _ hti
 have hd:=tok.d
 split at e
 ·rename_i kt e0 hdd
  rw [hdd] at hd
  have hd:P.underlying ti.t=some (.map kt e0):=hd
  replace e:=dY e; obtain ⟨ki,hki,e⟩:=e
  replace e:=dY e; obtain ⟨ei,hei,e⟩:=e
  replace e:=bN e; obtain ⟨z,hz,e⟩:=e
  replace e:=cA e; obtain ⟨hkb,e⟩:=e
  obtain ⟨kok,rfl⟩:=hT _ _ hki
  obtain ⟨eok,rfl⟩:=hT _ _ hei
  obtain ⟨x0,h6z,h7z,_⟩:=aLu (P:=P) (w:=w) (Γ:=Γ) eok hz
  split at e
  ·rename_i l
   replace e:=bN e; obtain ⟨o,ho,e⟩:=e
   split at e
   ·rename_i es bs ck
    replace e:=bN e; obtain ⟨r,hr,e⟩:=e
    obtain ⟨p,hp,rfl⟩:=xY ra
    obtain ⟨en,hh,r1,r2,r3⟩:=m.obj l p _ hp ho
    obtain ⟨q,hq,hm⟩:=a26 (w:=w) kok rk r1 r2 hr
    have hck:=xH (w:=w) kok rk hkb false
    have hg:(getObj p.b).run P w = .ok (.map ⟨en⟩ ck) w:=by simp [getObj,Sem.run,hh]
    have hq':(Instr.findKey ki.t ka (⟨en⟩:Array MapEntry).toList).run P w = .ok q w:=hq
    cases r with
    | none =>
     rw [kP,oU,oU] at e
     obtain ⟨H1,h1,h2⟩:=hX H l (.map (es++[(key,z)]) (bs++[ck]) (Nat.succ ck)) (fun H=>OR.ok (.aG [z,.int .i64 (.ofNat ck)]) H)
     rw [h1] at e
     simp at e
     obtain ⟨rfl,rfl⟩:=e
     obtain ⟨h3,h4⟩:=map_set (P:=P) (en':=en++[{ key:=ka,val:=x0,born:=ck }]) m hp ho hh (by simpa using r1.append (aB.cons rk aB.nil)) (by simpa using r2.append (aB.cons h7z aB.nil)) (by simp [r3]) h2
     subst hm
     refine ⟨.tuple #[x0,goInt ck],Γ,_,.inl ?_,h4,.aG _ [x0,goInt ck] rfl (aB.cons h7z (aB.cons (.int _ _) aB.nil)).2⟩
     simp only [Instr.mapEntry,Sem.run_bind,run_underlying hd,Result.andThen_ok,hg,hck,hq',h6z]
     have:(⟨en⟩:Array MapEntry).push { key:=ka,val:=x0,born:=ck } = ⟨en++[{ key:=ka,val:=x0,born:=ck }]⟩:=by simp
     rw [this,h3]
     rfl
    | some pr =>
     obtain ⟨j,old⟩:=pr
     rw [aP] at e
     replace e:=bN e; obtain ⟨bb,hbb,e⟩:=e
     rw [aFh] at e
     obtain ⟨H1,h1,h2⟩:=hX H l (.map (es.set j (key,old)) bs ck) (fun H=>OR.ok (.aG [old,.int .i64 (.ofNat bb)]) H)
     rw [h1] at e
     simp at e
     obtain ⟨rfl,rfl⟩:=e
     obtain ⟨y,e',rfl,h5,h6,h7,k',h8,h9⟩:=hm
     have hb':bb=e'.born:=by
      rw [lD,← r3,List.getElem?_map,h6] at hbb
      simpa using hbb.symm
     obtain ⟨h3,h4⟩:=map_set (P:=P) (en':=en.set j { e' with key:=ka }) m hp ho hh
      (by rw [List.map_set,List.map_set]; exact r1.set rk) (by rw [List.map_set,List.map_set,h7]; exact r2.set h5) (by rw [← r3]; exact aHd h6 (fun e=>{ e with key:=ka }) (fun _=>rfl)) h2
     have hks:=aDx (P:=P) (w:=w) hkb h9 rk (r1.2 j k' e'.key (by simp [h8]) (by simp [h6]))
     refine ⟨.tuple #[y,goInt bb],Γ,_,.inl ?_,h4,.aG _ [y,goInt bb] rfl (aB.cons h5 (aB.cons (.int _ _) aB.nil)).2⟩
     simp only [Instr.mapEntry,Sem.run_bind,run_underlying hd,Result.andThen_ok,hg,hck,hq']
     have hget:((((⟨en⟩:Array MapEntry)[j]?).map (·.key)).getD ka)=e'.key:=by simp [h6]
     simp only [hget,hks,Sem.run_bind,Result.andThen_ok]
     rw [aBb h6,h3]
     simp [h6,hb']
   ·simp at e
  ·simp at e
 ·simp at e
theorem aBc {b : Nat} : ∀ {bs : List Nat} {i j : Nat},idxOf b bs i = some j → i ≤ j ∧ bs[j - i]? = some b ∧ ∀ k,k < j - i → bs[k]? ≠ some b
 | [],i,j,e=>by simp [idxOf] at e
 | x::r,i,j,e=>by
  simp only [idxOf] at e
  rw [cP] at e
  split at e
  ·rename_i h
   simp at e; subst e
   have:=Nat.eq_of_beq_eq_true h
   simp [this]
  ·rename_i h
   obtain ⟨h1,h2,h3⟩:=aBc e
   refine ⟨by omega,?_,fun k hk=>?_⟩
   ·rw [show j - i=(j - Nat.succ i)+1 by omega,List.getElem?_cons_succ]; exact h2
   ·cases k with
    | zero=>intro hx; simp at hx; exact h (by rw [hx]; simp)
    | succ k=>rw [List.getElem?_cons_succ]; exact h3 k (by omega)
theorem aHe {t:TypeId} {x st u v:RV} {xa sa ua:Value} (m:Mem N h0 Γ w.heap H) (ra:aD Γ x xa) (rs:aD Γ st sa) (ru:aD Γ u ua) (e:a25 H x st u = .ok v H') :
  fV N h0 Γ w H ((do Instr.entryStore t xa sa ua; pure .skip:Sem Next).run P w) v H':=by
 unfold a25 at e
 split at e
 ·rename_i l k b
  obtain rfl:=bZ rs
  replace e:=bN e; obtain ⟨o,ho,e⟩:=e
  split at e
  ·rename_i es bs ck
   replace e:=bN e; obtain ⟨i,hi,e⟩:=e
   replace e:=bN e; obtain ⟨e0,he0,e⟩:=e
   replace e:=cA e; obtain ⟨huk,e⟩:=e
   rw [aFh] at e
   obtain ⟨p,hp,rfl⟩:=xY ra
   obtain ⟨en,hh,r1,r2,r3⟩:=m.obj l p _ hp ho
   obtain ⟨_,hb1,hb2⟩:=aBc hi
   simp only [Nat.sub_zero] at hb1 hb2
   rw [← r3,List.getElem?_map,Option.map_eq_some_iff] at hb1
   obtain ⟨e',h6,hborn⟩:=hb1
   rw [lD] at he0
   obtain ⟨H1,h1,h2⟩:=hX H l (.map (es.set i (e0.1,u)) bs ck) (fun H=>OR.ok .undef H)
   rw [h1] at e
   simp at e
   obtain ⟨rfl,rfl⟩:=e
   obtain ⟨h3,h4⟩:=map_set (P:=P) (en':=en.set i { e' with val:=ua }) m hp ho hh
    (by rw [List.map_set,List.map_set]; exact r1.set (r1.2 i e0.1 e'.key (by simp [he0]) (by simp [h6]))) (by rw [List.map_set,List.map_set]; exact r2.set ru) (by rw [← r3]; exact aHd h6 (fun e=>{ e with val:=ua }) (fun _=>rfl)) h2
   have hg:(getObj p.b).run P w = .ok (.map ⟨en⟩ ck) w:=by simp [getObj,Sem.run,hh]
   have hfind : (⟨en⟩ : Array MapEntry).findIdx? (fun e=>(e.born : Int) == Int.ofNat b) = some i:=by
    rw [Array.findIdx?_eq_some_iff_getElem]
    have hil:i < en.length:=(List.getElem?_eq_some_iff.1 h6).1
    have hie:en[i]=e':=(List.getElem?_eq_some_iff.1 h6).2
    refine ⟨hil,by simp [hie,hborn],fun j hj=>?_⟩
    have:=hb2 j hj
    rw [← r3,List.getElem?_map,List.getElem?_eq_getElem (show j < en.length by omega)] at this
    simp at this ⊢
    omega
   refine ⟨Go.undef,Γ,_,.inr ⟨?_,rfl⟩,h4,.undef⟩
   simp only [Instr.entryStore,Sem.run_bind,hg,Result.andThen_ok,asInt,asIntOf,Sem.run_pure,hfind]
   rw [aBb h6,h3]
   rfl
  ·simp at e
 ·simp at e
theorem aR1 (hT:iK P tt) {t:TypeId} {x v:RV} {xa:Value} (m:Mem N h0 Γ w.heap H) (ra:aD Γ x xa) (e:aIr tt H t x = .ok v H') :
  fV N h0 Γ w H ((do pure (.value (← Instr.range t xa)):Sem Next).run P w) v H':=by
 unfold aIr at e
 replace e:=dY e; obtain ⟨ti,hti,e⟩:=e
 obtain ⟨tok,rfl⟩:=hT _ _ hti
 have hd:=tok.d
 split at e
 ·rename_i kt e0 hdd
  rw [hdd] at hd
  have hd:P.underlying ti.t=some (.map kt e0):=hd
  split at e
  ·rename_i l
   replace e:=bN e; obtain ⟨o,ho,e⟩:=e
   split at e
   ·rename_i es bs ck
    obtain ⟨p,hp,rfl⟩:=xY ra
    obtain ⟨en,hh,r1,r2,r3⟩:=m.obj l p _ hp ho
    have hg:(getObj p.b).run P w = .ok (.map ⟨en⟩ ck) w:=by simp [getObj,Sem.run,hh]
    obtain ⟨H1,h1,h2⟩:=a3s H (.a1c l ck [] ck) (fun l H=>OR.ok (.ptr l 0) H)
    rw [h1] at e
    simp only [OR.ok.injEq] at e
    obtain ⟨rfl,rfl⟩:=e
    have hb:p.b < w.heap.size:=m.cV l p hp
    have hne:l≠H.sz:=fun h=>by have:=m.lt l p hp; omega
    refine ⟨.pointer (some ⟨w.heap.size,0,none⟩),put Γ H.sz ⟨w.heap.size,0,0⟩,{ w with heap:=w.heap.push (.mapIter (some p.b) ck #[] ck) },.inl ?_,aFg (o:=.a1c l ck [] ck) (ob:=.mapIter (some p.b) ck #[] ck) m ⟨p,?_,by simp,rfl⟩ h2 rfl rfl rfl,?_⟩
    ·simp [Instr.range,run_underlying hd,Sem.run_bind,hg,run_newObj]
    ·simp [put,hne,hp]
    ·exact .ptr H.sz 0 ⟨w.heap.size,0,0⟩ (by simp [put])
   ·simp at e
  ·simp at e
 ·simp at e
theorem aTt (b:Nat):∀ (l:List Nat),l3 b l=l.contains b
 | []=>rfl
 | x::r=>by
  have ih:=aTt b r
  show aJ (Nat.beq x b) true (l3 b r)=_
  rw [ih,List.contains_cons]
  cases h:Nat.beq x b with
  | true=>rw [bDm.1 h]; simp [bL]
  | false =>
   have:(b == x)=false:=by
    rw [beq_eq_false_iff_ne]
    intro e; rw [e] at h; simp at h
   simp [cD,this]
where bDm {a b:Nat} : Nat.beq a b=true↔a=b:=by rw [Nat.beq_eq]
theorem aIy (n:Nat):∀ {l:List Nat},aVr n l=true→∀ x ∈ l,x < n
 | [],_,x,h=>by simp at h
 | y::r,e,x,h=>by
  have e:aJ (Nat.blt y n) (aVr n r) false=true:=e
  rw [cP] at e
  split at e
  ·rename_i hy
   rw [Nat.blt_eq] at hy
   rcases List.mem_cons.1 h with rfl | h
   ·exact hy
   ·exact aIy n e x h
  ·simp at e
theorem aIz (seen:List Nat):∀ {es:List (RV×RV)} {en:List MapEntry},es.length=en.length →
  (a7b seen (en.map (·.born)) es).map (·.1)=(en.filter fun e=>!seen.contains e.born).map (·.born) ∧
  ∀ p ∈ a7b seen (en.map (·.born)) es,∃ (i : Nat) (e : MapEntry),en[i]? = some e ∧ es[i]? = some p.2 ∧ e.born = p.1 ∧ e ∈ en.filter fun e=>!seen.contains e.born
 | [],[],_=>⟨rfl,fun p h=>by simp [a7b] at h⟩
 | [],_::_,h=>by simp at h
 | _::_,[],h=>by simp at h
 | x::es,y::en,h=>by
  obtain ⟨h1,h2⟩:=aIz seen (es:=es) (en:=en) (by simpa using h)
  simp only [List.map_cons,a7b,aTt]
  cases hc:seen.contains y.born with
  | true =>
   have hf:(y::en).filter (fun e=>!seen.contains e.born)=en.filter fun e=>!seen.contains e.born:=by simp only [List.filter_cons,hc,Bool.not_true,Bool.false_eq_true,if_false]
   rw [bL,hf]
   refine ⟨h1,fun p hp=>?_⟩
   obtain ⟨i,e,g1,g2,g3,g4⟩:=h2 p hp
   exact ⟨i+1,e,by simpa using g1,by simpa using g2,g3,g4⟩
  | false =>
   have hf:(y::en).filter (fun e=>!seen.contains e.born)=y::en.filter fun e=>!seen.contains e.born:=by simp only [List.filter_cons,hc,Bool.not_false,if_true]
   rw [cD,hf]
   refine ⟨by rw [List.map_cons,List.map_cons,h1],fun p hp=>?_⟩
   rcases List.mem_cons.1 hp with rfl | hp
   ·exact ⟨0,y,rfl,rfl,rfl,by simp⟩
   ·obtain ⟨i,e,g1,g2,g3,g4⟩:=h2 p hp
    exact ⟨i+1,e,by simpa using g1,by simpa using g2,g3,List.mem_cons_of_mem _ g4⟩
theorem aV6 {ty:TypeId} {x v:RV} {xa:Value} {str:Bool} (m:Mem N h0 Γ w.heap H) (ra:aD Γ x xa) (e:aM1 H x str = .ok v H') :
  fV N h0 Γ w H ((do pure (.value (← Instr.next xa str ty)):Sem Next).run P w) v H':=by
 unfold aM1 at e
 cases str with
 | true=>rw [bL] at e; simp at e
 | false =>
 rw [cD] at e
 split at e
 ·rename_i l off
  replace e:=cA e; obtain ⟨h0,e⟩:=e
  rw [Nat.beq_eq] at h0
  subst h0
  replace e:=bN e; obtain ⟨o,ho,e⟩:=e
  split at e
  ·rename_i lm since seen last
   replace e:=bN e; obtain ⟨o2,ho2,e⟩:=e
   split at e
   ·rename_i es bs ck
    replace e:=cA e; obtain ⟨hlt,e⟩:=e
    replace e:=cA e; obtain ⟨hle,e⟩:=e
    have hle:=Nat.le_of_ble_eq_true hle
    obtain ⟨p,hp,rfl⟩:=hZ ra
    obtain ⟨q,hq,hh,hb⟩:=m.obj l p _ hp ho
    obtain ⟨en,hm,r1,r2,r3⟩:=m.obj lm q _ hq ho2
    subst r3
    have hlen:es.length=en.length:=by have:=r1.1; simpa using this.symm
    obtain ⟨l1,l2⟩:=aIz seen hlen
    have hlt:=aIy since hlt
    have hold:∀ y ∈ (⟨en⟩:Array MapEntry).toList,y.born < since:=fun y hy=>hlt _ (List.mem_map.2 ⟨y,hy,rfl⟩)
    have hbase:p.base+0=0:=by omega
    have hleft:(leftOf ⟨en⟩ ⟨seen⟩).toList=en.filter fun e=>!seen.contains e.born:=by
     unfold leftOf; simp
    rcases run_next_at (P:=P) w ty p.b q.b since last ⟨seen⟩ ⟨en⟩ ck hh hm hold hle with ⟨h4,h5⟩ | ⟨y,hy,w1,hw1,h5⟩
    ·have hn:a7b seen (en.map (·.born)) es=[]:=by
      have h6:(en.filter fun e=>!seen.contains e.born)=[]:=by rw [← hleft]; simpa using h4
      rw [h6] at l1
      simpa using l1
     rw [hn] at e
     simp only [OR.ok.injEq] at e
     obtain ⟨rfl,rfl⟩:=e
     refine fV.same (y:=.tuple #[.bool false]) ?_ m (.aG _ [.bool false] rfl (aB.cons (.bool _) aB.nil).2)
     rw [hbase]
     simp [h5]
    ·split at e
     ·rename_i hn
      rw [hn] at l1
      have:(en.filter fun e=>!seen.contains e.born)=[]:=by simpa using l1.symm
      rw [hleft,this] at hy
      simp at hy
     ·rename_i pr hn
      have hone:∃ z,(en.filter fun e=>!seen.contains e.born)=[z]∧z.born=pr.1:=by
       rw [hn] at l1
       cases hf:(en.filter fun e=>!seen.contains e.born) with
       | nil=>rw [hf] at l1; simp at l1
       | cons z zs=>rw [hf] at l1; simp at l1; exact ⟨z,by rw [l1.2],l1.1.symm⟩
      obtain ⟨z,hz,hzb⟩:=hone
      rw [hleft,hz] at hy
      have hyz:y=z:=by simpa using hy
      subst hyz
      obtain ⟨i,e1,g1,g2,g3,g4⟩:=l2 pr (by rw [hn]; simp)
      rw [hz] at g4
      have he1:e1=y:=by simpa using g4
      subst he1
      obtain ⟨k,vv⟩:=pr.2
      rw [oU] at e
      obtain ⟨H1,h6,h7⟩:=hX H l (.a1c lm since (seen++[pr.1]) ck) (fun H=>OR.ok (.aG [.bool true,pr.2.1,pr.2.2]) H)
      rw [h6] at e
      simp only [OR.ok.injEq] at e
      obtain ⟨rfl,rfl⟩:=e
      have rk:aD Γ pr.2.1 e1.key:=r1.2 i _ _ (by simp [g2]) (by simp [g1])
      have rv:aD Γ pr.2.2 e1.val:=r2.2 i _ _ (by simp [g2]) (by simp [g1])
      have hlt2:p.b < w.heap.size:=m.cV l p hp
      have hw1h:w1.heap=w.heap∧w1.os=w.os∧w1.output=w.output:=by
       rcases hw1 with rfl | rfl
       ·exact ⟨rfl,rfl,rfl⟩
       ·exact ⟨rfl,rfl,rfl⟩
      refine ⟨.tuple #[.bool true,e1.key,e1.val],Γ,_,.inl (by rw [hbase]; simp [h5]; rfl),?_,.aG _ [.bool true,e1.key,e1.val] rfl (aB.cons (.bool _) (aB.cons rk (aB.cons rv aB.nil))).2⟩
      refine ⟨tR.refl Γ,?_,by rw [h7.1]; exact Nat.le_refl _,fun _ _ h=>h,hw1h.2.1,hw1h.2.2,by simp [ChangeMaps.setBlock,hw1h.1],aZa (o':=.mapIter (some q.b) since ((⟨seen⟩:Array Nat).push e1.born) ck) hh (by simp) (by simp only [ChangeMaps.setBlock,hw1h.1]; simp)⟩
      refine a9l (o':=.a1c lm since (seen++[pr.1]) ck) m hp ho rfl (by simp [ChangeMaps.setBlock,hw1h.1]) (fun b hb2=>?_) ⟨q,hq,?_,hb⟩ h7
      ·simp only [ChangeMaps.setBlock,hw1h.1]
       rw [Array.getElem?_setIfInBounds_ne (fun h=>hb2 h.symm)]
      ·simp only [ChangeMaps.setBlock,hw1h.1]
       rw [Array.getElem?_setIfInBounds,if_pos rfl,if_pos hlt2,hzb]
     ·simp at e
   ·simp at e
  ·simp at e
 ·simp at e
theorem aPi:∀ (l:List Nat),aVs l=l.getLast?
 | []=>rfl
 | x::r=>by
  have ih:=aPi r
  show aF (aVs r) (some x) some=_
  rw [ih]
  cases r with
  | nil=>rfl
  | cons y r =>
   rw [List.getLast?_cons_cons]
   cases h : (y :: r).getLast? with
   | none=>simp at h
   | some z=>rfl
theorem aV7 {x v:RV} {xa:Value} (m:Mem N h0 Γ w.heap H) (ra:aD Γ x xa) (e:aIs H x=some v):∃ z,(Instr.entry xa).run P w = .ok z w∧aD Γ v z:=by
 unfold aIs at e
 split at e
 ·rename_i l off
  replace e:=cL e; obtain ⟨h0,e⟩:=e
  rw [Nat.beq_eq] at h0
  subst h0
  replace e:=aI e; obtain ⟨o,ho,e⟩:=e
  split at e
  ·rename_i lm since seen last
   replace e:=aI e; obtain ⟨b,hbb,e⟩:=e
   replace e:=aI e; obtain ⟨o2,ho2,e⟩:=e
   split at e
   ·rename_i es bs ck
    replace e:=cL e; obtain ⟨hck,e⟩:=e
    rw [Nat.beq_eq] at hck
    subst hck
    replace e:=aI e; obtain ⟨i,hi,e⟩:=e
    replace e:=aI e; obtain ⟨e0,he0,e⟩:=e
    simp only [Option.some.injEq] at e
    subst e
    obtain ⟨p,hp,rfl⟩:=hZ ra
    obtain ⟨q,hq,hh,hb⟩:=m.obj l p _ hp ho
    obtain ⟨en,hm,r1,r2,r3⟩:=m.obj lm q _ hq ho2
    obtain ⟨_,hb1,hb2⟩:=aBc hi
    simp only [Nat.sub_zero] at hb1 hb2
    rw [← r3,List.getElem?_map,Option.map_eq_some_iff] at hb1
    obtain ⟨e',h6,hborn⟩:=hb1
    rw [lD] at he0
    rw [aPi] at hbb
    have hback : (⟨seen⟩ : Array Nat).back? = some b:=by rw [← hbb,Array.back?_eq_getElem?,List.getLast?_eq_getElem?]; simp
    have hfind : (⟨en⟩ : Array MapEntry).find? (fun e=>e.born == b) = some e':=by
     rw [← Array.find?_toList,List.find?_eq_some_iff_getElem]
     have hil:i < en.length:=(List.getElem?_eq_some_iff.1 h6).1
     have hie:en[i]=e':=(List.getElem?_eq_some_iff.1 h6).2
     refine ⟨by simp [hborn],i,hil,hie,fun j hj=>?_⟩
     have:=hb2 j hj
     rw [← r3,List.getElem?_map,List.getElem?_eq_getElem (show j < en.length by omega)] at this
     simpa using this
    have hbase:p.base+0=0:=by omega
    refine ⟨.tuple #[e'.key,e'.val],?_,.aG _ [e'.key,e'.val] rfl (aB.cons (r1.2 i e0.1 e'.key (by simp [he0]) (by simp [h6])) (aB.cons (r2.2 i e0.2 e'.val (by simp [he0]) (by simp [h6])) aB.nil)).2⟩
    rw [hbase]
    simp only [Instr.entry,getObj,Sem.run_bind,Sem.run,hh,hm,Result.andThen,hback,hfind,bne_self_eq_false,Bool.false_eq_true,if_false]
    rfl
   ·simp at e
  ·simp at e
 ·simp at e
theorem aPj (hT:iK P tt) {t u ty:TypeId} {x key v:RV} {xa ka:Value} (m:Mem N h0 Γ w.heap H) (ra:aD Γ x xa) (rk:aD Γ key ka) (e:aKl tt H t x key = .ok v H') :
  fV N h0 Γ w H ((do pure (.value (← Builtin.delete_ #[t,u] ty #[xa,ka])):Sem Next).run P w) v H':=by
 unfold aKl at e
 replace e:=dY e; obtain ⟨ti,hti,e⟩:=e
 obtain ⟨tok,rfl⟩:=hT _ _ hti
 have hd:=tok.d
 have r0:aD Γ (.aG []) (.tuple #[]):=.aG [] [] rfl (by simp)
 split at e
 ·rename_i kt e0 hdd
  rw [hdd] at hd
  have hd:P.underlying ti.t=some (.map kt e0):=hd
  replace e:=dY e; obtain ⟨ki,hki,e⟩:=e
  replace e:=cA e; obtain ⟨hkb,e⟩:=e
  obtain ⟨kok,rfl⟩:=hT _ _ hki
  split at e
  ·simp at e
   obtain ⟨rfl,rfl⟩:=e
   obtain rfl:=uN ra
   have hck:=xH (w:=w) kok rk hkb true
   exact fV.same (by simp [Builtin.delete_,run_underlying hd,hck]) m r0
  ·rename_i l
   replace e:=bN e; obtain ⟨o,ho,e⟩:=e
   split at e
   ·rename_i es bs ck
    replace e:=bN e; obtain ⟨r,hr,e⟩:=e
    obtain ⟨p,hp,rfl⟩:=xY ra
    obtain ⟨en,hh,r1,r2,r3⟩:=m.obj l p _ hp ho
    obtain ⟨q,hq,hm⟩:=a26 (w:=w) kok rk r1 r2 hr
    have hck:=xH (w:=w) kok rk hkb en.isEmpty
    have hg:(getObj p.b).run P w = .ok (.map ⟨en⟩ ck) w:=by simp [getObj,Sem.run,hh]
    cases r with
    | none =>
     rw [kP] at e
     simp at e
     obtain ⟨rfl,rfl⟩:=e
     subst hm
     obtain ⟨h3,h4⟩:=map_set (P:=P) (en':=en) (es':=es) (bs':=bs) (ck':=ck) m hp ho hh r1 r2 r3 (H':=H) ⟨rfl,fun j=>by by_cases h:j=l <;> simp [h,ho]⟩
     refine ⟨.tuple #[],Γ,_,.inl ?_,h4,r0⟩
     simp [Builtin.delete_,run_underlying hd,hg,hck,hq,h3]
    | some pr =>
     obtain ⟨j,old⟩:=pr
     rw [aP,a2d,oU,a2e,a2d,oU,a2e] at e
     obtain ⟨H1,h1,h2⟩:=hX H l (.map (es.take j++es.drop (Nat.succ j)) (bs.take j++bs.drop (Nat.succ j)) ck) (fun H=>OR.ok (.aG []) H)
     rw [h1] at e
     simp at e
     obtain ⟨rfl,rfl⟩:=e
     obtain ⟨y,e',rfl,h5,h6,h7,k',h8,h9⟩:=hm
     rw [← List.eraseIdx_eq_take_drop_succ,← List.eraseIdx_eq_take_drop_succ] at h2
     obtain ⟨h3,h4⟩:=map_set (P:=P) (en':=en.eraseIdx j) m hp ho hh (by rw [a3v,a3v]; exact r1.eraseIdx j) (by rw [a3v,a3v]; exact r2.eraseIdx j) (by rw [a3v,r3]) h2
     refine ⟨.tuple #[],Γ,_,.inl ?_,h4,r0⟩
     have hjl:j < en.length:=(List.getElem?_eq_some_iff.1 h6).1
     have hera:(⟨en⟩:Array MapEntry).eraseIdxIfInBounds j=⟨en.eraseIdx j⟩:=by
      unfold Array.eraseIdxIfInBounds
      rw [dif_pos (show j < (⟨en⟩:Array MapEntry).size from hjl)]
      apply Array.ext'
      simp
     simp [Builtin.delete_,run_underlying hd,hg,hck,hq,hera,h3]
   ·simp at e
  ·simp at e
 ·simp at e
noncomputable def aPk (tt:T bD) (H:HT) (t:TypeId) (x:RV):OR :=
 dD tt t .bad fun ti=>match ti.d,x with
  | .sl _,.slnil=>.ok (.aG []) H
  | .sl e,.sl l off n sz _=>aJ (Nat.beq n 0) (.ok (.aG []) H) (dD tt e .bad fun ei=>aF ei.z .bad fun z=>aJ (Nat.beq sz ei.sz) (aJ (Nat.ble 1 ei.sz) (aDv n z fun zs =>
    yU H l .bad fun g w t=>aJ (Nat.ble (Nat.add off (Nat.mul n sz)) w) (nY zs t off fun t=>HT.j9 H l (.cells g w t) fun H=>.ok (.aG []) H) .bad) .bad) .bad)
  | _,_=>.bad
theorem aHf {Γ : Gm} : aD Γ (.aG []) (.tuple #[]):=.aG [] [] rfl (fun i c x h _=>by simp at h)
theorem aR2 (hT:iK P tt) {t ty:TypeId} {x v:RV} {xa:Value} (m:Mem N h0 Γ w.heap H) (ra:aD Γ x xa) (e:aPk tt H t x = .ok v H') :
  fV N h0 Γ w H ((do pure (.value (← Builtin.clear_ #[t] ty #[xa])):Sem Next).run P w) v H':=by
 unfold aPk at e
 replace e:=dY e; obtain ⟨ti,hti,e⟩:=e
 obtain ⟨tok,rfl⟩:=hT _ _ hti
 have hd:=tok.d
 split at e
 ·rename_i e0 hdd
  rw [hdd] at hd
  have hd:P.underlying ti.t=some (.slice e0):=hd
  simp at e
  obtain ⟨rfl,rfl⟩:=e
  obtain rfl:=kI ra
  exact fV.same (y:=.tuple #[]) (by simp [Builtin.clear_,run_underlying hd]) m aHf
 ·rename_i e0 l off n sz c hdd
  rw [hdd] at hd
  have hd:P.underlying ti.t=some (.slice e0):=hd
  obtain ⟨p,ad,cap,hp,hn,hc,had,rfl⟩:=kO ra
  rw [cP] at e
  split at e
  ·rename_i h0
   obtain rfl:=Nat.eq_of_beq_eq_true h0
   simp at e
   obtain ⟨rfl,rfl⟩:=e
   exact fV.same (y:=.tuple #[]) (by simp [Builtin.clear_,run_underlying hd]) m aHf
  ·rename_i h0
   have hn0:n≠0:=fun h=>h0 (by rw [h]; rfl)
   obtain ⟨k,rfl⟩:∃ k,n=k+1:=⟨n - 1,by omega⟩
   replace e:=dY e; obtain ⟨ei,hei,e⟩:=e
   replace e:=bN e; obtain ⟨z,hz,e⟩:=e
   replace e:=cA e; obtain ⟨hsz,e⟩:=e
   obtain rfl:=Nat.eq_of_beq_eq_true hsz
   replace e:=cA e; obtain ⟨hpos,e⟩:=e
   have hpos:=Nat.le_of_ble_eq_true hpos
   rw [a0j] at e
   replace e:=a0i e; obtain ⟨g,w',t,hl,e⟩:=e
   replace e:=cA e; obtain ⟨hle,e⟩:=e
   have hle:off+(k+1)*ei.sz≤w':=Nat.le_of_ble_eq_true hle
   obtain ⟨t',h1,h2⟩:=rJ (List.replicate (k+1) z).flatten t off (fun t=>HT.j9 H l (.cells g w' t) fun H=>OR.ok (.aG []) H)
   obtain ⟨H1,h3,h4⟩:=hX H l (.cells g w' t') (fun H=>OR.ok (.aG []) H)
   rw [h1,h3] at e
   simp only [OR.ok.injEq] at e
   obtain ⟨rfl,rfl⟩:=e
   obtain ⟨f1,f2,zv,f3,f4,f5,f6⟩:=aHa hT hei hz w Γ
   obtain ⟨zs,g1,g2,g3⟩:=a3u (n:=k+1) f4 f5 (by omega)
   have hlen:(List.replicate (k+1) z).flatten.length=(k+1)*ei.sz:=by simp [f2]
   obtain ⟨h7,h8⟩:=a7d (P:=P) (cs:=(List.replicate (k+1) z).flatten) (xs:=zs) m hp hl g2 g3 (by rw [hlen]; exact hle) h2 h4
   obtain ⟨rfl,_⟩:=had (by omega)
   refine ⟨.tuple #[],Γ,_,.inl ?_,h8,aHf⟩
   have hzc:Builtin.zeroCells zv.cells (k+1)=⟨zs⟩:=by
    unfold Builtin.zeroCells
    rw [f6,← f2,← g1,f2,f6]
   simp [Builtin.clear_,run_underlying hd,f3,hzc,h7]
 ·simp at e
noncomputable def aBd (x:RV) (H:HT):OR :=
 match x with
 | .slnil=>.ok .dK H
 | .sl l off n _ _=>aJ (Nat.ble 1 n) (.ok (.ptr l off) H) .bad
 | _=>.bad
theorem aI0 {ts:Array TypeId} {ty:TypeId} {x v:RV} {xa:Value} (m:Mem N h0 Γ w.heap H) (ra:aD Γ x xa) (e:aBd x H = .ok v H') :
  fV N h0 Γ w H ((do pure (.value (← Builtin.unsafeSliceData_ ts ty #[xa])):Sem Next).run P w) v H':=by
 unfold aBd at e
 split at e
 ·simp at e
  obtain ⟨rfl,rfl⟩:=e
  obtain rfl:=kI ra
  exact cQ (Go.Lib.run_unsafeSliceData_nil w ts ty 0 0) m .dK
 ·rename_i l off n sz c
  replace e:=cA e; obtain ⟨hn,e⟩:=e
  have hn:=Nat.le_of_ble_eq_true hn
  simp at e
  obtain ⟨rfl,rfl⟩:=e
  obtain ⟨p,ad,cap,hp,hnc,hc,had,rfl⟩:=kO ra
  obtain ⟨rfl,_⟩:=had (by omega)
  exact cQ (Go.Lib.run_unsafeSliceData_row w ts ty _ n cap (by omega)) m (.ptr l off p hp)
 ·simp at e
noncomputable def a39 (tt:T bD) (H:HT) (pt:TypeId) (x n:RV):OR :=
 dD tt pt .bad fun ti=>match ti.d,x,n with
  | .ptr _,.dK,.int .i64 (.ofNat 0)=>.ok (.str ⟨0,0⟩) H
  | .ptr e,.ptr l 0,.int .i64 (.ofNat n)=>aJ (Nat.ble 1 n) (aJ (Nat.ble n 1000000) (dD tt e .bad fun ei=>aJ (Nat.beq ei.sz 1) (aF (H.get l) .bad fun o=>match o with
    | .cells g m t=>aJ (Nat.beq g (Nat.succ e)) (aJ (Nat.ble n m) (pH t n 0 .bad fun cs=>aF (zW cs) .bad fun bs=>aO1 bs fun s=>HT.j9 H l (.ro g m t) fun H=>.ok (.str s) H) .bad) .bad
    | .ro g m t=>aJ (Nat.beq g (Nat.succ e)) (aJ (Nat.ble n m) (pH t n 0 .bad fun cs=>aF (zW cs) .bad fun bs=>aO1 bs fun s=>HT.j9 H l (.ro g m t) fun H=>.ok (.str s) H) .bad) .bad
    | _=>.bad) .bad) .bad) .bad
  | _,_,_=>.bad
theorem aGd {w : World} {b n : Nat} {arr : Array Value} {E : TypeId} {fz : Nat × Nat} (h1 : w.heap[b]? = some (.cells arr E fz)) (hn : n ≠ 0) :
  ∃ fz',(w.freeze ⟨b,0,none⟩ n).heap[b]? = some (.cells arr E fz') ∧ (w.freeze ⟨b,0,none⟩ n).heap.size = w.heap.size ∧ (∀ i,i ≠ b → (w.freeze ⟨b,0,none⟩ n).heap[i]? = w.heap[i]?) ∧ Kept w (w.freeze ⟨b,0,none⟩ n):=by
 obtain ⟨lo,hi⟩:=fz
 refine ⟨if lo == hi then (0,0+n) else (min lo 0,max hi (0+n)),?_,?_,fun i hi=>?_,?_⟩
 ·simp only [World.freeze,hn,if_false,Array.getElem?_modify,if_true,h1,Option.map_some]
 ·simp [World.freeze,hn]
 ·simp only [World.freeze,hn,if_false,Array.getElem?_modify]
  rw [if_neg (fun h=>hi h.symm)]
 ·exact ⟨by simp [World.freeze,hn],by simp [World.freeze,hn],by simp [World.freeze,hn],fun b h=>by
   simp only [World.freeze,hn,if_false,Array.getElem?_modify,h]
   split <;> rfl⟩
theorem aDy (hT:iK P tt) {pt it ty:TypeId} {x nn v:RV} {xa na:Value} (m:Mem N h0 Γ w.heap H) (ra:aD Γ x xa) (rn:aD Γ nn na) (e:a39 tt H pt x nn = .ok v H') :
  fV N h0 Γ w H ((do pure (.value (← Builtin.unsafeString_ #[pt,it] ty #[xa,na])):Sem Next).run P w) v H':=by
 unfold a39 at e
 replace e:=dY e; obtain ⟨ti,hti,e⟩:=e
 obtain ⟨tok,rfl⟩:=hT _ _ hti
 have hd:=tok.d
 split at e
 ·simp at e
  obtain ⟨rfl,rfl⟩:=e
  obtain rfl:=lI ra
  obtain rfl:=bZ rn
  exact cQ (Go.Lib.run_unsafeString_none w ti.t it ty none) m (.str ⟨0,0⟩)
 ·rename_i e0 l n hdd
  rw [hdd] at hd
  have hd:P.underlying ti.t=some (.pointer e0):=hd
  obtain rfl:=bZ rn
  obtain ⟨p,hp,rfl⟩:=hZ ra
  replace e:=cA e; obtain ⟨hn1,e⟩:=e
  have hn1:=Nat.le_of_ble_eq_true hn1
  replace e:=cA e; obtain ⟨hn2,e⟩:=e
  have hn2:=Nat.le_of_ble_eq_true hn2
  replace e:=dY e; obtain ⟨ei,hei,e⟩:=e
  obtain ⟨eok,heit⟩:=hT _ _ hei
  replace e:=cA e; obtain ⟨hsz,e⟩:=e
  have hsz:=Nat.eq_of_beq_eq_true hsz
  have hY:P.cellsOf e0=1:=by
   have:=eok.sz
   rw [heit,hsz] at this
   unfold fB at this
   unfold Program.cellsOf
   rw [this]; rfl
  replace e:=bN e; obtain ⟨o,ho,e⟩:=e
  split at e
  ·rename_i g mm t
   replace e:=cA e; obtain ⟨hg,e⟩:=e
   have hg:=Nat.eq_of_beq_eq_true hg
   replace e:=cA e; obtain ⟨hle,e⟩:=e
   have hle:=Nat.le_of_ble_eq_true hle
   obtain ⟨cs,e,h4,h5⟩:=pU _ _ _ _ _ e
   replace e:=bN e; obtain ⟨bs,hbs,e⟩:=e
   rw [a9i] at e
   obtain ⟨H1,h6,h7⟩:=hX H l (.ro g mm t) (fun H=>OR.ok (.str (Sb.of bs)) H)
   rw [h6] at e
   simp at e
   obtain ⟨rfl,rfl⟩:=e
   obtain ⟨arr,E,fz,a1,a2,a3,a4,a5,a6⟩:=m.obj l p _ hp ho
   obtain ⟨rfl,hbase⟩:e0=E∧p.base=0:=by
    rcases a6 with h | ⟨h,hb⟩
    ·rw [h] at hg; simp at hg
    ·rw [h] at hg; exact ⟨by simpa using hg.symm,hb⟩
   obtain ⟨xs,b1,b2,b3⟩:=a5.list (by omega) h4 h5
   obtain ⟨rfl,hb256⟩:=zG hbs
   have hxs:=aBa b1
   have hbl:bs.length=n:=by simpa using h4
   have hn0:n≠0:=by omega
   obtain ⟨fz',c1,c2,c3,c4⟩:=aGd (w:=w) (n:=n) a1 hn0
   have hsh : w.shape? p.b = some (e0,arr.size):=by unfold World.shape?; rw [a1]
   have harr:n≤arr.size:=by
    have hlast : xs[n - 1]? = some (Value.int .u8 (Int.ofNat (bs[n - 1]'(by omega)))):=by
     rw [hxs]
     simp [List.getElem?_eq_getElem (show n - 1 < bs.length by omega)]
    have:=(Array.getElem?_eq_some_iff.1 (b3 _ _ hlast)).1
    omega
   have hcells : ∀ j y,(bs.map UInt8.ofNat)[j]? = some y → w.cell? ((⟨p.b,0,none⟩ : Addr).add j) = some (.int .u8 y.toNat):=by
    intro j y hj
    have hjl:j < bs.length:=by have:=(List.getElem?_eq_some_iff.1 hj).1; simpa using this
    have hy:y=UInt8.ofNat bs[j]:=by
     rw [List.getElem?_map,List.getElem?_eq_getElem hjl] at hj
     simpa using hj.symm
    have hx : xs[j]? = some (Value.int .u8 (Int.ofNat bs[j])):=by
     rw [hxs]
     simp [List.getElem?_eq_getElem hjl]
    have h9:=b3 j _ hx
    rw [show p.base+0+j=j by omega] at h9
    have hlt:=hb256 bs[j] (List.getElem_mem hjl)
    have hyt:(y.toNat:Int)=Int.ofNat bs[j]:=by
     rw [hy]; simp; omega
    rw [hyt,Addr.add_mid,cell_of rfl a1,Nat.zero_add]
    exact h9
   have hrun:=Go.Lib.run_unsafeString_row (P:=P) w ti.t it ty e0 hd hY p.b arr.size hsh (bs.map UInt8.ofNat) (by intro h; simp at h; subst h; simp at hbl; omega) (by simp; omega) (by simp; omega) hcells
   simp only [List.length_map,hbl] at hrun
   have hw:Mem N h0 Γ (w.freeze ⟨p.b,0,none⟩ n).heap H1:=a9l (o':=.ro g mm t) m hp ho rfl c2 c3 ⟨arr,e0,fz',c1,a2,a5,a6⟩ h7
   refine ⟨_,Γ,_,.inl ?_,⟨tR.refl Γ,hw,by rw [h7.1]; exact Nat.le_refl _,fun _ _ h=>h,c4⟩,aD.ofL hb256⟩
   rw [hbase]
   show (do pure (.value (← Builtin.unsafeString_ #[ti.t,it] ty #[.pointer (some ⟨p.b,0+0,none⟩),.int .i64 (n:Int)])):Sem Next).run P w=_
   simp only [Sem.run_bind,Nat.add_zero,hrun,Result.andThen_ok]
   rfl
  ·rename_i g mm t
   replace e:=cA e; obtain ⟨hg,e⟩:=e
   have hg:=Nat.eq_of_beq_eq_true hg
   replace e:=cA e; obtain ⟨hle,e⟩:=e
   have hle:=Nat.le_of_ble_eq_true hle
   obtain ⟨cs,e,h4,h5⟩:=pU _ _ _ _ _ e
   replace e:=bN e; obtain ⟨bs,hbs,e⟩:=e
   rw [a9i] at e
   obtain ⟨H1,h6,h7⟩:=hX H l (.ro g mm t) (fun H=>OR.ok (.str (Sb.of bs)) H)
   rw [h6] at e
   simp at e
   obtain ⟨rfl,rfl⟩:=e
   obtain ⟨arr,E,fz,a1,a2,a5,a6⟩:=m.obj l p _ hp ho
   obtain ⟨rfl,hbase⟩:e0=E∧p.base=0:=by
    rcases a6 with h | ⟨h,hb⟩
    ·rw [h] at hg; simp at hg
    ·rw [h] at hg; exact ⟨by simpa using hg.symm,hb⟩
   obtain ⟨xs,b1,b2,b3⟩:=a5.list (by omega) h4 h5
   obtain ⟨rfl,hb256⟩:=zG hbs
   have hxs:=aBa b1
   have hbl:bs.length=n:=by simpa using h4
   have hn0:n≠0:=by omega
   obtain ⟨fz',c1,c2,c3,c4⟩:=aGd (w:=w) (n:=n) a1 hn0
   have hsh : w.shape? p.b = some (e0,arr.size):=by unfold World.shape?; rw [a1]
   have harr:n≤arr.size:=by
    have hlast : xs[n - 1]? = some (Value.int .u8 (Int.ofNat (bs[n - 1]'(by omega)))):=by
     rw [hxs]
     simp [List.getElem?_eq_getElem (show n - 1 < bs.length by omega)]
    have:=(Array.getElem?_eq_some_iff.1 (b3 _ _ hlast)).1
    omega
   have hcells : ∀ j y,(bs.map UInt8.ofNat)[j]? = some y → w.cell? ((⟨p.b,0,none⟩ : Addr).add j) = some (.int .u8 y.toNat):=by
    intro j y hj
    have hjl:j < bs.length:=by have:=(List.getElem?_eq_some_iff.1 hj).1; simpa using this
    have hy:y=UInt8.ofNat bs[j]:=by
     rw [List.getElem?_map,List.getElem?_eq_getElem hjl] at hj
     simpa using hj.symm
    have hx : xs[j]? = some (Value.int .u8 (Int.ofNat bs[j])):=by
     rw [hxs]
     simp [List.getElem?_eq_getElem hjl]
    have h9:=b3 j _ hx
    rw [show p.base+0+j=j by omega] at h9
    have hlt:=hb256 bs[j] (List.getElem_mem hjl)
    have hyt:(y.toNat:Int)=Int.ofNat bs[j]:=by
     rw [hy]; simp; omega
    rw [hyt,Addr.add_mid,cell_of rfl a1,Nat.zero_add]
    exact h9
   have hrun:=Go.Lib.run_unsafeString_row (P:=P) w ti.t it ty e0 hd hY p.b arr.size hsh (bs.map UInt8.ofNat) (by intro h; simp at h; subst h; simp at hbl; omega) (by simp; omega) (by simp; omega) hcells
   simp only [List.length_map,hbl] at hrun
   have hw:Mem N h0 Γ (w.freeze ⟨p.b,0,none⟩ n).heap H1:=a9l (o':=.ro g mm t) m hp ho (by rw [hg]; rfl) c2 c3 ⟨arr,e0,fz',c1,a2,a5,a6⟩ h7
   refine ⟨_,Γ,_,.inl ?_,⟨tR.refl Γ,hw,by rw [h7.1]; exact Nat.le_refl _,fun _ _ h=>h,c4⟩,aD.ofL hb256⟩
   rw [hbase]
   show (do pure (.value (← Builtin.unsafeString_ #[ti.t,it] ty #[.pointer (some ⟨p.b,0+0,none⟩),.int .i64 (n:Int)])):Sem Next).run P w=_
   simp only [Sem.run_bind,Nat.add_zero,hrun,Result.andThen_ok]
   rfl
  ·simp at e
 ·simp at e
end
end Go.Rx

/- Closed runs: operations. -/
namespace Go.Rx
abbrev eO:=FuncId→List RV→HT→OR
noncomputable def j8 (o:Option RV) (H:HT):OR:=aF o .bad fun v=>.ok v H
noncomputable def b11 (x y:RV):Option RV :=
 match x,y with
 | .int k a,.int k' b=>aJ (a3p k k') (some (.int k (aJ (ltI b a) b a))) none
 | _,_=>none
noncomputable def b12 (x y:RV):Option RV :=
 match x,y with
 | .int k a,.int k' b=>aJ (a3p k k') (some (.int k (aJ (ltI a b) b a))) none
 | _,_=>none
noncomputable def oZ (tt:T bD) (b:Builtin) (ts:List TypeId) (vs:List RV) (H:HT):OR :=
 match b,ts,vs with
 | .len,[t],[x]=>j8 (aAv tt H t x) H
 | .cap,[t],[x]=>j8 (b1p tt t x) H
 | .append,[t,u],[x,y]=>(match x,y with | .slnil,.int _ (.ofNat n)=>aM0 tt H t u n | _,_=>mG tt H t u x y)
 | .copy,[t,_],[x,y]=>copyV tt H t x y
 | .delete,[t,_],[x,y]=>aKl tt H t x y
 | .min,_,[x,y]=>j8 (b11 x y) H
 | .max,_,[x,y]=>j8 (b12 x y) H
 | .clear,[t],[x]=>aPk tt H t x
 | .unsafeSliceData,_,[x]=>aBd x H
 | .unsafeString,[pt,_],[x,y]=>a39 tt H pt x y
 | _,_,_=>.bad
def Y0:Nat:=4294967296
noncomputable def aV8 (C:eO) (env:T RV) (f:Operand) (args:List Operand) (H:HT):OR :=
 aF (ev env f) .bad fun u=>match u with
  | .func g caps=>aJ (Nat.beq g Y0) .bad (aF (fQ env args) .bad fun vs=>jW vs caps fun vs=>C g vs H)
  | .yld l=>aF (fQ env args) .bad fun vs=>C Y0 (.yld l::vs) H
  | _=>.bad
noncomputable def kV (c a b:RV):Option RV :=
 match c with
 | .bool t=>some (aJ t a b)
 | _=>none
noncomputable def hP (env:T RV) (x:Operand) (k:RV→OR):OR:=aF (ev env x) .bad k
noncomputable def mQ (env:T RV) (x y:Operand) (k:RV→RV→OR):OR:=aF (ev env x) .bad fun u=>aF (ev env y) .bad fun v=>k u v
noncomputable def ev3 (env:T RV) (x y z:Operand) (k:RV→RV→RV→OR):OR:=aF (ev env x) .bad fun u=>aF (ev env y) .bad fun v=>aF (ev env z) .bad fun r=>k u v r
section
variable (tt:T bD) (C:eO)
noncomputable def aPl (H:HT) (t:TypeId):OR:=dD tt t .bad fun ti=>aF ti.z .bad fun z=>aIq H (Nat.succ t) z
noncomputable def b13 (H:HT) (v:RV):OR:=aJ v.iW (aIq H 0 v.cells) .bad
noncomputable def aM2 (H:HT) (t:TypeId) (x:RV):OR:=dD tt t .bad fun ti=>j8 (nX ti H x) H
noncomputable def a9m (H:HT) (t:TypeId) (x y:RV):OR:=dD tt t .bad fun ti=>nE ti H x y
noncomputable def aBe (H:HT) (t:TypeId):OR:=dD tt t .bad fun ti=>match ti.d with
 | .map _ _=>HT.a6a H (.map [] [] 0) fun l H=>.ok (.map l) H
 | _=>.bad
noncomputable def a3w (env:T RV) (H:HT) (fn:Fn) (first captured:List Operand):OR :=
 match fn,first with
 | .func f,[]=>j8 (aF (fQ env captured) none fun vs=>some (.func f vs)) H
 | _,_=>.bad
noncomputable def aHg (env:T RV) (H:HT) (t:TypeId) (r:Option Operand):OR :=
 match r with
 | none=>aBe tt H t
 | some x=>hP env x fun u=>match u with | .int _ _=>aBe tt H t | _=>.bad
noncomputable def a6c (env:T RV) (H:HT) (t:TypeId) (x:Operand) (lo hi mx:Option Operand):OR :=
 match mx with
 | none=>hP env x fun u=>aF (qS env lo) .bad fun l=>aF (qS env hi) .bad fun h=>j8 (rG tt t u l h) H
 | some m=>match hi with
  | some hx=>hP env x fun u=>aF (qS env lo) .bad fun l=>hP env hx fun h=>hP env m fun q=>j8 (aO2 tt t u l h q) H
  | none=>.bad
noncomputable def aV9 (op:BinOp) (t:TypeId):Option RV:=dD tt t none fun ti=>match ti.d with
 | .iface=>(match op with | .eql=>some (.bool true) | .neq=>some (.bool false) | _=>none)
 | _=>none
noncomputable def isK (o:Operand):Bool:=match o with | .const _=>true | _=>false
noncomputable def aWa (op:BinOp) (t:TypeId) (x y:Operand) (u v:RV):Option RV :=
 match u with
 | .zV=>(match v with | .zV=>aJ (isK x) (aV9 tt op t) (aJ (isK y) (aV9 tt op t) none) | _=>none)
 | u=>a19 tt op t u v
noncomputable def vL (env:T RV) (H:HT) (op:Op):OR :=
 match op with
 | .move x=>j8 (ev env x) H
 | .assign x=>j8 (ev env x) H
 | .pick c a b=>ev3 env c a b fun c a b=>j8 (kV c a b) H
 | .alloc t=>aPl tt H t
 | .box _ x=>hP env x fun v=>b13 H v
 | .build t parts=>j8 (yR tt env t parts.toList) H
 | .buildSlice t len parts=>nW tt env H t len parts.toList
 | .load t x=>hP env x fun u=>aM2 tt H t u
 | .store t x y=>mQ env x y fun u v=>a9m tt H t u v
 | .nilCheck x=>hP env x fun u=>j8 (a8g u) H
 | .binOp op t x y _=>mQ env x y fun u v=>j8 (aWa tt op t x y u v) H
 | .unOp op _ x=>hP env x fun u=>j8 (k9 op u) H
 | .convert src dst x=>hP env x fun u=>kL tt H src dst u
 | .makeFunc fn first captured=>a3w env H fn first.toList captured.toList
 | .makeMap t r=>aHg tt env H t r
 | .makeSlice t l c=>mQ env l c fun u v=>kN tt H t u v
 | .slice t x lo hi mx=>a6c tt env H t x lo hi mx
 | .fieldAddr t x f=>hP env x fun u=>j8 (lB tt t u f) H
 | .field t x f=>hP env x fun u=>j8 (vJ tt t u f) H
 | .indexAddr t x i=>mQ env x i fun u v=>j8 (jF tt t u v) H
 | .index t x i=>mQ env x i fun u v=>j8 (qF tt t u v) H
 | .lookup t x i ok=>mQ env x i fun u v=>j8 (aFf tt H t u v ok) H
 | .mapUpdate t m k x=>ev3 env m k x fun m k x=>xX tt H t m k x
 | .insert t m k x=>ev3 env m k x fun m k x=>xX tt H t m k x
 | .extract x i=>hP env x fun u=>j8 (aA u i) H
 | .mapEntry t m k=>mQ env m k fun m k=>a7a tt H t m k
 | .entryStore _ m k x=>ev3 env m k x fun m k x=>a25 H m k x
 | .range t x=>hP env x fun u=>aIr tt H t u
 | .next x s=>hP env x fun u=>aM1 H u s
 | .entry x=>hP env x fun u=>j8 (aIs H u) H
 | .call c=>match c.callee with
   | .builtin b=>aF (fQ env c.args.toList) .bad fun vs=>oZ tt b c.argTypes.toList vs H
   | .value f=>aV8 C env f c.args.toList H
   | _=>.bad
 | _=>.bad
end
section
variable {P:Program} {N:Nat} {h0:bX} {Γ : Gm} {w:World} {H H':HT} {tt:T bD} {C:eO} {env:T RV} {a:Act}
theorem b14 (hT:iK P tt) {op:BinOp} {t:TypeId} {ox oy:Operand} {x y v:RV} {a b:Value} (e:aWa tt op t ox oy x y=some v) (ra:aD Γ x a) (rb:aD Γ y b) :
  ∃ z,(do eqGuard op t ox oy a b; binOp op t a b:Sem Value).run P w = .ok z w∧aD Γ v z:=by
 unfold aWa at e
 split at e
 ·split at e
  ·cases ra; cases rb
   have hk:(isK ox=true∨isK oy=true)∧aV9 tt op t=some v:=by
    rw [cP] at e
    split at e
    ·rename_i h; exact ⟨.inl h,e⟩
    ·rw [cP] at e
     split at e
     ·rename_i h; exact ⟨.inr h,e⟩
     ·simp at e
   clear e
   obtain ⟨hk,e⟩:=hk
   unfold aV9 at e
   replace e:=eU e; obtain ⟨ti,hti,e⟩:=e
   obtain ⟨tok,rfl⟩:=hT _ _ hti
   have hd:=tok.d
   have hg:∀ op,(eqGuard op ti.t ox oy .nilIface .nilIface).run P w = .ok () w:=by
    intro op
    rcases hk with h | h
    ·cases ox <;> simp [isK] at h
     cases op <;> simp [eqGuard]
    ·cases oy <;> simp [isK] at h
     cases op <;> cases ox <;> simp [eqGuard]
   split at e
   ·rename_i hdd
    rw [hdd] at hd
    obtain ⟨ms,hd⟩:=hd
    have heq:(Op.equal ti.t .nilIface .nilIface).run P w = .ok true w:=by
     show (Op.equalIn (9999+1) ti.t .nilIface .nilIface).run P w=_
     unfold Op.equalIn
     simp only [Sem.run_bind,run_underlying hd,Result.andThen_ok]
     rfl
    split at e
    ·simp at e; subst e
     refine ⟨.bool true,?_,.bool true⟩
     simp only [Sem.run_bind,hg,Result.andThen_ok]
     simp [binOp,heq]
    ·simp at e; subst e
     refine ⟨.bool false,?_,.bool false⟩
     simp only [Sem.run_bind,hg,Result.andThen_ok]
     simp [binOp,heq]
    ·simp at e
   ·simp at e
  ·simp at e
 ·exact aG4 hT e ra rb
def frF (ρ:Option Nat):Fence:={ Fence.wide with round:=ρ }
theorem aWb {ρ:Option Nat} {n:Nat} {P:Program} {f:FuncId} {args:Array Value} {w:World} {R:Ending→World→Prop} (h:Calls P f args w R):CallsIn (frF ρ) n P f args w R:=by
 have h:=(callsIn_wide (n:=n)).2 h
 exact h
def a2u (P:Program) (f:FuncId) (args:List RV) (H:HT) (v:RV) (H':HT):Prop :=
 ∀ (N:Nat) (h0:bX) (Γ : Gm) (w:World) (xs:List Value),Mem N h0 Γ w.heap H→aB Γ args xs →
  match (callFunc f ⟨xs⟩).run P w with
  | .ok (.enter g ys) w1=>Calls P g ys w1 fun e w'=>∃ x Γ',e = .returned x∧Ext N h0 Γ w H Γ' w' H'∧aD Γ' v x
  | .ok (.value x) w'=>∃ Γ',Ext N h0 Γ w H Γ' w' H'∧aD Γ' v x
  | _=>False
def aZc (P:Program) (args:List RV) (H:HT) (v:RV) (H':HT):Prop :=
 ∀ l vs,args = .yld l::vs→∀ (N:Nat) (h0:bX) (Γ : Gm) (w:World) (xs:List Value) (p:Pl),Mem N h0 Γ w.heap H → Γ l=some p→aB Γ vs xs →
  ∃ fn tmps asg body,(Instr.yield p.b ⟨xs⟩).run P w = .ok (.round p.b fn tmps asg body) w ∧
   RoundIn Fence.wide 0 P p.b fn tmps asg body w fun e w'=>∃ x Γ',e = .returned x∧Ext N h0 Γ w H Γ' w' H'∧aD Γ' v x
def bE1 (P : Program) (args : List RV) : Prop := ∀ g cs, args = [.func g cs] → ∃ fn c, P.funcs[g]? = some fn ∧ fn.body = some c ∧ (fn.name == "runtime.NumGoroutine") = false
def xI (P:Program) (C:eO):Prop:=∀ f args H v H',C f args H = .ok v H'→(f≠Y0→a2u P f args H v H')∧(f=Y0→aZc P args H v H'∧bE1 P args)
def zT (P:Program) (ρ:Option Nat) (N:Nat) (h0:bX) (Γ : Gm) (w:World) (H:HT) (o:Oper) (a:Act) (v:RV) (H':HT):Prop :=
 ∀ Q,o.wpIn (frF ρ) 0 P a w (fun a' w'=>∃ x Γ',a'=a.put o.dst x∧Ext N h0 Γ w H Γ' w' H'∧aD Γ' v x) Q
theorem zT.bT {ρ:Option Nat} {o:Oper} {v:RV} (h:fV N h0 Γ w H ((execOp a.eval o).run P w) v H') (hd:∀ c,o.op ≠ .defer c:=by intro c h; simp at h):zT P ρ N h0 Γ w H o a v H':=by
 intro Q
 obtain ⟨y,Γ',w',hr,x,r⟩:=h
 refine ⟨fun _ _=>trivial,?_⟩
 rw [Oper.semAt_plain _ _ o hd]
 rcases hr with hr | ⟨hr,rfl⟩
 ·rw [hr]; exact ⟨y,Γ',rfl,x,r⟩
 ·rw [hr]; exact ⟨Go.undef,Γ',rfl,x,r⟩
theorem dZ {o:Option RV} {v:RV} (e:j8 o H = .ok v H'):o=some v∧H'=H:=by
 unfold j8 at e
 replace e:=bN e; obtain ⟨u,h1,e⟩:=e
 simp at e
 obtain ⟨rfl,rfl⟩:=e
 exact ⟨h1,rfl⟩
theorem iH {x:Operand} {k:RV→OR} {v:RV} (e:hP env x k = .ok v H'):∃ u,ev env x=some u∧k u = .ok v H':=bN e
theorem rK {x y:Operand} {k:RV→RV→OR} {v:RV} (e:mQ env x y k = .ok v H'):∃ u u',ev env x=some u∧ev env y=some u'∧k u u' = .ok v H':=by
 unfold mQ at e
 replace e:=bN e; obtain ⟨u,h1,e⟩:=e
 replace e:=bN e; obtain ⟨u',h2,e⟩:=e
 exact ⟨u,u',h1,h2,e⟩
theorem a9n {x y z:Operand} {k:RV→RV→RV→OR} {v:RV} (e:ev3 env x y z k = .ok v H'):∃ u u' u'',ev env x=some u∧ev env y=some u'∧ev env z=some u''∧k u u' u'' = .ok v H':=by
 unfold ev3 at e
 replace e:=bN e; obtain ⟨u,h1,e⟩:=e
 replace e:=bN e; obtain ⟨u',h2,e⟩:=e
 replace e:=bN e; obtain ⟨u'',h3,e⟩:=e
 exact ⟨u,u',u'',h1,h2,h3,e⟩
theorem b15 {x y v:RV} {xa ya:Value} {ts:Array TypeId} {t:TypeId} (ra:aD Γ x xa) (rb:aD Γ y ya) (e:b11 x y=some v):∃ z,(Builtin.min_ ts t #[xa,ya]).run P w = .ok z w∧aD Γ v z:=by
 unfold b11 at e
 split at e
 ·rename_i k p k' q
  replace e:=cL e; obtain ⟨_,e⟩:=e
  simp at e; subst e
  obtain rfl:=bZ ra; obtain rfl:=bZ rb
  refine ⟨.int k (if q < p then q else p),by simp [Builtin.min_,Builtin.min2],?_⟩
  rw [a6b,cP]; simp; exact .int _ _
 ·simp at e
theorem b16 {x y v:RV} {xa ya:Value} {ts:Array TypeId} {t:TypeId} (ra:aD Γ x xa) (rb:aD Γ y ya) (e:b12 x y=some v):∃ z,(Builtin.max_ ts t #[xa,ya]).run P w = .ok z w∧aD Γ v z:=by
 unfold b12 at e
 split at e
 ·rename_i k p k' q
  replace e:=cL e; obtain ⟨_,e⟩:=e
  simp at e; subst e
  obtain rfl:=bZ ra; obtain rfl:=bZ rb
  refine ⟨.int k (if q > p then q else p),by simp [Builtin.max_,Builtin.max2],?_⟩
  rw [a6b,cP]; simp; exact .int _ _
 ·simp at e
theorem aMk (hT:iK P tt) {b:Builtin} {ts:Array TypeId} {t:TypeId} {cs:Array Bool} {vs:List RV} {xs:List Value} {v:RV} (m:Mem N h0 Γ w.heap H) (r:aB Γ vs xs) (e:oZ tt b ts.toList vs H = .ok v H') :
  fV N h0 Γ w H ((builtin b ts t cs ⟨xs⟩).run P w) v H':=by
 obtain ⟨ts⟩:=ts
 unfold oZ at e
 have one:∀ {x:RV},aB Γ [x] xs→∃ y,xs=[y]∧aD Γ x y:=fun {x} r=>by
  obtain ⟨y,ys,rfl,h1,h2⟩:=r.fP
  obtain rfl:=h2.lC
  exact ⟨y,rfl,h1⟩
 have two:∀ {x x':RV},aB Γ [x,x'] xs→∃ y y',xs=[y,y']∧aD Γ x y∧aD Γ x' y':=fun {x x'} r=>by
  obtain ⟨y,ys,rfl,h1,h2⟩:=r.fP
  obtain ⟨y',ys',rfl,h3,h4⟩:=h2.fP
  obtain rfl:=h4.lC
  exact ⟨y,y',rfl,h1,h3⟩
 split at e
 ·rename_i t1 x hts
  simp only at hts; subst hts
  obtain ⟨h1,rfl⟩:=dZ e
  obtain ⟨y,rfl,ry⟩:=one r
  obtain ⟨z,h2,h3⟩:=b1y (P:=P) (ty:=t) hT m ry h1
  exact cQ h2 m h3
 ·rename_i t1 x hts
  simp only at hts; subst hts
  obtain ⟨h1,rfl⟩:=dZ e
  obtain ⟨y,rfl,ry⟩:=one r
  obtain ⟨z,h2,h3⟩:=b1z (P:=P) (w:=w) (ty:=t) hT ry h1
  exact cQ h2 m h3
 ·rename_i t1 u x y hts
  simp only at hts; subst hts
  obtain ⟨y,y',rfl,r1,r2⟩:=two r
  split at e
  ·obtain rfl:=kI r1; obtain rfl:=bZ r2
   exact aV3 hT m e
  ·exact aPd hT m r1 r2 e
 ·rename_i t1 u x y hts
  simp only at hts; subst hts
  obtain ⟨y,y',rfl,r1,r2⟩:=two r
  exact aV5 hT m r1 r2 e
 ·rename_i t1 u x y hts
  simp only at hts; subst hts
  obtain ⟨y,y',rfl,r1,r2⟩:=two r
  exact aPj hT m r1 r2 e
 ·obtain ⟨h1,rfl⟩:=dZ e
  obtain ⟨y,y',rfl,r1,r2⟩:=two r
  obtain ⟨z,h2,h3⟩:=b15 (P:=P) (w:=w) (ts:=⟨ts⟩) (t:=t) r1 r2 h1
  exact cQ h2 m h3
 ·obtain ⟨h1,rfl⟩:=dZ e
  obtain ⟨y,y',rfl,r1,r2⟩:=two r
  obtain ⟨z,h2,h3⟩:=b16 (P:=P) (w:=w) (ts:=⟨ts⟩) (t:=t) r1 r2 h1
  exact cQ h2 m h3
 ·rename_i t1 x hts
  simp only at hts; subst hts
  obtain ⟨y,rfl,ry⟩:=one r
  exact aR2 hT m ry e
 ·obtain ⟨y,rfl,ry⟩:=one r
  exact aI0 m ry e
 ·rename_i pt it x y hts
  simp only at hts; subst hts
  obtain ⟨y,y',rfl,r1,r2⟩:=two r
  exact aDy hT m r1 r2 e
 ·simp at e
theorem aAz {f:Operand} {args:Array Operand} {ts:Array TypeId} {t:TypeId} {g:FuncId} {cs:List Value} (hf:a.eval f = .func (.func g) #[] ⟨cs⟩) :
  (do let d ← resolve a.eval { callee:=.value f,args,argTypes:=ts } t; invoke d.target d.args:Sem Next).run P w=(callFunc g ⟨args.toList.map a.eval++cs⟩).run P w:=by
 simp only [resolve,hf,Deferred.ofValue,Sem.run_bind,Sem.run_pure,Result.andThen_ok,invoke]
 have e2:(#[]++Array.map a.eval args ++ { toList:=cs } : Array Value)=⟨args.toList.map a.eval++cs⟩:=by apply Array.ext'; simp
 rw [e2]
theorem zT.aE9 {ρ:Option Nat} {o:Oper} {v:RV} {f:FuncId} {xs:List Value} {args:List RV} (hr:(execOp a.eval o).run P w=(callFunc f ⟨xs⟩).run P w) (hc:a2u P f args H v H')
  (m:Mem N h0 Γ w.heap H) (ra:aB Γ args xs) (hd:∀ c,o.op ≠ .defer c:=by intro c h; simp at h):zT P ρ N h0 Γ w H o a v H':=by
 intro Q
 refine ⟨fun _ _=>trivial,?_⟩
 rw [Oper.semAt_plain _ _ o hd]
 have:=hc N h0 Γ w xs m ra
 rw [hr]
 generalize (callFunc f ⟨xs⟩).run P w=r at *
 cases r with
 | halt h w'=>exact this.elim
 | ok nx w' =>
  cases nx with
  | value x =>
   obtain ⟨Γ',h1,h2⟩:=this
   exact ⟨x,Γ',rfl,h1,h2⟩
  | enter g ys =>
   refine ⟨fun h=>by simp [frF,Fence.wide] at h,aWb (Calls.mono this fun e w'' he=>?_)⟩
   obtain ⟨x,Γ',rfl,l,r⟩:=he
   exact ⟨x,Γ',rfl,l,r⟩
  | _=>exact this.elim
theorem aPm {f:Operand} {args:Array Operand} {ts:Array TypeId} {t:TypeId} {b:Nat} (hf:a.eval f = .func (.yield b) #[] #[]) :
  (do let d ← resolve a.eval { callee:=.value f,args,argTypes:=ts } t; invoke d.target d.args:Sem Next).run P w=(Instr.yield b ⟨args.toList.map a.eval⟩).run P w:=by
 simp only [resolve,hf,Deferred.ofValue,Sem.run_bind,Sem.run_pure,Result.andThen_ok,invoke]
 have e2:(#[]++Array.map a.eval args:Array Value)=⟨args.toList.map a.eval⟩:=by apply Array.ext'; simp
 rw [e2]
theorem zT.b17 {ρ:Option Nat} {o:Oper} {v:RV} {l:Nat} {p:Pl} {xs:List Value} {vs:List RV} (hp : Γ l=some p) (hr:(execOp a.eval o).run P w=(Instr.yield p.b ⟨xs⟩).run P w) (hc:aZc P (.yld l::vs) H v H')
  (m:Mem N h0 Γ w.heap H) (ra:aB Γ vs xs) (hd:∀ c,o.op ≠ .defer c:=by intro c h; simp at h):zT P ρ N h0 Γ w H o a v H':=by
 intro Q
 refine ⟨fun _ _=>trivial,?_⟩
 rw [Oper.semAt_plain _ _ o hd]
 obtain ⟨fn,tmps,asg,body,h1,h2⟩:=hc l vs rfl N h0 Γ w xs p m hp ra
 rw [hr,h1,Oper.uponIn_round]
 refine ⟨fun h=>by simp [frF,Fence.wide] at h,RoundIn.mono (F:=frF ρ) h2 fun e w'' he=>?_⟩
 obtain ⟨x,Γ',rfl,l,r⟩:=he
 exact ⟨x,Γ',rfl,l,r⟩
theorem aHh {ρ:Option Nat} (hT:iK P tt) (hC:xI P C) {o:Oper} {v:RV} (m:Mem N h0 Γ w.heap H) (re:pJ Γ env a o.op.operands.toList) (e:vL tt C env H o.op = .ok v H'):zT P ρ N h0 Γ w H o a v H':=by
 obtain ⟨dst,op,ty,pos,after,guard⟩:=o
 simp only at e re
 cases op <;> simp only [vL] at e
 case move x=>obtain ⟨h1,rfl⟩:=dZ e; exact .bT (fV.same (y:=a.eval x) (by simp [execOp]) m (re x (by simp [Op.operands]) v h1))
 case assign x=>obtain ⟨h1,rfl⟩:=dZ e; exact .bT (fV.same (y:=a.eval x) (by simp [execOp]) m (re x (by simp [Op.operands]) v h1))
 case pick c x y =>
  replace e:=a9n e; obtain ⟨u,u',u'',h1,h2,h3,e⟩:=e
  obtain ⟨h4,rfl⟩:=dZ e
  have r1:=re c (by simp [Op.operands]) u h1
  have r2:=re x (by simp [Op.operands]) u' h2
  have r3:=re y (by simp [Op.operands]) u'' h3
  unfold kV at h4
  split at h4
  ·rename_i t
   simp at h4; subst h4
   have hc:=jM r1
   cases t with
   | true=>exact .bT (fV.same (y:=a.eval x) (by simp [execOp,hc,asBool]) m r2)
   | false=>exact .bT (fV.same (y:=a.eval y) (by simp [execOp,hc,asBool]) m r3)
  ·simp at h4
 case alloc t =>
  unfold aPl at e
  replace e:=dY e; obtain ⟨ti,hti,e⟩:=e
  replace e:=bN e; obtain ⟨z,hz,e⟩:=e
  exact .bT (by simpa only [execOp] using aV2 hT hti hz m e)
 case box t x =>
  replace e:=iH e; obtain ⟨u,h1,e⟩:=e
  unfold b13 at e
  replace e:=cA e; obtain ⟨hk,e⟩:=e
  exact .bT (by simpa only [execOp] using b1w (re x (by simp [Op.operands]) u h1) hk m e)
 case build t parts =>
  obtain ⟨h1,rfl⟩:=dZ e
  have:=aRx (a:=a) hT (re.sub (by simp [Op.operands])) m h1
  refine .bT ?_
  simp only [execOp]
  have e2:(parts.map fun (i,x)=>(i,a.eval x))=⟨parts.toList.map fun p=>(p.1,a.eval p.2)⟩:=by apply Array.ext'; simp
  rw [e2]; exact this
 case buildSlice t len parts =>
  have:=aHb (a:=a) hT (re.sub (by simp [Op.operands])) m e
  refine .bT ?_
  simp only [execOp]
  have e2:(parts.map fun (i,x)=>(i,a.eval x))=⟨parts.toList.map fun p=>(p.1,a.eval p.2)⟩:=by apply Array.ext'; simp
  rw [e2]; exact this
 case load t x =>
  replace e:=iH e; obtain ⟨u,h1,e⟩:=e
  unfold aM2 at e
  replace e:=dY e; obtain ⟨ti,hti,e⟩:=e
  obtain ⟨h2,rfl⟩:=dZ e
  obtain ⟨tok,rfl⟩:=hT _ _ hti
  obtain ⟨y,h3,h4⟩:=aLo (P:=P) m tok (re x (by simp [Op.operands]) u h1) h2
  exact .bT (cQ h3 m h4)
 case store t x y =>
  replace e:=rK e; obtain ⟨u,u',h1,h2,e⟩:=e
  unfold a9m at e
  replace e:=dY e; obtain ⟨ti,hti,e⟩:=e
  obtain ⟨tok,rfl⟩:=hT _ _ hti
  exact .bT (by simpa only [execOp] using aRw tok m (re x (by simp [Op.operands]) u h1) (re y (by simp [Op.operands]) u' h2) e)
 case nilCheck x =>
  replace e:=iH e; obtain ⟨u,h1,e⟩:=e
  obtain ⟨h2,rfl⟩:=dZ e
  have r1:=re x (by simp [Op.operands]) u h1
  unfold a8g at h2
  split at h2
  ·simp at h2; subst h2
   obtain ⟨p,hp,hx⟩:=hZ r1
   exact .bT (fV.same (y:=a.eval x) (by simp [execOp,hx]) m r1)
  ·simp at h2; subst h2
   obtain ⟨xs,_,hx⟩:=xB r1
   exact .bT (fV.same (y:=a.eval x) (by simp [execOp,hx]) m r1)
  ·simp at h2
 case binOp op t x y yt =>
  replace e:=rK e; obtain ⟨u,u',h1,h2,e⟩:=e
  obtain ⟨h3,rfl⟩:=dZ e
  obtain ⟨z,h4,h5⟩:=b14 (P:=P) (w:=w) hT h3 (re x (by simp [Op.operands]) u h1) (re y (by simp [Op.operands]) u' h2)
  exact .bT (cQ h4 m h5)
 case unOp op t x =>
  replace e:=iH e; obtain ⟨u,h1,e⟩:=e
  obtain ⟨h3,rfl⟩:=dZ e
  obtain ⟨z,h4,h5⟩:=b50 (P:=P) (w:=w) (re x (by simp [Op.operands]) u h1) h3
  exact .bT (cQ h4 m h5)
 case convert src dst x =>
  replace e:=iH e; obtain ⟨u,h1,e⟩:=e
  exact .bT (aMj hT m (re x (by simp [Op.operands]) u h1) e)
 case makeFunc fn first captured =>
  unfold a3w at e
  split at e
  ·rename_i f hf0
   obtain ⟨h1,rfl⟩:=dZ e
   replace h1:=aI h1; obtain ⟨vs,h2,h1⟩:=h1
   simp at h1; subst h1
   have hf:first = #[]:=by apply Array.ext'; simpa using hf0
   subst hf
   have r:=pJ.fQ (re.sub (xs:=captured.toList) (by simp [Op.operands])) h2
   refine .bT (fV.same (y:=.func (.func f) #[] ⟨captured.toList.map a.eval⟩) ?_ m (.func f vs _ r.1 r.2))
   have e2:captured.map a.eval=⟨captured.toList.map a.eval⟩:=by apply Array.ext'; simp
   simp [execOp,Instr.makeFunc,e2]
  ·simp at e
 case makeMap t r =>
  have mk:∀ {H':HT} {v:RV},aBe tt H t = .ok v H'→(∃ k e0,P.underlying t=some (.map k e0))∧(HT.a6a H (.map [] [] 0) fun l H=>OR.ok (.map l) H) = .ok v H':=fun {H' v} e1=>by
   unfold aBe at e1
   replace e1:=dY e1; obtain ⟨ti,hti,e1⟩:=e1
   obtain ⟨tok,htt⟩:=hT _ _ hti
   have hd:=tok.d
   rw [htt] at hd
   split at e1
   ·rename_i k e0 hdd
    rw [hdd] at hd
    exact ⟨⟨k,e0,hd⟩,e1⟩
   ·simp at e1
  unfold aHg at e
  split at e
  ·obtain ⟨_,e⟩:=mk e
   exact .bT (by simpa only [execOp,Option.map_none] using aR0 m e)
  ·rename_i x
   replace e:=iH e; obtain ⟨u,h1,e⟩:=e
   split at e
   ·rename_i q z
    obtain ⟨⟨k,e0,hu⟩,e⟩:=mk e
    have hx:=bZ (re x (by simp [Op.operands]) _ h1)
    refine .bT ?_
    have:=aPf (P:=P) (q:=q) (z:=z) hu m e
    simpa only [execOp,Option.map_some,hx] using this
   ·simp at e
 case makeSlice t l c =>
  replace e:=rK e; obtain ⟨u,u',h1,h2,e⟩:=e
  exact .bT (aIw hT m (re l (by simp [Op.operands]) u h1) (re c (by simp [Op.operands]) u' h2) e)
 case slice t x lo hi mx =>
  unfold a6c at e
  split at e
  ·replace e:=iH e; obtain ⟨u,h1,e⟩:=e
   replace e:=bN e; obtain ⟨l,hl,e⟩:=e
   replace e:=bN e; obtain ⟨h,hh,e⟩:=e
   obtain ⟨h3,rfl⟩:=dZ e
   have rl:=pJ.opt (a:=a) (re.sub (xs:=lo.toList) (by intro y hy; simp only [Op.operands,Array.toList_append]; cases lo <;> simp_all)) hl
   have rh:=pJ.opt (a:=a) (re.sub (xs:=hi.toList) (by intro y hy; simp only [Op.operands,Array.toList_append]; cases hi <;> simp_all)) hh
   obtain ⟨z,h4,h5⟩:=aVz (P:=P) (w:=w) hT (re x (by simp [Op.operands]) u h1) rl rh h3
   exact .bT (cQ h4 m h5)
  ·split at e
   ·replace e:=iH e; obtain ⟨u,h1,e⟩:=e
    replace e:=bN e; obtain ⟨l,hl,e⟩:=e
    replace e:=iH e; obtain ⟨u2,h2,e⟩:=e
    replace e:=iH e; obtain ⟨u3,h3,e⟩:=e
    obtain ⟨h4,rfl⟩:=dZ e
    have rl:=pJ.opt (a:=a) (re.sub (xs:=lo.toList) (by intro y hy; simp only [Op.operands,Array.toList_append]; cases lo <;> simp_all)) hl
    obtain ⟨z,h5,h6⟩:=aV0 (P:=P) (w:=w) hT (re x (by simp [Op.operands]) u h1) rl (re _ (by simp [Op.operands]) u2 h2) (re _ (by simp [Op.operands]) u3 h3) h4
    exact .bT (cQ h5 m h6)
   ·simp at e
 case fieldAddr t x f =>
  replace e:=iH e; obtain ⟨u,h1,e⟩:=e
  obtain ⟨h3,rfl⟩:=dZ e
  obtain ⟨z,h4,h5⟩:=aKn (P:=P) (w:=w) hT (re x (by simp [Op.operands]) u h1) h3
  exact .bT (cQ h4 m h5)
 case field t x f =>
  replace e:=iH e; obtain ⟨u,h1,e⟩:=e
  obtain ⟨h3,rfl⟩:=dZ e
  obtain ⟨z,h4,h5⟩:=aVx (P:=P) (w:=w) hT (re x (by simp [Op.operands]) u h1) h3
  exact .bT (cQ h4 m h5)
 case indexAddr t x i =>
  replace e:=rK e; obtain ⟨u,u',h1,h2,e⟩:=e
  obtain ⟨h3,rfl⟩:=dZ e
  obtain ⟨z,h4,h5⟩:=aKo (P:=P) (w:=w) hT (re x (by simp [Op.operands]) u h1) (re i (by simp [Op.operands]) u' h2) h3
  exact .bT (cQ h4 m h5)
 case index t x i =>
  replace e:=rK e; obtain ⟨u,u',h1,h2,e⟩:=e
  obtain ⟨h3,rfl⟩:=dZ e
  obtain ⟨z,h4,h5⟩:=aVy (P:=P) (w:=w) hT (re x (by simp [Op.operands]) u h1) (re i (by simp [Op.operands]) u' h2) h3
  exact .bT (cQ h4 m h5)
 case lookup t x i ok =>
  replace e:=rK e; obtain ⟨u,u',h1,h2,e⟩:=e
  obtain ⟨h3,rfl⟩:=dZ e
  obtain ⟨z,h4,h5⟩:=aRz (P:=P) (w:=w) hT m (re x (by simp [Op.operands]) u h1) (re i (by simp [Op.operands]) u' h2) h3
  exact .bT (cQ h4 m h5)
 case mapUpdate t x k y =>
  replace e:=a9n e; obtain ⟨u,u',u'',h1,h2,h3,e⟩:=e
  exact .bT (by simpa only [execOp] using a7e hT m (re x (by simp [Op.operands]) u h1) (re k (by simp [Op.operands]) u' h2) (re y (by simp [Op.operands]) u'' h3) e)
 case insert t x k y =>
  replace e:=a9n e; obtain ⟨u,u',u'',h1,h2,h3,e⟩:=e
  exact .bT (by simpa only [execOp] using a7e hT m (re x (by simp [Op.operands]) u h1) (re k (by simp [Op.operands]) u' h2) (re y (by simp [Op.operands]) u'' h3) e)
 case mapEntry t x k =>
  replace e:=rK e; obtain ⟨u,u',h1,h2,e⟩:=e
  exact .bT (by simpa only [execOp] using aKq hT m (re x (by simp [Op.operands]) u h1) (re k (by simp [Op.operands]) u' h2) e)
 case entryStore t x k y =>
  replace e:=a9n e; obtain ⟨u,u',u'',h1,h2,h3,e⟩:=e
  exact .bT (by simpa only [execOp] using aHe m (re x (by simp [Op.operands]) u h1) (re k (by simp [Op.operands]) u' h2) (re y (by simp [Op.operands]) u'' h3) e)
 case range t x =>
  replace e:=iH e; obtain ⟨u,h1,e⟩:=e
  exact .bT (by simpa only [execOp] using aR1 hT m (re x (by simp [Op.operands]) u h1) e)
 case next x s =>
  replace e:=iH e; obtain ⟨u,h1,e⟩:=e
  exact .bT (by simpa only [execOp] using aV6 m (re x (by simp [Op.operands]) u h1) e)
 case entry x =>
  replace e:=iH e; obtain ⟨u,h1,e⟩:=e
  obtain ⟨h3,rfl⟩:=dZ e
  obtain ⟨z,h4,h5⟩:=aV7 (P:=P) (w:=w) m (re x (by simp [Op.operands]) u h1) h3
  exact .bT (cQ h4 m h5)
 case extract x i =>
  replace e:=iH e; obtain ⟨u,h1,e⟩:=e
  obtain ⟨h3,rfl⟩:=dZ e
  obtain ⟨z,h4,h5⟩:=aO6 (P:=P) (w:=w) (re x (by simp [Op.operands]) u h1) h3
  exact .bT (cQ h4 m h5)
 case call c =>
  obtain ⟨callee,args,ts⟩:=c
  simp only at e
  split at e
  ·rename_i b
   replace e:=bN e; obtain ⟨vs,hvs,e⟩:=e
   have r:=pJ.fQ (re.sub (xs:=args.toList) (by simp [Op.operands,Call.operands])) hvs
   refine .bT ?_
   have:=aMk (P:=P) (t:=ty) (cs:=args.map fun | .const _=>true | _=>false) hT m r e
   simp only [execOp,resolve,Sem.run_bind,Sem.run_pure,Result.andThen_ok,invoke]
   have e2:args.map a.eval=⟨args.toList.map a.eval⟩:=by apply Array.ext'; simp
   rw [e2]
   exact this
  ·rename_i f
   unfold aV8 at e
   replace e:=bN e; obtain ⟨u,hu,e⟩:=e
   split at e
   ·rename_i g caps
    rw [cP] at e
    split at e
    ·simp at e
    rename_i hne
    replace e:=bN e; obtain ⟨vs,hvs,e⟩:=e
    rw [oU] at e
    obtain ⟨cs,rc,hfe⟩:=xB (re f (by simp [Op.operands,Call.operands]) _ hu)
    have r:=pJ.fQ (re.sub (xs:=args.toList) (by intro y hy; simp only [Op.operands,Call.operands,Array.toList_append]; simp; right; simpa using hy)) hvs
    exact .aE9 (aAz hfe) ((hC g _ _ _ _ e).1 (fun h=>hne (by rw [h]; simp))) m (r.append rc)
   ·rename_i l
    replace e:=bN e; obtain ⟨vs,hvs,e⟩:=e
    have hfe:=re f (by simp [Op.operands,Call.operands]) _ hu
    have r:=pJ.fQ (re.sub (xs:=args.toList) (by intro y hy; simp only [Op.operands,Call.operands,Array.toList_append]; simp; right; simpa using hy)) hvs
    obtain ⟨p,hp,hfe⟩:∃ p,Γ l=some p∧a.eval f = .func (.yield p.b) #[] #[]:=by
     generalize a.eval f=x at hfe
     cases hfe with
     | yld _ p hp=>exact ⟨p,hp,rfl⟩
    exact .b17 hp (aPm hfe) ((hC Y0 _ _ _ _ e).2 rfl).1 m r
   ·simp at e
  ·simp at e
 all_goals simp at e
end
end Go.Rx

/- Closed runs: regions. -/
namespace Go.Rx
open Go.Fbs (maskOf masksFrom edgesBack pairOk noDup Closed mask_listed noDup_spec listedOf listedOf_set closed_set ready_iff unl unl_set lst lst_of_listedOf listed_false unl_pos)
section
variable (tt:T bD) (C:eO) (n:Nat)
noncomputable def fR {β:Type} (env:T RV) (dst:Option Tmp) (v:RV) (d:β) (k:T RV→β):β :=
 match dst with
 | none=>k env
 | some t=>aJ (Nat.blt t n) (T.j9 env t v k) d
noncomputable def wM (ops:List Oper) (env:T RV) (o:Oper):Option Bool :=
 match o.guard with
 | none=>some true
 | some (j,want)=>aF (mK ops j) none fun oj=>aF oj.dst none fun t=>aF (env.get t) none fun v=>match v with
  | .bool b=>some (aJ b want (aJ want false true))
  | .undef=>some false
  | _=>none
noncomputable def opsV (ops:List Oper):List Oper→T RV→HT→Out
 | [],env,H=>.kH env H
 | o::r,env,H=>aF (wM ops env o) .bad fun b=>aJ b
   (match vL tt C env H o.op with
   | .ok v H=>fR n env o.dst v .bad fun env=>opsV ops r env H
   | .bad=>.bad)
   (fR n env o.dst .undef .bad fun env=>opsV ops r env H)
end
section
variable {P:Program} {δ:List Deferred} {ρ:Option Nat} {N:Nat} {h0:bX} {Γ : Gm} {w:World} {H H':HT} {tt:T bD} {C:eO} {env:T RV} {a:Act} {n:Nat}
theorem xJ {α:Type} {env:T RV} {dst:Option Tmp} {v:RV} {d:α} {k:T RV→α} : (∃ env',fR n env dst v d k=k env'∧(∀ t,env'.get t=if dst=some t then some v else env.get t)∧∀ t,dst=some t→t < n)∨fR n env dst v d k=d:=by
 unfold fR
 cases dst with
 | none=>exact .inl ⟨env,rfl,fun t=>by simp,fun t h=>by simp at h⟩
 | some t =>
  simp only
  rw [cP]
  split
  ·rename_i h
   obtain ⟨env',h1,h2⟩:=T.hX env t v k
   refine .inl ⟨env',h1,fun j=>?_,fun j hj=>?_⟩
   ·rw [h2]
    by_cases hj:j=t
    ·subst hj; simp
    ·have:¬ t=j:=fun e=>hj e.symm
     simp [hj,this]
   ·simp at hj; subst hj; rw [Nat.blt_eq] at h; exact h
  ·exact .inr rfl
theorem cC.put (r:cC δ Γ n env a) {env':T RV} {dst:Option Tmp} {v:RV} {x:Value} (hg:∀ t,env'.get t=if dst=some t then some v else env.get t) (hn:∀ t,dst=some t→t < n) (hv:aD Γ v x):cC δ Γ n env' (a.put dst x):=by
 refine ⟨by cases dst <;> exact r.1,by cases dst <;> simp [Act.put,r.2.1],fun i u hu=>?_⟩
 rw [hg] at hu
 split at hu
 ·rename_i hd
  simp at hu; subst hu
  have:=hn i hd
  subst hd
  refine ⟨x,?_,hv⟩
  simp only [Act.put]
  rw [Array.getElem?_setIfInBounds,if_pos rfl,if_pos (by rw [r.2.1]; exact this)]
 ·rename_i hd
  obtain ⟨y,h1,h2⟩:=r.2.2 i u hu
  refine ⟨y,?_,h2⟩
  cases dst with
  | none=>exact h1
  | some d =>
   simp only [Act.put]
   rw [Array.getElem?_setIfInBounds_ne (fun e=>hd (by rw [e]))]; exact h1
def b18 (Γ : Gm) (ops : List Oper) (env : T RV) (a : Act) (o : Oper) : Prop:=∀ j want oj t v,o.guard = some (j,want) → ops[j]? = some oj → oj.dst = some t → env.get t = some v → ∃ x,a.tmps[t]? = some x ∧ aD Γ v x
theorem a3x {ops:List Oper} {o:Oper} {b:Bool} (re:b18 Γ ops env a o) (e:wM ops env o=some b):Region.wanted o (yielded ops.toArray a.tmps)=b:=by
 unfold wM at e
 unfold Region.wanted
 split at e
 ·rename_i hg
  rw [hg]; simpa using e
 ·rename_i j want hg
  rw [hg]
  simp only
  replace e:=aI e; obtain ⟨oj,h1,e⟩:=e
  replace e:=aI e; obtain ⟨t,h2,e⟩:=e
  replace e:=aI e; obtain ⟨v,h3,e⟩:=e
  rw [lD] at h1
  obtain ⟨x,h4,h5⟩:=re j want oj t v hg h1 h2 h3
  have h6:((ops.toArray[j]?).bind (·.dst)).bind (a.tmps[·]?)=some x:=by
   rw [List.getElem?_toArray,h1]
   simp [h2,h4]
  split at e
  ·rename_i c
   obtain rfl:=jM h5
   simp at e
   simp only [yielded,h6]
   cases c <;> cases want <;> simp [bL,cD] at e <;> subst e <;> rfl
  ·obtain rfl:=aDm h5
   simp at e; subst e
   simp only [yielded,h6]
   rfl
  ·simp at e
theorem cC.gd (r:cC δ Γ n env a) (ops:List Oper) (o:Oper):b18 Γ ops env a o:=fun _ _ _ t v _ _ _ h=>r.2.2 t v h
theorem aBf (hT:iK P tt) (hC:xI P C) {ops:List Oper} {Q:Exit→Act→World→Prop} : ∀ {rest:List Oper} {env:T RV} {H:HT} {env':T RV} {H':HT},
  opsV tt C n ops rest env H = .kH env' H'→∀ (Γ : Gm) (w:World) (a:Act),Mem N h0 Γ w.heap H→cC δ Γ n env a →
  (∀ Γ' w' a',Ext N h0 Γ w H Γ' w' H'→cC δ Γ' n env' a'→Q .normal a' w')→wpListIn (frF ρ) 0 P ops.toArray Q rest a w
 | [],env,H,env',H',e,Γ,w,a,m,re,hQ=>by
  simp [opsV] at e
  obtain ⟨rfl,rfl⟩:=e
  exact hQ Γ w a (Ext.refl m) re
 | o::rest,env,H,env',H',e,Γ,w,a,m,re,hQ=>by
  simp only [opsV] at e
  replace e:=mE e
  rcases e with ⟨_,e⟩ | ⟨b,hb,e⟩
  ·simp at e
  have hw:=a3x (re.gd ops o) hb
  cases b with
  | true =>
   rw [bL] at e
   split at e
   ·rename_i v H1 h1
    unfold wpListIn
    rw [if_pos hw]
    refine Oper.wpIn_mono ?_ (aHh hT hC m (re.on _) h1 Q)
    rintro a1 w1 ⟨x,Γ1,rfl,hx,hr⟩
    rcases xJ (n:=n) (env:=env) (dst:=o.dst) (v:=v) (d:=Out.bad) (k:=fun env=>opsV tt C n ops rest env H1) with ⟨env1,h2,h3,h4⟩ | h2
    ·rw [h2] at e
     exact aBf hT hC e Γ1 w1 _ hx.mem ((re.mono hx.gle).put h3 h4 hr) (fun Γ' w' a' h5 h6=>hQ Γ' w' a' (hx.trans h5) h6)
    ·rw [h2] at e; simp at e
   ·simp at e
  | false =>
   rw [cD] at e
   unfold wpListIn
   rw [if_neg (by rw [hw]; simp)]
   rcases xJ (n:=n) (env:=env) (dst:=o.dst) (v:=.undef) (d:=Out.bad) (k:=fun env=>opsV tt C n ops rest env H) with ⟨env1,h2,h3,h4⟩ | h2
   ·rw [h2] at e
    exact ⟨fun _ _=>trivial,aBf hT hC e Γ w _ m (re.put h3 h4 .undef) hQ⟩
   ·rw [h2] at e; simp at e
theorem aPn (hT:iK P tt) (hC:xI P C) {ops:List Oper} {id:Nat} {Q:Exit→Act→World→Prop} {env':T RV} {H':HT} (e:opsV tt C n ops ops env H = .kH env' H') (m:Mem N h0 Γ w.heap H) (re:cC δ Γ n env a)
  (hQ:∀ Γ' w' a',Ext N h0 Γ w H Γ' w' H'→cC δ Γ' n env' a'→Q .normal a' w'):(Code.region id ops.toArray false).wpIn (frF ρ) 0 P Q a w :=
 wpIn_region_lit (aBf hT hC e Γ w a m re hQ)
theorem b19 {ops rest:List Oper} : ∀ {env:T RV} {H:HT},(∃ env' H',opsV tt C n ops rest env H = .kH env' H')∨opsV tt C n ops rest env H = .bad:=by
 induction rest with
 | nil=>intro env H; exact .inl ⟨env,H,rfl⟩
 | cons o r ih =>
  intro env H
  simp only [opsV]
  cases hw:wM ops env o with
  | none=>exact .inr rfl
  | some b =>
   rw [aP]
   cases b with
   | true =>
    rw [bL]
    cases ho:vL tt C env H o.op with
    | bad=>exact .inr rfl
    | ok v H1 =>
     simp only
     rcases xJ (n:=n) (env:=env) (dst:=o.dst) (v:=v) (d:=Out.bad) (k:=fun env=>opsV tt C n ops r env H1) with ⟨env1,h2,_⟩ | h2
     ·rw [h2]; exact ih
     ·exact .inr h2
   | false =>
    rw [cD]
    rcases xJ (n:=n) (env:=env) (dst:=o.dst) (v:=.undef) (d:=Out.bad) (k:=fun env=>opsV tt C n ops r env H) with ⟨env1,h2,_⟩ | h2
    ·rw [h2]; exact ih
    ·exact .inr h2
end
end Go.Rx

/- Closed runs: regions whose order is drawn. -/
namespace Go.Rx
open Go.Fbs (maskOf masksFrom edgesBack pairOk noDup Closed mask_listed noDup_spec listedOf listedOf_set closed_set ready_iff unl unl_set lst lst_of_listedOf listed_false unl_pos)
mutual
noncomputable def aPo:RV→RV→Bool
 | .bool a,.bool b=>aJ a b (aJ b false true)
 | .int k a,.int k' b=>aJ (a3p k k') (eqI a b) false
 | .str a,.str b=>aJ (Nat.beq a.n b.n) (Nat.beq a.c b.c) false
 | .dK,.dK=>true
 | .ptr l o,.ptr l' o'=>aJ (Nat.beq l l') (Nat.beq o o') false
 | .slnil,.slnil=>true
 | .sl l o n s c,.sl l' o' n' s' c'=>aJ (Nat.beq l l') (aJ (Nat.beq o o') (aJ (Nat.beq n n') (aJ (Nat.beq s s') (match c,c' with | none,none=>true | some x,some y=>Nat.beq x y | _,_=>false) false) false) false) false
 | .j5,.j5=>true
 | .map l,.map l'=>Nat.beq l l'
 | .zU,.zU=>true
 | .func f cs,.func g ds=>aJ (Nat.beq f g) (a27 cs ds) false
 | .agg cs,.agg ds=>a27 cs ds
 | .aG cs,.aG ds=>a27 cs ds
 | .undef,.undef=>true
 | .yld l,.yld l'=>Nat.beq l l'
 | _,_=>false
noncomputable def a27:List RV→List RV→Bool
 | [],[]=>true
 | x::xs,y::ys=>aJ (aPo x y) (a27 xs ys) false
 | _,_=>false
end
theorem oV {x y:Bool} : aJ x y false=true↔x=true∧y=true:=by cases x <;> simp [bL,cD]
theorem mT {a b:Nat} : Nat.beq a b=true↔a=b:=by rw [Nat.beq_eq]
mutual
theorem aTv:∀ (x y:RV),aPo x y=true→x=y:=by
 intro x y h
 unfold aPo at h
 split at h
 ·rename_i a b; cases a <;> cases b <;> simp [bL,cD] at h <;> rfl
 ·rw [oV,a3r,yV,decide_eq_true_iff] at h; obtain ⟨rfl,rfl⟩:=h; rfl
 ·rename_i a b; rw [oV,mT,mT] at h; obtain ⟨h1,h2⟩:=h; cases a; cases b; simp only at h1 h2; subst h1 h2; rfl
 ·rfl
 ·rw [oV,mT,mT] at h; obtain ⟨rfl,rfl⟩:=h; rfl
 ·rfl
 ·rename_i l o n s c l' o' n' s' c'
  rw [oV,oV,oV,oV,mT,mT,mT,mT] at h
  obtain ⟨rfl,rfl,rfl,rfl,h⟩:=h
  cases c with
  | none=>cases c' with
   | none=>rfl
   | some=>simp at h
  | some=>cases c' with
   | none=>simp at h
   | some=>rw [mT.1 h]
 ·rfl
 ·rw [mT] at h; subst h; rfl
 ·rfl
 ·rename_i f cs g ds
  rw [oV,mT] at h; obtain ⟨rfl,h⟩:=h; rw [a6d cs ds h]
 ·rename_i cs ds; rw [a6d cs ds h]
 ·rename_i cs ds; rw [a6d cs ds h]
 ·rfl
 ·rw [mT] at h; subst h; rfl
 ·simp at h
theorem a6d:∀ (x y:List RV),a27 x y=true→x=y:=by
 intro x y h
 cases x with
 | nil =>
  cases y with
  | nil=>rfl
  | cons=>simp [a27] at h
 | cons x xs =>
  cases y with
  | nil=>simp [a27] at h
  | cons y ys =>
   simp only [a27] at h
   rw [oV] at h
   rw [aTv x y h.1,a6d xs ys h.2]
end
noncomputable def b9u (l:List (Nat×Operand)):Bool:=@List.rec (Nat×Operand) (fun _=>Bool) true (fun p _ ih=>match p.2 with | .const _=>ih | _=>false) l
noncomputable def cls (wd:Bool) (tt:T bD) (o:Oper):Nat :=
 match o.op with
 | .move _ | .assign _ | .pick .. | .build .. | .nilCheck _ | .binOp .. | .unOp .. | .makeFunc .. | .slice .. | .fieldAddr .. | .field .. | .indexAddr .. | .index .. | .extract ..=>0
 | .load .. | .lookup ..=>1
 | .call c=>match c.callee with
  | .builtin .len | .builtin .cap=>1
  | .builtin .min | .builtin .max=>0
  | _=>3
 | .convert s d _=>dD tt s 3 fun si=>dD tt d 3 fun di=>match si.d,di.d with
  | .int _,.int _ | .str,.str=>0
  | .sl _,.str=>1
  | _,_=>3
 | .alloc _=>match o.guard with | none=>2 | some _=>3
 | .buildSlice _ _ parts=>match o.guard with | none=>aJ (b9u parts.toList || wd) 2 3 | some _=>3
 | _=>3
theorem aPp {wd:Bool} {tt:T bD} (o:Oper):cls wd tt o≤3:=by
 unfold cls
 split <;> try omega
 ·split <;> omega
 ·unfold dD aF
  cases tt.get _ <;> simp <;> cases tt.get _ <;> simp
  split <;> omega
 ·split <;> omega
 ·split
  ·rw [cP]; split <;> omega
  ·omega
theorem qJ {o:Option RV} {v:RV} {H H':HT} (e:j8 o H = .ok v H'):H'=H∧∀ H2,j8 o H2 = .ok v H2:=by
 obtain ⟨rfl,rfl⟩:=dZ e
 exact ⟨rfl,fun H2=>rfl⟩
section
variable {wd:Bool} {tt:T bD} {C:eO} {env:T RV} {H H':HT}
theorem aHi {o:Oper} (hc:cls wd tt o≤1) {v:RV} (e:vL tt C env H o.op = .ok v H'):H'=H:=by
 obtain ⟨dst,op,ty,pos,after,guard⟩:=o
 unfold cls at hc
 simp only at e hc
 cases op <;> simp only [vL] at e <;> simp only at hc <;> try omega
 case move=>exact (dZ e).2
 case assign=>exact (dZ e).2
 case pick=>obtain ⟨_,_,_,_,_,_,e⟩:=a9n e; exact (dZ e).2
 case build=>exact (dZ e).2
 case load =>
  obtain ⟨_,_,e⟩:=iH e
  unfold aM2 at e
  replace e:=dY e; obtain ⟨_,_,e⟩:=e
  exact (dZ e).2
 case nilCheck=>obtain ⟨_,_,e⟩:=iH e; exact (dZ e).2
 case binOp=>obtain ⟨_,_,_,_,e⟩:=rK e; exact (dZ e).2
 case unOp=>obtain ⟨_,_,e⟩:=iH e; exact (dZ e).2
 case convert s d x =>
  obtain ⟨u,_,e⟩:=iH e
  unfold kL at e
  replace e:=dY e; obtain ⟨si,hs,e⟩:=e
  replace e:=dY e; obtain ⟨di,hd,e⟩:=e
  simp only [dD,hs,hd,aP] at hc
  split at e
  ·rw [rI] at e; simp at e; exact e.2.symm
  ·simp at e; exact e.2.symm
  ·replace e:=dY e; obtain ⟨ei,_,e⟩:=e
   split at e <;> simp at e
   exact e.2.symm
  ·replace e:=dY e; obtain ⟨ei,_,e⟩:=e
   split at e
   ·replace e:=a2f e; obtain ⟨_,_,_,e⟩:=e
    replace e:=cA e; obtain ⟨_,e⟩:=e
    obtain ⟨_,e,_⟩:=pU _ _ _ _ _ e
    replace e:=bN e; obtain ⟨_,_,e⟩:=e
    rw [a9i] at e
    simp at e; exact e.2.symm
   ·simp at e
  ·rename_i h1 h2 _
   rw [h1,h2] at hc
   simp at hc
  ·rename_i h1 h2 _
   rw [h1,h2] at hc
   simp at hc
  ·rename_i h1 h2 _
   rw [h1,h2] at hc
   simp at hc
  ·simp at e
 case makeFunc =>
  unfold a3w at e
  split at e
  ·exact (dZ e).2
  ·simp at e
 case slice =>
  unfold a6c at e
  split at e
  ·obtain ⟨_,_,e⟩:=iH e
   replace e:=bN e; obtain ⟨_,_,e⟩:=e
   replace e:=bN e; obtain ⟨_,_,e⟩:=e
   exact (dZ e).2
  ·split at e
   ·obtain ⟨_,_,e⟩:=iH e
    replace e:=bN e; obtain ⟨_,_,e⟩:=e
    obtain ⟨_,_,e⟩:=iH e
    obtain ⟨_,_,e⟩:=iH e
    exact (dZ e).2
   ·simp at e
 case fieldAddr=>obtain ⟨_,_,e⟩:=iH e; exact (dZ e).2
 case field=>obtain ⟨_,_,e⟩:=iH e; exact (dZ e).2
 case indexAddr=>obtain ⟨_,_,_,_,e⟩:=rK e; exact (dZ e).2
 case index=>obtain ⟨_,_,_,_,e⟩:=rK e; exact (dZ e).2
 case lookup=>obtain ⟨_,_,_,_,e⟩:=rK e; exact (dZ e).2
 case extract=>obtain ⟨_,_,e⟩:=iH e; exact (dZ e).2
 case alloc=>split at hc <;> omega
 case buildSlice =>
  split at hc
  ·rw [cP] at hc; split at hc <;> omega
  ·omega
 case call c =>
  obtain ⟨callee,args,ts⟩:=c
  simp only at e hc
  split at hc
  ·replace e:=bN e; obtain ⟨vs,_,e⟩:=e
   unfold oZ at e
   split at e <;> first | exact (dZ e).2 | (simp at e; done) | simp_all
  ·replace e:=bN e; obtain ⟨vs,_,e⟩:=e
   unfold oZ at e
   split at e <;> first | exact (dZ e).2 | (simp at e; done) | simp_all
  ·replace e:=bN e; obtain ⟨vs,_,e⟩:=e
   unfold oZ at e
   split at e <;> first | exact (dZ e).2 | (simp at e; done) | simp_all
  ·replace e:=bN e; obtain ⟨vs,_,e⟩:=e
   unfold oZ at e
   split at e <;> first | exact (dZ e).2 | (simp at e; done) | simp_all
  ·omega
theorem b2a {o:Oper} (hc:cls wd tt o=0) {v:RV} (e:vL tt C env H o.op = .ok v H') (H2:HT):vL tt C env H2 o.op = .ok v H2:=by
 obtain ⟨dst,op,ty,pos,after,guard⟩:=o
 unfold cls at hc
 simp only at e hc ⊢
 have k1:∀ {x:Operand} {f:RV→Option RV},hP env x (fun u=>j8 (f u) H) = .ok v H'→hP env x (fun u=>j8 (f u) H2) = .ok v H2:=fun {x f} e=>by
  obtain ⟨u,h1,e⟩:=iH e
  unfold hP; rw [h1,aP]; exact (qJ e).2 H2
 have k2:∀ {x y:Operand} {f:RV→RV→Option RV},mQ env x y (fun u v=>j8 (f u v) H) = .ok v H'→mQ env x y (fun u v=>j8 (f u v) H2) = .ok v H2:=fun {x y f} e=>by
  obtain ⟨u,u',h1,h2,e⟩:=rK e
  unfold mQ; rw [h1,aP,h2,aP]; exact (qJ e).2 H2
 cases op <;> simp only [vL] at e ⊢ <;> simp only at hc <;> try omega
 case move=>exact (qJ e).2 H2
 case assign=>exact (qJ e).2 H2
 case pick =>
  obtain ⟨u,u',u'',h1,h2,h3,e⟩:=a9n e
  unfold ev3; rw [h1,aP,h2,aP,h3,aP]; exact (qJ e).2 H2
 case build=>exact (qJ e).2 H2
 case nilCheck=>exact k1 e
 case binOp=>exact k2 e
 case unOp=>exact k1 e
 case convert s d x =>
  obtain ⟨u,hu,e⟩:=iH e
  unfold hP; rw [hu,aP]
  unfold kL at e ⊢
  replace e:=dY e; obtain ⟨si,hs,e⟩:=e
  replace e:=dY e; obtain ⟨di,hd,e⟩:=e
  simp only [dD,hs,hd,aP] at hc ⊢
  split at e
  ·rename_i h1 h2
   rw [rI] at e; simp at e
   simp only [h1,h2,rI]
   rw [← e.1]
  ·simp at e
   obtain ⟨rfl,rfl⟩:=e
   simp_all
  all_goals simp_all
 case makeFunc =>
  unfold a3w at e ⊢
  split at e
  ·exact (qJ e).2 H2
  ·simp at e
 case slice =>
  unfold a6c at e ⊢
  split at e
  ·obtain ⟨u,hu,e⟩:=iH e
   replace e:=bN e; obtain ⟨l,hl,e⟩:=e
   replace e:=bN e; obtain ⟨h,hh,e⟩:=e
   unfold hP; rw [hu,aP,hl,aP,hh,aP]; exact (qJ e).2 H2
  ·split at e
   ·obtain ⟨u,hu,e⟩:=iH e
    replace e:=bN e; obtain ⟨l,hl,e⟩:=e
    obtain ⟨u2,hu2,e⟩:=iH e
    obtain ⟨u3,hu3,e⟩:=iH e
    unfold hP; rw [hu,aP,hl,aP,hu2,aP,hu3,aP]; exact (qJ e).2 H2
   ·simp at e
 case fieldAddr=>exact k1 e
 case field=>exact k1 e
 case indexAddr=>exact k2 e
 case index=>exact k2 e
 case extract=>exact k1 e
 case alloc=>split at hc <;> omega
 case buildSlice =>
  split at hc
  ·rw [cP] at hc; split at hc <;> omega
  ·omega
 case call c =>
  obtain ⟨callee,args,ts⟩:=c
  simp only at e
  cases callee with
  | builtin b =>
   simp only at e hc ⊢
   replace e:=bN e; obtain ⟨vs,hvs,e⟩:=e
   simp only [hvs,aP]
   split at hc
   ·omega
   ·omega
   ·unfold oZ at e ⊢
    split at e <;> first | exact (qJ e).2 H2 | (simp at e; done) | simp_all
   ·unfold oZ at e ⊢
    split at e <;> first | exact (qJ e).2 H2 | (simp at e; done) | simp_all
   ·omega
  | _=>simp at hc
end
end Go.Rx

/- Closed runs: regions whose order is drawn: the evaluator,and its trace. -/
namespace Go.Rx
open Go.Fbs (maskOf masksFrom edgesBack pairOk noDup Closed mask_listed noDup_spec listedOf listedOf_set closed_set ready_iff unl unl_set lst lst_of_listedOf listed_false unl_pos)
noncomputable def hG (wd:Bool) (tt:T bD) (o:Oper):Bool:=Nat.beq (cls wd tt o) 3
noncomputable def kS (wd:Bool) (tt:T bD):List Oper→Nat→Nat
 | _,0=>0
 | [],_+1=>0
 | o::r,j+1=>aJ (hG wd tt o) (Nat.succ (kS wd tt r j)) (kS wd tt r j)
noncomputable def wN (wd:Bool) (tt:T bD) (ops:List Oper) (p:Nat):Bool:=aF (mK ops p) false (hG wd tt)
noncomputable def adm (wd:Bool) (tt:T bD) (ops:List Oper) (ms:List Nat) (j t:Nat):Bool :=
 (List.range ops.length).all fun p=>aJ (wN wd tt ops p) (aJ (Nat.blt (kS wd tt ops p) t) (!(ms.getD p 0).testBit j) (!(ms.getD j 0).testBit p)) true
noncomputable def pC (wd:Bool) (tt:T bD) (ops:List Oper):List (Nat×Nat) :=
 (List.range ops.length).flatMap fun j=>aF (mK ops j) [] fun o=>aJ (Nat.beq (cls wd tt o) 1 || Nat.beq (cls wd tt o) 2)
  (((List.range (kS wd tt ops ops.length+1)).filter fun t=>adm wd tt ops (masksFrom [] ops) j t && (Nat.beq (cls wd tt o) 2 || !Nat.beq t (kS wd tt ops j))).map fun t=>(j,t)) []
noncomputable def nF (wd:Bool) (tt:T bD) (ops:List Oper):Bool :=
 let ms:=masksFrom [] ops
 noDup (ops.map (·.dst)) && (List.range ops.length).all (fun j=>edgesBack j (ops.getD j default)) && (List.range ops.length).all (fun j=>(List.range j).all fun i=>pairOk ops ms i j &&
  (!(wN wd tt ops i && wN wd tt ops j) || (ms.getD j 0).testBit i)) &&
 (pC wd tt ops).all fun p=>(List.range ops.length).all fun i=>Nat.blt i p.1 || (match ops[p.1]?,ops[i]? with
  | some x,some y=>(match y.dst with | some d=>!(x.looksAt ops.toArray).contains d | none=>true)
  | _,_=>false)
inductive aD0 where
 | ok (env:T RV) (Ms:List HT)
 | bad
section
variable (wd:Bool) (tt:T bD) (C:eO) (n:Nat)
noncomputable def aBg (env:T RV) (op:Op):Option (Nat×List RV) :=
 match op with
 | .alloc t=>dD tt t none fun ti=>aF ti.z none fun z=>some (Nat.succ t,z)
 | .buildSlice t len parts=>aF (a0k tt env t len parts.toList) none fun p=>some (0,p.2)
 | _=>none
noncomputable def b4c (op:Op):Option (Nat×List RV) :=
 match op with
 | .alloc t=>dD tt t none fun ti=>aF ti.z none fun z=>some (Nat.succ t,z)
 | .buildSlice t len _=>aF (a0k tt .e t len []) none fun p=>some (0,p.2)
 | _=>none
noncomputable def aD1 (op:Op) (id:Nat):RV :=
 match op with
 | .buildSlice t len _=>aF (a0k tt .e t len []) .undef fun p=>.sl id 0 len p.1 (some len)
 | _=>.ptr id 0
noncomputable def yF (pc:Op→Option (Nat×List RV)):List Oper→HT→Option (List Nat×HT)
 | [],H=>some ([],H)
 | o::r,H=>aJ (Nat.beq (cls wd tt o) 2)
   (aF (pc o.op) none fun q=>mD H q.1 q.2 fun l H=>aF (yF pc r H) none fun p=>some (l::p.1,p.2))
   (aF (yF pc r H) none fun p=>some (0::p.1,p.2))
noncomputable def a1f (H:HT) (b:Bool) (o:aD0):aD0 :=
 match o with
 | .ok env Ms=>.ok env (aJ b (H::Ms) Ms)
 | .bad=>.bad
noncomputable def p6 (ops:List Oper):List Oper→List Nat→T RV→HT→aD0
 | [],_,env,H=>.ok env [H]
 | o::r,ids,env,H=>match ids with
  | []=>.bad
  | id::ids=>aF (wM ops env o) .bad fun b=>aJ b
    (aJ (Nat.beq (cls wd tt o) 2)
     (fR n env o.dst (aD1 tt o.op id) .bad fun env=>p6 ops r ids env H)
     (match vL tt C env H o.op with
     | .ok v H'=>fR n env o.dst v .bad fun env=>a1f H (hG wd tt o) (p6 ops r ids env H')
     | .bad=>.bad))
    (fR n env o.dst .undef .bad fun env=>a1f H (hG wd tt o) (p6 ops r ids env H))
noncomputable def aFi (H:HT) (l e:Nat) (z:List RV):Bool :=
 yU H l false fun g m t=>aJ (Nat.beq g e) (aJ (Nat.beq m (gD z)) (pH t m 0 false fun r=>a27 r z) false) false
noncomputable def a4a (ops:List Oper) (ids:List Nat) (env:T RV) (Ms:List HT):List (Nat×Nat)→Bool
 | []=>true
 | (j,t)::r=>aJ
   (aF (mK ops j) false fun o=>aF (mK Ms t) false fun M=>aJ (Nat.beq (cls wd tt o) 2)
    (aF (aBg tt env o.op) false fun q=>aF (mK ids j) false fun l=>aFi M l q.1 q.2)
    (aF (wM ops env o) false fun b=>aJ b
     (match vL tt C env M o.op with
     | .ok v _=>(match o.dst with | some d=>aF (env.get d) false fun u=>aPo v u | none=>true)
     | .bad=>false) true))
   (a4a ops ids env Ms r) false
noncomputable def aPr (ops:List Oper) (env:T RV) (H:HT) (k:T RV→Out):Out :=
 aJ wd (aF (yF wd tt (b4c tt) ops H) .bad fun p =>
  match p6 wd tt C n ops ops p.1 env p.2 with
  | .ok env' _=>k env'
  | .bad=>.bad) (k .e)
noncomputable def a29 (ops:List Oper) (env:T RV) (H:HT):Out :=
 aJ (nF wd tt ops) (aPr wd tt C n ops env H fun pe=>aF (yF wd tt (aBg tt pe) ops H) .bad fun p =>
  match p6 wd tt C n ops ops p.1 env p.2 with
  | .ok env' Ms=>aJ (a4a wd tt C ops p.1 env' Ms (pC wd tt ops)) (aF (mK Ms (kS wd tt ops ops.length)) .bad fun H'=>.kH env' H') .bad
  | .bad=>.bad) .bad
noncomputable def b4d (tt:T bD) (ops:List Oper):Option (Nat×Nat) :=
 match ((List.range ops.length).filter (wN false tt ops)).reverse with
 | y::x::_=>some (x,y)
 | _=>none
noncomputable def a4z (ops:List Oper) (x:Nat):Option Operand :=
 match ops[x]? with
 | some o=>(match o.op,o.guard,o.dst with
  | .store _ p _,none,none=>some p
  | _,_,_=>none)
 | none=>none
noncomputable def aPs (ops : List Oper) (x : Nat) : Bool:=(List.range ops.length).all fun i=>Nat.blt i x || (match ops[x]?,ops[i]? with
  | some a,some b=>(match b.dst with | some d=>!(a.looksAt ops.toArray).contains d | none=>true)
  | _,_=>false)
noncomputable def aFj (tt:T bD) (ops:List Oper) (x y:Nat):Bool :=
 let ms:=masksFrom [] ops
 noDup (ops.map (·.dst)) && (List.range ops.length).all (fun j=>edgesBack j (ops.getD j default)) && (List.range ops.length).all (fun j=>(List.range j).all fun i=>pairOk ops ms i j &&
  (!(wN false tt ops i && wN false tt ops j) || (ms.getD j 0).testBit i || (Nat.beq i x && Nat.beq j y))) &&
 ((pC false tt ops).all fun p=>aPs ops p.1) && (a4z ops x).isSome && (a4z ops y).isSome && wN false tt ops x && wN false tt ops y &&
 Nat.beq (kS false tt ops x+2) (kS false tt ops ops.length) && Nat.beq (kS false tt ops y+1) (kS false tt ops ops.length) &&
 ((List.range ops.length).all fun j=>(match ops[j]? with
  | some o=>!(Nat.beq (cls false tt o) 1 || Nat.beq (cls false tt o) 2)
  | none=>true) || ((List.range ops.length).any fun p=>!Nat.beq p x && wN false tt ops p && (ms.getD p 0).testBit j) || (ms.getD j 0).testBit x) && aPs ops x && aPs ops y
noncomputable def aI1 (ops:List Oper) (env:T RV) (x y:Nat):Bool :=
 aF (a4z ops x) false fun p=>aF (a4z ops y) false fun q=>aF (ev env p) false fun u=>aF (ev env q) false fun v =>
  match u,v with
  | .ptr l _,.ptr l' _=>!Nat.beq l l'
  | _,_=>false
noncomputable def a7g (tt:T bD) (C:eO) (n:Nat) (ops:List Oper) (env:T RV) (H:HT):Out :=
 aF (b4d tt ops) .bad fun s=>aJ (aFj tt ops s.1 s.2) (aF (yF false tt (aBg tt .e) ops H) .bad fun p =>
  match p6 false tt C n ops ops p.1 env p.2 with
  | .ok env' Ms=>aJ (a4a false tt C ops p.1 env' Ms (pC false tt ops)) (aJ (aI1 ops env' s.1 s.2) (aF (mK Ms (kS false tt ops ops.length)) .bad fun H'=>.kH env' H') .bad) .bad
  | .bad=>.bad) .bad
noncomputable def zH (tt:T bD) (C:eO) (n:Nat) (ops:List Oper) (env:T RV) (H:HT):Out :=
 aJ (nF false tt ops) (a29 false tt C n ops env H) (aJ (nF true tt ops) (a29 true tt C n ops env H) (a7g tt C n ops env H))
end
theorem aZd {tt:T bD} {C:eO} {n:Nat} {ops:List Oper} {env:T RV} {H:HT} : (∀ i g h,a7g tt C n ops env H ≠ .ext i g h)∧∀ g h,a7g tt C n ops env H ≠ .ret g h:=by
 have all:a7g tt C n ops env H = .bad∨∃ g h,a7g tt C n ops env H = .kH g h:=by
  unfold a7g
  cases b4d tt ops with
  | none=>exact .inl rfl
  | some s =>
   rw [aP]
   cases aFj tt ops s.1 s.2 with
   | false=>exact .inl rfl
   | true =>
    rw [bL]
    cases yF false tt (aBg tt .e) ops H with
    | none=>exact .inl rfl
    | some p =>
     rw [aP]
     cases p6 false tt C n ops ops p.1 env p.2 with
     | bad=>exact .inl rfl
     | ok env' Ms =>
      simp only
      cases a4a false tt C ops p.1 env' Ms (pC false tt ops) with
      | false=>exact .inl rfl
      | true =>
       rw [bL]
       cases aI1 ops env' s.1 s.2 with
       | false=>exact .inl rfl
       | true =>
        rw [bL]
        cases mK Ms (kS false tt ops ops.length) with
        | none=>exact .inl rfl
        | some H'=>exact .inr ⟨_,_,rfl⟩
 rcases all with h | ⟨g,h',h⟩ <;> rw [h] <;> exact ⟨by simp,by simp⟩
theorem aLv {wd:Bool} {tt:T bD} {C:eO} {n:Nat} {ops:List Oper} {env:T RV} {H:HT} : (∀ i g h,a29 wd tt C n ops env H ≠ .ext i g h)∧∀ g h,a29 wd tt C n ops env H ≠ .ret g h:=by
 have key:∀ pe:T RV,∀ o:Out,(aF (yF wd tt (aBg tt pe) ops H) .bad fun p =>
  match p6 wd tt C n ops ops p.1 env p.2 with
  | .ok env' Ms=>aJ (a4a wd tt C ops p.1 env' Ms (pC wd tt ops)) (aF (mK Ms (kS wd tt ops ops.length)) .bad fun H'=>.kH env' H') .bad
  | .bad=>.bad)=o→o = .bad∨∃ g h,o = .kH g h:=by
  intro pe o h
  subst h
  cases yF wd tt (aBg tt pe) ops H with
  | none=>exact .inl rfl
  | some p =>
   rw [aP]
   cases p6 wd tt C n ops ops p.1 env p.2 with
   | bad=>exact .inl rfl
   | ok env' Ms =>
    simp only
    cases a4a wd tt C ops p.1 env' Ms (pC wd tt ops) with
    | false=>exact .inl rfl
    | true =>
     rw [bL]
     cases mK Ms (kS wd tt ops ops.length) with
     | none=>exact .inl rfl
     | some H'=>exact .inr ⟨_,_,rfl⟩
 have all:a29 wd tt C n ops env H = .bad∨∃ g h,a29 wd tt C n ops env H = .kH g h:=by
  unfold a29
  cases nF wd tt ops with
  | false=>exact .inl rfl
  | true =>
   rw [bL]
   unfold aPr
   cases wd with
   | false=>exact key _ _ rfl
   | true =>
    rw [bL]
    cases yF true tt (b4c tt) ops H with
    | none=>exact .inl rfl
    | some p =>
     rw [aP]
     cases p6 true tt C n ops ops p.1 env p.2 with
     | bad=>exact .inl rfl
     | ok env' _=>exact key _ _ rfl
 rcases all with h | ⟨g,h',h⟩ <;> rw [h] <;> exact ⟨by simp,by simp⟩
theorem aLw {tt:T bD} {C:eO} {n:Nat} {ops:List Oper} {env:T RV} {H:HT} : (∀ i g h,zH tt C n ops env H ≠ .ext i g h)∧∀ g h,zH tt C n ops env H ≠ .ret g h:=by
 unfold zH
 cases nF false tt ops with
 | true=>exact aLv
 | false =>
  cases nF true tt ops with
  | true=>exact aLv
  | false=>exact aZd
structure Step (wd:Bool) (tt:T bD) (C:eO) (n:Nat) (ops:List Oper) (o:Oper) (id:Nat) (env env':T RV) (v:RV) (H H':HT):Prop where
 get:∀ t,env'.get t=if o.dst=some t then some v else env.get t
 lt:∀ t,o.dst=some t→t < n
 run:(wM ops env o=some true∧((cls wd tt o=2∧v=aD1 tt o.op id∧H'=H)∨(cls wd tt o≠2∧vL tt C env H o.op = .ok v H')))∨(wM ops env o=some false∧v = .undef∧H'=H)
section
variable {wd:Bool} {tt:T bD} {C:eO} {n:Nat} {ops:List Oper}
theorem a5h (l:List Oper):kS wd tt l 0=0:=by cases l <;> rfl
theorem qY (o:Oper) (r:List Oper) (j:Nat):kS wd tt (o::r) (j+1)=(if hG wd tt o=true then kS wd tt r j+1 else kS wd tt r j):=by
 show aJ _ _ _=_
 rw [cP]
theorem a5i {o:Oper} : hG wd tt o=true↔cls wd tt o=3:=by unfold hG; rw [mT]
theorem aI2:∀ {rest:List Oper} {ids:List Nat} {env:T RV} {H:HT} {env':T RV} {Ms:List HT},p6 wd tt C n ops rest ids env H = .ok env' Ms →
  ∃ (es : Nat → T RV) (val : Nat → RV) (M : Nat → HT),es 0 = env ∧ M 0 = H ∧ es rest.length = env' ∧ rest.length ≤ ids.length ∧ (∀ t,t ≤ kS wd tt rest rest.length → Ms[t]? = some (M t)) ∧
   ∀ (j : Nat) o id,rest[j]? = some o → ids[j]? = some id → Step wd tt C n ops o id (es j) (es (j + 1)) (val j) (M (kS wd tt rest j)) (M (kS wd tt rest (j + 1)))
 | [],ids,env,H,env',Ms,e=>by
  simp [p6] at e
  obtain ⟨rfl,rfl⟩:=e
  refine ⟨fun _=>env,fun _=>.undef,fun _=>H,rfl,rfl,rfl,by simp,fun t ht=>?_,by simp⟩
  have h0:t=0:=by simpa [kS] using ht
  subst h0; rfl
 | o::r,ids,env,H,env',Ms,e=>by
  simp only [p6] at e
  split at e
  ·simp at e
  rename_i id ids
  have key:∀ (env1:T RV) (v:RV) (H1:HT) (Ms1:List HT),Step wd tt C n ops o id env env1 v H H1→p6 wd tt C n ops r ids env1 H1 = .ok env' Ms1→Ms=(if hG wd tt o=true then H::Ms1 else Ms1)→(hG wd tt o=false→H1=H) →
    ∃ (es : Nat → T RV) (val : Nat → RV) (M : Nat → HT),es 0 = env ∧ M 0 = H ∧ es (o :: r).length = env' ∧ (o :: r).length ≤ (id :: ids).length ∧ (∀ t,t ≤ kS wd tt (o :: r) (o :: r).length → Ms[t]? = some (M t)) ∧
     ∀ (j : Nat) o' id',(o :: r)[j]? = some o' → (id :: ids)[j]? = some id' → Step wd tt C n ops o' id' (es j) (es (j + 1)) (val j) (M (kS wd tt (o :: r) j)) (M (kS wd tt (o :: r) (j + 1))):=by
   intro env1 v H1 Ms1 st h1 h2 h3
   obtain ⟨es,val,M,e1,e2,e3,e4,e5,e6⟩:=aI2 h1
   by_cases hs:hG wd tt o=true
   ·rw [if_pos hs] at h2
    refine ⟨fun i=>match i with | 0=>env | i+1=>es i,fun i=>match i with | 0=>v | i+1=>val i,fun i=>match i with | 0=>H | i+1=>M i,rfl,rfl,e3,by simpa using e4,fun t ht=>?_,fun j o' id' ho hi=>?_⟩
    ·rw [h2]
     cases t with
     | zero=>rfl
     | succ t =>
      rw [List.getElem?_cons_succ]
      refine e5 t ?_
      rw [List.length_cons,qY,if_pos hs] at ht
      omega
    ·cases j with
     | zero =>
      simp at ho hi
      subst ho; subst hi
      simp only [a5h,qY,if_pos hs]
      rw [e1,e2]; exact st
     | succ j =>
      simp only [qY,if_pos hs]
      exact e6 j o' id' (by simpa using ho) (by simpa using hi)
   ·have hs':hG wd tt o=false:=by simpa using hs
    rw [if_neg hs] at h2
    have hH:=h3 hs'
    subst hH
    refine ⟨fun i=>match i with | 0=>env | i+1=>es i,fun i=>match i with | 0=>v | i+1=>val i,M,rfl,e2,e3,by simpa using e4,fun t ht=>?_,fun j o' id' ho hi=>?_⟩
    ·rw [h2]
     refine e5 t ?_
     rw [List.length_cons,qY,if_neg hs] at ht
     exact ht
    ·cases j with
     | zero =>
      simp at ho hi
      subst ho; subst hi
      simp only [a5h,qY,if_neg hs]
      rw [e1,e2]; exact st
     | succ j =>
      simp only [qY,if_neg hs]
      exact e6 j o' id' (by simpa using ho) (by simpa using hi)
  replace e:=mE e
  rcases e with ⟨_,e⟩ | ⟨b,hb,e⟩
  ·simp at e
  cases b with
  | true =>
   rw [bL] at e
   rw [cP] at e
   split at e
   ·rename_i hc
    have hc:=mT.1 hc
    have hns:¬ hG wd tt o=true:=by rw [a5i]; omega
    rcases xJ (n:=n) (env:=env) (dst:=o.dst) (v:=aD1 tt o.op id) (d:=aD0.bad) (k:=fun env=>p6 wd tt C n ops r ids env H) with ⟨env1,h2,h3,h4⟩ | h2
    ·rw [h2] at e
     exact key env1 _ H Ms ⟨h3,h4,.inl ⟨hb,.inl ⟨hc,rfl,rfl⟩⟩⟩ e (by rw [if_neg hns]) (fun _=>rfl)
    ·rw [h2] at e; simp at e
   ·rename_i hc
    have hc:cls wd tt o≠2:=fun h=>hc (by rw [h]; rfl)
    split at e
    ·rename_i v H1 h1
     rcases xJ (n:=n) (env:=env) (dst:=o.dst) (v:=v) (d:=aD0.bad) (k:=fun env=>a1f H (hG wd tt o) (p6 wd tt C n ops r ids env H1)) with ⟨env1,h2,h3,h4⟩ | h2
     ·rw [h2] at e
      unfold a1f at e
      split at e
      ·rename_i env2 Ms1 h5
       simp at e
       obtain ⟨rfl,rfl⟩:=e
       refine key env1 v H1 Ms1 ⟨h3,h4,.inl ⟨hb,.inr ⟨hc,h1⟩⟩⟩ h5 (by rw [cP]) (fun hs=>?_)
       have:cls wd tt o≤1:=by
        have h6:cls wd tt o≠3:=fun h=>by rw [a5i.2 h] at hs; simp at hs
        have h7:cls wd tt o≤3:=aPp (wd:=wd) (tt:=tt) o
        omega
       exact aHi this h1
      ·simp at e
     ·rw [h2] at e; simp at e
    ·simp at e
  | false =>
   rw [cD] at e
   rcases xJ (n:=n) (env:=env) (dst:=o.dst) (v:=.undef) (d:=aD0.bad) (k:=fun env=>a1f H (hG wd tt o) (p6 wd tt C n ops r ids env H)) with ⟨env1,h2,h3,h4⟩ | h2
   ·rw [h2] at e
    unfold a1f at e
    split at e
    ·rename_i env2 Ms1 h5
     simp at e
     obtain ⟨rfl,rfl⟩:=e
     exact key env1 _ H Ms1 ⟨h3,h4,.inr ⟨hb,rfl,rfl⟩⟩ h5 (by rw [cP]) (fun _=>rfl)
    ·simp at e
   ·rw [h2] at e; simp at e
end
end Go.Rx

/- Closed runs: regions whose order is drawn: every order does what the text's order does. -/
namespace Go.Rx
open Go.Fbs (maskOf masksFrom edgesBack pairOk noDup Closed mask_listed noDup_spec listedOf listedOf_set closed_set ready_iff unl unl_set lst lst_of_listedOf listed_false unl_pos)
section
variable {wd:Bool} {tt:T bD} {C:eO} {n:Nat} {ops:List Oper}
theorem a0l {p : Nat} {o : Oper} (ho : ops[p]? = some o) : wN wd tt ops p = true ↔ cls wd tt o = 3:=by
 unfold wN
 rw [lD,ho,aP,a5i]
structure bE2 (tt:T bD) (wd:Bool) (ops:List Oper) (x y:Nat):Prop where
 sx:∃ p,a4z ops x=some p
 sy:∃ p,a4z ops y=some p
 cx : ∃ o,ops[x]? = some o ∧ cls wd tt o = 3
 cy : ∃ o,ops[y]? = some o ∧ cls wd tt o = 3
 kx:kS wd tt ops x+2=kS wd tt ops ops.length
 ky:kS wd tt ops y+1=kS wd tt ops ops.length
 rd : ∀ (j : Nat) o,ops[j]? = some o → cls wd tt o = 1 ∨ cls wd tt o = 2 → (∃ (p : Nat) (q : Oper),p ≠ x ∧ ops[p]? = some q ∧ cls wd tt q = 3 ∧ ((masksFrom [] ops).getD p 0).testBit j = true) ∨ ((masksFrom [] ops).getD j 0).testBit x = true
 fx : ∀ (i : Nat) a b d,¬ i < x → ops[x]? = some a → ops[i]? = some b → b.dst = some d → d ∉ a.looksAt ops.toArray
 fy : ∀ (i : Nat) a b d,¬ i < y → ops[y]? = some a → ops[i]? = some b → b.dst = some d → d ∉ a.looksAt ops.toArray
structure tL (wd:Bool) (tt:T bD) (ops:List Oper) (sw:Option (Nat×Nat)):Prop where
 nd : ∀ (i j : Nat) x y d,ops[i]? = some x → ops[j]? = some y → x.dst = some d → y.dst = some d → i = j
 back : ∀ (j : Nat) o,ops[j]? = some o → ∀ e ∈ o.after,Region.binds .any e = true → e.on < j
 pair : ∀ (i j : Nat) x y,i < j → ops[i]? = some x → ops[j]? = some y → ((masksFrom [] ops).getD j 0).testBit i = true ∨ Oper.apart ops.toArray x y = true
 chain : ∀ (i j : Nat) x y,i < j → ops[i]? = some x → ops[j]? = some y → cls wd tt x = 3 → cls wd tt y = 3 → ((masksFrom [] ops).getD j 0).testBit i = true ∨ sw = some (i,j)
 fin : ∀ j t,(j,t) ∈ pC wd tt ops → ∀ (i : Nat) x y d,¬ i < j → ops[j]? = some x → ops[i]? = some y → y.dst = some d → d ∉ x.looksAt ops.toArray
 late:∀ x y,sw=some (x,y)→bE2 tt wd ops x y
theorem aDt (h:nF wd tt ops=true):tL wd tt ops none:=by
 unfold nF at h
 simp only [Bool.and_eq_true,List.all_eq_true,List.mem_range] at h
 obtain ⟨⟨⟨h1,h2⟩,h3⟩,h4⟩:=h
 have lt : ∀ {j : Nat} {o : Oper},ops[j]? = some o → j < ops.length:=fun h=>(List.getElem?_eq_some_iff.1 h).1
 refine ⟨fun i j x y d hx hy hxd hyd=>?_,fun j o ho e he hb=>?_,fun i j x y hij hx hy=>?_,fun i j x y hij hx hy hc hc'=>?_,fun j t hm i x y d hij hx hy hd=>?_,fun _ _ h=>by simp at h⟩
 ·exact noDup_spec _ h1 i j d (by rw [List.getElem?_map,hx]; simp [hxd]) (by rw [List.getElem?_map,hy]; simp [hyd])
 ·have:=h2 j (lt ho)
  rw [List.getD_eq_getElem?_getD,ho] at this
  simp only [Option.getD_some,edgesBack,List.all_eq_true] at this
  have:=this e (by simpa using he)
  simpa [hb] using this
 ·have:=(h3 j (lt hy) i hij).1
  unfold pairOk at this
  rw [hx,hy] at this
  simpa using this
 ·have:=(h3 j (lt hy) i hij).2
  rw [(a0l hx).2 hc,(a0l hy).2 hc'] at this
  left; simpa using this
 ·have:=h4 (j,t) hm i (lt hy)
  simp only [Bool.or_eq_true] at this
  rcases this with h5 | h5
  ·rw [Nat.blt_eq] at h5; exact absurd h5 hij
  ·rw [hx,hy] at h5
   simp only [hd,Bool.not_eq_true'] at h5
   intro hmem
   rw [List.contains_iff_mem.2 hmem] at h5
   simp at h5
theorem aD2 {x : Nat} (h : aPs ops x = true) : ∀ (i : Nat) a b d,¬ i < x → ops[x]? = some a → ops[i]? = some b → b.dst = some d → d ∉ a.looksAt ops.toArray:=by
 intro i a b d hij ha hb hd
 unfold aPs at h
 simp only [List.all_eq_true,List.mem_range,Bool.or_eq_true] at h
 rcases h i (List.getElem?_eq_some_iff.1 hb).1 with h5 | h5
 ·rw [Nat.blt_eq] at h5; exact absurd h5 hij
 ·rw [ha,hb] at h5
  simp only [hd,Bool.not_eq_true'] at h5
  intro hmem
  rw [List.contains_iff_mem.2 hmem] at h5
  simp at h5
theorem aD3 {x : Nat} (h : wN wd tt ops x = true) : ∃ o,ops[x]? = some o ∧ cls wd tt o = 3:=by
 cases ho : ops[x]? with
 | none=>unfold wN at h; rw [lD,ho] at h; simp [kP] at h
 | some o=>exact ⟨o,rfl,(a0l ho).1 h⟩
theorem aWc {x y:Nat} (h:aFj tt ops x y=true):tL false tt ops (some (x,y)):=by
 unfold aFj at h
 simp only [Bool.and_eq_true,List.all_eq_true,List.mem_range] at h
 obtain ⟨⟨⟨⟨⟨⟨⟨⟨⟨⟨⟨⟨h1,h2⟩,h3⟩,h4⟩,h5⟩,h6⟩,h7⟩,h8⟩,h9⟩,h10⟩,h11⟩,h12⟩,h13⟩:=h
 have lt : ∀ {j : Nat} {o : Oper},ops[j]? = some o → j < ops.length:=fun h=>(List.getElem?_eq_some_iff.1 h).1
 refine ⟨fun i j x y d hx hy hxd hyd=>?_,fun j o ho e he hb=>?_,fun i j x y hij hx hy=>?_,fun i j x' y' hij hx hy hc hc'=>?_,fun j t hm i x y d hij hx hy hd=>?_,fun x' y' h=>?_⟩
 ·exact noDup_spec _ h1 i j d (by rw [List.getElem?_map,hx]; simp [hxd]) (by rw [List.getElem?_map,hy]; simp [hyd])
 ·have:=h2 j (lt ho)
  rw [List.getD_eq_getElem?_getD,ho] at this
  simp only [Option.getD_some,edgesBack,List.all_eq_true] at this
  have:=this e (by simpa using he)
  simpa [hb] using this
 ·have:=(h3 j (lt hy) i hij).1
  unfold pairOk at this
  rw [hx,hy] at this
  simpa using this
 ·have:=(h3 j (lt hy) i hij).2
  rw [(a0l hx).2 hc,(a0l hy).2 hc'] at this
  simp only [Bool.and_self,Bool.not_true,Bool.false_or,Bool.or_eq_true,Bool.and_eq_true,mT] at this
  rcases this with h | ⟨rfl,rfl⟩
  ·exact .inl h
  ·exact .inr rfl
 ·exact aD2 (h4 (j,t) hm) i x y d hij hx hy hd
 ·simp only [Option.some.injEq,Prod.mk.injEq] at h
  obtain ⟨rfl,rfl⟩:=h
  refine ⟨Option.isSome_iff_exists.1 h5,Option.isSome_iff_exists.1 h6,aD3 h7,aD3 h8,mT.1 h9,mT.1 h10,fun j o ho hc=>?_,aD2 h12,aD2 h13⟩
  have:=h11 j (lt ho)
  rw [ho] at this
  simp only [Bool.or_eq_true] at this
  rcases this with (h | h) | h
  ·exfalso
   rcases hc with hc | hc <;> rw [hc] at h <;> simp at h
  ·left
   rw [List.any_eq_true] at h
   obtain ⟨p,_,h⟩:=h
   simp only [Bool.and_eq_true,Bool.not_eq_true'] at h
   obtain ⟨⟨g1,g2⟩,g3⟩:=h
   obtain ⟨q,g4,g5⟩:=aD3 g2
   exact ⟨p,q,fun e=>by subst e; rw [mT.2 rfl] at g1; simp at g1,g4,g5,g3⟩
  ·exact .inr h
theorem aFk:∀ (l:List Oper) (i j:Nat),i≤j→kS wd tt l i≤kS wd tt l j
 | [],i,j,_=>by cases i <;> cases j <;> simp [kS]
 | o::r,0,j,_=>by rw [a5h]; exact Nat.zero_le _
 | o::r,i+1,0,h=>by omega
 | o::r,i+1,j+1,h=>by
  rw [qY,qY]
  have:=aFk r i j (by omega)
  split <;> omega
theorem a0m : ∀ {l : List Oper} {j : Nat} {o : Oper},l[j]? = some o → kS wd tt l (j + 1) = if cls wd tt o = 3 then kS wd tt l j + 1 else kS wd tt l j
 | [],j,o,h=>by simp at h
 | x::r,0,o,h=>by
  simp at h; subst h
  rw [qY,a5h,a5h]
  by_cases hc:cls wd tt x=3
  ·rw [if_pos (a5i.2 hc),if_pos hc]
  ·rw [if_neg (fun h=>hc (a5i.1 h)),if_neg hc]
 | x::r,j+1,o,h=>by
  have:=a0m (l:=r) (j:=j) (o:=o) (by simpa using h)
  rw [qY,qY]
  split <;> rw [this] <;> split <;> omega
theorem aM3 : ∀ {l : List Oper} {j t : Nat},j ≤ l.length → t < kS wd tt l j → ∃ p o,p < j ∧ l[p]? = some o ∧ cls wd tt o = 3 ∧ kS wd tt l p = t
 | l,0,t,_,h=>by rw [a5h] at h; omega
 | l,j+1,t,hj,h=>by
  have ho:=List.getElem?_eq_getElem (show j < l.length by omega)
  rw [a0m ho] at h
  split at h
  ·rename_i hc
   by_cases ht:t < kS wd tt l j
   ·obtain ⟨p,o,h1,h2,h3,h4⟩:=aM3 (by omega) ht
    exact ⟨p,o,by omega,h2,h3,h4⟩
   ·exact ⟨j,_,by omega,ho,hc,by omega⟩
  ·obtain ⟨p,o,h1,h2,h3,h4⟩:=aM3 (by omega) h
   exact ⟨p,o,by omega,h2,h3,h4⟩
theorem aD4 {p q : Nat} {x y : Oper} (hx : ops[p]? = some x) (hy : ops[q]? = some y) (cx : cls wd tt x = 3) (cy : cls wd tt y = 3) (h : kS wd tt ops p = kS wd tt ops q) : p = q:=by
 have h1:=a0m (wd:=wd) (tt:=tt) hx
 have h2:=a0m (wd:=wd) (tt:=tt) hy
 rw [if_pos cx] at h1; rw [if_pos cy] at h2
 rcases Nat.lt_trichotomy p q with hlt | heq | hlt
 ·have:=aFk (wd:=wd) (tt:=tt) ops (p+1) q hlt; omega
 ·exact heq
 ·have:=aFk (wd:=wd) (tt:=tt) ops (q+1) p hlt; omega
theorem aI3 {j t : Nat} {o : Oper} (ho : ops[j]? = some o) (hc : cls wd tt o = 1 ∨ cls wd tt o = 2) (ht : t ≤ kS wd tt ops ops.length) (ha : adm wd tt ops (masksFrom [] ops) j t = true) (hne : cls wd tt o = 1 → t ≠ kS wd tt ops j) : (j,t) ∈ pC wd tt ops:=by
 unfold pC
 rw [List.mem_flatMap]
 refine ⟨j,List.mem_range.2 (List.getElem?_eq_some_iff.1 ho).1,?_⟩
 rw [lD,ho,aP]
 have:(Nat.beq (cls wd tt o) 1 || Nat.beq (cls wd tt o) 2)=true:=by
  rw [Bool.or_eq_true,mT,mT]; exact hc
 rw [this,bL,List.mem_map]
 refine ⟨t,?_,rfl⟩
 rw [List.mem_filter,List.mem_range,Bool.and_eq_true,Bool.or_eq_true,mT]
 refine ⟨by omega,ha,?_⟩
 rcases hc with hc | hc
 ·right
  have:=hne hc
  cases hb:Nat.beq t (kS wd tt ops j) with
  | false=>rfl
  | true=>exact absurd (mT.1 hb) this
 ·exact .inl hc
theorem aHj {ids:List Nat} {env:T RV} {Ms:List HT} : ∀ {ps:List (Nat×Nat)},a4a wd tt C ops ids env Ms ps=true→∀ j t,(j,t) ∈ ps →
  aF (mK ops j) false (fun o=>aF (mK Ms t) false fun M=>aJ (Nat.beq (cls wd tt o) 2)
    (aF (aBg tt env o.op) false fun q=>aF (mK ids j) false fun l=>aFi M l q.1 q.2)
    (aF (wM ops env o) false fun b=>aJ b
     (match vL tt C env M o.op with
     | .ok v _=>(match o.dst with | some d=>aF (env.get d) false fun u=>aPo v u | none=>true)
     | .bad=>false) true))=true
 | [],_,j,t,h=>by simp at h
 | (j',t')::r,e,j,t,h=>by
  simp only [a4a] at e
  rw [oV] at e
  rcases List.mem_cons.1 h with h | h
  ·simp at h
   obtain ⟨rfl,rfl⟩:=h
   exact e.1
  ·exact aHj e.2 j t h
theorem rL {α:Type} {o:Option α} {k:α→Bool} (e:aF o false k=true):∃ a,o=some a∧k a=true:=by
 rcases mE e with ⟨_,h⟩ | h
 ·simp at h
 ·exact h
theorem b2b {N:Nat} {h0 h:bX} {Γ : Gm} {H H':HT} {o:RO} (m:Mem N h0 Γ h H) (hH:New H H' o):Mem N h0 Γ h H':=by
 have ne:∀ {l:Nat} {p:Pl},Γ l=some p→H'.get l=H.get l:=fun {l p} h=>by
  rw [hH.2,if_neg (fun e=>by have:=m.lt l p h; omega)]
 exact ⟨m.size,m.old,fun l p h=>by rw [hH.1]; have:=m.lt l p h; omega,m.cV,fun l p o h1 h2=>m.obj l p o h1 (by rw [← ne h1]; exact h2),fun l p o h1 h2=>m.own l p o h1 (by rw [← ne h1]; exact h2),
  fun l l' p p' o h1 h2 h3 h4 h5=>by rw [ne h2]; exact m.a58 l l' p p' o h1 h2 h3 (by rw [← ne h1]; exact h4) h5⟩
theorem aD5 {pc:Op→Option (Nat×List RV)} : ∀ {l:List Oper} {H H1:HT} {ids:List Nat},yF wd tt pc l H=some (ids,H1)→H.sz≤H1.sz∧ids.length=l.length∧(∀ (N:Nat) (h0 h:bX) (Γ : Gm),Mem N h0 Γ h H→Mem N h0 Γ h H1) ∧
  (∀ (j : Nat) o id,l[j]? = some o → ids[j]? = some id → cls wd tt o = 2 → H.sz ≤ id ∧ id < H1.sz) ∧
  ∀ (i j : Nat) x y id,l[i]? = some x → l[j]? = some y → cls wd tt x = 2 → cls wd tt y = 2 → ids[i]? = some id → ids[j]? = some id → i = j
 | [],H,H1,ids,e=>by
  simp [yF] at e
  obtain ⟨rfl,rfl⟩:=e
  exact ⟨Nat.le_refl _,rfl,fun _ _ _ _ h=>h,by simp,by simp⟩
 | o::r,H,H1,ids,e=>by
  simp only [yF] at e
  rw [cP] at e
  split at e
  ·rename_i hc
   have hc:=mT.1 hc
   ·replace e:=aI e; obtain ⟨⟨g,z⟩,hz,e⟩:=e
    obtain ⟨H2,t2,h1,h2,h3⟩:=zE H _ z (fun l H=>aF (yF wd tt pc r H) none fun p=>some (l::p.1,p.2))
    rw [h1] at e
    replace e:=aI e; obtain ⟨p,hp,e⟩:=e
    simp at e
    obtain ⟨rfl,rfl⟩:=e
    obtain ⟨ids',H3⟩:=p
    obtain ⟨h4,h5,h6,h7,h8⟩:=aD5 hp
    have hs:=h2.1
    refine ⟨by simp only; omega,by simp [h5],fun N h0 h Γ m=>h6 N h0 h Γ (b2b m h2),fun j o' id ho hi hc'=>?_,fun i j x y id hx hy cx cy hi hj=>?_⟩
    ·cases j with
     | zero=>simp at hi; subst hi; simp only; omega
     | succ j =>
      have:=h7 j o' id (by simpa using ho) (by simpa using hi) hc'
      simp only; omega
    ·cases i with
     | zero =>
      cases j with
      | zero=>rfl
      | succ j =>
       simp at hi; subst hi
       have:=h7 j y H.sz (by simpa using hy) (by simpa using hj) cy
       omega
     | succ i =>
      cases j with
      | zero =>
       simp at hj; subst hj
       have:=h7 i x H.sz (by simpa using hx) (by simpa using hi) cx
       omega
      | succ j=>rw [h8 i j x y id (by simpa using hx) (by simpa using hy) cx cy (by simpa using hi) (by simpa using hj)]
  ·rename_i hc
   have hc:cls wd tt o≠2:=fun h=>hc (by rw [h]; rfl)
   replace e:=aI e; obtain ⟨p,hp,e⟩:=e
   simp at e
   obtain ⟨rfl,rfl⟩:=e
   obtain ⟨ids',H3⟩:=p
   obtain ⟨h4,h5,h6,h7,h8⟩:=aD5 hp
   refine ⟨h4,by simp [h5],h6,fun j o' id ho hi hc'=>?_,fun i j x y id hx hy cx cy hi hj=>?_⟩
   ·cases j with
    | zero=>simp at ho; subst ho; exact absurd hc' hc
    | succ j=>exact h7 j o' id (by simpa using ho) (by simpa using hi) hc'
   ·cases i with
    | zero=>simp at hx; subst hx; exact absurd cx hc
    | succ i =>
     cases j with
     | zero=>simp at hy; subst hy; exact absurd cy hc
     | succ j=>rw [h8 i j x y id (by simpa using hx) (by simpa using hy) cx cy (by simpa using hi) (by simpa using hj)]
structure Tr (wd:Bool) (tt:T bD) (C:eO) (n:Nat) (ops:List Oper) (ids:List Nat) (es:Nat→T RV) (val:Nat→RV) (M:Nat→HT):Prop where
 len:ops.length≤ids.length
 step : ∀ (j : Nat) o id,ops[j]? = some o → ids[j]? = some id → Step wd tt C n ops o id (es j) (es (j + 1)) (val j) (M (kS wd tt ops j)) (M (kS wd tt ops (j + 1)))
variable {ids:List Nat} {es:Nat→T RV} {val:Nat→RV} {M:Nat→HT}
theorem Tr.at (T : Tr wd tt C n ops ids es val M) {j : Nat} {o : Oper} (ho : ops[j]? = some o) : ∃ id,ids[j]? = some id ∧ Step wd tt C n ops o id (es j) (es (j + 1)) (val j) (M (kS wd tt ops j)) (M (kS wd tt ops (j + 1))):=by
 have hj:j < ids.length:=Nat.lt_of_lt_of_le (List.getElem?_eq_some_iff.1 ho).1 T.len
 exact ⟨ids[j],List.getElem?_eq_getElem hj,T.step j o _ ho (List.getElem?_eq_getElem hj)⟩
theorem Tr.old (T : Tr wd tt C n ops ids es val M) {d : Nat} : ∀ j,j ≤ ops.length → (∀ (i : Nat) o,i < j → ops[i]? = some o → o.dst ≠ some d) → (es j).get d = (es 0).get d
 | 0,_,_=>rfl
 | j+1,hj,h=>by
  obtain ⟨id,_,st⟩:=T.at (List.getElem?_eq_getElem (show j < ops.length by omega))
  rw [st.get,if_neg (h j _ (by omega) (List.getElem?_eq_getElem (by omega)))]
  exact T.old j (by omega) (fun i o hi ho=>h i o (by omega) ho)
theorem Tr.new {sw : Option (Nat × Nat)} (T : Tr wd tt C n ops ids es val M) (f : tL wd tt ops sw) {d i : Nat} {o : Oper} (hio : ops[i]? = some o) (hd : o.dst = some d) : ∀ j,i < j → j ≤ ops.length → (es j).get d = some (val i)
 | 0,h,_=>by omega
 | j+1,h,hj=>by
  have ho:=List.getElem?_eq_getElem (show j < ops.length by omega)
  obtain ⟨id,_,st⟩:=T.at ho
  rw [st.get]
  by_cases hij:i=j
  ·subst hij
   rw [ho] at hio; simp at hio; subst hio
   rw [if_pos hd]
  ·rw [if_neg (fun e=>hij (f.nd i j _ _ d hio ho hd e))]
   exact T.new f hio hd j (by omega) (by omega)
end
end Go.Rx

/- Closed runs: regions whose order is drawn: the theorem. -/
namespace Go.Rx
open Go.Fbs (maskOf masksFrom edgesBack pairOk noDup Closed mask_listed noDup_spec listedOf listedOf_set closed_set ready_iff unl unl_set lst lst_of_listedOf listed_false unl_pos)
def dn (T k t:Nat):Prop:=(t≤T∧k < t)∨(t=T+1∧k+2≠T)
def Heq (K H:HT):Prop:=K.sz=H.sz∧∀ l,K.get l=H.get l
theorem Heq.refl (H:HT):Heq H H:=⟨rfl,fun _=>rfl⟩
theorem Heq.mem {N:Nat} {h0 h:bX} {Γ : Gm} {K H:HT} (e:Heq K H) (m:Mem N h0 Γ h K):Mem N h0 Γ h H :=
 ⟨m.size,m.old,fun l p h=>by rw [← e.1]; exact m.lt l p h,m.cV,fun l p o h1 h2=>m.obj l p o h1 (by rw [e.2]; exact h2),fun l p o h1 h2=>m.own l p o h1 (by rw [e.2]; exact h2),
  fun l l' p p' o h1 h2 h3 h4 h5=>by rw [← e.2]; exact m.a58 l l' p p' o h1 h2 h3 (by rw [e.2]; exact h4) h5⟩
theorem Heq.ext {N:Nat} {h0:bX} {Γ0 Γ : Gm} {w0 w:World} {H0 K H:HT} (e:Heq K H) (x:Ext N h0 Γ0 w0 H0 Γ w K):Ext N h0 Γ0 w0 H0 Γ w H :=
 ⟨x.gle,e.mem x.mem,by rw [← e.1]; exact x.sz,x.hole,x.kept⟩
structure wL (sw:Option (Nat×Nat)) (δ:List Deferred) (wd:Bool) (tt:T bD) (n:Nat) (ops:List Oper) (ids:List Nat) (es:Nat→T RV) (val:Nat→RV) (M:Nat→HT) (N:Nat) (h0:bX) (Γ0:Gm) (w0:World) (H0:HT) (s1:Nat) (t:Nat) (S:Array Bool) (Γ : Gm) (w:World) (a:Act):Prop where
 size:S.size=ops.length
 szt:s1≤(M t).sz
 closed:Closed ops (listedOf S)
 tle:t≤kS wd tt ops ops.length+1
 swo:t=kS wd tt ops ops.length+1→∃ x y,sw=some (x,y)
 yD : ∀ p o,ops[p]? = some o → cls wd tt o = 3 → (listedOf S p = true ↔ dn (kS wd tt ops ops.length) (kS wd tt ops p) t)
 ext:Ext N h0 Γ0 w0 H0 Γ w (M t)
 defers:a.defers=δ
 zC:a.tmps.size=n
 hole : ∀ (j : Nat) o id,ops[j]? = some o → ids[j]? = some id → cls wd tt o = 2 → listedOf S j = false → Γ id = none
 new : ∀ (i : Nat) o d,ops[i]? = some o → listedOf S i = true → o.dst = some d → ∃ x,a.tmps[d]? = some x ∧ aD Γ (val i) x
 old : ∀ d v,(∀ (i : Nat) o,ops[i]? = some o → listedOf S i = true → o.dst ≠ some d) → (es 0).get d = some v → ∃ x,a.tmps[d]? = some x ∧ aD Γ v x
section
variable {sw:Option (Nat×Nat)} {P:Program} {δ:List Deferred} {ρ:Option Nat} {wd:Bool} {tt:T bD} {C:eO} {n:Nat} {ops:List Oper} {ids:List Nat} {es:Nat→T RV} {val:Nat→RV} {M:Nat→HT} {N:Nat} {h0:bX} {Γ0:Gm} {w0:World} {H0:HT} {s1:Nat} {t:Nat} {S:Array Bool} {Γ : Gm} {w:World} {a:Act}
theorem wL.look (T : Tr wd tt C n ops ids es val M) (f : tL wd tt ops sw) (m : wL sw δ wd tt n ops ids es val M N h0 Γ0 w0 H0 s1 t S Γ w a) {j : Nat} {o : Oper} (ho : ops[j]? = some o) (hun : listedOf S j = false)
  (hr : ∀ e ∈ o.after,Region.binds .any e = true → listedOf S e.on = true) {d : Nat} (hd : d ∈ o.looksAt ops.toArray) {v : RV} (hv : (es j).get d = some v) : ∃ x,a.tmps[d]? = some x ∧ aD Γ v x:=by
 have hj:=(List.getElem?_eq_some_iff.1 ho).1
 by_cases hex : ∃ (i : Nat) (oi : Oper),i < j ∧ ops[i]? = some oi ∧ oi.dst = some d
 ·obtain ⟨i,oi,hi,hoi,hdi⟩:=hex
  rw [T.new f hoi hdi j hi (by omega)] at hv
  simp at hv; subst hv
  refine m.new i oi d hoi ?_ hdi
  rcases f.pair i j oi o hi hoi ho with h1 | h1
  ·exact mask_listed ho m.closed hr h1
  ·exact absurd hd ((Oper.apart_spec h1).1 d hdi)
 ·have hold:=T.old (d:=d) j (by omega) (fun i oi hi hoi hdi=>hex ⟨i,oi,hi,hoi,hdi⟩)
  rw [hold] at hv
  refine m.old d v (fun i oi hoi hli hdi=>?_) hv
  have hne:i≠j:=fun e=>by subst e; rw [hun] at hli; simp at hli
  have hlt:j < i:=by
   refine Nat.lt_of_le_of_ne (Nat.le_of_not_lt fun hlt=>hex ⟨i,oi,hlt,hoi,hdi⟩) (fun e=>hne e.symm)
  rcases f.pair j i o oi hlt ho hoi with h1 | h1
  ·have:=mask_listed hoi m.closed (fun e he hb=>m.closed i oi hoi hli e he hb) h1
   rw [hun] at this; simp at this
  ·exact (Oper.apart_spec h1).2.2 d hdi hd
theorem wL.b4e (T : Tr wd tt C n ops ids es val M) (f : tL wd tt ops sw) (m : wL sw δ wd tt n ops ids es val M N h0 Γ0 w0 H0 s1 t S Γ w a) {j : Nat} {o : Oper} (ho : ops[j]? = some o) (hun : listedOf S j = false)
  (hr : ∀ e ∈ o.after,Region.binds .any e = true → listedOf S e.on = true) {d : Nat} (hd : d ∈ o.looksAt ops.toArray) (hfin : ∀ (i : Nat) y,¬ i < j → ops[i]? = some y → y.dst ≠ some d) {v : RV} (hv : (es ops.length).get d = some v) : ∃ x,a.tmps[d]? = some x ∧ aD Γ v x:=by
 have hj:=(List.getElem?_eq_some_iff.1 ho).1
 refine m.look T f ho hun hr hd ?_
 by_cases hex : ∃ (i : Nat) (oi : Oper),i < j ∧ ops[i]? = some oi ∧ oi.dst = some d
 ·obtain ⟨i,oi,hi,hoi,hdi⟩:=hex
  rw [T.new f hoi hdi _ (by omega) (Nat.le_refl _)] at hv
  rw [T.new f hoi hdi j hi (by omega),hv]
 ·rw [T.old (d:=d) _ (Nat.le_refl _) (fun i oi hi hoi hdi=>by
   by_cases h:i < j
   ·exact hex ⟨i,oi,h,hoi,hdi⟩
   ·exact hfin i oi h hoi hdi)] at hv
  rw [T.old (d:=d) j (by omega) (fun i oi hi hoi hdi=>hex ⟨i,oi,hi,hoi,hdi⟩),hv]
theorem aHk {o : Oper} {env : T RV} (h : ∀ d v,d ∈ o.looksAt ops.toArray → env.get d = some v → ∃ x,a.tmps[d]? = some x ∧ aD Γ v x) : pJ Γ env a o.op.operands.toList ∧ b18 Γ ops env a o:=by
 refine ⟨fun x hx v hv=>?_,fun j want oj d v hg hoj hd hv=>?_⟩
 ·cases x with
  | tmp d =>
   obtain ⟨y,h1,h2⟩:=h d v (by
    unfold Oper.looksAt
    refine List.mem_append.2 (.inl ?_)
    rw [List.mem_filterMap]
    exact ⟨.tmp d,hx,rfl⟩) hv
   obtain ⟨ht,h3⟩:=Array.getElem?_eq_some_iff.1 h1
   simpa [Act.eval,Array.getD,ht,h3] using h2
  | const c=>exact jD hv
  | func f =>
   simp only [ev,Option.some.injEq] at hv
   subst hv
   exact .func f [] [] rfl (by simp)
  | global g=>simp [ev] at hv
 ·refine h d v ?_ hv
  unfold Oper.looksAt
  refine List.mem_append.2 (.inr ?_)
  rw [hg]
  simp [hoj,hd]
theorem wL.adm (m : wL sw δ wd tt n ops ids es val M N h0 Γ0 w0 H0 s1 t S Γ w a) {j : Nat} {o : Oper} (ho : ops[j]? = some o) (hun : listedOf S j = false) (hr : ∀ e ∈ o.after,Region.binds .any e = true → listedOf S e.on = true) (htle : t ≤ kS wd tt ops ops.length) :
  Rx.adm wd tt ops (masksFrom [] ops) j t=true:=by
 unfold Rx.adm
 rw [List.all_eq_true]
 intro p hp
 have hp':=List.mem_range.1 hp
 have hop:=List.getElem?_eq_getElem hp'
 cases hs:wN wd tt ops p with
 | false=>rfl
 | true =>
  have hc:=(a0l hop).1 hs
  rw [bL,cP]
  split
  ·rename_i hlt
   rw [Nat.blt_eq] at hlt
   have hl:=(m.yD p _ hop hc).2 (.inl ⟨htle,hlt⟩)
   cases hb:((masksFrom [] ops).getD p 0).testBit j with
   | false=>rfl
   | true =>
    have:=mask_listed hop m.closed (fun e he hb=>m.closed p _ hop hl e he hb) hb
    rw [hun] at this; simp at this
  ·rename_i hlt
   cases hb:((masksFrom [] ops).getD j 0).testBit p with
   | false=>rfl
   | true =>
    have:=(m.yD p _ hop hc).1 (mask_listed ho m.closed hr hb)
    have:kS wd tt ops p < t:=by
     rcases this with h | h
     ·exact h.2
     ·omega
    rw [← Nat.blt_eq] at this
    exact absurd this hlt
theorem aBh {j : Nat} {o : Oper} (ho : ops[j]? = some o) (hc : cls wd tt o = 3) : kS wd tt ops j < kS wd tt ops ops.length:=by
 have h2:=a0m (wd:=wd) (tt:=tt) ho
 rw [if_pos hc] at h2
 have h3:=aFk (wd:=wd) (tt:=tt) ops (j+1) ops.length (List.getElem?_eq_some_iff.1 ho).1
 omega
theorem wL.b9v (f : tL wd tt ops sw) (m : wL sw δ wd tt n ops ids es val M N h0 Γ0 w0 H0 s1 t S Γ w a) {j : Nat} {o : Oper} (ho : ops[j]? = some o) (hun : listedOf S j = false) (hr : ∀ e ∈ o.after,Region.binds .any e = true → listedOf S e.on = true)
  (hc:cls wd tt o=3):(kS wd tt ops j=t∧t≤kS wd tt ops ops.length)∨(∃ x,sw=some (x,j)∧kS wd tt ops x=t∧t≤kS wd tt ops ops.length)∨(t=kS wd tt ops ops.length+1∧∃ y,sw=some (j,y)):=by
 have hlt:=aBh ho hc
 by_cases ht:t≤kS wd tt ops ops.length
 ·rcases Nat.lt_trichotomy (kS wd tt ops j) t with h | h | h
  ·have:=(m.yD j o ho hc).2 (.inl ⟨ht,h⟩)
   rw [hun] at this; simp at this
  ·exact .inl ⟨h,ht⟩
  ·obtain ⟨p,x,h1,h2,h3,h4⟩:=aM3 (wd:=wd) (tt:=tt) (l:=ops) (j:=j) (Nat.le_of_lt (List.getElem?_eq_some_iff.1 ho).1) h
   rcases f.chain p j x o h1 h2 ho h3 hc with hb | hb
   ·rcases (m.yD p x h2 h3).1 (mask_listed ho m.closed hr hb) with h5 | h5 <;> omega
   ·exact .inr (.inl ⟨p,hb,h4,ht⟩)
 ·have ht':t=kS wd tt ops ops.length+1:=by have:=m.tle; omega
  obtain ⟨x,y,hs⟩:=m.swo ht'
  have hl:=f.late x y hs
  refine .inr (.inr ⟨ht',y,?_⟩)
  by_cases hk:kS wd tt ops j+2=kS wd tt ops ops.length
  ·obtain ⟨ox,hx,cx⟩:=hl.cx
   have:j=x:=aD4 ho hx hc cx (by have:=hl.kx; omega)
   rw [this,hs]
  ·have:=(m.yD j o ho hc).2 (.inr ⟨ht',hk⟩)
   rw [hun] at this; simp at this
theorem wL.close (m : wL sw δ wd tt n ops ids es val M N h0 Γ0 w0 H0 s1 t S Γ w a) (f : tL wd tt ops sw) (hidne : ∀ (i j : Nat) x y id,ops[i]? = some x → ops[j]? = some y → cls wd tt x = 2 → cls wd tt y = 2 → ids[i]? = some id → ids[j]? = some id → i = j)
  {j : Nat} {o : Oper} (ho : ops[j]? = some o) (hun : listedOf S j = false) (hr : ∀ e ∈ o.after,Region.binds .any e = true → S.getD e.on false = true) (hn : ∀ d,o.dst = some d → d < n)
  {t' : Nat} (htle : t' ≤ kS wd tt ops ops.length + 1) (hsw : t' = kS wd tt ops ops.length + 1 → ∃ x y,sw = some (x,y)) (heff : ∀ (p : Nat) q,ops[p]? = some q → cls wd tt q = 3 → ((p = j ∨ listedOf S p = true) ↔ dn (kS wd tt ops ops.length) (kS wd tt ops p) t')) (hs1 : s1 ≤ (M t').sz) {Γ' : Gm} {w' : World} {x : Value} (hx : Ext N h0 Γ0 w0 H0 Γ' w' (M t')) (hg : tR Γ Γ') (hrep : ∀ d,o.dst = some d → aD Γ' (val j) x)
  (hh : ∀ (i : Nat) oi id,ops[i]? = some oi → ids[i]? = some id → cls wd tt oi = 2 → i ≠ j → Γ id = none → Γ' id = none) :
  wL sw δ wd tt n ops ids es val M N h0 Γ0 w0 H0 s1 t' (S.setIfInBounds j true) Γ' w' (a.put o.dst x):=by
 have hj:j < S.size:=by rw [m.size]; exact (List.getElem?_eq_some_iff.1 ho).1
 have hput : ∀ d,o.dst ≠ some d → (a.put o.dst x).tmps[d]? = a.tmps[d]?:=fun d hd=>by
  cases hdst:o.dst with
  | none=>rfl
  | some e =>
   simp only [Act.put]
   rw [Array.getElem?_setIfInBounds_ne (fun h=>hd (by rw [hdst,h]))]
 refine ⟨by simpa using m.size,hs1,closed_set m.size m.closed ho hr,htle,hsw,fun p op hop hc=>?_,hx,by cases o.dst <;> exact m.defers,by cases o.dst <;> simp [Act.put,m.zC],fun i oi id hoi hid hc hli=>?_,fun i oi d hoi hli hd=>?_,fun d v hno hv=>?_⟩
 ·rw [← heff p op hop hc,listedOf_set hj]
  by_cases hpj:p=j
  ·simp [hpj]
  ·simp [hpj]
 ·rw [listedOf_set hj] at hli
  by_cases hij:i=j
  ·rw [if_pos hij] at hli; simp at hli
  ·rw [if_neg hij] at hli
   exact hh i oi id hoi hid hc hij (m.hole i oi id hoi hid hc hli)
 ·rw [listedOf_set hj] at hli
  by_cases hij:i=j
  ·subst hij
   rw [ho] at hoi; simp at hoi; subst hoi
   refine ⟨x,?_,hrep d hd⟩
   rw [hd]
   simp only [Act.put]
   rw [Array.getElem?_setIfInBounds,if_pos rfl,if_pos (by rw [m.zC]; exact hn d hd)]
  ·rw [if_neg hij] at hli
   obtain ⟨y,h1,h2⟩:=m.new i oi d hoi hli hd
   exact ⟨y,by rw [hput d (fun e=>hij (f.nd i j _ _ d hoi ho hd e))]; exact h1,h2.mono hg⟩
 ·obtain ⟨y,h1,h2⟩:=m.old d v (fun i oi hoi hli=>hno i oi hoi (by
   rw [listedOf_set hj]
   by_cases hij:i=j
   ·rw [if_pos hij]
   ·rw [if_neg hij]; exact hli)) hv
  exact ⟨y,by rw [hput d (hno j o ho (by rw [listedOf_set hj,if_pos rfl]))]; exact h1,h2.mono hg⟩
theorem b2c {H:HT} {l e:Nat} {z:List RV} (h:aFi H l e z=true):∃ m t,H.get l=some (.cells e m t)∧m=z.length∧a7c t z:=by
 unfold aFi yU at h
 obtain ⟨o,h1,h⟩:=rL h
 split at h
 ·rename_i g m t
  rw [oV,mT,oV,mT,qA] at h
  obtain ⟨rfl,rfl,h⟩:=h
  have:∃ cs,a27 cs z=true∧cs.length=z.length∧∀ i,i < z.length→t.get (0+i)=cs[i]?:=by
   have gen:∀ (n off:Nat) (k:List RV→Bool),pH t n off false k=true→∃ cs,k cs=true∧cs.length=n∧∀ i,i < n→t.get (off+i)=cs[i]?:=by
    intro n
    induction n with
    | zero=>intro off k e; exact ⟨[],e,rfl,fun i hi=>by omega⟩
    | succ n ih =>
     intro off k e
     have e:aF (t.get off) false (fun v=>pH t n (off+1) false fun r=>k (v::r))=true:=e
     obtain ⟨v,h1,e⟩:=rL e
     obtain ⟨cs,h2,h3,h4⟩:=ih (off+1) _ e
     refine ⟨v::cs,h2,by simp [h3],fun i hi=>?_⟩
     cases i with
     | zero=>simpa using h1
     | succ i=>rw [List.getElem?_cons_succ,← h4 i (by omega),show off+(i+1)=off+1+i by omega]
   exact gen _ _ _ h
  obtain ⟨cs,h2,h3,h4⟩:=this
  obtain rfl:=a6d _ _ h2
  exact ⟨_,t,h1,rfl,fun i hi=>by have:=h4 i hi; simpa using this⟩
 ·simp at h
theorem aR3 {env:T RV} {t:TypeId} {len:Nat} {parts:List (Nat×Operand)} {sz:Nat} {cs:List RV} (e:a0k tt env t len parts=some (sz,cs)):∃ z,a0k tt .e t len []=some (sz,z):=by
 unfold a0k at e ⊢
 replace e:=eU e; obtain ⟨ti,hti,e⟩:=e
 rw [dD,hti,aP]
 split at e
 ·rename_i e0 hdd
  replace e:=eU e; obtain ⟨ei,hei,e⟩:=e
  replace e:=aI e; obtain ⟨z,hz,e⟩:=e
  replace e:=cL e; obtain ⟨h1,e⟩:=e
  replace e:=cL e; obtain ⟨h2,e⟩:=e
  rw [a0j] at e
  replace e:=aI e; obtain ⟨cs',hcs,e⟩:=e
  simp only [Option.some.injEq,Prod.mk.injEq] at e
  obtain ⟨rfl,rfl⟩:=e
  rw [dD,hei,aP,hz,aP,h1,bL,h2,bL,a0j]
  simp only [lA,aP]
  exact ⟨_,rfl⟩
 ·simp at e
theorem b55 (hT:iK P tt) {env:T RV} {op:Op} (re:pJ Γ env a op.operands.toList) {g:Nat} {cs:List RV} (h:aBg tt env op=some (g,cs)) (w:World):∃ (xs:List Value) (y:Value) (E:TypeId),
  (∀ o:Oper,o.op=op→(execOp a.eval o).run P w = .ok (.value y) { w with heap:=w.heap.push (.cells ⟨xs⟩ E (0,0)) })∧aB Γ cs xs∧(∀ x ∈ xs,x.oneCell'=true)∧(g=0∨g=E+1) ∧
  ∀ (Γ':Gm) (id:Nat),Γ' id=some ⟨w.heap.size,0,xs.length⟩→aD Γ' (aD1 tt op id) y:=by
 unfold aBg at h
 split at h
 ·rename_i ty
  replace h:=eU h; obtain ⟨ti,hti,h⟩:=h
  replace h:=aI h; obtain ⟨z,hz,h⟩:=h
  simp only [Option.some.injEq,Prod.mk.injEq] at h
  obtain ⟨rfl,rfl⟩:=h
  obtain ⟨tok,rfl⟩:=hT _ _ hti
  obtain ⟨v0,z1,z2,z3,_,_⟩:=tok.z z hz
  obtain ⟨x0,z4,z5⟩:=pP (P:=P) w z1
  obtain ⟨r1,r2⟩:=iY (Γ:=Γ) (jD z5) (kZ z5)
  rw [z2] at r1
  refine ⟨x0.cells.toList,.pointer (some ⟨w.heap.size,0,none⟩),ti.t,fun o ho=>?_,r1,r2,.inr rfl,fun Γ' id hΓ=>?_⟩
  ·unfold execOp
   rw [ho]
   simp [Instr.alloc,z4,newVar,newRow]
  ·exact .ptr id 0 _ hΓ
 ·rename_i t len parts
  replace h:=aI h; obtain ⟨⟨sz,cs'⟩,hb,h⟩:=h
  simp only [Option.some.injEq,Prod.mk.injEq] at h
  obtain ⟨rfl,rfl⟩:=h
  have re:pJ Γ env a (parts.toList.map (·.2)):=by simpa [Op.operands] using re
  obtain ⟨ys,E,r1,r2,hlen,hrun⟩:=aRy hT re hb w
  refine ⟨ys,.slice (some ⟨w.heap.size,0,none⟩) len len,E,fun o ho=>?_,r1,r2,.inl rfl,fun Γ' id hΓ=>?_⟩
  ·unfold execOp
   rw [ho]
   simp only
   have e2:(parts.map fun (i,x)=>(i,a.eval x))=⟨parts.toList.map fun p=>(p.1,a.eval p.2)⟩:=by apply Array.ext'; simp
   rw [e2]; exact hrun
  ·obtain ⟨z,hz⟩:=aR3 hb
   unfold aD1
   simp only [hz,aP]
   exact .sl id 0 len sz (some len) ⟨w.heap.size,0,ys.length⟩ ⟨w.heap.size,0,none⟩ len hΓ (Nat.le_refl _) (lY.of_eq fun k h=>by simpa using h) (fun _=>⟨rfl,by have:=r1.1; show 0+0+len*sz≤ys.length; omega⟩)
 ·simp at h
def Swp (wd:Bool) (tt:T bD) (C:eO) (ops:List Oper) (es:Nat→T RV) (val:Nat→RV) (M:Nat→HT) (sw:Option (Nat×Nat)):Prop :=
 ∀ x y,sw = some (x,y) → (M (kS wd tt ops ops.length + 1)).sz = (M (kS wd tt ops x)).sz ∧ ∀ ox oy,ops[x]? = some ox → ops[y]? = some oy → ∃ K,vL tt C (es y) (M (kS wd tt ops x)) oy.op = .ok (val y) (M (kS wd tt ops ops.length + 1)) ∧
  vL tt C (es x) (M (kS wd tt ops ops.length+1)) ox.op = .ok (val x) K∧Heq K (M (kS wd tt ops ops.length))
theorem a8m {x : Nat} {p : Operand} {o : Oper} (ho : ops[x]? = some o) (h : a4z ops x = some p) : o.guard = none ∧ o.dst = none ∧ ∃ ty v,o.op = .store ty p v:=by
 unfold a4z at h
 rw [ho] at h
 simp only at h
 split at h
 ·rename_i h1 h2 h3
  simp at h
  subst h
  exact ⟨h2,h3,_,_,h1⟩
 ·simp at h
theorem wL.step (hT : iK P tt) (hC : xI P C) (T : Tr wd tt C n ops ids es val M) (f : tL wd tt ops sw) (hsz : ∀ (j : Nat) o id,ops[j]? = some o → ids[j]? = some id → cls wd tt o = 2 → id < s1)
  (hsz0 : ∀ (j : Nat) o id,ops[j]? = some o → ids[j]? = some id → cls wd tt o = 2 → H0.sz ≤ id)
  (hidne : ∀ (i j : Nat) x y id,ops[i]? = some x → ops[j]? = some y → cls wd tt x = 2 → cls wd tt y = 2 → ids[i]? = some id → ids[j]? = some id → i = j) {Ms : List HT} (hMs : ∀ t,t ≤ kS wd tt ops ops.length → Ms[t]? = some (M t))
  (hchk : a4a wd tt C ops ids (es ops.length) Ms (pC wd tt ops) = true) (hS : Swp wd tt C ops es val M sw) (m : wL sw δ wd tt n ops ids es val M N h0 Γ0 w0 H0 s1 t S Γ w a) {j : Nat} {o : Oper} (ho : ops[j]? = some o) (hun : listedOf S j = false) (hr : ∀ e ∈ o.after,Region.binds .any e = true → S.getD e.on false = true)
  (Q:Exit→Act→World→Prop) (K:Act→World→Prop) (hK:∀ t' Γ' w' a',wL sw δ wd tt n ops ids es val M N h0 Γ0 w0 H0 s1 t' (S.setIfInBounds j true) Γ' w' a'→K a' w'):wpOpIn (frF ρ) 0 P ops.toArray Q j K a w:=by
 have hr':∀ e ∈ o.after,Region.binds .any e=true→listedOf S e.on=true:=hr
 obtain ⟨id,hid,st⟩:=T.at ho
 have hlook:=fun d v (hd:d ∈ o.looksAt ops.toArray) (hv:(es j).get d=some v)=>m.look T f ho hun hr' hd hv
 obtain ⟨hev,hgd⟩:=aHk hlook
 have hoa : ops.toArray[j]? = some o:=by simpa using ho
 have hlate:cls wd tt o=1∨cls wd tt o=2→t≤kS wd tt ops ops.length:=fun hc=>by
  refine Nat.le_of_not_lt fun hlt=>?_
  have ht':t=kS wd tt ops ops.length+1:=by have:=m.tle; omega
  obtain ⟨x,y,hs⟩:=m.swo ht'
  have hl:=f.late x y hs
  have hkx:=hl.kx
  rcases hl.rd j o ho hc with ⟨p,q,h1,h2,h3,h4⟩ | h4
  ·obtain ⟨ox,hx,cx⟩:=hl.cx
   have hp:=(m.yD p q h2 h3).2 (.inr ⟨ht',fun e=>h1 (aD4 h2 hx h3 cx (by omega))⟩)
   have:=mask_listed h2 m.closed (fun e he hb=>m.closed p _ h2 hp e he hb) h4
   rw [hun] at this; simp at this
  ·obtain ⟨ox,hx,cx⟩:=hl.cx
   rcases (m.yD x ox hx cx).1 (mask_listed ho m.closed hr' h4) with h5 | h5 <;> omega
 have heff0 : cls wd tt o ≠ 3 → ∀ (p : Nat) q,ops[p]? = some q → cls wd tt q = 3 → ((p = j ∨ listedOf S p = true) ↔ dn (kS wd tt ops ops.length) (kS wd tt ops p) t):=fun hc p q hp hq=>by
  rw [← m.yD p q hp hq]
  refine ⟨fun h=>h.resolve_left fun e=>?_,.inr⟩
  subst e
  rw [ho] at hp; simp at hp; subst hp
  exact hc hq
 have heff3 : cls wd tt o = 3 → kS wd tt ops j = t → t ≤ kS wd tt ops ops.length → ∀ (p : Nat) q,ops[p]? = some q → cls wd tt q = 3 → ((p = j ∨ listedOf S p = true) ↔ dn (kS wd tt ops ops.length) (kS wd tt ops p) (t + 1)):=fun hc hk ht p q hp hq=>by
  rw [m.yD p q hp hq]
  have h1:=aBh ho hc
  have h2:=aBh hp hq
  unfold dn
  constructor
  ·rintro (rfl | h)
   ·left; omega
   ·left; omega
  ·intro h
   by_cases hpj:p=j
   ·exact .inl hpj
   ·have:kS wd tt ops p≠kS wd tt ops j:=fun e=>hpj (aD4 hp ho hq hc e)
    right; left; omega
 have hks:=a0m (wd:=wd) (tt:=tt) ho
 have holes : ∀ {Γ' : Gm} {w' : World} {H' : HT},Ext N h0 Γ w (M t) Γ' w' H' → ∀ (i : Nat) oi id,ops[i]? = some oi → ids[i]? = some id → cls wd tt oi = 2 → i ≠ j → Γ id = none → Γ' id = none :=
  fun {Γ' w' H'} x i oi id' hoi hid' hc _ hn=>x.hole id' (Nat.lt_of_lt_of_le (hsz i oi id' hoi hid' hc) m.szt) hn
 unfold wpOpIn
 rw [hoa]
 simp only
 rcases st.run with ⟨hw,hrun⟩ | ⟨hw,hv,hM⟩
 ·rw [if_pos (a3x hgd hw)]
  have does : ∀ {t' : Nat} {K' : HT} (_ : t' ≤ kS wd tt ops ops.length + 1) (_ : t' = kS wd tt ops ops.length + 1 → ∃ x y,sw = some (x,y)) (_ : ∀ (p : Nat) q,ops[p]? = some q → cls wd tt q = 3 → ((p = j ∨ listedOf S p = true) ↔ dn (kS wd tt ops ops.length) (kS wd tt ops p) t')) (_ : Heq K' (M t')),
    cls wd tt o≠2→vL tt C (es j) (M t) o.op = .ok (val j) K'→o.wpIn (frF ρ) 0 P a w K Q:=by
   intro t' K' htle hsw heff hKM hc2 hop
   refine Oper.wpIn_mono ?_ (aHh hT hC m.ext.mem hev hop Q)
   rintro a1 w1 ⟨x,Γ1,rfl,hx,hrep⟩
   exact hK t' Γ1 w1 _ (m.close f hidne ho hun hr st.lt htle hsw heff (by rw [← hKM.1]; exact Nat.le_trans m.szt hx.sz) (hKM.ext (m.ext.trans hx)) hx.gle (fun _ _=>hrep) (holes hx))
  rcases hrun with ⟨hc,hv,hM⟩ | ⟨hc,hop⟩
  ·-- a zero variable
   have htl:=hlate (.inr hc)
   have hmem:=aI3 ho (.inr hc) htl (m.adm ho hun hr' htl) (fun h=>by omega)
   have hck:=aHj hchk j t hmem
   rw [lD,ho,aP,lD,hMs t htl,aP,hc] at hck
   rw [show Nat.beq 2 2=true from rfl,bL] at hck
   obtain ⟨⟨g,z⟩,hpre,hck⟩:=rL hck
   rw [lD,hid,aP] at hck
   obtain ⟨mm,tr,h1,rfl,h3⟩:=b2c hck
   have hnone:=m.hole j o id ho hid hc hun
   have hlookF:=fun d v (hd:d ∈ o.looksAt ops.toArray) (hv:(es ops.length).get d=some v) =>
    m.b4e T f ho hun hr' hd (fun i y hi hy hdy=>f.fin j t hmem i o y d hi ho hy hdy hd) hv
   obtain ⟨hevF,hgdF⟩:=aHk hlookF
   obtain ⟨xs,y,E,hrunA,r1,r2,hgE,hy⟩:=b55 (Γ:=Γ) (a:=a) hT hevF hpre w
   have hlt:id < (M t).sz:=Nat.lt_of_lt_of_le (hsz j o id ho hid hc) m.szt
   have hmem1:Mem N h0 (put Γ id ⟨w.heap.size,0,xs.length⟩) (w.heap.push (.cells ⟨xs⟩ E (0,0))) (M t):=by
    refine aO8 m.ext.mem hnone hlt (Nat.le_refl _) (by simp) (fun b hb hlt=>?_) (by simp) m.ext.mem.size (fun l' p hp hpb=>?_) ?_ (fun i=>by
     split
     ·rename_i hi; rw [hi]; exact h1
     ·rfl)
    ·rw [Array.getElem?_push,if_neg (by omega)]
    ·have:=m.ext.mem.cV l' p hp
     simp at hpb; omega
    ·have:=aPa (w:=w) (cs:=z) (xs:=xs) (rest:=[]) (t:=tr) (E:=E) (fz:=(0,0)) (l:=id) (q:=⟨w.heap.size,0,xs.length⟩) r1 r2 h3 (a2g hnone) rfl rfl (by simp) (tT _) hgE
     rw [List.append_nil] at this
     exact this
   have hext:Ext N h0 Γ0 w0 H0 (put Γ id ⟨w.heap.size,0,xs.length⟩) { w with heap:=w.heap.push (.cells ⟨xs⟩ E (0,0)) } (M t):=by
    refine ⟨m.ext.gle.trans (a2g hnone),hmem1,m.ext.sz,fun l hl hn=>?_,m.ext.kept.trans ⟨rfl,rfl,by simp,aTq rfl⟩⟩
    have:=hsz0 j o id ho hid hc
    unfold put
    rw [if_neg (by omega)]
    exact m.ext.hole l hl hn
   refine ⟨fun _ _=>trivial,?_⟩
   rw [Oper.semAt_plain _ _ o (fun c h=>by unfold cls at hc; rw [h] at hc; simp at hc),hrunA o rfl]
   show K (a.put o.dst _) _
   refine hK t _ _ _ (m.close f hidne ho hun hr st.lt m.tle m.swo (heff0 (by omega)) m.szt hext (a2g hnone) (fun _ _=>?_) (fun i oi id' hoi hid' hci hij hn=>?_))
   ·rw [hv]
    exact hy _ id (by simp [put])
   ·unfold put
    rw [if_neg (fun e=>hij (by subst e; exact hidne i j oi o id' hoi ho hci hc hid' hid))]
    exact hn
  ·by_cases hc3:cls wd tt o=3
   ·rw [if_pos hc3] at hks
    have hlt:=aBh ho hc3
    rcases m.b9v f ho hun hr' hc3 with ⟨hk,ht⟩ | ⟨x,hs,hk,ht⟩ | ⟨ht,y,hs⟩
    ·refine does (t':=t+1) (by omega) (fun h=>by omega) (heff3 hc3 hk ht) (Heq.refl _) hc ?_
     rw [hks,hk] at hop
     exact hop
    ·have hl:=f.late x j hs
     obtain ⟨ox,hx,cx⟩:=hl.cx
     obtain ⟨_,hsw⟩:=hS x j hs
     obtain ⟨K',h1,_,_⟩:=hsw ox o hx ho
     have hkx:=hl.kx
     have hky:=hl.ky
     refine does (t':=kS wd tt ops ops.length+1) (Nat.le_refl _) (fun _=>⟨x,j,hs⟩) (fun p q hp hq=>?_) (Heq.refl _) hc (by rw [← hk]; exact h1)
     rw [m.yD p q hp hq]
     have h2:=aBh hp hq
     unfold dn
     constructor
     ·rintro (rfl | h)
      ·right; omega
      ·right; omega
     ·intro h
      by_cases hpj:p=j
      ·exact .inl hpj
      ·have:kS wd tt ops p≠kS wd tt ops j:=fun e=>hpj (aD4 hp ho hq hc3 e)
       right; left; omega
    ·have hl:=f.late j y hs
     obtain ⟨oy,hy,cy⟩:=hl.cy
     obtain ⟨_,hsw⟩:=hS j y hs
     obtain ⟨K',_,h1,h2⟩:=hsw o oy ho hy
     have hkx:=hl.kx
     refine does (t':=kS wd tt ops ops.length) (by omega) (fun h=>by omega) (fun p q hp hq=>?_) h2 hc (by rw [ht]; exact h1)
     rw [m.yD p q hp hq]
     have h2:=aBh hp hq
     unfold dn
     constructor
     ·rintro (rfl | h)
      ·left; omega
      ·left; omega
     ·intro h
      by_cases hpj:p=j
      ·exact .inl hpj
      ·have:kS wd tt ops p≠kS wd tt ops j:=fun e=>hpj (aD4 hp ho hq hc3 e)
       right; right; omega
   ·rw [if_neg hc3] at hks
    rw [hks] at hop
    by_cases hk:t=kS wd tt ops j
    ·exact does (t':=t) m.tle m.swo (heff0 hc3) (Heq.refl _) hc (by rw [hk]; exact hop)
    ·by_cases hc0:cls wd tt o=0
     ·exact does (t':=t) m.tle m.swo (heff0 hc3) (Heq.refl _) hc (b2a hc0 hop _)
     ·have hc1:cls wd tt o=1:=by have:=aPp (wd:=wd) (tt:=tt) o; omega
      have htl:=hlate (.inl hc1)
      have hmem:=aI3 ho (.inl hc1) htl (m.adm ho hun hr' htl) (fun _=>hk)
      have hck:=aHj hchk j t hmem
      rw [lD,ho,aP,lD,hMs t htl,aP,hc1] at hck
      rw [show Nat.beq 1 2=false from rfl,cD] at hck
      obtain ⟨b,hb,hck⟩:=rL hck
      have hlookF:=fun d v (hd:d ∈ o.looksAt ops.toArray) (hv:(es ops.length).get d=some v) =>
       m.b4e T f ho hun hr' hd (fun i y hi hy hdy=>f.fin j t hmem i o y d hi ho hy hdy hd) hv
      obtain ⟨hevF,hgdF⟩:=aHk hlookF
      have hbt:b=true:=by
       have h1:=a3x hgd hw
       have h2:=a3x hgdF hb
       rw [h1] at h2; exact h2.symm
      subst hbt
      rw [bL] at hck
      split at hck
      ·rename_i u H' hopF
       have hsame:=aHi (wd:=wd) (by omega) hopF
       subst hsame
       refine Oper.wpIn_mono ?_ (aHh hT hC m.ext.mem hevF hopF Q)
       rintro a1 w1 ⟨x,Γ1,rfl,hx,hrep⟩
       refine hK t Γ1 w1 _ (m.close f hidne ho hun hr st.lt m.tle m.swo (heff0 hc3) (Nat.le_trans m.szt hx.sz) (m.ext.trans hx) hx.gle (fun d hd=>?_) (holes hx))
       rw [hd] at hck
       simp only at hck
       rw [T.new f ho hd _ (List.getElem?_eq_some_iff.1 ho).1 (Nat.le_refl _),aP] at hck
       rw [← aTv _ _ hck]; exact hrep
      ·simp at hck
 ·rw [if_neg (by rw [a3x hgd hw]; simp)]
  by_cases hc3:cls wd tt o=3
  ·rw [if_pos hc3] at hks
   have hlt:=aBh ho hc3
   have bare:∀ {x:Nat},x=j→(∃ p,a4z ops x=some p)→False:=fun {x} e hp=>by
    subst e
    obtain ⟨p,hp⟩:=hp
    obtain ⟨hg,_⟩:=a8m ho hp
    unfold wM at hw
    rw [hg] at hw
    simp at hw
   rcases m.b9v f ho hun hr' hc3 with ⟨hk,ht⟩ | ⟨x,hs,hk,ht⟩ | ⟨ht,y,hs⟩
   ·rw [hks,hk] at hM
    refine ⟨fun _ _=>trivial,hK (t+1) Γ w _ (m.close f hidne ho hun hr st.lt (by omega) (fun h=>by omega) (heff3 hc3 hk ht) (by rw [hM]; exact m.szt) (by rw [hM]; exact m.ext) (tR.refl Γ) (fun _ _=>by rw [hv]; exact .undef) (fun _ _ _ _ _ _ _ hn=>hn))⟩
   ·exact (bare rfl (f.late x j hs).sy).elim
   ·exact (bare rfl (f.late j y hs).sx).elim
  ·refine ⟨fun _ _=>trivial,hK t Γ w _ (m.close f hidne ho hun hr st.lt m.tle m.swo (heff0 hc3) m.szt m.ext (tR.refl Γ) (fun _ _=>by rw [hv]; exact .undef) (fun _ _ _ _ _ _ _ hn=>hn))⟩
theorem aWd (hT : iK P tt) (hC : xI P C) (T : Tr wd tt C n ops ids es val M) (f : tL wd tt ops sw) (hsz : ∀ (j : Nat) o id,ops[j]? = some o → ids[j]? = some id → cls wd tt o = 2 → id < s1)
  (hsz0 : ∀ (j : Nat) o id,ops[j]? = some o → ids[j]? = some id → cls wd tt o = 2 → H0.sz ≤ id)
  (hidne : ∀ (i j : Nat) x y id,ops[i]? = some x → ops[j]? = some y → cls wd tt x = 2 → cls wd tt y = 2 → ids[i]? = some id → ids[j]? = some id → i = j) {Ms : List HT} (hMs : ∀ t,t ≤ kS wd tt ops ops.length → Ms[t]? = some (M t))
  (hchk:a4a wd tt C ops ids (es ops.length) Ms (pC wd tt ops)=true) (hS:Swp wd tt C ops es val M sw) {Q:Exit→Act→World→Prop}
  (hQ:∀ Γ' w' a',Ext N h0 Γ0 w0 H0 Γ' w' (M (kS wd tt ops ops.length))→cC δ Γ' n (es ops.length) a'→Q .normal a' w') :
  ∀ (fuel t:Nat) (S:Array Bool) (Γ : Gm) (w:World) (a:Act),wL sw δ wd tt n ops ids es val M N h0 Γ0 w0 H0 s1 t S Γ w a→unl S≤fuel→wpAnyIn (frF ρ) 0 P .any ops.toArray Q fuel S a w:=by
 have done:∀ (t:Nat) (S:Array Bool) (Γ : Gm) (w:World) (a:Act),wL sw δ wd tt n ops ids es val M N h0 Γ0 w0 H0 s1 t S Γ w a→(∀ i,i < ops.length→listedOf S i=true)→Q .normal a w:=by
  intro t S Γ w a m hall
  have ht:t=kS wd tt ops ops.length:=by
   by_cases h9:t=kS wd tt ops ops.length+1
   ·exfalso
    obtain ⟨x,y,hs⟩:=m.swo h9
    have hl:=f.late x y hs
    obtain ⟨ox,hx,cx⟩:=hl.cx
    have hkx:=hl.kx
    rcases (m.yD x ox hx cx).1 (hall x (List.getElem?_eq_some_iff.1 hx).1) with h5 | h5 <;> omega
   ·have htle:=m.tle
    refine Nat.le_antisymm (by omega) (Nat.le_of_not_lt fun hlt=>?_)
    obtain ⟨p,x,h1,h2,h3,h4⟩:=aM3 (wd:=wd) (tt:=tt) (l:=ops) (Nat.le_refl _) hlt
    rcases (m.yD p x h2 h3).1 (hall p h1) with h5 | h5 <;> omega
  subst ht
  refine hQ Γ w a m.ext ⟨m.defers,m.zC,fun d v hv=>?_⟩
  by_cases hex : ∃ (i : Nat) (oi : Oper),i < ops.length ∧ ops[i]? = some oi ∧ oi.dst = some d
  ·obtain ⟨i,oi,hi,hoi,hdi⟩:=hex
   rw [T.new f hoi hdi _ hi (Nat.le_refl _)] at hv
   simp at hv; subst hv
   exact m.new i oi d hoi (hall i hi) hdi
  ·rw [T.old (d:=d) _ (Nat.le_refl _) (fun i oi hi hoi hdi=>hex ⟨i,oi,hi,hoi,hdi⟩)] at hv
   exact m.old d v (fun i oi hoi _ hdi=>hex ⟨i,oi,(List.getElem?_eq_some_iff.1 hoi).1,hoi,hdi⟩) hv
 intro fuel
 induction fuel with
 | zero =>
  intro t S Γ w a m hu
  have hall:∀ i,i < ops.length→listedOf S i=true:=fun i hi=>by
   cases h:listedOf S i with
   | true=>rfl
   | false=>have:=unl_pos (listed_false (by rw [m.size]; exact hi) h); omega
  refine ⟨?_,done t S Γ w a m hall⟩
  rw [List.eq_nil_iff_forall_not_mem]
  intro i hi
  obtain ⟨o,h1,h2,_⟩:=ready_iff.1 hi
  have hil:=(List.getElem?_eq_some_iff.1 h1).1
  rw [lst_of_listedOf (by rw [m.size]; exact hil),hall i hil] at h2
  simp at h2
 | succ fuel ih =>
  intro t S Γ w a m hu
  refine ⟨fun hnil=>?_,fun i hi=>?_⟩
  ·refine done t S Γ w a m fun i hi=>?_
   have first:∀ k,k≤ops.length→∀ i,i < k→listedOf S i=true:=by
    intro k
    induction k with
    | zero=>intro _ i hi; omega
    | succ k ihk =>
     intro hk i hi
     by_cases hik:i=k
     ·subst hik
      cases h:listedOf S i with
      | true=>rfl
      | false =>
       exfalso
       have:i ∈ Region.ready .any ops.toArray S:=ready_iff.2 ⟨ops[i],List.getElem?_eq_getElem hk,by rw [lst_of_listedOf (by rw [m.size]; exact hk)]; exact h,fun e he hb=>ihk (by omega) e.on (f.back i _ (List.getElem?_eq_getElem hk) e he hb)⟩
       rw [hnil] at this; simp at this
     ·exact ihk (by omega) i (by omega)
   exact first ops.length (Nat.le_refl _) i hi
  ·obtain ⟨o,h1,h2,h3⟩:=ready_iff.1 hi
   have hil:=(List.getElem?_eq_some_iff.1 h1).1
   rw [lst_of_listedOf (by rw [m.size]; exact hil)] at h2
   have hset:=unl_set (listed_false (by rw [m.size]; exact hil) h2)
   exact m.step hT hC T f hsz hsz0 hidne hMs hchk hS h1 h2 h3 Q _ (fun t' Γ' w' a' m'=>ih t' _ Γ' w' a' m' (by omega))
theorem b56 {env:T RV} {H:HT} {k:T RV→Out} {env':T RV} {H':HT} (e:aPr wd tt C n ops env H k = .kH env' H'):∃ pe,k pe = .kH env' H':=by
 unfold aPr at e
 cases wd with
 | false=>exact ⟨_,e⟩
 | true =>
  rw [bL] at e
  replace e:=mE e
  rcases e with ⟨_,e⟩ | ⟨p,hp,e⟩
  ·simp at e
  split at e
  ·exact ⟨_,e⟩
  ·simp at e
theorem aI4 (hT:iK P tt) (hC:xI P C) (hm:P.follows .mixedOrders=true) {id:Nat} {Q:Exit→Act→World→Prop} {env env1:T RV} {H H1 H2:HT} {Ms:List HT} {pc:Op→Option (Nat×List RV)} (f:tL wd tt ops sw)
  (hp:yF wd tt pc ops H=some (ids,H1)) (hrun:p6 wd tt C n ops ops ids env H1 = .ok env1 Ms) (hchk:a4a wd tt C ops ids env1 Ms (pC wd tt ops)=true) (hH2:mK Ms (kS wd tt ops ops.length)=some H2)
  (hS:∀ es val M,Tr wd tt C n ops ids es val M→es ops.length=env1→∃ My,Swp wd tt C ops es val (fun t=>if t=kS wd tt ops ops.length+1 then My else M t) sw)
  (m:Mem N h0 Γ w.heap H) (re:cC δ Γ n env a)
  (hQ:∀ Γ' w' a',Ext N h0 Γ w H Γ' w' H2→cC δ Γ' n env1 a'→Q .normal a' w'):(Code.region id ops.toArray true).wpIn (frF ρ) 0 P Q a w:=by
 obtain ⟨p1,p2,p3,p4,p5⟩:=aD5 hp
 obtain ⟨es,val,M,e1,e2,e3,e4,e5,e6⟩:=aI2 hrun
 have T:Tr wd tt C n ops ids es val M:=⟨e4,e6⟩
 obtain ⟨My,hSw⟩:=hS es val M T e3
 subst e3
 obtain rfl:H2=M (kS wd tt ops ops.length):=by
  rw [lD,e5 _ (Nat.le_refl _)] at hH2
  simpa using hH2.symm
 generalize hM':(fun t=>if t=kS wd tt ops ops.length+1 then My else M t)=M' at hSw
 have hle:∀ t,t≤kS wd tt ops ops.length→M' t=M t:=fun t ht=>by
  subst hM'
  simp only
  rw [if_neg (by omega)]
 have T':Tr wd tt C n ops ids es val M':=⟨e4,fun j o id ho hi=>by
  have hj:=(List.getElem?_eq_some_iff.1 ho).1
  rw [hle _ (aFk ops j ops.length (by omega)),hle _ (aFk ops (j+1) ops.length hj)]
  exact e6 j o id ho hi⟩
 rw [← hle _ (Nat.le_refl _)] at hQ
 refine wpIn_region_any hm (aWd (s1:=H1.sz) (N:=N) (h0:=h0) (Γ0:=Γ) (w0:=w) (H0:=H) (sw:=sw) hT hC T' f (fun j o id ho hi hc=>(p4 j o id ho hi hc).2) (fun j o id ho hi hc=>(p4 j o id ho hi hc).1) p5 (fun t ht=>by rw [hle t ht]; exact e5 t ht) hchk hSw (fun Γ' w' a' h1 h2=>hQ Γ' w' a' h1 h2) _ 0 _ Γ _ a ?_ ?_)
 ·have hrep:∀ i,listedOf (Array.replicate ops.toArray.size false) i=false:=fun i=>by
   unfold listedOf; simp [Array.getD]
  refine ⟨by simp,by rw [hle _ (Nat.zero_le _),e2]; exact Nat.le_refl _,fun j o _ hl=>by rw [hrep] at hl; simp at hl,Nat.zero_le _,fun h=>by omega,fun p o _ _=>?_,?_,re.1,re.2.1,fun j o id ho hi hc _=>?_,fun i o d _ hl=>by rw [hrep] at hl; simp at hl,fun d v _ hv=>?_⟩
  ·rw [hrep]; simp [dn]
  ·rw [hle _ (Nat.zero_le _),e2]
   exact ⟨tR.refl Γ,p3 N h0 _ Γ m,p1,fun _ _ h=>h,⟨rfl,rfl,Nat.le_refl _,fun _ h=>h⟩⟩
  ·exact sO m (p4 j o id ho hi hc).1
  ·rw [e1] at hv
   exact re.2.2 d v hv
 ·unfold unl
  simp [List.count_replicate]
theorem aD6 (hT:iK P tt) (hC:xI P C) (hm:P.follows .mixedOrders=true) {id:Nat} {Q:Exit→Act→World→Prop} {env env':T RV} {H H':HT} (e:a29 wd tt C n ops env H = .kH env' H') (m:Mem N h0 Γ w.heap H) (re:cC δ Γ n env a)
  (hQ:∀ Γ' w' a',Ext N h0 Γ w H Γ' w' H'→cC δ Γ' n env' a'→Q .normal a' w'):(Code.region id ops.toArray true).wpIn (frF ρ) 0 P Q a w:=by
 unfold a29 at e
 rw [cP] at e
 split at e
 ·rename_i hok
  have f:=aDt hok
  obtain ⟨pe,e⟩:=b56 e
  replace e:=mE e
  rcases e with ⟨_,e⟩ | ⟨p,hp,e⟩
  ·simp at e
  obtain ⟨ids,H1⟩:=p
  split at e
  ·rename_i env1 Ms hrun
   rw [cP] at e
   split at e
   ·rename_i hchk
    replace e:=mE e
    rcases e with ⟨_,e⟩ | ⟨H2,hH2,e⟩
    ·simp at e
    simp at e
    obtain ⟨rfl,rfl⟩:=e
    exact aI4 hT hC hm f hp hrun hchk hH2 (fun es val M _ _=>⟨M 0,fun x y h=>by simp at h⟩) m re hQ
   ·simp at e
  ·simp at e
 ·simp at e
theorem aHl {β:Type} : ∀ (vs:List RV) (t:T RV) (off:Nat) (k:T RV→β),nY vs t off k=k (nY vs t off fun t=>t)
 | [],_,_,_=>rfl
 | v::vs,t,off,k=>by
  show T.j9 t off v (fun t=>nY vs t (Nat.succ off) k)=k (T.j9 t off v (fun t=>nY vs t (Nat.succ off) fun t=>t))
  rw [T.uL,T.uL]
  exact aHl vs _ _ k
theorem aI5 {ti:bD} {H H':HT} {l off:Nat} {v u:RV} (e:nE ti H (.ptr l off) v = .ok u H') :
  ∃ o,(∀ i,H'.get i=if i=l then some o else H.get i)∧H'.sz=H.sz∧∀ K:HT,K.get l=H.get l→∃ K',nE ti K (.ptr l off) v = .ok u K'∧(∀ i,K'.get i=if i=l then some o else K.get i)∧K'.sz=K.sz:=by
 have e0:=e
 unfold nE at e
 simp only at e
 obtain ⟨g,n,t,h1,e⟩:=a0i e
 obtain ⟨b1,e⟩:=cA e
 obtain ⟨b2,e⟩:=cA e
 obtain ⟨b3,e⟩:=cA e
 rw [aHl] at e
 have run:∀ (K:HT),K.get l=H.get l→∀ (u':RV) (K':HT),nE ti K (.ptr l off) v = .ok u' K'↔(HT.j9 K l (.cells g n (nY v.cells t off fun t=>t)) fun H=>OR.ok .undef H) = .ok u' K':=by
  intro K hK u' K'
  unfold nE yU
  simp only
  rw [hK,h1,aP]
  simp only
  rw [b1,bL,b2,bL,b3,bL,aHl]
 have set:∀ (K:HT),∃ K':HT,(HT.j9 K l (.cells g n (nY v.cells t off fun t=>t)) fun H=>OR.ok .undef H) = .ok .undef K'∧(∀ i,K'.get i=if i=l then some (.cells g n (nY v.cells t off fun t=>t)) else K.get i)∧K'.sz=K.sz:=by
  intro K
  unfold HT.j9
  obtain ⟨t',h2,h3⟩:=TQ.hX K.t l (.cells g n (nY v.cells t off fun t=>t)) (fun t=>OR.ok .undef ⟨K.sz,t⟩)
  exact ⟨⟨K.sz,t'⟩,h2,h3,rfl⟩
 refine ⟨.cells g n (nY v.cells t off fun t=>t),?_,?_,fun K hK=>?_⟩
 ·obtain ⟨K',h2,h3,h4⟩:=set H
  rw [h2] at e
  simp at e
  rw [← e.2]; exact h3
 ·obtain ⟨K',h2,h3,h4⟩:=set H
  rw [h2] at e
  simp at e
  rw [← e.2]; exact h4
 ·obtain ⟨K0,h5,_,_⟩:=set H
  rw [h5] at e
  simp at e
  obtain ⟨rfl,_⟩:=e
  obtain ⟨K',h2,h3,h4⟩:=set K
  exact ⟨K',(run K hK _ _).2 h2,h3,h4⟩
theorem Tr.fin (T : Tr wd tt C n ops ids es val M) (f : tL wd tt ops sw) {j : Nat} {o : Oper} (ho : ops[j]? = some o) {d : Nat} (hd : d ∈ o.looksAt ops.toArray) (hfin : ∀ (i : Nat) y,¬ i < j → ops[i]? = some y → y.dst ≠ some d) : (es j).get d = (es ops.length).get d:=by
 have hj:=(List.getElem?_eq_some_iff.1 ho).1
 by_cases hex : ∃ (i : Nat) (oi : Oper),i < j ∧ ops[i]? = some oi ∧ oi.dst = some d
 ·obtain ⟨i,oi,hi,hoi,hdi⟩:=hex
  rw [T.new f hoi hdi _ (by omega) (Nat.le_refl _),T.new f hoi hdi j hi (by omega)]
 ·rw [T.old (d:=d) _ (Nat.le_refl _) (fun i oi hi hoi hdi=>by
   by_cases h:i < j
   ·exact hex ⟨i,oi,h,hoi,hdi⟩
   ·exact hfin i oi h hoi hdi),T.old (d:=d) j (by omega) (fun i oi hi hoi hdi=>hex ⟨i,oi,hi,hoi,hdi⟩)]
theorem Tr.aM4 (T : Tr wd tt C n ops ids es val M) (f : tL wd tt ops sw) {j : Nat} {o : Oper} (ho : ops[j]? = some o) {p : Operand} (hp : p ∈ o.op.operands.toList) (hfin : ∀ (i : Nat) a b d,¬ i < j → ops[j]? = some a → ops[i]? = some b → b.dst = some d → d ∉ a.looksAt ops.toArray) :
  ev (es j) p=ev (es ops.length) p:=by
 cases p with
 | tmp d =>
  have hd:d ∈ o.looksAt ops.toArray:=by
   unfold Oper.looksAt
   refine List.mem_append.2 (.inl ?_)
   rw [List.mem_filterMap]
   exact ⟨.tmp d,hp,rfl⟩
  exact T.fin f ho hd fun i y hi hy hdy=>hfin i o y d hi ho hy hdy hd
 | _=>rfl
theorem aZe (T:Tr wd tt C n ops ids es val M) {x y:Nat} (f:tL wd tt ops (some (x,y))) (ha:aI1 ops (es ops.length) x y=true) :
  ∃ My,Swp wd tt C ops es val (fun t=>if t=kS wd tt ops ops.length+1 then My else M t) (some (x,y)):=by
 have hl:=f.late x y rfl
 obtain ⟨ox,hx,cx⟩:=hl.cx
 obtain ⟨oy,hy,cy⟩:=hl.cy
 have hkx:=hl.kx
 have hky:=hl.ky
 unfold aI1 at ha
 obtain ⟨p,hp,ha⟩:=rL ha
 obtain ⟨q,hq,ha⟩:=rL ha
 obtain ⟨u,hu,ha⟩:=rL ha
 obtain ⟨v,hv,ha⟩:=rL ha
 obtain ⟨l,off,l',off',rfl,rfl,hne⟩:∃ l off l' off',u = .ptr l off∧v = .ptr l' off'∧l≠l':=by
  cases u with
  | ptr l off=>cases v with
   | ptr l' off'=>exact ⟨l,off,l',off',rfl,rfl,fun h=>by subst h; simp at ha⟩
   | _=>simp at ha
  | _=>simp at ha
 obtain ⟨gx,_,tx,vx,ex⟩:=a8m hx hp
 obtain ⟨gy,_,ty,vy,ey⟩:=a8m hy hq
 obtain ⟨idx,_,stx⟩:=T.at hx
 obtain ⟨idy,_,sty⟩:=T.at hy
 have runx:vL tt C (es x) (M (kS wd tt ops x)) ox.op = .ok (val x) (M (kS wd tt ops x+1)):=by
  have hks:=a0m (wd:=wd) (tt:=tt) hx
  rw [if_pos cx] at hks
  rcases stx.run with ⟨_,⟨h,_⟩ | ⟨_,h⟩⟩ | ⟨h,_⟩
  ·omega
  ·rw [hks] at h; exact h
  ·unfold wM at h; rw [gx] at h; simp at h
 have runy:vL tt C (es y) (M (kS wd tt ops x+1)) oy.op = .ok (val y) (M (kS wd tt ops ops.length)):=by
  have hks:=a0m (wd:=wd) (tt:=tt) hy
  rw [if_pos cy] at hks
  rcases sty.run with ⟨_,⟨h,_⟩ | ⟨_,h⟩⟩ | ⟨h,_⟩
  ·omega
  ·rw [hks,show kS wd tt ops y=kS wd tt ops x+1 by omega,show kS wd tt ops x+1+1=kS wd tt ops ops.length by omega] at h; exact h
  ·unfold wM at h; rw [gy] at h; simp at h
 rw [ex] at runx
 rw [ey] at runy
 simp only [vL] at runx runy
 obtain ⟨u1,u2,hu1,hu2,runx⟩:=rK runx
 obtain ⟨v1,v2,hv1,hv2,runy⟩:=rK runy
 rw [T.aM4 f hx (by rw [ex]; simp [Op.operands]) hl.fx,hu] at hu1
 rw [T.aM4 f hy (by rw [ey]; simp [Op.operands]) hl.fy,hv] at hv1
 simp only [Option.some.injEq] at hu1 hv1
 subst hu1; subst hv1
 unfold a9m at runx runy
 obtain ⟨tix,htx,runx⟩:=dY runx
 obtain ⟨tiy,hty,runy⟩:=dY runy
 obtain ⟨o1,a1,a2,a3⟩:=aI5 runx
 obtain ⟨o2,b1,b2,b3⟩:=aI5 runy
 obtain ⟨My,c1,c2,c3⟩:=b3 (M (kS wd tt ops x)) (by rw [a1,if_neg (fun h=>hne h.symm)])
 obtain ⟨K,d1,d2,d3⟩:=a3 My (by rw [c2,if_neg hne])
 refine ⟨My,fun x' y' h=>?_⟩
 simp only [Option.some.injEq,Prod.mk.injEq] at h
 obtain ⟨rfl,rfl⟩:=h
 simp only
 rw [if_pos trivial,if_neg (by omega),if_neg (by omega)]
 refine ⟨c3,fun ox' oy' hx' hy'=>?_⟩
 rw [hx] at hx'; rw [hy] at hy'
 simp only [Option.some.injEq] at hx' hy'
 subst hx'; subst hy'
 have hu1':ev (es x) p=some (.ptr l off):=by rw [T.aM4 f hx (by rw [ex]; simp [Op.operands]) hl.fx,hu]
 have hv1':ev (es y) q=some (.ptr l' off'):=by rw [T.aM4 f hy (by rw [ey]; simp [Op.operands]) hl.fy,hv]
 refine ⟨K,?_,?_,by rw [d3,c3,b2,a2],fun i=>?_⟩
 ·rw [ey]
  simp only [vL]
  unfold mQ a9m dD
  rw [hv1',aP,hv2,aP]
  show aF (tt.get ty) .bad (fun ti=>nE ti (M (kS wd tt ops x)) (.ptr l' off') v2)=_
  rw [hty,aP]
  exact c1
 ·rw [ex]
  simp only [vL]
  unfold mQ a9m dD
  rw [hu1',aP,hu2,aP]
  show aF (tt.get tx) .bad (fun ti=>nE ti My (.ptr l off) u2)=_
  rw [htx,aP]
  exact d1
 ·rw [d2,b1,c2,a1]
  by_cases h1:i=l
  ·subst h1; simp [hne]
  ·simp [h1]
theorem aPu (hT:iK P tt) (hC:xI P C) (hm:P.follows .mixedOrders=true) {id:Nat} {Q:Exit→Act→World→Prop} {env env':T RV} {H H':HT} (e:a7g tt C n ops env H = .kH env' H') (m:Mem N h0 Γ w.heap H) (re:cC δ Γ n env a)
  (hQ:∀ Γ' w' a',Ext N h0 Γ w H Γ' w' H'→cC δ Γ' n env' a'→Q .normal a' w'):(Code.region id ops.toArray true).wpIn (frF ρ) 0 P Q a w:=by
 unfold a7g at e
 replace e:=mE e
 rcases e with ⟨_,e⟩ | ⟨s,hs,e⟩
 ·simp at e
 rw [cP] at e
 split at e
 ·rename_i hok
  have f:=aWc hok
  replace e:=mE e
  rcases e with ⟨_,e⟩ | ⟨p,hp,e⟩
  ·simp at e
  obtain ⟨ids,H1⟩:=p
  split at e
  ·rename_i env1 Ms hrun
   rw [cP] at e
   split at e
   ·rename_i hchk
    rw [cP] at e
    split at e
    ·rename_i hap
     replace e:=mE e
     rcases e with ⟨_,e⟩ | ⟨H2,hH2,e⟩
     ·simp at e
     simp at e
     obtain ⟨rfl,rfl⟩:=e
     exact aI4 hT hC hm f hp hrun hchk hH2 (fun es val M T h=>aZe T f (by rw [h]; exact hap)) m re hQ
    ·simp at e
   ·simp at e
  ·simp at e
 ·simp at e
theorem a8i (hT:iK P tt) (hC:xI P C) (hm:P.follows .mixedOrders=true) {id:Nat} {Q:Exit→Act→World→Prop} {env env':T RV} {H H':HT} (e:zH tt C n ops env H = .kH env' H') (m:Mem N h0 Γ w.heap H) (re:cC δ Γ n env a)
  (hQ:∀ Γ' w' a',Ext N h0 Γ w H Γ' w' H'→cC δ Γ' n env' a'→Q .normal a' w'):(Code.region id ops.toArray true).wpIn (frF ρ) 0 P Q a w:=by
 unfold zH at e
 rw [cP] at e
 split at e
 ·exact aD6 hT hC hm e m re hQ
 ·rw [cP] at e
  split at e
  ·exact aD6 hT hC hm e m re hQ
  ·exact aPu hT hC hm e m re hQ
end
end Go.Rx

/- Closed runs: code,functions. -/
namespace Go.Rx
noncomputable def aBi (f:T RV→HT→Out) (k:Nat):T RV→HT→Out :=
 @Nat.rec (fun _=>T RV→HT→Out) (fun _ _=>.bad) (fun _ ih env H=>match f env H with | .kH env H=>ih env H | .ext id env H=>.ext id env H | .ret env H=>.ret env H | .bad=>.bad) k
section
variable (tt:T bD) (C:eO) (n:Nat) (big:Nat)
noncomputable def qK (c:Code):T RV→HT→Out :=
 @Code.rec (fun _=>T RV→HT→Out)
  (fun env H=>.kH env H)
  (fun _ ops draw env H=>aJ draw (zH tt C n ops.toList env H) (opsV tt C n ops.toList ops.toList env H))
  (fun _ _ ra rb env H=>match ra env H with | .kH env H=>rb env H | .ext id env H=>.ext id env H | .ret env H=>.ret env H | .bad=>.bad)
  (fun c _ _ ra rb env H=>aF (ev env c) .bad fun v=>match v with | .bool t=>aJ t (ra env H) (rb env H) | _=>.bad)
  (fun id _ rb env H=>match rb env H with | .kH env H=>.kH env H | .ext j env H=>aJ (Nat.beq j id) (.kH env H) (.ext j env H) | .ret env H=>.ret env H | .bad=>.bad)
  (fun _ rb env H=>aBi rb big env H)
  (fun _ _ _ _ _ _ _ _=>.bad)
  (fun id env H=>.ext id env H)
  (fun _ _ _ _=>.bad)
  (fun _ env H=>.kH env H)
  (fun _ _ _=>.bad)
  (fun env H=>.ret env H)
  (fun _ _ _=>.bad) c
noncomputable def mU (env:T RV) (H:HT):List ResultVar→Option (List RV)
 | []=>some []
 | .tmp t::r=>aF (env.get t) none fun v=>aF (mU env H r) none fun vs=>some (v::vs)
 | .cell t ty::r=>aF (env.get t) none fun u=>dD tt ty none fun ti=>aF (nX ti H u) none fun v=>aF (mU env H r) none fun vs=>some (v::vs)
noncomputable def sP (rs:List ResultVar) (env:T RV) (H:HT):OR :=
 aF (mU tt env H rs) .bad fun vs=>match vs with
  | [v]=>.ok v H
  | vs=>.ok (.aG vs) H
end
inductive FE where
 | code (n:Nat) (res:List ResultVar) (c:Code)
 | same
 | known (b:Bool)
 | pure (g:List RV→Option RV)
 | room (e:TypeId)
noncomputable def aI6 (e:TypeId) (args:List RV) (H:HT):OR :=
 match args with
 | [.int .i64 (.ofNat n)]=>aJ (Nat.ble n 1000000) (mD H (Nat.succ e) [] fun l H=>.ok (.sl l 0 n 1 none) H) .bad
 | _=>.bad
noncomputable def aI7 (b:Bool) (args:List RV) (H:HT):OR:=match args with | []=>.ok (.bool b) H | _=>.bad
noncomputable def a7h (args:List RV) (H:HT):OR:=match args with | [x]=>.ok x H | _=>.bad
noncomputable def aHm (tt:T bD) (ft:T FE) (big:Nat) (d:Nat):eO :=
 @Nat.rec (fun _=>eO) (fun _ _ _=>.bad) (fun _ C f args H=>aJ (Nat.beq f Y0) .bad (aF (ft.get f) .bad fun fe=>match fe with
  | .code n res c=>eZ (gD args) fun k=>aJ (Nat.ble k n) (nY args .e 0 fun env=>match qK tt C n big c env H with
    | .kH env H=>sP tt res env H
    | .ret env H=>sP tt res env H
    | _=>.bad) .bad
  | .same=>a7h args H
  | .known b=>aI7 b args H
  | .pure g=>j8 (g args) H
  | .room e=>aI6 e args H)) d
section
variable {P:Program} {N:Nat} {h0:bX} {Γ : Gm} {w:World} {H H':HT} {tt:T bD} {C:eO} {n:Nat} {env:T RV} {a:Act} {big:Nat}
def sW (N:Nat) (h0:bX) (Γ : Gm) (w:World) (H:HT) (n:Nat) (R:Exit→Act→World→Prop):Out→Prop
 | .kH env' H'=>∀ Γ' w' a',Ext N h0 Γ w H Γ' w' H'→cC [] Γ' n env' a'→R .normal a' w'
 | .ext id env' H'=>∀ Γ' w' a',Ext N h0 Γ w H Γ' w' H'→cC [] Γ' n env' a'→R (.exit id) a' w'
 | .ret env' H'=>∀ Γ' w' a',Ext N h0 Γ w H Γ' w' H'→cC [] Γ' n env' a'→R .ret a' w'
 | .bad=>False
theorem sW.ext {R:Exit→Act→World→Prop} {o:Out} (h:sW N h0 Γ w H n R o) {Γ':Gm} {w':World} {H':HT} (x:Ext N h0 Γ w H Γ' w' H'):sW N h0 Γ' w' H' n R o:=by
 cases o with
 | bad=>exact h
 | _=>exact fun Γ2 w2 a2 x2 r2=>h Γ2 w2 a2 (x.trans x2) r2
theorem aWe (hT:iK P tt) (hC:xI P C) (hm:P.follows .mixedOrders=true):∀ (c:Code) (env:T RV) (H:HT) (Γ : Gm) (w:World) (a:Act) (R:Exit→Act→World→Prop),Mem N h0 Γ w.heap H→cC [] Γ n env a →
  sW N h0 Γ w H n R (qK tt C n big c env H)→c.wp P R a w:=by
 intro c
 induction c with
 | skip=>intro env H Γ w a R m re h; exact wp_skip (h Γ w a (Ext.refl m) re)
 | label l=>intro env H Γ w a R m re h; exact wp_label (h Γ w a (Ext.refl m) re)
 | exit id=>intro env H Γ w a R m re h; exact wp_exit (h Γ w a (Ext.refl m) re)
 | ret=>intro env H Γ w a R m re h; exact wp_ret (h Γ w a (Ext.refl m) re)
 | region id ops draw =>
  intro env H Γ w a R m re h
  have h:sW N h0 Γ w H n R (aJ draw (zH tt C n ops.toList env H) (opsV tt C n ops.toList ops.toList env H)):=h
  have hops:(⟨ops.toList⟩:Array Oper)=ops:=by cases ops; rfl
  cases draw with
  | true =>
   rw [bL] at h
   cases he:zH tt C n ops.toList env H with
   | kH env' H' =>
    rw [he] at h
    have:=a8i (ρ:=none) (id:=id) (Q:=R) hT hC hm he m re h
    rw [show ops.toList.toArray=ops by simp] at this
    exact wpIn_wide.1 this
   | bad=>rw [he] at h; exact h.elim
   | ext _ _ _=>exact (aLw.1 _ _ _ he).elim
   | ret _ _=>exact (aLw.2 _ _ he).elim
  | false =>
   rw [cD] at h
   rcases b19 (tt:=tt) (C:=C) (n:=n) (ops:=ops.toList) (rest:=ops.toList) (env:=env) (H:=H) with ⟨env',H',he⟩ | he
   ·rw [he] at h
    have:=aPn (ρ:=none) (id:=id) (Q:=R) hT hC he m re h
    rw [show ops.toList.toArray=ops by simp] at this
    exact wpIn_wide.1 this
   ·rw [he] at h; exact h.elim
 | seq x y ihx ihy =>
  intro env H Γ w a R m re h
  have h:sW N h0 Γ w H n R (match qK tt C n big x env H with | .kH env H=>qK tt C n big y env H | .ext id env H=>.ext id env H | .ret env H=>.ret env H | .bad=>.bad):=h
  refine wp_seq (ihx env H Γ w a _ m re ?_)
  cases he:qK tt C n big x env H with
  | kH env' H' =>
   rw [he] at h
   exact fun Γ' w' a' hx hr=>ihy env' H' Γ' w' a' R hx.mem hr (h.ext hx)
  | ext id env' H'=>rw [he] at h; exact h
  | ret env' H'=>rw [he] at h; exact h
  | bad=>rw [he] at h; exact h
 | cond c x y ihx ihy =>
  intro env H Γ w a R m re h
  have h:sW N h0 Γ w H n R (aF (ev env c) .bad fun v=>match v with | .bool t=>aJ t (qK tt C n big x env H) (qK tt C n big y env H) | _=>.bad):=h
  cases hv:ev env c with
  | none=>rw [hv,kP] at h; exact h.elim
  | some v =>
   rw [hv,aP] at h
   split at h
   ·rename_i t
    refine wp_cond (jM (re.ev hv)) ?_
    cases t with
    | true=>exact ihx env H Γ w a R m re h
    | false=>exact ihy env H Γ w a R m re h
   ·exact h.elim
 | block id b ih =>
  intro env H Γ w a R m re h
  have h:sW N h0 Γ w H n R (match qK tt C n big b env H with | .kH env H=>.kH env H | .ext j env H=>aJ (Nat.beq j id) (.kH env H) (.ext j env H) | .ret env H=>.ret env H | .bad=>.bad):=h
  refine wp_block (ih env H Γ w a _ m re ?_)
  cases he:qK tt C n big b env H with
  | kH env' H'=>rw [he] at h; exact h
  | ret env' H'=>rw [he] at h; exact h
  | bad=>rw [he] at h; exact h
  | ext j env' H' =>
   rw [he] at h
   simp only at h
   rw [cP] at h
   intro Γ' w' a' hx hr
   simp only [Exit.inBlock]
   split at h
   ·rename_i hj
    rw [if_pos (Nat.eq_of_beq_eq_true hj)]
    exact h Γ' w' a' hx hr
   ·rename_i hj
    rw [if_neg (fun e=>hj (by rw [e]; simp))]
    exact h Γ' w' a' hx hr
 | loop b ih =>
  intro env H Γ w a R m re h
  have h:sW N h0 Γ w H n R (aBi (qK tt C n big b) big env H):=h
  have key:∀ (k:Nat) (env1:T RV) (H1:HT) (Γ1:Gm) (w1:World) (a1:Act),sW N h0 Γ w H n R (aBi (qK tt C n big b) k env1 H1)→Ext N h0 Γ w H Γ1 w1 H1→cC [] Γ1 n env1 a1→Code.rounds P b R k a1 w1:=by
   intro k
   induction k with
   | zero=>intro env1 H1 Γ1 w1 a1 h; exact h.elim
   | succ k ihk =>
    intro env1 H1 Γ1 w1 a1 h hx hr
    have h:sW N h0 Γ w H n R (match qK tt C n big b env1 H1 with | .kH env H=>aBi (qK tt C n big b) k env H | .ext id env H=>.ext id env H | .ret env H=>.ret env H | .bad=>.bad):=h
    refine ih env1 H1 Γ1 w1 a1 _ hx.mem hr ?_
    cases he:qK tt C n big b env1 H1 with
    | kH env' H' =>
     rw [he] at h
     exact fun Γ' w' a' hx' hr'=>ihk env' H' Γ' w' a' h (hx.trans hx') hr'
    | ext id env' H'=>rw [he] at h; exact fun Γ' w' a' hx' hr'=>h Γ' w' a' (hx.trans hx') hr'
    | ret env' H'=>rw [he] at h; exact fun Γ' w' a' hx' hr'=>h Γ' w' a' (hx.trans hx') hr'
    | bad=>rw [he] at h; exact h
  exact wp_loop_rounds big (key big env H Γ w a h (Ext.refl m) re)
 | rangeFunc=>intro env H Γ w a R m re h; exact h.elim
 | scope=>intro env H Γ w a R m re h; exact h.elim
 | goto=>intro env H Γ w a R m re h; exact h.elim
 | refuse=>intro env H Γ w a R m re h; exact h.elim
theorem xK (hT:iK P tt) (m:Mem N h0 Γ w.heap H) {δ:List Deferred} (re:cC δ Γ n env a):∀ {rs:List ResultVar} {vs:List RV},mU tt env H rs=some vs →
  ∃ xs:List Value,(rs.mapM (fun r=>match r with | .tmp t=>pure (a.tmps.getD t undef) | .cell b t=>do loadVar t (← asAddr (a.tmps.getD b undef))):Sem (List Value)).run P w = .ok xs w∧aB Γ vs xs
 | [],vs,e=>by simp [mU] at e; subst e; exact ⟨[],by simp,aB.nil⟩
 | .tmp t::rs,vs,e=>by
  simp only [mU] at e
  replace e:=aI e; obtain ⟨v,h1,e⟩:=e
  replace e:=aI e; obtain ⟨vs',h2,e⟩:=e
  simp at e; subst e
  obtain ⟨xs,h3,h4⟩:=xK hT m re h2
  refine ⟨a.tmps.getD t undef::xs,?_,aB.cons (by have:=re.ev (x:=.tmp t) h1; simpa [Act.eval] using this) h4⟩
  simp only [List.mapM_cons,Sem.run_bind,Sem.run_pure,Result.andThen_ok]
  rw [h3]; rfl
 | .cell t ty::rs,vs,e=>by
  simp only [mU] at e
  replace e:=aI e; obtain ⟨u,h1,e⟩:=e
  replace e:=eU e; obtain ⟨ti,hti,e⟩:=e
  replace e:=aI e; obtain ⟨v,h5,e⟩:=e
  replace e:=aI e; obtain ⟨vs',h2,e⟩:=e
  simp at e; subst e
  obtain ⟨xs,h3,h4⟩:=xK hT m re h2
  have hu:aD Γ u (a.tmps.getD t undef):=by have:=re.ev (x:=.tmp t) h1; simpa [Act.eval] using this
  obtain ⟨tok,rfl⟩:=hT _ _ hti
  obtain ⟨y,hy,ry⟩:=aLo (P:=P) m tok hu h5
  refine ⟨y::xs,?_,aB.cons ry h4⟩
  have hload:(do loadVar ti.t (← asAddr (a.tmps.getD t undef)):Sem Value).run P w = .ok y w:=by
   unfold nX at h5
   split at h5
   ·obtain ⟨p,_,he⟩:=hZ hu
    rw [he] at hy ⊢
    simpa [Instr.loadAt,Instr.sureAddr,asAddr] using hy
   ·simp at h5
  simp only [List.mapM_cons,Sem.run_bind]
  simp only [Sem.run_bind] at hload
  rw [hload]
  simp only [Result.andThen_ok]
  rw [h3]; rfl
theorem a6e (hT:iK P tt) {fn:Func} {v:RV} (m:Mem N h0 Γ w.heap H) {δ:List Deferred} (re:cC δ Γ n env a) (e:sP tt fn.results.toList env H = .ok v H') :
  H'=H∧∃ x,(results fn a.tmps).run P w = .ok x w∧aD Γ v x:=by
 unfold sP at e
 replace e:=bN e; obtain ⟨vs,hv,e⟩:=e
 obtain ⟨xs,h1,h2⟩:=xK hT m re hv
 have hrun:(results fn a.tmps).run P w = .ok (if h:(⟨xs⟩:Array Value).size=1 then (⟨xs⟩:Array Value)[0] else .tuple ⟨xs⟩) w:=by
  unfold results
  rw [Array.mapM_eq_mapM_toList]
  simp only [Sem.run_bind,Sem.run_map]
  exact (congrArg (fun r:Result (List Value)=>(r.andThen fun a w'=>Result.ok a.toArray w').andThen fun a w'=>Sem.run P (pure (if h:a.size=1 then a[0] else Value.tuple a)) w') h1).trans (by simp)
 split at e
 ·rename_i u
  simp at e
  obtain ⟨rfl,rfl⟩:=e
  obtain ⟨x,xs',rfl,rx,r'⟩:=h2.fP
  obtain rfl:=r'.lC
  exact ⟨rfl,x,by rw [hrun]; rfl,rx⟩
 ·rename_i hne
  simp at e
  obtain ⟨rfl,rfl⟩:=e
  refine ⟨rfl,.tuple ⟨xs⟩,?_,.aG _ _ h2.1 h2.2⟩
  rw [hrun,dif_neg]
  intro h1
  have:vs.length=1:=by rw [← h2.1]; exact h1
  match vs,this,hne with
  | [v],_,hne=>exact hne v rfl
def fC (P:Program) (f:FuncId):FE→Prop
 | .code n res c => ∃ fn, P.funcs[f]? = some fn ∧ fn.body = some c ∧ fn.ntmps = n ∧ fn.results.toList = res ∧ (fn.name == "runtime.NumGoroutine") = false
 | .same=>∀ (x:Value) (w:World),∃ w',(callFunc f ⟨[x]⟩).run P w = .ok (.value x) w'∧w'=w
 | .known b=>∀ H,a2u P f [] H (.bool b) H
 | .pure g=>∀ (Γ : Gm) (args:List RV) (xs:List Value) (v:RV) (w:World),g args=some v→aB Γ args xs→∃ x,(callFunc f ⟨xs⟩).run P w = .ok (.value x) w∧aD Γ v x
 | .room e=>∀ args H v H',aI6 e args H = .ok v H'→a2u P f args H v H'
def aNk (P:Program) (ft:T FE):Prop:=∀ f fe,ft.get f=some fe→fC P f fe
theorem yW {args : List RV} {xs : List Value} (r : aB Γ args xs) {n : Nat} (hn : args.length ≤ n) {env : T RV} (hg : ∀ j,env.get j = if 0 ≤ j ∧ j < 0 + args.length then args[j - 0]? else (T.e : T RV).get j) :
  cC [] Γ n env { tmps:=(⟨xs⟩:Array Value)++Array.replicate (n - (⟨xs⟩:Array Value).size) Go.undef,defers:=[] }:=by
 have hl:(⟨xs⟩:Array Value).size=args.length:=r.1
 refine ⟨rfl,by simp; have:=r.1; omega,fun i v hv=>?_⟩
 rw [hg] at hv
 split at hv
 ·rename_i hi
  have hv : args[i]? = some v:=hv
  obtain ⟨x,h1,h2⟩:=r.get hv
  refine ⟨x,?_,h2⟩
  rw [Array.getElem?_append,hl,if_pos (by omega)]
  simpa using h1
 ·simp [T.aA4] at hv
theorem aI8 (hT:iK P tt) (hm:P.follows .mixedOrders=true) {ft:T FE} (hF:aNk P ft):∀ d,xI P (aHm tt ft big d)
 | 0=>fun f args H v H' e=>by
  have e:OR.bad = .ok v H':=e
  simp at e
 | d+1=>fun f args H v H' e=>by
  have hC:=aI8 hT hm hF d
  cases hy:Nat.beq f Y0 with
  | true =>
   have e:aJ (Nat.beq f Y0) OR.bad _=OR.ok v H':=e
   rw [hy,bL] at e; simp at e
  | false =>
  refine ⟨fun _=>?_,fun h=>by rw [h] at hy; simp at hy⟩
  have e:aJ (Nat.beq f Y0) OR.bad (aF (ft.get f) OR.bad fun fe=>match fe with
   | .code n res c=>eZ (gD args) fun k=>aJ (Nat.ble k n) (nY args .e 0 fun env=>match qK tt (aHm tt ft big d) n big c env H with
     | .kH env H=>sP tt res env H
     | .ret env H=>sP tt res env H
     | _=>.bad) .bad
   | .same=>a7h args H
   | .known b=>aI7 b args H
   | .pure g=>j8 (g args) H
   | .room e=>aI6 e args H) = .ok v H':=e
  rw [hy,cD] at e
  replace e:=bN e; obtain ⟨fe,hfe,e⟩:=e
  have hok:=hF f fe hfe
  intro N h0 Γ w xs m ra
  cases fe with
  | code n res c =>
   obtain ⟨fn,h1,h2,h3,h4,h5⟩:=hok
   simp only at e
   rw [fT,qA] at e
   replace e:=cA e; obtain ⟨hn,e⟩:=e
   have hn:=Nat.le_of_ble_eq_true hn
   obtain ⟨env,h6,h7⟩:=rJ args .e 0 (fun env=>match qK tt (aHm tt ft big d) n big c env H with
     | .kH env H=>sP tt res env H
     | .ret env H=>sP tt res env H
     | _=>.bad)
   rw [h6] at e
   have h8 : fn.name ≠ "runtime.NumGoroutine" := by simpa using h5
   have hcall:(callFunc f ⟨xs⟩).run P w = .ok (.enter f ⟨xs⟩) w:=by simp [callFunc,h1,h2,h8]
   rw [hcall]
   simp only
   have hre:=yW ra hn h7
   refine calls_of_wp h1 h2 (aWe (N:=N) (h0:=h0) (n:=n) (big:=big) hT hC hm c env H Γ w _ _ m (by rw [h3]; exact hre) ?_)
   have fin:∀ (env':T RV) (H1:HT),sP tt res env' H1 = .ok v H'→∀ Γ' w' a',Ext N h0 Γ w H Γ' w' H1→cC [] Γ' n env' a' →
     a'.defers=[]∧∃ v',(results fn a'.tmps).run P w' = .ok v' w'∧∃ x' Γ'',Ending.returned v' = .returned x'∧Ext N h0 Γ w H Γ'' w' H'∧aD Γ'' v x':=by
    intro env' H1 he Γ' w' a' hx hr
    rw [← h4] at he
    obtain ⟨rfl,x,hx1,hx2⟩:=a6e hT hx.mem hr he
    exact ⟨hr.1,x,hx1,x,Γ',rfl,hx,hx2⟩
   split at e
   ·rename_i env' H1 he
    rw [he]
    exact fun Γ' w' a' hx hr=>fin env' H1 e Γ' w' a' hx hr
   ·rename_i env' H1 he
    rw [he]
    exact fun Γ' w' a' hx hr=>fin env' H1 e Γ' w' a' hx hr
   ·simp at e
  | same =>
   simp only [a7h] at e
   split at e
   ·rename_i x
    simp at e
    obtain ⟨rfl,rfl⟩:=e
    obtain ⟨y,ys,rfl,ry,r'⟩:=ra.fP
    obtain rfl:=r'.lC
    obtain ⟨w',h1,rfl⟩:=hok y w
    rw [h1]
    exact ⟨Γ,Ext.refl m,ry⟩
   ·simp at e
  | known b =>
   simp only [aI7] at e
   split at e
   ·simp at e
    obtain ⟨rfl,rfl⟩:=e
    exact hok H N h0 Γ w xs m ra
   ·simp at e
  | pure g =>
   obtain ⟨h1,rfl⟩:=dZ e
   obtain ⟨x,h2,h3⟩:=hok Γ args xs v w h1 ra
   rw [h2]
   exact ⟨Γ,Ext.refl m,h3⟩
  | room e0=>exact hok args H v H' e N h0 Γ w xs m ra
theorem aLz (h:bX):Mem h.size h (fun _=>none) h ⟨0,.e⟩ :=
 ⟨Nat.le_refl _,fun _ _=>rfl,fun _ _ h=>by simp at h,fun _ _ h=>by simp at h,fun _ _ _ h=>by simp at h,fun _ _ _ h=>by simp at h,fun _ _ _ _ _ h=>by simp at h⟩
end
noncomputable def aFl {α:Type} (l:List (Nat×α)) (t:T α):T α :=
 @List.rec (Nat×α) (fun _=>T α→T α) (fun t=>t) (fun p _ ih t=>T.j9 t p.1 p.2 ih) l t
theorem aGe {α:Type} : ∀ {l:List (Nat×α)} {t:T α} {f:Nat} {x:α},(aFl l t).get f=some x→(f,x) ∈ l∨t.get f=some x
 | [],t,f,x,h=>.inr h
 | p::l,t,f,x,h=>by
  obtain ⟨t',h1,h2⟩:=T.hX t p.1 p.2 (aFl l)
  have h:(T.j9 t p.1 p.2 (aFl l)).get f=some x:=h
  rw [h1] at h
  rcases aGe h with h3 | h3
  ·exact .inl (List.mem_cons_of_mem _ h3)
  ·rw [h2] at h3
   split at h3
   ·rename_i he
    simp at h3
    left
    rw [he,← h3]; exact List.mem_cons_self
   ·exact .inr h3
noncomputable def ofList {α:Type} (l:List (Nat×α)):T α:=aFl l .e
theorem aI9 {α:Type} {l:List (Nat×α)} {f:Nat} {x:α} (h:(ofList l).get f=some x):(f,x) ∈ l:=by
 rcases aGe h with h | h
 ·exact h
 ·simp [T.aA4] at h
end Go.Rx

/- Closed runs: types that can be compared. -/
namespace Go.Rx
section
variable (P:Program)
mutual
def qB:Nat→TypeId→Option (List Lf)
 | 0,_=>none
 | d+1,t =>
  match P.underlying t with
  | some .bool=>some [.b]
  | some (.int _)=>some [.i]
  | some .string=>some [.s]
  | some (.pointer e)=>match fB P e with
   | some (_+1)=>some [.p]
   | _=>none
  | some (.slice _)=>some [.sl]
  | some (.map _ _)=>some [.m]
  | some (.func _ _ _)=>some [.f]
  | some (.struct fs)=>if P.stoodInHeld t then none else vS d fs.toList 0
  | _=>none
def vS:Nat→List Field→Nat→Option (List Lf)
 | _,[],_=>some []
 | 0,_::_,_=>none
 | d+1,f::fs,off =>
  if f.name = "_" then none else if f.offset = off then
   match qB d f.type,vS d fs (off+(fB P f.type).getD 0),fB P f.type with
   | some a,some b,some n=>if a.length=n then some (a++b) else none
   | _,_,_=>none
  else none
end
end
theorem aFm:∀ {ls:List Lf} {xs ys:List RV} {r:Bool},qH ls xs ys=some r→xs.length=ls.length∧ys.length=ls.length
 | [],xs,ys,r,e=>by cases xs <;> cases ys <;> simp [qH] at e; simp
 | l::ls,[],ys,r,e=>by simp [qH] at e
 | l::ls,x::xs,[],r,e=>by simp [qH] at e
 | l::ls,x::xs,y::ys,r,e=>by
  simp only [qH] at e
  replace e:=aI e; obtain ⟨b,_,e⟩:=e
  cases b with
  | true=>have:=aFm e; simp [this.1,this.2]
  | false =>
   rw [cD] at e
   replace e:=aI e; obtain ⟨q,h,_⟩:=e
   have:=aFm h; simp [this.1,this.2]
theorem aKr:∀ {la lb:List Lf} {xs ys:List RV} {r:Bool},qH (la++lb) xs ys=some r→∃ p q,qH la (xs.take la.length) (ys.take la.length)=some p∧qH lb (xs.drop la.length) (ys.drop la.length)=some q∧r=(p && q)
 | [],lb,xs,ys,r,e=>⟨true,r,by simp [qH],by simpa using e,by simp⟩
 | l::la,lb,[],ys,r,e=>by simp [qH] at e
 | l::la,lb,x::xs,[],r,e=>by simp [qH] at e
 | l::la,lb,x::xs,y::ys,r,e=>by
  simp only [List.cons_append,qH] at e
  replace e:=aI e; obtain ⟨b,hb,e⟩:=e
  cases b with
  | true =>
   rw [bL] at e
   obtain ⟨p,q,h1,h2,h3⟩:=aKr e
   refine ⟨p,q,?_,by simpa using h2,h3⟩
   simp only [List.length_cons,List.take_succ_cons,qH,hb,aP,bL]
   exact h1
  | false =>
   rw [cD] at e
   replace e:=aI e; obtain ⟨c,hc,e⟩:=e
   simp at e; subst e
   obtain ⟨p,q,h1,h2,h3⟩:=aKr hc
   refine ⟨false,q,?_,by simpa using h2,by simp⟩
   simp only [List.length_cons,List.take_succ_cons,qH,hb,aP,cD,h1]
def Fits (P:Program) (t:TypeId) (v:RV) (x:Value):Prop :=
 (lH P t=some false→x.oneCell'=true)∧(lH P t=some true→∃ xs,v = .agg xs)
section
variable {P:Program} {Γ : Gm}
theorem aD7 {v:RV} {x:Value} (r:aD Γ v x) (h:x.oneCell'=true):mS v=false:=by
 cases r <;> simp [Value.oneCell'] at h <;> rfl
theorem aMl (w:World) (b o o':Nat):(sameAddr ⟨b,o,none⟩ ⟨b,o',none⟩).run P w = .ok (Nat.beq o o') w:=by
 unfold sameAddr
 have:((⟨b,o,none⟩:Addr) == ⟨b,o',none⟩)=Nat.beq o o':=by
  rw [Bool.eq_iff_iff,mT]; simp
 simp [this]
theorem aHn {t:TypeId} {n:Nat} (w:World) (hs:fB P t=some n) {a:Bool} (ha:lH P t=some a) (hone:a=false→n=1) {cs:List RV} {xs:List Value} (hr:aB Γ cs xs) (ho:∀ x ∈ xs,x.oneCell'=true) {off:Nat} (hle:off+n≤cs.length) :
  ∃ v x,(part t ⟨xs⟩ off).run P w = .ok x w∧aD Γ v x∧v.cells=(cs.drop off).take n∧Fits P t v x:=by
 have h1:=xD (P:=P) w ha
 have h2:=eN (P:=P) w hs
 cases a with
 | true =>
  refine ⟨.agg ((cs.drop off).take n),.agg ⟨(xs.drop off).take n⟩,by simp [part,h1,h2],.agg _ _ (by simp [hr.1]) (fun x hx=>ho x (List.mem_of_mem_drop (List.mem_of_mem_take hx))) ((hr.drop off).take n).2,rfl,fun h=>by rw [ha] at h; simp at h,fun _=>⟨_,rfl⟩⟩
 | false =>
  obtain rfl:=hone rfl
  have hlt:off < cs.length:=by omega
  obtain ⟨x,hx,rx⟩:=hr.get (List.getElem?_eq_getElem hlt)
  have hox:=ho x (List.mem_of_getElem? hx)
  refine ⟨cs[off],x,by simp [part,h1,hx],rx,?_,fun _=>hox,fun h=>by rw [ha] at h; simp at h⟩
  rw [xG (aD7 rx hox)]
  rw [List.drop_eq_getElem_cons hlt]; rfl
theorem a7i {t:TypeId} {d:Nat} {ls:List Lf} (h:qB P (d+1) t=some ls) :
  (P.underlying t=some .bool∧ls=[.b])∨(∃ k,P.underlying t=some (.int k)∧ls=[.i])∨(P.underlying t=some .string∧ls=[.s])∨(∃ e n,P.underlying t=some (.pointer e)∧fB P e=some (n+1)∧ls=[.p]) ∨
  (∃ e,P.underlying t=some (.slice e)∧ls=[.sl])∨(∃ k e,P.underlying t=some (.map k e)∧ls=[.m])∨(∃ a b c,P.underlying t=some (.func a b c)∧ls=[.f]) ∨
  (∃ fs,P.underlying t=some (.struct fs)∧P.stoodInHeld t=false∧vS P d fs.toList 0=some ls):=by
 rw [qB] at h
 split at h
 ·rename_i hu; simp at h; exact .inl ⟨hu,h.symm⟩
 ·rename_i k hu; simp at h; exact .inr (.inl ⟨k,hu,h.symm⟩)
 ·rename_i hu; simp at h; exact .inr (.inr (.inl ⟨hu,h.symm⟩))
 ·rename_i e hu
  split at h
  ·rename_i n hn; simp at h; exact .inr (.inr (.inr (.inl ⟨e,n,hu,hn,h.symm⟩)))
  ·simp at h
 ·rename_i e hu; simp at h; exact .inr (.inr (.inr (.inr (.inl ⟨e,hu,h.symm⟩))))
 ·rename_i k e hu; simp at h; exact .inr (.inr (.inr (.inr (.inr (.inl ⟨k,e,hu,h.symm⟩)))))
 ·rename_i a b c hu; simp at h; exact .inr (.inr (.inr (.inr (.inr (.inr (.inl ⟨a,b,c,hu,h.symm⟩))))))
 ·rename_i fs hu
  split at h
  ·simp at h
  ·rename_i hs; exact .inr (.inr (.inr (.inr (.inr (.inr (.inr ⟨fs,hu,by simpa using hs,h⟩))))))
 ·simp at h
theorem aBj {t:TypeId} {d:Nat} {ls:List Lf} (h:qB P d t=some ls):∃ a,lH P t=some a∧(a=false→ls.length=1):=by
 cases d with
 | zero=>simp [qB] at h
 | succ d =>
  unfold lH
  rcases a7i h with ⟨hu,rfl⟩ | ⟨k,hu,rfl⟩ | ⟨hu,rfl⟩ | ⟨e,n,hu,_,rfl⟩ | ⟨e,hu,rfl⟩ | ⟨k,e,hu,rfl⟩ | ⟨a,b,c,hu,rfl⟩ | ⟨fs,hu,_,_⟩ <;> rw [hu]
  all_goals first | exact ⟨false,rfl,fun _=>rfl⟩ | exact ⟨true,rfl,fun h=>by simp at h⟩
theorem b57 {t:TypeId} {d:Nat} {l:Lf} {w:World} {x y:RV} {a b:Value} {r:Bool} (h:qB P (d+1) t=some [l]) (hna:lH P t=some false) (e:eqC l x y=some r) (ra:aD Γ x a) (rb:aD Γ y b) (D:Nat):(Op.equalIn (D+1) t a b).run P w = .ok r w:=by
 have hns:∀ fs,P.underlying t≠some (.struct fs):=fun fs hu=>by unfold lH at hna; rw [hu] at hna; simp at hna
 have inv:=a7i h
 unfold eqC at e
 split at e
 ·rename_i p q
  have hu:P.underlying t=some .bool:=by
   rcases inv with ⟨hu,_⟩ | ⟨_,_,h⟩ | ⟨_,h⟩ | ⟨_,_,_,_,h⟩ | ⟨_,_,h⟩ | ⟨_,_,_,h⟩ | ⟨_,_,_,_,h⟩ | ⟨_,h,_⟩ <;> first | exact hu | (simp at h; done) | exact absurd h (hns _)
  obtain rfl:=jM ra; obtain rfl:=jM rb
  rw [run_equalIn_bool' w D t _ _ hu]
  simp at e; subst e
  cases p <;> cases q <;> rfl
 ·rename_i k p k' q
  have hu:∃ k,P.underlying t=some (.int k):=by
   rcases inv with ⟨_,h⟩ | ⟨k,hu,_⟩ | ⟨_,h⟩ | ⟨_,_,_,_,h⟩ | ⟨_,_,h⟩ | ⟨_,_,_,h⟩ | ⟨_,_,_,_,h⟩ | ⟨_,h,_⟩ <;> first | exact ⟨k,hu⟩ | (simp at h; done) | exact absurd h (hns _)
  obtain ⟨kk,hu⟩:=hu
  obtain rfl:=bZ ra; obtain rfl:=bZ rb
  replace e:=cL e; obtain ⟨h1,e⟩:=e
  obtain rfl:=a3r.1 h1
  simp only [Option.some.injEq] at e; subst e
  rw [run_equalIn_int w D t _ _ _ _ hu,yV]
  congr 1
 ·rename_i s s'
  have hu:P.underlying t=some .string:=by
   rcases inv with ⟨_,h⟩ | ⟨_,_,h⟩ | ⟨hu,_⟩ | ⟨_,_,_,_,h⟩ | ⟨_,_,h⟩ | ⟨_,_,_,h⟩ | ⟨_,_,_,_,h⟩ | ⟨_,h,_⟩ <;> first | exact hu | (simp at h; done) | exact absurd h (hns _)
  obtain ⟨rfl,h1⟩:=iT ra; obtain ⟨rfl,h2⟩:=iT rb
  simp at e; subst e
  rw [run_equalIn_string w D t _ _ hu,a9k,tK,tK]
  congr 1
  rw [Bool.eq_iff_iff,beq_iff_eq,decide_eq_true_iff]
  exact aTm h1 h2
 all_goals first | (simp at e; done) | skip
 case h_4 | h_5 | h_6 | h_7 =>
  have hu:∃ e n,P.underlying t=some (.pointer e)∧fB P e=some (n+1):=by
   rcases inv with ⟨_,h⟩ | ⟨_,_,h⟩ | ⟨_,h⟩ | ⟨e,n,hu,hn,_⟩ | ⟨_,_,h⟩ | ⟨_,_,_,h⟩ | ⟨_,_,_,_,h⟩ | ⟨_,h,_⟩ <;> first | exact ⟨e,n,hu,hn⟩ | (simp at h; done) | exact absurd h (hns _)
  obtain ⟨e0,n,hu,hn⟩:=hu
  have hs:=eN (P:=P) w hn
  first
  | (obtain rfl:=lI ra; obtain rfl:=lI rb; simp at e; subst e; simp [Op.equalIn,run_underlying hu]; done)
  | (obtain rfl:=lI ra; obtain ⟨p,_,rfl⟩:=hZ rb; simp at e; subst e; simp [Op.equalIn,run_underlying hu]; done)
  | (obtain ⟨p,_,rfl⟩:=hZ ra; obtain rfl:=lI rb; simp at e; subst e; simp [Op.equalIn,run_underlying hu]; done)
  | (obtain ⟨p,hp,rfl⟩:=hZ ra; obtain ⟨p',hp',rfl⟩:=hZ rb
     replace e:=cL e
     obtain ⟨h1,e⟩:=e
     obtain rfl:=mT.1 h1
     rw [hp] at hp'; simp at hp'; subst hp'
     simp only [Option.some.injEq] at e; subst e
     have hq:=fun o o'=>aMl (P:=P) w p.b (p.base+o) (p.base+o')
     have hb:∀ o o',Nat.beq (p.base+o) (p.base+o')=Nat.beq o o':=fun o o'=>by rw [Bool.eq_iff_iff,mT,mT]; omega
     simp only [hb] at hq
     simp [Op.equalIn,run_underlying hu,hs,hq])
 case h_8 | h_9 | h_10 =>
  have hu:∃ e,P.underlying t=some (.slice e):=by
   rcases inv with ⟨_,h⟩ | ⟨_,_,h⟩ | ⟨_,h⟩ | ⟨_,_,_,_,h⟩ | ⟨e,hu,_⟩ | ⟨_,_,_,h⟩ | ⟨_,_,_,_,h⟩ | ⟨_,h,_⟩ <;> first | exact ⟨e,hu⟩ | (simp at h; done) | exact absurd h (hns _)
  obtain ⟨e0,hu⟩:=hu
  first
  | (obtain rfl:=kI ra; obtain rfl:=kI rb; simp at e; subst e; simp [Op.equalIn,run_underlying hu]; done)
  | (obtain rfl:=kI ra; obtain ⟨_,_,_,_,_,_,_,rfl⟩:=kO rb; simp at e; subst e; simp [Op.equalIn,run_underlying hu]; done)
  | (obtain rfl:=kI rb; obtain ⟨_,_,_,_,_,_,_,rfl⟩:=kO ra; simp at e; subst e; simp [Op.equalIn,run_underlying hu])
 case h_11 | h_12 | h_13 =>
  have hu:∃ k e,P.underlying t=some (.map k e):=by
   rcases inv with ⟨_,h⟩ | ⟨_,_,h⟩ | ⟨_,h⟩ | ⟨_,_,_,_,h⟩ | ⟨_,_,h⟩ | ⟨k,e,hu,_⟩ | ⟨_,_,_,_,h⟩ | ⟨_,h,_⟩ <;> first | exact ⟨k,e,hu⟩ | (simp at h; done) | exact absurd h (hns _)
  obtain ⟨k0,e0,hu⟩:=hu
  first
  | (obtain rfl:=uN ra; obtain rfl:=uN rb; simp at e; subst e; simp [Op.equalIn,run_underlying hu]; done)
  | (obtain rfl:=uN ra; obtain ⟨_,_,rfl⟩:=xY rb; simp at e; subst e; simp [Op.equalIn,run_underlying hu]; done)
  | (obtain rfl:=uN rb; obtain ⟨_,_,rfl⟩:=xY ra; simp at e; subst e; simp [Op.equalIn,run_underlying hu])
 case h_14 | h_15 | h_16 =>
  have hu:∃ a b c,P.underlying t=some (.func a b c):=by
   rcases inv with ⟨_,h⟩ | ⟨_,_,h⟩ | ⟨_,h⟩ | ⟨_,_,_,_,h⟩ | ⟨_,_,h⟩ | ⟨_,_,_,h⟩ | ⟨a,b,c,hu,_⟩ | ⟨_,h,_⟩ <;> first | exact ⟨a,b,c,hu⟩ | (simp at h; done) | exact absurd h (hns _)
  obtain ⟨a0,b0,c0,hu⟩:=hu
  first
  | (obtain rfl:=aA8 ra; obtain rfl:=aA8 rb; simp at e; subst e; simp [Op.equalIn,run_underlying hu]; done)
  | (obtain rfl:=aA8 ra; obtain ⟨_,_,rfl⟩:=xB rb; simp at e; subst e; simp [Op.equalIn,run_underlying hu]; done)
  | (obtain rfl:=aA8 rb; obtain ⟨_,_,rfl⟩:=xB ra; simp at e; subst e; simp [Op.equalIn,run_underlying hu])
mutual
theorem aL0:∀ (d:Nat) (t:TypeId) (ls:List Lf),qB P d t=some ls→∀ (D:Nat),d≤D→∀ (w:World) (x y:RV) (a b:Value) (r:Bool),qH ls x.cells y.cells=some r→aD Γ x a→aD Γ y b→Fits P t x a→Fits P t y b →
  (Op.equalIn D t a b).run P w = .ok r w
 | 0,t,ls,h,_,_,_,_,_,_,_,_,_,_,_,_,_=>by simp [qB] at h
 | d+1,t,ls,h,D,hD,w,x,y,a,b,r,e,ra,rb,fa,fb=>by
  obtain ⟨D,rfl⟩:∃ D',D=D'+1:=⟨D - 1,by omega⟩
  obtain ⟨ag,hag,h1⟩:=aBj h
  cases ag with
  | false =>
   have hla:=h1 rfl
   have hx:=aD7 ra (fa.1 hag)
   have hy:=aD7 rb (fb.1 hag)
   rw [xG hx,xG hy] at e
   obtain ⟨l,rfl,hc⟩:=aKm e
   exact b57 h hag hc ra rb D
  | true =>
   rcases a7i h with ⟨hu,_⟩ | ⟨_,hu,_⟩ | ⟨hu,_⟩ | ⟨_,_,hu,_⟩ | ⟨_,hu,_⟩ | ⟨_,_,hu,_⟩ | ⟨_,_,_,hu,_⟩ | ⟨fs,hu,hs,hf⟩
   all_goals first | (exfalso; unfold lH at hag; rw [hu] at hag; simp at hag; done) | skip
   obtain ⟨xs,rfl⟩:=fa.2 hag
   obtain ⟨ys,rfl⟩:=fb.2 hag
   obtain ⟨as,ra',oa,rfl⟩:=nM ra
   obtain ⟨bs,rb',ob,rfl⟩:=nM rb
   have hfo:P.fieldsOf t=fs:=by simp [Program.fieldsOf,hu]
   rw [run_equalIn_struct w D t _ _ (by rw [hfo]; exact hu) hs,hfo]
   exact aJa d fs.toList 0 ls hf D (by omega) w xs ys as bs r (by rw [List.drop_zero,List.drop_zero]; exact e) ⟨Nat.zero_le _,Nat.zero_le _⟩ ra' rb' oa ob
theorem aJa:∀ (d:Nat) (fs:List Field) (off:Nat) (ls:List Lf),vS P d fs off=some ls→∀ (D:Nat),d≤D→∀ (w:World) (xs ys:List RV) (as bs:List Value) (r:Bool),qH ls (xs.drop off) (ys.drop off)=some r→off≤xs.length∧off≤ys.length→aB Γ xs as→aB Γ ys bs →
  (∀ x ∈ as,x.oneCell'=true)→(∀ x ∈ bs,x.oneCell'=true)→(Op.eqFields D ⟨as⟩ ⟨bs⟩ fs).run P w = .ok r w
 | d,[],off,ls,h,D,hD,w,xs,ys,as,bs,r,e,hle,ra,rb,oa,ob=>by
  have:ls=[]:=by cases d <;> simp [vS] at h <;> first | exact h | exact h.symm
  subst this
  have:r=true:=by
   cases hx:xs.drop off <;> cases hy:ys.drop off <;> rw [hx,hy] at e <;> simp [qH] at e
   first | exact e | exact e.symm
  subst this
  simp [Op.eqFields]
 | 0,f::fs,off,ls,h,_,_,_,_,_,_,_,_,_,_,_,_,_,_=>by simp [vS] at h
 | d+1,f::fs,off,ls,h,D,hD,w,xs,ys,as,bs,r,e,hle,ra,rb,oa,ob=>by
  rw [vS] at h
  split at h
  ·simp at h
  rename_i hname
  split at h
  ·rename_i hoff
   split at h
   ·rename_i la lb n h1 h2 h3
    split at h
    ·rename_i hl
     simp at h; subst h
     obtain ⟨p,q,e1,e2,rfl⟩:=aKr e
     rw [List.drop_drop,List.drop_drop] at e2
     rw [h3] at h2
     simp only [Option.getD_some] at h2
     rw [hl] at e1 e2
     have hlx:off+n≤xs.length:=by
      have:=(aFm e).1
      simp [hl] at this; omega
     have hly:off+n≤ys.length:=by
      have:=(aFm e).2
      simp [hl] at this; omega
     obtain ⟨ag,hag,hone⟩:=aBj h1
     obtain ⟨v1,x1,p1,p2,p3,p4⟩:=aHn (Γ:=Γ) w h3 hag (fun h=>by rw [← hl]; exact hone h) ra oa hlx
     obtain ⟨v2,x2,q1,q2,q3,q4⟩:=aHn (Γ:=Γ) w h3 hag (fun h=>by rw [← hl]; exact hone h) rb ob hly
     have h4:=aL0 d f.type la h1 D (by omega) w v1 v2 x1 x2 p (by rw [p3,q3]; exact e1) p2 q2 p4 q4
     rw [← hoff] at p1 q1
     simp only [Op.eqFields,ne_eq,hname,not_false_eq_true,if_true,Sem.run_bind,p1,q1,h4,Result.andThen_ok]
     cases p with
     | true =>
      have:=aJa d fs (off+n) lb h2 D (by omega) w xs ys as bs q e2 ⟨hlx,hly⟩ ra rb oa ob
      simpa using this
     | false=>simp
    ·simp at h
   ·simp at h
  ·simp at h
end
mutual
theorem aTw:∀ (d:Nat) (t:TypeId) (ls:List Lf),qB P d t=some ls→∀ (D:Nat),d≤D→∀ (em:Bool) (w:World) (v:RV) (x:Value),aD Γ v x→Fits P t v x→(lH P t=some true→v.cells.length=ls.length)→(Instr.checkKey em D t x).run P w = .ok () w
 | 0,t,ls,h,_,_,_,_,_,_,_,_,_=>by simp [qB] at h
 | d+1,t,ls,h,D,hD,em,w,v,x,rv,fv,hlen=>by
  obtain ⟨D,rfl⟩:∃ D',D=D'+1:=⟨D - 1,by omega⟩
  rcases a7i h with ⟨hu,_⟩ | ⟨_,hu,_⟩ | ⟨hu,_⟩ | ⟨_,_,hu,_⟩ | ⟨_,hu,_⟩ | ⟨_,_,hu,_⟩ | ⟨_,_,_,hu,_⟩ | ⟨fs,hu,hs,hf⟩
  all_goals first | (simp [Instr.checkKey,run_underlying hu]; done) | skip
  have hag:lH P t=some true:=by unfold lH; rw [hu]
  obtain ⟨xs,rfl⟩:=fv.2 hag
  obtain ⟨as,ra',oa,rfl⟩:=nM rv
  have hk:=aPv d fs.toList 0 ls hf D (by omega) em w xs as (by have:=hlen hag; simpa [RV.cells] using this) ra' oa
  simp only [Instr.checkKey,Sem.run_bind,run_underlying hu,Result.andThen_ok]
  rw [← Array.forIn_toList]
  rw [hk]; rfl
theorem aPv:∀ (d:Nat) (fs:List Field) (off:Nat) (ls:List Lf),vS P d fs off=some ls→∀ (D:Nat),d≤D→∀ (em:Bool) (w:World) (xs:List RV) (as:List Value),xs.length=off+ls.length→aB Γ xs as→(∀ x ∈ as,x.oneCell'=true) →
  (forIn fs PUnit.unit fun f _ => (if f.name ≠ "_" then (do let x ← part f.type ⟨as⟩ f.offset; Instr.checkKey em D f.type x; pure (ForInStep.yield PUnit.unit)) else pure (ForInStep.yield PUnit.unit) : Sem (ForInStep PUnit))).run P w = .ok PUnit.unit w
 | d,[],off,ls,h,D,hD,em,w,xs,as,hle,ra,oa=>by simp
 | 0,f::fs,off,ls,h,_,_,_,_,_,_,_,_,_=>by simp [vS] at h
 | d+1,f::fs,off,ls,h,D,hD,em,w,xs,as,hle,ra,oa=>by
  rw [vS] at h
  split at h
  ·simp at h
  rename_i hname
  split at h
  ·rename_i hoff
   split at h
   ·rename_i la lb n h1 h2 h3
    split at h
    ·rename_i hl
     simp at h; subst h
     rw [h3] at h2
     simp only [Option.getD_some] at h2
     have hlx:off+n≤xs.length:=by simp at hle; omega
     obtain ⟨ag,hag,hone⟩:=aBj h1
     obtain ⟨v1,x1,p1,p2,p3,p4⟩:=aHn (Γ:=Γ) w h3 hag (fun h=>by rw [← hl]; exact hone h) ra oa hlx
     have h4:=aTw d f.type la h1 D (by omega) em w v1 x1 p2 p4 (fun _=>by rw [p3]; simp; omega)
     have h5:=aPv d fs (off+n) lb h2 D (by omega) em w xs as (by simp at hle; omega) ra oa
     rw [← hoff] at p1
     rw [List.forIn_cons]
     simp only [Sem.run_bind,ne_eq,hname,not_false_eq_true,if_true,p1,h4,Result.andThen_ok,Sem.run_pure]
     exact h5
    ·simp at h
   ·simp at h
  ·simp at h
end
theorem b1q.of {t:TypeId} {d:Nat} {ls:List Lf} (h:qB P d t=some ls) (hg:P.eqGuardType P.depth t=false):b1q P d t ls :=
 ⟨hg,fun D hD Γ w x y a b r e ra rb h1 h2=>aL0 d t ls h D hD w x y a b r e ra rb ⟨fun ha=>(h1 ha).1,fun ha=>(h2 ha).1⟩ ⟨fun ha=>(h1 ha).2,fun ha=>(h2 ha).2⟩⟩
theorem aVu.of {t:TypeId} {d:Nat} {ls:List Lf} {ag:Bool} {sz:Nat} (h:qB P d t=some ls) (ha:lH P t=some ag) (hs:sz=ls.length):aVu P d t ag sz :=
 fun D hD em Γ w v x rv hok hag hna=>by
  refine aTw d t ls h D hD em w v x rv ⟨fun h0=>?_,fun h0=>?_⟩ (fun h0=>?_)
  ·rw [ha] at h0; simp at h0; exact a8l rv (hna h0) hok
  ·rw [ha] at h0; simp at h0; exact (hag h0).1
  ·rw [ha] at h0; simp at h0; rw [(hag h0).2,hs]
theorem dX.n {t:TypeId} {d:RTD} {sz dI:Nat} {ag:Bool} {z:Option (List RV)} (hd:aVt P t d) (hs:fB P t=some sz) (ha:lH P t=some ag) (hb:kY P t=some dI)
  (hz:∀ z',z=some z'→∃ v,jY P t=some v∧v.cells=z'∧z'.length=sz∧(ag=true→v = .agg z')∧(ag=false→z'=[v])) (h1:ag=false→sz=1):dX P ⟨t,d,sz,ag,dI,z,none⟩ :=
 ⟨hd,hs,ha,hb,fun z' h=>let ⟨v,a,b,c,d,e⟩:=hz z' h; ⟨v,a,b,c,d,fun h=>⟨e h,h1 h⟩⟩,fun ls h=>by simp at h,h1,fun ls h=>by simp at h⟩
theorem dX.q {t:TypeId} {d:RTD} {sz dI:Nat} {ag:Bool} {z:Option (List RV)} {ls:List Lf} (hd:aVt P t d) (hs:fB P t=some sz) (ha:lH P t=some ag) (hb:kY P t=some dI)
  (hz:∀ z',z=some z'→∃ v,jY P t=some v∧v.cells=z'∧z'.length=sz∧(ag=true→v = .agg z')∧(ag=false→z'=[v])) (h1:ag=false→sz=1) (he:qB P 20 t=some ls) (hg:P.eqGuardType P.depth t=false) (hl:sz=ls.length) :
  dX P ⟨t,d,sz,ag,dI,z,some ls⟩ :=
 ⟨hd,hs,ha,hb,fun z' h=>let ⟨v,a,b,c,d,e⟩:=hz z' h; ⟨v,a,b,c,d,fun h=>⟨e h,h1 h⟩⟩,fun ls' h=>by simp only [Option.some.injEq] at h; subst h; exact .of he hg,h1,fun ls' h=>by simp only [Option.some.injEq] at h; subst h; exact .of he ha hl⟩
theorem zA {t:TypeId} {sz:Nat} {z:List RV} {ag:Bool} (h:jY P t=some (.agg z)) (hl:z.length=sz) (ha:ag=true):∀ z',some z=some z'→∃ v,jY P t=some v∧v.cells=z'∧z'.length=sz∧(ag=true→v = .agg z')∧(ag=false→z'=[v]) :=
 fun z' e=>by simp only [Option.some.injEq] at e; subst e; exact ⟨_,h,rfl,hl,fun _=>rfl,fun h=>by rw [ha] at h; simp at h⟩
theorem zS {t:TypeId} {v:RV} {ag:Bool} (h:jY P t=some v) (hc:v.cells=[v]) (ha:ag=false):∀ z',some [v]=some z'→∃ v,jY P t=some v∧v.cells=z'∧z'.length=1∧(ag=true→v = .agg z')∧(ag=false→z'=[v]) :=
 fun z' e=>by simp only [Option.some.injEq] at e; subst e; exact ⟨_,h,hc,rfl,fun h=>by rw [ha] at h; simp at h,fun _=>rfl⟩
theorem b4x {l:List bD} (h:∀ ti ∈ l,dX P ti):iK P (ofList (l.map fun ti=>(ti.t,ti))):=fun t ti hti=>by
 have:=aI9 hti
 rw [List.mem_map] at this
 obtain ⟨ti',h1,h2⟩:=this
 simp at h2
 obtain ⟨rfl,rfl⟩:=h2
 exact ⟨h _ h1,rfl⟩
theorem b40 {l:List (Nat×FE)} (h:∀ p ∈ l,fC P p.1 p.2):aNk P (ofList l):=fun f fe hf=>h (f,fe) (aI9 hf)
theorem all_nil {α:Type} {p:α→Prop} : ∀ a ∈ ([]:List α),p a:=fun _ h=>by simp at h
theorem all_cons {α:Type} {p:α→Prop} {a:α} {l:List α} (h:p a) (hl:∀ b ∈ l,p b):∀ b ∈ a::l,p b:=fun b hb=>by
 rcases List.mem_cons.1 hb with rfl | hb
 ·exact h
 ·exact hl b hb
end
end Go.Rx

/- Closed runs: what the printed tables use; what comes out. -/
namespace Go.Rx
def aT (f:Func):Code :=
 match f.body with
 | some c=>c
 | none=>.skip
theorem aKs {P : Program} {f : FuncId} {fn : Func} {e : Array Value → Sem Value} {g : List RV → Option RV} (h : P.funcs[f]? = some fn) (hb : fn.body = none) (hn : (fn.name == "runtime.NumGoroutine") = false) (h1 : Extern.findNext fn = none) (h2 : Extern.find fn = some e)
  (hg:∀ (Γ : Gm) (args:List RV) (xs:List Value) (v:RV) (w:World),g args=some v→aB Γ args xs→∃ x,(e ⟨xs⟩).run P w = .ok x w∧aD Γ v x):fC P f (.pure g):=by
 intro Γ args xs v w hv hr
 obtain ⟨x,h3,h4⟩:=hg Γ args xs v w hv hr
 refine ⟨x,?_,h4⟩
 have h8 : fn.name ≠ "runtime.NumGoroutine" := by simpa using hn
 simp [callFunc,h,hb,h8,h1,h2,h3]
theorem a8n {fn:Func} (h:(Extern.findNext fn).isNone=true):Extern.findNext fn=none:=by simpa using h
noncomputable def bE3 (a:List Nat):List Nat→Int :=
 @List.rec Nat (fun _=>List Nat→Int) (fun b=>@List.rec Nat (fun _=>Int) 0 (fun _ _ _=>-1) b)
  (fun x _ ih b=>@List.rec Nat (fun _=>Int) 1 (fun y b _=>aJ (Nat.blt x y) (-1) (aJ (Nat.blt y x) 1 (ih b))) b) a
noncomputable def bF5 (args:List RV):Option RV :=
 match args with
 | [.str a,.str b]=>a1d (bE3 a.l b.l) fun n=>some (.int .i64 n)
 | _=>none
noncomputable def b2d (a:List Nat) (c:Nat):Nat→Int :=
 @List.rec Nat (fun _=>Nat→Int) (fun _=>-1) (fun x _ ih i=>aJ (Nat.beq x c) (.ofNat i) (ih (Nat.succ i))) a
theorem aTx (c:Nat) (hc:c < 256):∀ (a:List Nat) (i:Nat),(∀ x ∈ a,x < 256)→b2d a c i=(if Go.Lib.indexByte (a.map UInt8.ofNat) (UInt8.ofNat c) = -1 then -1 else (i:Int)+Go.Lib.indexByte (a.map UInt8.ofNat) (UInt8.ofNat c))
 | [],i,_=>rfl
 | x::a,i,ha=>by
  have ih:=aTx c hc a (i+1) (fun z hz=>ha z (by simp [hz]))
  have hx:=ha x (by simp)
  show aJ (Nat.beq x c) (.ofNat i) (b2d a c (i+1))=_
  have e1:(UInt8.ofNat x == UInt8.ofNat c)=Nat.beq x c:=by
   by_cases h:x=c
   ·subst h; simp
   ·have h2:¬ UInt8.ofNat x=UInt8.ofNat c:=fun e=>h (by
     have:=congrArg UInt8.toNat e
     simp at this
     rw [Nat.mod_eq_of_lt hx,Nat.mod_eq_of_lt hc] at this
     exact this)
    have h3:Nat.beq x c=false:=by
     cases hb:Nat.beq x c with
     | false=>rfl
     | true=>exact absurd (Nat.eq_of_beq_eq_true hb) h
    rw [h3]; simpa using h2
  rw [cP,ih]
  simp only [List.map_cons,Go.Lib.indexByte,e1]
  cases Nat.beq x c with
  | true=>simp
  | false =>
   simp only [Bool.false_eq_true,if_false]
   have hge:=Go.Lib.indexByte_ge (a.map UInt8.ofNat) (UInt8.ofNat c)
   by_cases hm:Go.Lib.indexByte (a.map UInt8.ofNat) (UInt8.ofNat c) = -1
   ·simp [hm]
   ·simp only [hm,beq_iff_eq,if_false]
    rw [if_neg (by omega)]
    omega
noncomputable def aUy (args:List RV):Option RV :=
 match args with
 | [.str a,.int .u8 (.ofNat c)]=>aJ (Nat.blt c 256) (a1d (b2d a.l c 0) fun n=>some (.int .i64 n)) none
 | _=>none
theorem b74 {P : Program} {f : FuncId} {fn : Func} (h : P.funcs[f]? = some fn) (hb : fn.body = none) (hn : (fn.name == "runtime.NumGoroutine") = false) (h1 : (Extern.findNext fn).isNone = true) (h2 : Extern.find fn = some Extern.BytealgIndexByte.indexByte) : fC P f (.pure aUy) :=
 aKs h hb hn (a8n h1) h2 fun Γ args xs v w hv hr=>by
  unfold aUy at hv
  split at hv
  ·rename_i a c
   rw [cP,rI] at hv
   split at hv
   ·rename_i hlt
    have hlt:c < 256:=Nat.le_of_ble_eq_true hlt
    simp at hv
    obtain ⟨x,xs1,rfl,rx,r1⟩:=hr.fP
    obtain ⟨y,xs2,rfl,ry,r2⟩:=r1.fP
    obtain rfl:=r2.lC
    cases rx with
    | str _ =>
     cases ry with
     | int _ _ =>
      refine ⟨_,Go.Lib.run_indexByteString _ _ w,?_⟩
      subst hv
      rw [aTx c hlt a.l 0 a.lt]
      generalize a.l=a
      have:((Int.ofNat c).toNat).toUInt8=UInt8.ofNat c:=rfl
      rw [this]
      have e:(bytes a).data.toList=a.map UInt8.ofNat:=by simp [bytes]
      rw [e]
      split
      ·rename_i hm; rw [hm]; exact .int _ _
      ·rw [show ((0:Nat):Int)+Go.Lib.indexByte (a.map UInt8.ofNat) (UInt8.ofNat c)=Go.Lib.indexByte (a.map UInt8.ofNat) (UInt8.ofNat c) by omega]
       exact .int _ _
   ·simp at hv
  ·simp at hv
noncomputable def aMq (args:List RV):Option RV :=
 match args with
 | [x]=>some x
 | _=>none
theorem b4y {P : Program} {f : FuncId} {fn : Func} (h : P.funcs[f]? = some fn) (hb : fn.body = none) (hn : (fn.name == "runtime.NumGoroutine") = false) (h1 : (Extern.findNext fn).isNone = true) (h2 : Extern.find fn = some Extern.AbiNoEscape.same) : fC P f (.pure aMq) :=
 aKs h hb hn (a8n h1) h2 fun Γ args xs v w hv hr=>by
  unfold aMq at hv
  split at hv
  ·simp at hv
   obtain ⟨x,xs1,rfl,rx,r1⟩:=hr.fP
   obtain rfl:=r1.lC
   subst hv
   exact ⟨x,rfl,rx⟩
  ·simp at hv
theorem b4z {P : Program} {f : FuncId} {fn : Func} {t e : TypeId} (h : P.funcs[f]? = some fn) (hb : fn.body = none) (hn : (fn.name == "runtime.NumGoroutine") = false) (h1 : (Extern.findNext fn).isNone = true) {ps : Array TypeId}
  (h2:Extern.find fn=some (Extern.BytealgMakeNoZero.makeNoZero ps #[t])) (ht:P.underlying t=some (.slice e)):fC P f (.room e):=by
 intro args H v H' hv N h0 Γ w xs m ra
 unfold aI6 at hv
 split at hv
 ·rename_i n
  replace hv:=cA hv; obtain ⟨hle,hv⟩:=hv
  have hle:=Nat.le_of_ble_eq_true hle
  obtain ⟨x,xs1,rfl,rx,r1⟩:=ra.fP
  obtain rfl:=r1.lC
  obtain rfl:=bZ rx
  obtain ⟨cs,hr,hge,_,_⟩:=Go.Lib.run_makeNoZero_cap (P:=P) w ps t e ht n (by omega)
  have h8 : fn.name ≠ "runtime.NumGoroutine" := by simpa using hn
  have hr':(Extern.BytealgMakeNoZero.makeNoZero ps #[t] #[.int .i64 (Int.ofNat n)]).run P w = .ok (.slice (some ⟨w.heap.size,0,none⟩) n cs.size) (w.drew.drew.alloc (.cells cs e)):=hr
  have hrun:(callFunc f ⟨[.int .i64 (Int.ofNat n)]⟩).run P w = .ok (.value (.slice (some ⟨w.heap.size,0,none⟩) n cs.size)) (w.drew.drew.alloc (.cells cs e)):=by
   simp [callFunc,h,hb,h8,a8n h1,h2]
   have hr2:(Extern.BytealgMakeNoZero.makeNoZero ps #[t] { toList:=[Value.int IntKind.i64 ↑n] }).run P w = .ok (.slice (some ⟨w.heap.size,0,none⟩) n cs.size) (w.drew.drew.alloc (.cells cs e)):=hr'
   rw [hr2]; rfl
  have hd:fV N h0 Γ w H ((callFunc f ⟨[.int .i64 (Int.ofNat n)]⟩).run P w) v H' :=
   zX (cs:=[]) (xs:=[]) (rest:=cs.toList) (f:=fun l=>.sl l 0 n 1 none) (w':=w.drew.drew.alloc (.cells cs e)) (E:=e) (fz:=(0,0)) m aB.nil (by simp) hv rfl rfl rfl (tT _) hrun
    (.sl H.sz 0 n 1 none ⟨w.heap.size,0,([]++cs.toList).length⟩ ⟨w.heap.size,0,none⟩ cs.size (by simp [put]) hge lY.none (fun _=>⟨rfl,by simp⟩)) (.inr rfl)
  rw [hrun] at hd ⊢
  obtain ⟨y,Γ',w',hy,hx,hrep⟩:=hd
  rcases hy with hy | ⟨hy,_⟩
  ·simp at hy
   obtain ⟨rfl,rfl⟩:=hy
   exact ⟨Γ',hx,hrep⟩
  ·simp at hy
 ·simp at hv
def OR.isTrue:OR→Bool
 | .ok (.bool b) _=>b
 | _=>false
theorem aZf {o:OR} (h:o.isTrue=true):∃ H,o = .ok (.bool true) H:=by
 unfold OR.isTrue at h
 split at h
 ·subst h; exact ⟨_,rfl⟩
 ·simp at h
end Go.Rx

/- Closed runs: what a run answers,in the kit's words. -/
namespace Go.Rx
open Go.RowKit
def Grown (w w' : World) : Prop:=w.keptBut w' (fun _=>False) ∧ (∀ a : Addr,a.block < w.heap.size → w'.frozen? a = w.frozen? a) ∧ w.heap.size ≤ w'.heap.size
def aWf (w : World) (e : Ending) (w' : World) : Prop:=e = .returned (.bool true) ∧ Grown w w' ∧ ∀ i,i < w.heap.size → w'.heap[i]? = w.heap[i]?
theorem aD8 {w w':World} {Γ Γ':Gm} {H H':HT} (x:Ext w.heap.size w.heap Γ w H Γ' w' H'):Grown w w':=by
 have same : ∀ i,i < w.heap.size → w'.heap[i]? = w.heap[i]?:=x.mem.old
 refine ⟨⟨x.kept.os,x.kept.output,fun i hi=>?_⟩,fun a ha=>by unfold World.frozen?; rw [same _ ha],x.kept.size⟩
 rw [same i hi]
 cases w.heap[i]? with
 | none=>rfl
 | some o=>cases o <;> simp
theorem aGf {P : Program} {f : FuncId} {fn : Func} {c : Code} (hf : P.funcs[f]? = some fn) (hb : fn.body = some c) (hname : (fn.name == "runtime.NumGoroutine") = false) {args : List RV} {H1 : HT} (h : a2u P f args ⟨0, .e⟩ (.bool true) H1) (w : World) {xs : List Value} (hr : aB (fun _ => none) args xs) :
  Calls P f ⟨xs⟩ w (aWf w):=by
 have h8 : fn.name ≠ "runtime.NumGoroutine" := by simpa using hname
 have hcall:(callFunc f ⟨xs⟩).run P w = .ok (.enter f ⟨xs⟩) w:=by simp [callFunc,hf,hb,h8]
 have h:=h w.heap.size w.heap (fun _=>none) w xs (aLz _) hr
 rw [hcall] at h
 exact h.mono fun e w' ⟨x,Γ',he,hx,hv⟩=>⟨by cases hv; exact he,aD8 hx,hx.mem.old⟩
theorem again {H:Type} {enc:TypeId×Value→H} {P:Program} {t:TypeId} (hl:laidOutB P=true) (hr:P.readableRec t=true) (hrow:t < P.types.size) {W W':World} {v:Value} {d:DataW H} {ps:List MemPlace}
  (h : DataW.Trod enc P W 0 (fun _=>true) true t v d ps) (hb : ∀ i,i < W.heap.size → W'.heap[i]? = W.heap[i]?) {sp : Nat → Bool} (hs : ∀ p ∈ ps,sp p.block = true) : DataW.Trod enc P W' 0 sp true t v d ps:=by
 obtain ⟨n,hn⟩:=h
 have hlt:=DataW.trod_lt n _ _ _ hn
 refine WideElems.Trod_stays hl hr hrow ⟨n,hn⟩ (fun p hp=>?_) hs
 cases p with
 | cell b o=>exact World.cell?_of_block (w:=W) (hb b (hlt _ hp))
 | map b=>exact hb b (hlt _ hp)
theorem aPw {H:Type} {enc:TypeId×Value→H} {P:Program} {f:Func} {s:ChangeSpec} {apart fresh handsOn back:Bool} {W W':World} {args:Array Value} {v:Value} {ds gs:List (DataW H)} {ps pa pv:List MemPlace}
  (hW:DataW.Whole enc P f.params.toList s.vars apart W args.toList ds gs ps)
  (hr:∀ (b:Nat) (sp:Nat→Bool) (hd:Bool),DataW.TrodAll enc P W' b sp hd f.resultTypes.toList (v.resultList f.resultTypes.size) (s.fn H (ds++gs)).results [])
  (ha:∀ sp:Nat→Bool,(∀ p ∈ ps,sp p.block=true)→DataW.TrodAll enc P W' 0 sp true f.params.toList args.toList (s.fn H (ds++gs)).args pa)
  (hv:∀ sp:Nat→Bool,(∀ p ∈ ps,sp p.block=true)→DataW.TrodVars enc P W' sp s.vars (s.fn H (ds++gs)).vars pv)
  (hp:ps=pa++pv) (hg:Grown W W')
  (ho : ∀ (j : Nat) (t : TypeId) (r : Value),f.resultTypes[j]? = some t → (v.resultList f.resultTypes.size)[j]? = some r → Value.okWide P W' .any 0 t r) :
  s.post enc P f apart fresh handsOn back W args v W':=by
 have low:∀ p ∈ ps,p.block < W.heap.size:=hW.lt
 have inB:∀ p ∈ ps,(fun b=>decide (b < W.heap.size)) p.block=true:=fun p h=>decide_eq_true (low p h)
 have same:ps=([]++pa)++pv:=by rw [List.nil_append]; exact hp
 refine ⟨ds,gs,ps,[],pa,pv,hW,hr _ _ _,ha _ inB,hv _ inB,World.keptBut_mono (fun _ h=>h.elim) hg.1,fun _=>?_⟩
 obtain ⟨_,_,_,_,_,nf,nd⟩:=hW
 refine ⟨ho,_,_,([]++pa)++pv,⟨[]++pa,pv,Go.ChangeShapes.trodAll_append (ha _ (fun _ _=>rfl)) (hr _ _ _),hv _ (fun _ _=>rfl),rfl,fun b off h=>?_,fun h=>?_⟩,fun p h _=>?_⟩
 ·rw [← same] at h
  rw [hg.2.1 ⟨b,off,none⟩ (low _ h)]
  exact nf b off h
 ·rw [← same]; exact nd h
 ·rw [← same] at h; exact h
section
variable {H:Type} {enc:TypeId×Value→H} {P:Program} {w:World} {base:Nat} {sp:Nat→Bool} {held:Bool} {r:Reach} {b0:Nat} {t:TypeId} {v:Value} {d:DataW H} {ps:List MemPlace}
theorem aTy {k:IntKind} (ht:P.underlying t=some (.int k)) (hval:Value.okWide P w r b0 t v) (hd:DataW.Trod enc P w base sp held t v d ps):∃ n:Int,v = .int k n∧(Lit.int k n).wf=true:=by
 obtain ⟨n,rfl,_,_,hw⟩:=Go.ChangeShapes.open_int ht hval hd
 exact ⟨n,rfl,hw⟩
end
theorem b58 {tt:T bD} {ft:T FE} {big d:Nat} {args:List RV} {H:HT} : aHm tt ft big d Y0 args H = .bad:=by cases d <;> rfl
theorem b9w {P:Program} {tt:T bD} {ft:T FE} {big d:Nat} {f:FuncId} {args:List RV} (hT:iK P tt) (hm:P.follows .mixedOrders=true) (hF:aNk P ft) (h:(aHm tt ft big d f args ⟨0,.e⟩).isTrue=true) :
  ∃ H1,a2u P f args ⟨0,.e⟩ (.bool true) H1:=by
 obtain ⟨H1,h⟩:=aZf h
 refine ⟨H1,(aI8 hT hm hF d f args _ _ H1 h).1 fun hf=>?_⟩
 subst hf
 rw [b58] at h
 simp at h
end Go.Rx

/- Closed runs: the same evaluator,quicker: what a step takes is told by the one word that it looks at. -/
namespace Go.Rx
section
variable {β:Type}
noncomputable def b4g (v:RV) (d:β) (k:Nat→Nat→β):β:=match v with | .ptr l o=>k l o | _=>d
noncomputable def bDn (v:RV) (d:β) (k:IntKind→Int→β):β:=match v with | .int q n=>k q n | _=>d
noncomputable def aWg (v:RV) (d:β) (k:Sb→β):β:=match v with | .str s=>k s | _=>d
noncomputable def bE4 (v:RV) (d:β) (z:β) (k:Nat→Nat→Nat→Nat→Option Nat→β):β:=match v with | .sl l o n s c=>k l o n s c | .slnil=>z | _=>d
noncomputable def bDo (v:RV) (d:β) (z:β) (k:Nat→Nat→Nat→Nat→Option Nat→β):β:=match v with | .sl l o n s c=>k l o n s c | .slnil=>z | .sle=>z | .slw l o n s=>k l o n s none | _=>d
noncomputable def bDp (v:RV) (d:β) (k:Nat→Nat→Nat→Nat→β):β:=match v with | .sl l o n s _=>k l o n s | .slw l o n s=>k l o n s | _=>d
noncomputable def b4h (v:RV) (d:β) (k:List RV→β):β:=match v with | .agg cs=>k cs | _=>d
noncomputable def dSt (v:RTD) (d:β) (k:List (Nat×TypeId)→β):β:=match v with | .st fs=>k fs | _=>d
noncomputable def b9x (v:RTD) (d:β) (k:TypeId→β) (a:Nat→TypeId→β):β:=match v with | .sl e=>k e | .arr n e=>a n e | _=>d
noncomputable def b59 (v:RTD) (d:β) (k:β) (a:Nat→TypeId→β):β:=match v with | .str=>k | .arr n e=>a n e | _=>d
noncomputable def aZg (v:RTD) (d:β) (k:β) (a:TypeId→β):β:=match v with | .str=>k | .sl e=>a e | _=>d
noncomputable def b9y (v:RTD) (d:β) (k:IntKind→β):β:=match v with | .int q=>k q | _=>d
end
inductive K4 where
 | int (k:IntKind) (n:Int) | str (s:Sb) | sym (s:Sy) | no | other
section
variable (tt:T bD)
noncomputable def a41 (t:TypeId) (x:RV) (f:Nat):Option RV :=
 dD tt t none fun ti=>dSt ti.d none fun fs=>b4g x none fun l off=>aF (mK fs f) none fun p=>dD tt p.2 none fun fi=>aJ (Nat.ble 1 fi.sz) (eZ (Nat.add off p.1) fun o=>some (.ptr l o)) none
noncomputable def aJb (t:TypeId) (x:RV) (f:Nat):Option RV :=
 dD tt t none fun ti=>dSt ti.d none fun fs=>b4h x none fun cs=>aF (mK fs f) none fun p=>dD tt p.2 none fun fi=>aFe fi cs p.1
noncomputable def a42 (t:TypeId) (x i:RV):Option RV :=
 dD tt t none fun ti=>b9x ti.d none
  (fun e=>bDp x none fun l off n sz=>dD tt e none fun ei=>aJ (Nat.beq ei.sz sz) (wH i none fun m=>aJ (Nat.blt m n) (eZ (Nat.add off (Nat.mul m sz)) fun o=>some (.ptr l o)) none) none)
  (fun len e=>b4g x none fun l off=>dD tt e none fun ei=>wH i none fun m=>aJ (Nat.blt m len) (aJ (Nat.blt 1 len) (eZ (Nat.add off (Nat.mul m ei.sz)) fun o=>some (.ptr l o)) none) none)
noncomputable def aJc (t:TypeId) (x i:RV):Option RV :=
 dD tt t none fun ti=>b59 ti.d none
  (aWg x none fun s=>wH i none fun n=>aJ (Nat.blt n s.n) (eZ (Nat.mod (Nat.shiftRight s.c (Nat.mul 8 n)) 256) fun b=>some (.int .u8 (.ofNat b))) none)
  (fun len e=>b4h x none fun cs=>dD tt e none fun ei=>wH i none fun n=>aJ (Nat.blt n len) (aFe ei cs (Nat.mul n ei.sz)) none)
noncomputable def aPx (t:TypeId) (x:RV) (lo hi:Option RV):Option RV :=
 dD tt t none fun ti=>aZg ti.d none
  (aWg x none fun s=>qI hi s.n s.n none fun h=>qI lo 0 h none fun l=>aVp s l h fun r=>some (.str r))
  (fun e=>bE4 x none (dD tt e none fun _=>qI hi 0 0 none fun h=>qI lo 0 h none fun _=>some .slnil)
   (fun b off n sz c=>dD tt e none fun ei=>aJ (Nat.beq ei.sz sz)
    (qI hi n (a35 c n) none fun h=>qI lo 0 h none fun l =>
     eZ (Nat.add off (Nat.mul l sz)) fun o=>eZ (Nat.sub h l) fun m=>aMy c n l m fun c=>some (.sl b o m sz c)) none))
noncomputable def aPy (H:HT) (t:TypeId) (x:RV):Option RV :=
 dD tt t none fun ti=>aZg ti.d (aAv tt H t x) (aWg x none fun s=>some (.int .i64 (.ofNat s.n)))
  (fun _=>bDo x none (some (.int .i64 (.ofNat 0))) fun _ _ n _ _=>some (.int .i64 (.ofNat n)))
noncomputable def a2i (H:HT) (src dst:TypeId) (x:RV):OR :=
 dD tt src .bad fun si=>dD tt dst .bad fun di=>b9y si.d (kL tt H src dst x) fun _=>b9y di.d .bad fun k=>bDn x .bad fun _ n=>a1d (wr k n) fun n=>.ok (.int k n) H
end
theorem a3y {β:Type} {tt:T bD} {t:TypeId} {d:β} {k k':bD→β} (h:∀ ti,tt.get t=some ti→k ti=k' ti):dD tt t d k=dD tt t d k':=by
 unfold dD
 cases hg:tt.get t with
 | none=>rfl
 | some ti=>exact h ti hg
theorem aMm (tt:T bD) (t:TypeId) (x:RV) (f:Nat):a41 tt t x f=lB tt t x f:=by
 unfold a41 lB
 refine a3y fun ti _=>?_
 obtain ⟨t',d,sz,ag,dI,z,eq⟩:=ti
 cases d <;> cases x <;> rfl
theorem aZh (tt:T bD) (t:TypeId) (x:RV) (f:Nat):aJb tt t x f=vJ tt t x f:=by
 unfold aJb vJ
 refine a3y fun ti _=>?_
 obtain ⟨t',d,sz,ag,dI,z,eq⟩:=ti
 cases d <;> cases x <;> rfl
theorem aMn (tt:T bD) (t:TypeId) (x i:RV):a42 tt t x i=jF tt t x i:=by
 unfold a42 jF
 refine a3y fun ti _=>?_
 obtain ⟨t',d,sz,ag,dI,z,eq⟩:=ti
 cases d <;> cases x <;> rfl
theorem aZi (tt:T bD) (t:TypeId) (x i:RV):aJc tt t x i=qF tt t x i:=by
 unfold aJc qF
 refine a3y fun ti _=>?_
 obtain ⟨t',d,sz,ag,dI,z,eq⟩:=ti
 cases d <;> cases x <;> rfl
theorem aZj (tt:T bD) (t:TypeId) (x:RV) (lo hi:Option RV):aPx tt t x lo hi=rG tt t x lo hi:=by
 unfold aPx rG
 refine a3y fun ti _=>?_
 obtain ⟨t',d,sz,ag,dI,z,eq⟩:=ti
 cases d <;> cases x <;> rfl
theorem a6f {β:Type} {tt:T bD} {t:TypeId} {d:β} {k:bD→β} {ti:bD} (h:tt.get t=some ti):dD tt t d k=k ti:=by
 unfold dD; rw [h]; rfl
theorem b6a (tt:T bD) (H:HT) (t:TypeId) (x:RV):aPy tt H t x=aAv tt H t x:=by
 cases hg:tt.get t with
 | none=>unfold aPy aAv dD; rw [hg]; rfl
 | some ti =>
  unfold aPy
  rw [a6f hg]
  obtain ⟨t',d,sz,ag,dI,z,eq⟩:=ti
  cases d
  case str=>unfold aAv; rw [a6f hg]; cases x <;> rfl
  case sl e=>unfold aAv; rw [a6f hg]; cases x <;> rfl
  all_goals rfl
theorem aR4 (tt:T bD) (H:HT) (s d:TypeId) (x:RV):a2i tt H s d x=kL tt H s d x:=by
 cases hs:tt.get s with
 | none=>unfold a2i kL dD; rw [hs]; rfl
 | some si =>
  cases hd:tt.get d with
  | none=>unfold a2i kL dD; rw [hs,hd]; rfl
  | some di =>
   unfold a2i
   rw [a6f hs,a6f hd]
   obtain ⟨t',d1,sz,ag,dI,z,eq⟩:=si
   obtain ⟨t2,d2,sz2,ag2,by2,z2,eq2⟩:=di
   cases d1
   case int k1 =>
    unfold kL
    rw [a6f hs,a6f hd]
    cases d2 <;> cases x <;> rfl
   all_goals rfl
noncomputable def aKt (tt:T bD) (env:T RV) (H:HT) (t:TypeId) (x:Operand) (lo hi mx:Option Operand):OR :=
 match mx with
 | none=>hP env x fun u=>aF (qS env lo) .bad fun l=>aF (qS env hi) .bad fun h=>j8 (aPx tt t u l h) H
 | some m=>a6c tt env H t x lo hi (some m)
theorem aWh {tt:T bD} {env:T RV} {H:HT} {t:TypeId} {x:Operand} {lo hi mx:Option Operand} : aKt tt env H t x lo hi mx=a6c tt env H t x lo hi mx:=by
 unfold aKt a6c
 cases mx with
 | none=>simp only [aZj]
 | some m=>rfl
noncomputable def b4i (k:TypeId→RV→OR) (ts:List TypeId) (vs:List RV):OR:=match ts,vs with | [t],[x]=>k t x | _,_=>.bad
noncomputable def b4j (k:TypeId→TypeId→RV→RV→OR) (ts:List TypeId) (vs:List RV):OR:=match ts,vs with | [t,u],[x,y]=>k t u x y | _,_=>.bad
noncomputable def app2 (tt:T bD) (H:HT) (t u:TypeId) (x y:RV):OR:=match x,y with | .slnil,.int _ (.ofNat n)=>aM0 tt H t u n | _,_=>mG tt H t u x y
noncomputable def aHo (tt:T bD) (b:Builtin) (ts:List TypeId) (vs:List RV) (H:HT):OR :=
 match b with
 | .len=>b4i (fun t x=>j8 (aPy tt H t x) H) ts vs
 | .append=>b4j (app2 tt H) ts vs
 | b=>oZ tt b ts vs H
theorem aR5 (tt:T bD) (b:Builtin) (ts:List TypeId) (vs:List RV) (H:HT):aHo tt b ts vs H=oZ tt b ts vs H:=by
 cases b
 case len =>
  show b4i (fun t x=>j8 (aPy tt H t x) H) ts vs=_
  simp only [b6a]
  rcases ts with _ | ⟨t,_ | ⟨u,_ | ⟨q,ts⟩⟩⟩ <;> rcases vs with _ | ⟨x,_ | ⟨y,_ | ⟨z,vs⟩⟩⟩ <;> rfl
 case append =>
  show b4j (app2 tt H) ts vs=_
  rcases ts with _ | ⟨t,_ | ⟨u,_ | ⟨q,ts⟩⟩⟩ <;> rcases vs with _ | ⟨x,_ | ⟨y,_ | ⟨z,vs⟩⟩⟩ <;> rfl
 all_goals rfl
noncomputable def b9z (x:Operand) (tt:T bD) (C:eO) (env:T RV) (H:HT):OR:=j8 (ev env x) H
noncomputable def b2e (x:Operand) (tt:T bD) (C:eO) (env:T RV) (H:HT):OR:=j8 (ev env x) H
noncomputable def b90 (c:Operand) (a:Operand) (b:Operand) (tt:T bD) (C:eO) (env:T RV) (H:HT):OR:=ev3 env c a b fun c a b=>j8 (kV c a b) H
noncomputable def b6b (t:TypeId) (tt:T bD) (C:eO) (env:T RV) (H:HT):OR:=aPl tt H t
noncomputable def bDq (_u0:TypeId) (x:Operand) (tt:T bD) (C:eO) (env:T RV) (H:HT):OR:=hP env x fun v=>b13 H v
noncomputable def b6c (t:TypeId) (parts:Array (Nat×Operand)) (tt:T bD) (C:eO) (env:T RV) (H:HT):OR:=j8 (yR tt env t parts.toList) H
noncomputable def aPz (t:TypeId) (len:Nat) (parts:Array (Nat×Operand)) (tt:T bD) (C:eO) (env:T RV) (H:HT):OR:=nW tt env H t len parts.toList
noncomputable def b2f (t:TypeId) (m:Operand) (k:Operand) (x:Operand) (tt:T bD) (C:eO) (env:T RV) (H:HT):OR:=ev3 env m k x fun m k x=>xX tt H t m k x
noncomputable def b91 (t:TypeId) (x:Operand) (tt:T bD) (C:eO) (env:T RV) (H:HT):OR:=hP env x fun u=>aM2 tt H t u
noncomputable def b6d (t:TypeId) (x:Operand) (y:Operand) (tt:T bD) (C:eO) (env:T RV) (H:HT):OR:=mQ env x y fun u v=>a9m tt H t u v
def b6e (_:Nat) (_:T bD) (_:eO) (_:T RV) (_:HT):OR:=.bad
def b6f (_:Nat) (_:T bD) (_:eO) (_:T RV) (_:HT):OR:=.bad
noncomputable def aWi (x:Operand) (tt:T bD) (C:eO) (env:T RV) (H:HT):OR:=hP env x fun u=>j8 (a8g u) H
noncomputable def b6g (op:BinOp) (t:TypeId) (x:Operand) (y:Operand) (_u4:TypeId) (tt:T bD) (_:eO) (env:T RV) (H:HT):OR:=mQ env x y fun u v=>j8 (aWa tt op t x y u v) H
noncomputable def b92 (op:UnOp) (_u1:TypeId) (x:Operand) (tt:T bD) (C:eO) (env:T RV) (H:HT):OR:=hP env x fun u=>j8 (k9 op u) H
noncomputable def aZk (src:TypeId) (dst:TypeId) (x:Operand) (tt:T bD) (C:eO) (env:T RV) (H:HT):OR:=hP env x fun u=>a2i tt H src dst u
def a9o (_:TypeId) (_:Operand) (_:T bD) (_:eO) (_:T RV) (_:HT):OR:=.bad
def aJd (_:TypeId) (_:Operand) (_:T bD) (_:eO) (_:T RV) (_:HT):OR:=.bad
noncomputable def aWj (fn:Fn) (first:(Array Operand)) (captured:(Array Operand)) (tt:T bD) (C:eO) (env:T RV) (H:HT):OR:=a3w env H fn first.toList captured.toList
noncomputable def aZl (t:TypeId) (r:(Option Operand)) (tt:T bD) (C:eO) (env:T RV) (H:HT):OR:=aHg tt env H t r
def aWk (_:TypeId) (_:Operand) (_:T bD) (_:eO) (_:T RV) (_:HT):OR:=.bad
noncomputable def aR6 (t:TypeId) (l:Operand) (c:Operand) (tt:T bD) (C:eO) (env:T RV) (H:HT):OR:=mQ env l c fun u v=>kN tt H t u v
noncomputable def b6h (t:TypeId) (x:Operand) (lo:(Option Operand)) (hi:(Option Operand)) (mx:(Option Operand)) (tt:T bD) (C:eO) (env:T RV) (H:HT):OR:=aKt tt env H t x lo hi mx
noncomputable def aR7 (t:TypeId) (x:Operand) (f:Nat) (tt:T bD) (C:eO) (env:T RV) (H:HT):OR:=hP env x fun u=>j8 (a41 tt t u f) H
noncomputable def b6i (t:TypeId) (x:Operand) (f:Nat) (tt:T bD) (C:eO) (env:T RV) (H:HT):OR:=hP env x fun u=>j8 (aJb tt t u f) H
noncomputable def aR8 (t:TypeId) (x:Operand) (i:Operand) (tt:T bD) (C:eO) (env:T RV) (H:HT):OR:=mQ env x i fun u v=>j8 (a42 tt t u v) H
noncomputable def b6j (t:TypeId) (x:Operand) (i:Operand) (tt:T bD) (C:eO) (env:T RV) (H:HT):OR:=mQ env x i fun u v=>j8 (aJc tt t u v) H
noncomputable def b2g (t:TypeId) (x:Operand) (i:Operand) (ok:Bool) (tt:T bD) (C:eO) (env:T RV) (H:HT):OR:=mQ env x i fun u v=>j8 (aFf tt H t u v ok) H
noncomputable def aR9 (t:TypeId) (m:Operand) (k:Operand) (x:Operand) (tt:T bD) (C:eO) (env:T RV) (H:HT):OR:=ev3 env m k x fun m k x=>xX tt H t m k x
noncomputable def aWl (t:TypeId) (m:Operand) (k:Operand) (tt:T bD) (C:eO) (env:T RV) (H:HT):OR:=mQ env m k fun m k=>a7a tt H t m k
noncomputable def aP0 (_u0:TypeId) (m:Operand) (k:Operand) (x:Operand) (tt:T bD) (C:eO) (env:T RV) (H:HT):OR:=ev3 env m k x fun m k x=>a25 H m k x
noncomputable def b6k (t:TypeId) (x:Operand) (tt:T bD) (_:eO) (env:T RV) (H:HT):OR:=hP env x fun u=>aIr tt H t u
noncomputable def b93 (x:Operand) (s:Bool) (_:T bD) (_:eO) (env:T RV) (H:HT):OR:=hP env x fun u=>aM1 H u s
noncomputable def b6l (x:Operand) (_:T bD) (_:eO) (env:T RV) (H:HT):OR:=hP env x fun u=>j8 (aIs H u) H
def aP1 (_:Operand) (_:TypeId) (_:TypeId) (_:Bool) (_:T bD) (_:eO) (_:T RV) (_:HT):OR:=.bad
noncomputable def aZm (x:Operand) (i:Nat) (tt:T bD) (C:eO) (env:T RV) (H:HT):OR:=hP env x fun u=>j8 (aA u i) H
noncomputable def b94 (c:Call) (tt:T bD) (C:eO) (env:T RV) (H:HT):OR:=match c.callee with
   | .builtin b=>aF (fQ env c.args.toList) .bad fun vs=>aHo tt b c.argTypes.toList vs H
   | .value f=>aV8 C env f c.args.toList H
   | _=>.bad
def bE5 (_:Call) (_:T bD) (_:eO) (_:T RV) (_:HT):OR:=.bad
def b6m (_:Call) (_:T bD) (_:eO) (_:T RV) (_:HT):OR:=.bad
def b6n (_:Operand) (_:T bD) (_:eO) (_:T RV) (_:HT):OR:=.bad
def b95 (_:Operand) (_:Operand) (_:T bD) (_:eO) (_:T RV) (_:HT):OR:=.bad
def b96 (_:TypeId) (_:Operand) (_:Bool) (_:T bD) (_:eO) (_:T RV) (_:HT):OR:=.bad
def b2h (_:(Array SelectCase)) (_:Bool) (_:T bD) (_:eO) (_:T RV) (_:HT):OR:=.bad
noncomputable def opF (tt:T bD) (C:eO) (env:T RV) (H:HT) (op:Op):OR :=
 @Op.rec (fun _=>T bD→eO→T RV→HT→OR) b9z b2e b90 b6b bDq b6c aPz b2f b91 b6d b6e b6f aWi b6g b92 aZk a9o aJd aWj aZl aWk aR6 b6h aR7 b6i aR8 b6j b2g aR9 aWl aP0 b6k b93 b6l aP1 aZm b94 bE5 b6m b6n b95 b96 b2h op tt C env H
theorem b97 (tt:T bD) (C:eO) (env:T RV) (H:HT) (op:Op):opF tt C env H op=vL tt C env H op:=by
 cases op
 case binOp op t x y yt=>rfl
 case convert s d x=>show hP env x (fun u=>a2i tt H s d u)=hP env x fun u=>kL tt H s d u; simp only [aR4]
 case fieldAddr t x f=>show hP env x (fun u=>j8 (a41 tt t u f) H)=hP env x fun u=>j8 (lB tt t u f) H; simp only [aMm]
 case field t x f=>show hP env x (fun u=>j8 (aJb tt t u f) H)=hP env x fun u=>j8 (vJ tt t u f) H; simp only [aZh]
 case indexAddr t x i=>show mQ env x i (fun u v=>j8 (a42 tt t u v) H)=mQ env x i fun u v=>j8 (jF tt t u v) H; simp only [aMn]
 case index t x i=>show mQ env x i (fun u v=>j8 (aJc tt t u v) H)=mQ env x i fun u v=>j8 (qF tt t u v) H; simp only [aZi]
 case slice t x lo hi mx=>exact aWh
 case call c =>
  obtain ⟨ce,args,ts⟩:=c
  cases ce with
  | builtin b=>show aF (fQ env args.toList) .bad (fun vs=>aHo tt b ts.toList vs H)=aF (fQ env args.toList) .bad fun vs=>oZ tt b ts.toList vs H; simp only [aR5]
  | value f=>rfl
  | invoke r m=>rfl
 all_goals rfl
section
variable (tt:T bD) (C:eO) (n:Nat)
noncomputable def aWm (ops:List Oper) (env:T RV) (j:Nat) (want:Bool):Option Bool :=
 aF (mK ops j) none fun oj=>aF oj.dst none fun t=>aF (env.get t) none fun v=>match v with
  | .bool b=>some (aJ b want (aJ want false true))
  | .undef=>some false
  | _=>none
noncomputable def b2i (env:T RV) (dst:Option Tmp) (v:RV) (k:T RV→Out):Out :=
 @Option.rec Tmp (fun _=>Out) (k env) (fun t=>aJ (Nat.blt t n) (T.j9 env t v k) .bad) dst
noncomputable def doF (o:Oper) (env:T RV) (H:HT) (k:T RV→HT→Out):Out :=
 @OR.rec (fun _=>Out) (fun v H=>b2i n env o.dst v fun env=>k env H) .bad (opF tt C env H o.op)
noncomputable def aWn (ops:List Oper) (o:Oper) (k:T RV→HT→Out) (env:T RV) (H:HT):Out :=
 @Option.rec (Nat×Bool) (fun _=>Out) (doF tt C n o env H k)
  (fun g=>aF (aWm ops env g.1 g.2) .bad fun b=>aJ b (doF tt C n o env H k) (b2i n env o.dst .undef fun env=>k env H)) o.guard
noncomputable def aKu (ops rest:List Oper):T RV→HT→Out :=
 @List.rec Oper (fun _=>T RV→HT→Out) (fun env H=>.kH env H) (fun o _ ih=>aWn tt C n ops o ih) rest
end
section
variable {tt:T bD} {C:eO} {n:Nat}
theorem aKv (env:T RV) (dst:Option Tmp) (v:RV) (k:T RV→Out):b2i n env dst v k=fR n env dst v .bad k:=by cases dst <;> rfl
theorem aTz (ops:List Oper):∀ (rest:List Oper) (env:T RV) (H:HT),aKu tt C n ops rest env H=opsV tt C n ops rest env H
 | [],env,H=>rfl
 | o::r,env,H=>by
  have ih:aKu tt C n ops r=opsV tt C n ops r:=by funext env H; exact aTz ops r env H
  have h:aKu tt C n ops (o::r) env H=aWn tt C n ops o (aKu tt C n ops r) env H:=rfl
  rw [h,ih]
  simp only [opsV]
  have hdo:doF tt C n o env H (opsV tt C n ops r)=(match vL tt C env H o.op with
   | .ok v H=>fR n env o.dst v .bad fun env=>opsV tt C n ops r env H
   | .bad=>.bad):=by
   unfold doF
   rw [b97]
   cases vL tt C env H o.op with
   | ok v H1=>exact aKv env o.dst v _
   | bad=>rfl
  unfold aWn wM
  cases hg:o.guard with
  | none =>
   simp only [aP,bL]
   exact hdo
  | some g =>
   obtain ⟨j,want⟩:=g
   simp only
   show aF (aWm ops env j want) Out.bad _=_
   unfold aWm
   cases mK ops j with
   | none=>rfl
   | some oj =>
    simp only [aP]
    cases oj.dst with
    | none=>rfl
    | some t =>
     simp only [aP]
     cases env.get t with
     | none=>rfl
     | some v =>
      simp only [aP]
      cases v
      case bool b=>simp only [aP]; rw [hdo,aKv] <;> rfl
      case undef=>simp only [aP]; rw [hdo,aKv] <;> rfl
      all_goals rfl
noncomputable def b98 {α:Type} (l:List α):Bool:=match l with | []=>true | _=>false
noncomputable def aJe (tt:T bD) (ops:List Oper):Bool:=aJ (nF false tt ops) (aJ (b98 (pC false tt ops)) (ops.all fun o=>!Nat.beq (cls false tt o) 2) false) false
theorem aJf {tt:T bD} {pc:Op→Option (Nat×List RV)} : ∀ {rest:List Oper} {H:HT},rest.all (fun o=>!Nat.beq (cls false tt o) 2)=true→yF false tt pc rest H=some (rest.map fun _=>0,H)
 | [],H,_=>rfl
 | o::r,H,h=>by
  simp only [List.all_cons,Bool.and_eq_true,Bool.not_eq_true'] at h
  simp only [yF,h.1,cD]
  rw [aJf h.2]; rfl
theorem aJg {ops:List Oper} : ∀ {rest:List Oper} {ids:List Nat} {env:T RV} {H:HT},rest.all (fun o=>!Nat.beq (cls false tt o) 2)=true→ids.length=rest.length →
  (∃ env' H' Ms,opsV tt C n ops rest env H = .kH env' H' ∧ p6 false tt C n ops rest ids env H = .ok env' Ms ∧ Ms[kS false tt rest rest.length]? = some H') ∨ (opsV tt C n ops rest env H = .bad ∧ p6 false tt C n ops rest ids env H = .bad)
 | [],ids,env,H,_,_=>.inl ⟨env,H,[H],rfl,rfl,rfl⟩
 | o::r,[],env,H,_,hl=>by simp at hl
 | o::r,id::ids,env,H,hc,hl=>by
  simp only [List.all_cons,Bool.and_eq_true,Bool.not_eq_true'] at hc
  have hl:ids.length=r.length:=by simpa using hl
  simp only [opsV,p6,hc.1,cD]
  cases hw:wM ops env o with
  | none=>exact .inr ⟨rfl,rfl⟩
  | some b =>
   simp only [aP]
   have fin : ∀ (env1 : T RV) (H1 : HT),(hG false tt o = false → H1 = H) → (∃ env' H' Ms,opsV tt C n ops r env1 H1 = .kH env' H' ∧ a1f H (hG false tt o) (p6 false tt C n ops r ids env1 H1) = .ok env' Ms ∧ Ms[kS false tt (o :: r) (o :: r).length]? = some H') ∨
     (opsV tt C n ops r env1 H1 = .bad∧a1f H (hG false tt o) (p6 false tt C n ops r ids env1 H1) = .bad):=by
    intro env1 H1 hs
    rcases aJg (ops:=ops) (rest:=r) (ids:=ids) (env:=env1) (H:=H1) hc.2 hl with ⟨env',H',Ms,h1,h2,h3⟩ | ⟨h1,h2⟩
    ·refine .inl ⟨env',H',if hG false tt o=true then H::Ms else Ms,h1,?_,?_⟩
     ·rw [h2]; simp only [a1f,cP]
     ·rw [List.length_cons,qY]
      by_cases h:hG false tt o=true
      ·rw [if_pos h,if_pos h,List.getElem?_cons_succ]; exact h3
      ·rw [if_neg h,if_neg h]; exact h3
    ·exact .inr ⟨h1,by rw [h2]; rfl⟩
   have lay : ∀ (v : RV) (H1 : HT),(hG false tt o = false → H1 = H) → (∃ env' H' Ms,(fR n env o.dst v Out.bad fun env=>opsV tt C n ops r env H1) = .kH env' H' ∧ (fR n env o.dst v aD0.bad fun env=>a1f H (hG false tt o) (p6 false tt C n ops r ids env H1)) = .ok env' Ms ∧ Ms[kS false tt (o :: r) (o :: r).length]? = some H') ∨
     ((fR n env o.dst v Out.bad fun env=>opsV tt C n ops r env H1) = .bad∧(fR n env o.dst v aD0.bad fun env=>a1f H (hG false tt o) (p6 false tt C n ops r ids env H1)) = .bad):=by
    intro v H1 hs
    unfold fR
    cases o.dst with
    | none=>exact fin env H1 hs
    | some t =>
     simp only
     rw [cP,cP]
     split
     ·rw [T.uL,T.uL]
      exact fin _ H1 hs
     ·exact .inr ⟨rfl,rfl⟩
   cases b with
   | true =>
    simp only [bL]
    cases ho:vL tt C env H o.op with
    | bad=>exact .inr ⟨rfl,rfl⟩
    | ok v H1 =>
     refine lay v H1 fun h=>?_
     have h2:cls false tt o≠3:=fun h3=>by rw [a5i.2 h3] at h; simp at h
     have h4:cls false tt o≠2:=fun h5=>by rw [h5] at hc; simp at hc
     have:=aPp (wd:=false) (tt:=tt) o
     exact aHi (wd:=false) (by omega) ho
   | false =>
    simp only [cD]
    exact lay .undef H fun _=>rfl
theorem aZn {ops:List Oper} (h:aJe tt ops=true) (env:T RV) (H:HT):zH tt C n ops env H=opsV tt C n ops ops env H:=by
 unfold aJe at h
 rw [oV,oV] at h
 obtain ⟨h1,h2,h3⟩:=h
 have h2:pC false tt ops=[]:=by
  cases hp:pC false tt ops with
  | nil=>rfl
  | cons a l=>rw [hp] at h2; simp [b98] at h2
 unfold zH a29 aPr
 simp only [h1,bL,cD,aJf h3,aP]
 rcases aJg (tt:=tt) (C:=C) (n:=n) (ops:=ops) (rest:=ops) (ids:=ops.map fun _=>0) (env:=env) (H:=H) h3 (by simp) with ⟨env',H',Ms,e1,e2,e3⟩ | ⟨e1,e2⟩
 ·simp only [e2,h2,a4a,bL]
  rw [lD,e3,aP,e1]
 ·simp only [e2,e1]
noncomputable def b2j (tt:T bD) (C:eO) (n:Nat) (ops:List Oper) (draw:Bool) (env:T RV) (H:HT):Out :=
 aJ draw (aJ (aJe tt ops) (aKu tt C n ops ops env H) (zH tt C n ops env H)) (aKu tt C n ops ops env H)
theorem b6o (ops:List Oper) (draw:Bool) (env:T RV) (H:HT):b2j tt C n ops draw env H=aJ draw (zH tt C n ops env H) (opsV tt C n ops ops env H):=by
 unfold b2j
 rw [aTz]
 cases draw with
 | false=>rfl
 | true =>
  simp only [bL]
  cases hp:aJe tt ops with
  | false=>rfl
  | true=>rw [bL,aZn hp]
end
noncomputable def aM5 (o:Out) (k:T RV→HT→Out):Out:=match o with | .kH env H=>k env H | .ext id env H=>.ext id env H | .ret env H=>.ret env H | .bad=>.bad
noncomputable def b4l (v:RV) (x y:Out):Out:=match v with | .bool t=>aJ t x y | _=>.bad
noncomputable def aZo (id:Nat) (o:Out):Out:=match o with | .kH env H=>.kH env H | .ext j env H=>aJ (Nat.beq j id) (.kH env H) (.ext j env H) | .ret env H=>.ret env H | .bad=>.bad
noncomputable def aZp (_:T bD) (_:eO) (_:Nat) (_:Nat) (env:T RV) (H:HT):Out:=.kH env H
noncomputable def b2k (_:Nat) (ops:Array Oper) (draw:Bool) (tt:T bD) (C:eO) (n:Nat) (_:Nat) (env:T RV) (H:HT):Out:=b2j tt C n ops.toList draw env H
noncomputable def bDr (_ _:Code) (ra rb:T bD→eO→Nat→Nat→T RV→HT→Out) (tt:T bD) (C:eO) (n big:Nat) (env:T RV) (H:HT):Out:=aM5 (ra tt C n big env H) fun env H=>rb tt C n big env H
noncomputable def b99 (c:Operand) (_ _:Code) (ra rb:T bD→eO→Nat→Nat→T RV→HT→Out) (tt:T bD) (C:eO) (n big:Nat) (env:T RV) (H:HT):Out:=aF (ev env c) .bad fun v=>b4l v (ra tt C n big env H) (rb tt C n big env H)
noncomputable def b6p (id:Nat) (_:Code) (rb:T bD→eO→Nat→Nat→T RV→HT→Out) (tt:T bD) (C:eO) (n big:Nat) (env:T RV) (H:HT):Out:=aZo id (rb tt C n big env H)
noncomputable def aM6 (f:T RV→HT→Out) (k:Nat):T RV→HT→Out :=
 @Nat.rec (fun _=>T RV→HT→Out) (fun _ _=>.bad) (fun _ ih env H=>aM5 (f env H) ih) k
noncomputable def bAa (_:Code) (rb:T bD→eO→Nat→Nat→T RV→HT→Out) (tt:T bD) (C:eO) (n big:Nat) (env:T RV) (H:HT):Out:=aM6 (rb tt C n big) big env H
noncomputable def bAb (id:Nat) (_:T bD) (_:eO) (_ _:Nat) (env:T RV) (H:HT):Out:=.ext id env H
noncomputable def bDs (_:T bD) (_:eO) (_ _:Nat) (env:T RV) (H:HT):Out:=.ret env H
noncomputable def aBk (c:Code):T bD→eO→Nat→Nat→T RV→HT→Out :=
 @Code.rec (fun _=>T bD→eO→Nat→Nat→T RV→HT→Out) aZp b2k bDr b99 b6p bAa
  (fun _ _ _ _ _ _ _ _ _ _ _ _=>.bad) bAb (fun _ _ _ _ _ _ _ _=>.bad) (fun _=>aZp) (fun _ _ _ _ _ _ _=>.bad) bDs (fun _ _ _ _ _ _ _=>.bad) c
theorem aP2 (f:T RV→HT→Out):∀ (k:Nat),aM6 f k=aBi f k
 | 0=>rfl
 | k+1=>by
  funext env H
  show aM5 (f env H) (aM6 f k)=(match f env H with | .kH env H=>aBi f k env H | .ext id env H=>.ext id env H | .ret env H=>.ret env H | .bad=>.bad)
  rw [aP2 f k]; rfl
theorem b6q (tt:T bD) (C:eO) (n big:Nat):∀ (c:Code),aBk c tt C n big=qK tt C n big c:=by
 intro c
 induction c with
 | region id ops draw=>funext env H; exact b6o ops.toList draw env H
 | seq x y ihx ihy =>
  funext env H
  show aM5 (aBk x tt C n big env H) (fun env H=>aBk y tt C n big env H)=(match qK tt C n big x env H with | .kH env H=>qK tt C n big y env H | .ext id env H=>.ext id env H | .ret env H=>.ret env H | .bad=>.bad)
  rw [ihx,ihy]; rfl
 | cond c x y ihx ihy =>
  funext env H
  show aF (ev env c) .bad (fun v=>b4l v (aBk x tt C n big env H) (aBk y tt C n big env H))=aF (ev env c) .bad (fun v=>match v with | .bool t=>aJ t (qK tt C n big x env H) (qK tt C n big y env H) | _=>.bad)
  rw [ihx,ihy]; rfl
 | block id b ih =>
  funext env H
  show aZo id (aBk b tt C n big env H)=(match qK tt C n big b env H with | .kH env H=>.kH env H | .ext j env H=>aJ (Nat.beq j id) (.kH env H) (.ext j env H) | .ret env H=>.ret env H | .bad=>.bad)
  rw [ih]; rfl
 | loop b ih =>
  funext env H
  show aM6 (aBk b tt C n big) big env H=aBi (qK tt C n big b) big env H
  rw [ih,aP2]
 | _=>rfl
noncomputable def bAc (tt:T bD) (res:List ResultVar) (o:Out):OR:=match o with | .kH env H=>sP tt res env H | .ret env H=>sP tt res env H | _=>.bad
noncomputable def feF (tt:T bD) (big:Nat) (C:eO) (fe:FE) (args:List RV) (H:HT):OR :=
 match fe with
 | .code n res c=>eZ (gD args) fun k=>aJ (Nat.ble k n) (nY args .e 0 fun env=>bAc tt res (aBk c tt C n big env H)) .bad
 | .same=>a7h args H
 | .known b=>aI7 b args H
 | .pure g=>j8 (g args) H
 | .room e=>aI6 e args H
noncomputable def aJ7 (tt:T bD) (ft:T FE) (big:Nat) (d:Nat):eO :=
 @Nat.rec (fun _=>eO) (fun _ _ _=>.bad) (fun _ C f args H=>aJ (Nat.beq f Y0) .bad (aF (ft.get f) .bad fun fe=>feF tt big C fe args H)) d
theorem aT0 (tt:T bD) (ft:T FE) (big:Nat):∀ d,aJ7 tt ft big d=aHm tt ft big d
 | 0=>rfl
 | d+1=>by
  have ih:=aT0 tt ft big d
  funext f args H
  show aJ (Nat.beq f Y0) .bad (aF (ft.get f) .bad (fun fe=>feF tt big (aJ7 tt ft big d) fe args H))=aJ (Nat.beq f Y0) .bad (aF (ft.get f) .bad _)
  rw [ih]
  congr 2
  funext fe
  cases fe with
  | code n res c =>
   show eZ (gD args) (fun k=>aJ (Nat.ble k n) (nY args .e 0 fun env=>bAc tt res (aBk c tt (aHm tt ft big d) n big env H)) .bad)=_
   simp only [b6q]
   rfl
  | _=>rfl
end Go.Rx

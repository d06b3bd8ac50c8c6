import Derived.Test.YtngdbicnabbplaaPD
set_option linter.unusedSimpArgs false
set_option linter.unusedVariables false
set_option linter.unusedSectionVars false
set_option maxRecDepth 100000
namespace Go.Fbs
open Go.Proofs Go.RowKit Go.Maps
variable {w w':World}
abbrev Nm:=B8×B8
def nmC (q:Nm):List Value:=[.string ⟨⟨q.1⟩⟩,.string ⟨⟨q.2⟩⟩]
def qK (ws:List Nm):List Value:=ws.flatMap nmC
theorem b5k (a b:List Nm):qK (a++b)=qK a++qK b:=by simp [qK]
theorem wH : ∀ {ws : List Nm} {i : Nat} {q : Nm},ws[i]? = some q → (qK ws)[i * 2]? = some (.string ⟨⟨q.1⟩⟩) ∧ (qK ws)[i * 2 + 1]? = some (.string ⟨⟨q.2⟩⟩)
 | x::ws,0,q,h=>by
  simp only [zux,zzz] at h
  subst h
  exact ⟨rfl,rfl⟩
 | x::ws,i+1,q,h=>by
  obtain ⟨h1,h2⟩:=wH (ws:=ws) (i:=i) (by simpa using h)
  have e : ∀ j,(qK (x :: ws))[(i + 1) * 2 + j]? = (qK ws)[i * 2 + j]?:=fun j=>by
   show (nmC x ++ qK ws)[_]? = _
   rw [ztx (by simp [nmC]; omega)]
   congr 1
   simp only [nmC,zwx,List.length_nil]; omega
  exact ⟨(e 0).trans h1,(e 1).trans h2⟩
theorem aHb:∀ (ws:List Nm) (i:Nat) (q:Nm),i < ws.length→qK (ws.set i q)=((qK ws).set (i*2) (.string ⟨⟨q.1⟩⟩)).set (i*2+1) (.string ⟨⟨q.2⟩⟩)
 | x::ws,0,q,_=>rfl
 | x::ws,i+1,q,h=>by
  have ih:=aHb ws i q (by simpa using h)
  show nmC x++qK (ws.set i q)=((nmC x++qK ws).set ((i+1)*2) _).set ((i+1)*2+1) _
  rw [ih]
  have e:(i+1)*2=i*2+2:=by omega
  rw [e]
  rfl
def aNe (l S : List Nm) (i : Nat) : Prop:=S.length = l.length ∧ ∀ p,p < l.length → S[p]? = if p < i ∨ l.length ≤ p + i then l[l.length - 1 - p]? else l[p]?
theorem b16 (l:List Nm):aNe l l 0:=⟨rfl,fun p hp=>by rw [if_neg (by omega)]⟩
theorem b5l {l S:List Nm} {i:Nat} (h:aNe l S i) (hi:l.length≤i+i+1):S=l.reverse:=by
 refine List.ext_getElem? fun p=>?_
 rcases Nat.lt_or_ge p l.length with hp | hp
 ·rw [h.2 p hp,List.getElem?_reverse hp]
  split
  ·rfl
  ·congr 1; omega
 ·rw [List.getElem?_eq_none (by rw [h.1]; exact hp),List.getElem?_eq_none (by rw [List.length_reverse]; exact hp)]
theorem b17 {l S : List Nm} {i j : Nat} {x y : Nm} (h : aNe l S i) (hij : i < j) (hj : j + i + 1 = l.length) (hx : S[i]? = some x) (hy : S[j]? = some y) : aNe l ((S.set i y).set j x) (i + 1):=by
 refine ⟨by simp [h.1],fun p hp=>?_⟩
 have hl:=h.1
 have hxi:=h.2 i (by omega)
 have hyj:=h.2 j (by omega)
 rw [if_neg (by omega)] at hxi hyj
 by_cases hpj:p=j
 ·subst hpj
  rw [List.getElem?_set_self (by simp; omega),if_pos (by omega),← hx,hxi]
  congr 1; omega
 ·rw [List.getElem?_set_ne (by omega)]
  by_cases hpi:p=i
  ·subst hpi
   rw [List.getElem?_set_self (by omega),if_pos (by omega),← hy,hyj]
   congr 1; omega
  ·rw [List.getElem?_set_ne (by omega),h.2 p hp]
   by_cases hc:p < i∨l.length≤p+i
   ·rw [if_pos hc,if_pos (by omega)]
   ·rw [if_neg hc,if_neg (by omega)]
set_option maxHeartbeats 3200000 in
theorem aVd {base:Nat} {v:Value} {l:List Nm} (ho:w.ownsRow base 100 2 v l.length (qK l)) (hl:l.length≤1000000) :
  Calls Try.prog 33 #[v] w fun e w'=>e = .returned (.tuple #[])∧w'.ownsRow base 100 2 v l.length (qK l.reverse)∧w.grownBy w' v.ownBlock:=by
 obtain ⟨ad,cp,rfl⟩:=yV ho
 go_enter Try.func33,Try.ntmps33
 go_wp2
 go_loopw [2,3] (fun i j wr=>∃ (k:Nat) (S:List Nm),k≤l.length∧i = .int .i64 k∧j = .int .i64 ((l.length:Int) - 1 - k)∧aNe l S k∧wr.ownsRow base 100 2 (.slice ad l.length cp) l.length (qK S)∧w.grownBy wr (Value.slice ad l.length cp).ownBlock) (fun i _ _=>l.length - (iG i).toNat)
 case atStart=>exact ⟨0,l,Nat.zero_le _,rfl,by simp,b16 l,ho,World.grownBy.refl _ _⟩
 case round =>
  obtain ⟨i,S,hi,rfl,rfl,hS,hown,hg⟩:=hrel
  have hi0:(0:Int)≤(i:Int):=zrz _
  by_cases hij:i+i+1 < l.length
  ·obtain ⟨j,hj⟩:∃ j,j+i+1=l.length:=⟨l.length - 1 - i,by omega⟩
   have hje:(l.length:Int) - 1 - (i:Int)=(j:Int):=by omega
   rw [hje]
   have hj0:(0:Int)≤(j:Int):=zrz _
   have hij1:(i:Int) < (j:Int):=by omega
   have hil:(i:Int) < (l.length:Int):=by omega
   have hjl:(j:Int) < (l.length:Int):=by omega
   obtain ⟨x,hx⟩ : ∃ x,S[i]? = some x:=hU (by rw [hS.1]; omega)
   obtain ⟨y,hy⟩ : ∃ x,S[j]? = some x:=hU (by rw [hS.1]; omega)
   obtain ⟨g,cp',e,hg1,hg2,hg3⟩:=sR hown (by omega)
   obtain ⟨rfl,rfl⟩:ad=some ⟨g,0,none⟩∧cp=cp':=by simpa using e
   have c0 : wr.cell? ⟨g,i * 2,none⟩ = some (.string ⟨⟨x.1⟩⟩):=by rw [World.ownsRow.cellAt hown _ (by omega)]; exact (wH hx).1
   have c1 : wr.cell? ⟨g,i * 2 + 1,none⟩ = some (.string ⟨⟨x.2⟩⟩):=by rw [World.ownsRow.cellAt hown _ (by omega)]; exact (wH hx).2
   have d0 : wr.cell? ⟨g,j * 2,none⟩ = some (.string ⟨⟨y.1⟩⟩):=by rw [World.ownsRow.cellAt hown _ (by omega)]; exact (wH hy).1
   have d1 : wr.cell? ⟨g,j * 2 + 1,none⟩ = some (.string ⟨⟨y.2⟩⟩):=by rw [World.ownsRow.cellAt hown _ (by omega)]; exact (wH hy).2
   have f0:=World.ownsRow.frozenAt hown (i*2)
   have f1:=World.ownsRow.frozenAt hown (i*2+1)
   have f2:=World.ownsRow.frozenAt hown (j*2)
   have f3:=World.ownsRow.frozenAt hown (j*2+1)
   go_wp2
   go_region
   obtain ⟨h1,g1⟩:=World.ownsRow.stored hown (i*2) (.string ⟨⟨y.1⟩⟩)
   obtain ⟨h2,g2⟩:=World.ownsRow.stored h1 (i*2+1) (.string ⟨⟨y.2⟩⟩)
   obtain ⟨h3,g3⟩:=World.ownsRow.stored h2 (j*2) (.string ⟨⟨x.1⟩⟩)
   obtain ⟨h4,g4⟩:=World.ownsRow.stored h3 (j*2+1) (.string ⟨⟨x.2⟩⟩)
   have hgg:=((g1.trans g2).trans g3).trans g4
   rw [← aHb S i y (by rw [hS.1]; omega),← aHb (S.set i y) j x (by rw [List.length_set,hS.1]; omega)] at h4
   clear h1 h2 h3 g1 g2 g3 g4
   have hS':=b17 hS (by omega) hj hx hy
   obtain ⟨Z,hZ⟩:∃ Z,Z=(((wr.setCell ⟨g,i*2,none⟩ (.string ⟨⟨y.1⟩⟩)).setCell ⟨g,i*2+1,none⟩ (.string ⟨⟨y.2⟩⟩)).setCell ⟨g,j*2,none⟩ (.string ⟨⟨x.1⟩⟩)).setCell ⟨g,j*2+1,none⟩ (.string ⟨⟨x.2⟩⟩):=⟨_,rfl⟩
   rw [← hZ] at h4 hgg ⊢
   clear hZ c0 c1 d0 d1 f0 f1 f2 f3
   have hj1:(0:Int)≤(j:Int) - 1:=by omega
   go_wp2
   refine ⟨⟨i+1,_,by omega,by simp,?_,hS',h4,(hg.trans hgg).trans ⟨rfl,rfl,rfl,zxy _,fun _ _ _=>rfl⟩⟩,by simp [iG]; omega⟩
   congr 1
   omega
  ·have hij1:¬ (i:Int) < (l.length:Int) - 1 - (i:Int):=by omega
   go_wp2
   go_end0
   exact ⟨rfl,by rw [← b5l hS (by omega)]; exact hown,hg⟩
end Go.Fbs

namespace Go.Fbs
open Go.Proofs Go.RowKit Go.Maps
abbrev Rk:=Nm→Nat
def wI (ρ:Rk) (q:Nm) (v:Nat):Rk:=fun x=>if x=q then v else ρ x
def iN (q:Nm) (s:Rk×Bool) (v:Wy):Rk×Bool:=if s.1 (v.1,v.2.1)+v.2.2 > s.1 q then (wI s.1 q (s.1 (v.1,v.2.1)+v.2.2),true) else s
def a9t (W:Nm→List Wy) (s:Rk×Bool) (q:Nm):Rk×Bool:=(W q).foldl (iN q) s
def iX (W:Nm→List Wy) (L:Nat):List Nm→Rk×Bool→Option (Rk×Bool)
 | [],s=>some s
 | q::r,s=>if L < (a9t W s q).1 q then none else iX W L r (a9t W s q)
inductive pB (W:Nm→List Wy) (L:Nat) (o:List Nm):Rk→Option Rk→Prop where
 | bad {ρ:Rk} : iX W L o (ρ,false)=none→pB W L o ρ none
 | done {ρ ρ':Rk} : iX W L o (ρ,false)=some (ρ',false)→pB W L o ρ (some ρ')
 | more {ρ ρ':Rk} {r:Option Rk} : iX W L o (ρ,false)=some (ρ',true)→pB W L o ρ' r→pB W L o ρ r
theorem pB.one {W:Nm→List Wy} {L:Nat} {o:List Nm} {ρ:Rk} {r r':Option Rk} (h:pB W L o ρ r) (h':pB W L o ρ r'):r=r':=by
 induction h with
 | bad h1 =>
  cases h' with
  | bad _=>rfl
  | done h2=>rw [h1] at h2; cases h2
  | more h2 _=>rw [h1] at h2; cases h2
 | done h1 =>
  cases h' with
  | bad h2=>rw [h1] at h2; cases h2
  | done h2=>rw [h1] at h2; cases h2; rfl
  | more h2 _=>rw [h1] at h2; cases h2
 | more h1 _ ih =>
  cases h' with
  | bad h2=>rw [h1] at h2; cases h2
  | done h2=>rw [h1] at h2; cases h2
  | more h2 h3=>rw [h1] at h2; cases h2; exact ih h3
theorem aK5 {q:Nm} {s:Rk×Bool} {v:Wy} (x:Nm):s.1 x≤(iN q s v).1 x:=by
 unfold iN
 split
 ·rename_i h
  show _≤wI _ _ _ x
  unfold wI
  split
  ·rename_i e; rw [e]; omega
  ·exact zxy _
 ·exact zxy _
theorem aO7 {q:Nm} (x:Nm):∀ (vs:List Wy) (s:Rk×Bool),s.1 x≤(vs.foldl (iN q) s).1 x
 | [],s=>zxy _
 | v::vs,s=>Nat.le_trans (aK5 x) (aO7 x vs _)
theorem aVe {W:Nm→List Wy} {s:Rk×Bool} {q:Nm} (x:Nm):s.1 x≤(a9t W s q).1 x:=aO7 x _ _
theorem aIg {W:Nm→List Wy} {L:Nat} (x:Nm):∀ {o:List Nm} {s t:Rk×Bool},iX W L o s=some t→s.1 x≤t.1 x
 | [],s,t,h=>by cases h; exact zxy _
 | q::r,s,t,h=>by
  unfold iX at h
  split at h
  ·cases h
  ·exact Nat.le_trans (aVe x) (aIg x h)
theorem aQw {q:Nm} : ∀ (vs:List Wy) (s:Rk×Bool),(vs.foldl (iN q) s).2=true→s.2=true∨s.1 q < (vs.foldl (iN q) s).1 q
 | [],s,h=>.inl h
 | v::vs,s,h=>by
  rw [List.foldl_cons] at h ⊢
  rcases aQw vs _ h with h1 | h1
  ·by_cases hc:s.1 (v.1,v.2.1)+v.2.2 > s.1 q
   ·right
    refine zuz ?_ (aO7 q vs _)
    unfold iN
    rw [if_pos hc]
    show _ < wI _ _ _ q
    unfold wI
    rw [if_pos rfl]
    exact hc
   ·left
    unfold iN at h1
    rw [if_neg hc] at h1
    exact h1
  ·exact .inr (Nat.lt_of_le_of_lt (aK5 q) h1)
theorem aQx {W:Nm→List Wy} {L:Nat} : ∀ {o:List Nm} {s t:Rk×Bool},iX W L o s=some t→t.2=true→s.2=true∨∃ q ∈ o,s.1 q < t.1 q
 | [],s,t,h,ht=>by cases h; exact .inl ht
 | q::r,s,t,h,ht=>by
  unfold iX at h
  split at h
  ·cases h
  ·rcases aQx h ht with h1 | ⟨x,hx,h1⟩
   ·rcases aQw _ _ h1 with h2 | h2
    ·exact .inl h2
    ·exact .inr ⟨q,.head _,zuz h2 (aIg q h)⟩
   ·exact .inr ⟨x,.tail _ hx,Nat.lt_of_le_of_lt (aVe x) h1⟩
theorem b18 {W:Nm→List Wy} {s:Rk×Bool} {q x:Nm} (h:x≠q):(a9t W s q).1 x=s.1 x:=by
 have:∀ (vs:List Wy) (s:Rk×Bool),(vs.foldl (iN q) s).1 x=s.1 x:=by
  intro vs
  induction vs with
  | nil=>intros; rfl
  | cons v vs ih =>
   intro s
   rw [List.foldl_cons,ih]
   unfold iN
   split
   ·show wI _ _ _ x=_
    unfold wI
    rw [if_neg h]
   ·rfl
 exact this _ _
theorem a64 {W:Nm→List Wy} {L:Nat} {x:Nm} : ∀ {o:List Nm} {s t:Rk×Bool},iX W L o s=some t→x ∉ o→t.1 x=s.1 x
 | [],s,t,h,_=>by cases h; rfl
 | q::r,s,t,h,hx=>by
  unfold iX at h
  split at h
  ·cases h
  ·rw [a64 h (fun h=>hx (.tail _ h)),b18 (fun e=>hx (by rw [e]; exact .head _))]
theorem aVf {W:Nm→List Wy} {L:Nat} : ∀ {o:List Nm} {s t:Rk×Bool},iX W L o s=some t→o.Nodup→∀ x ∈ o,t.1 x≤L
 | q::r,s,t,h,hn,x,hx=>by
  unfold iX at h
  rw [List.nodup_cons] at hn
  split at h
  ·cases h
  ·rename_i hL
   rcases List.mem_cons.1 hx with rfl | hx
   ·rw [a64 h hn.1]; omega
   ·exact aVf h hn.2 x hx
def a9u (L:Nat) (o:List Nm) (ρ:Rk):Nat:=(o.map fun q=>L - ρ q).sum
theorem b5m {o:List Nm} {f g:Nm→Nat} (h:∀ x ∈ o,f x≤g x):(o.map f).sum≤(o.map g).sum:=by
 induction o with
 | nil=>exact zxy _
 | cons q r ih =>
  have:=h q (.head _)
  have:=ih fun x hx=>h x (.tail _ hx)
  simp only [zsx,List.sum_cons]
  omega
theorem bFo {o:List Nm} {f g:Nm→Nat} (h:∀ x ∈ o,f x≤g x) (hq:∃ q ∈ o,f q < g q):(o.map f).sum < (o.map g).sum:=by
 induction o with
 | nil=>obtain ⟨q,hq,_⟩:=hq; cases hq
 | cons a r ih =>
  simp only [zsx,List.sum_cons]
  obtain ⟨q,hq,hlt⟩:=hq
  have h1:=h a (.head _)
  have h2:=b5m (o:=r) (f:=f) (g:=g) fun x hx=>h x (.tail _ hx)
  rcases List.mem_cons.1 hq with rfl | hq
  ·omega
  ·have:=ih (fun x hx=>h x (.tail _ hx)) ⟨q,hq,hlt⟩
   omega
theorem aO8 {W:Nm→List Wy} {L:Nat} {o:List Nm} {ρ ρ':Rk} (hn:o.Nodup) (h:iX W L o (ρ,false)=some (ρ',true)):a9u L o ρ' < a9u L o ρ:=by
 refine bFo (fun x _=>by have:=aIg x h; dsimp only at this; omega) ?_
 rcases aQx h rfl with h1 | ⟨q,hq,h1⟩
 ·cases h1
 ·refine ⟨q,hq,?_⟩
  have h2:=aVf h hn q hq
  dsimp only at h1 h2
  omega
theorem aY3 (W:Nm→List Wy) (L:Nat) (o:List Nm) (hn:o.Nodup):∀ (m:Nat) (ρ:Rk),a9u L o ρ≤m→∃ r,pB W L o ρ r:=by
 intro m
 induction m with
 | zero =>
  intro ρ hm
  cases hp:iX W L o (ρ,false) with
  | none=>exact ⟨_,.bad hp⟩
  | some t =>
   obtain ⟨ρ',b⟩:=t
   cases b with
   | false=>exact ⟨_,.done hp⟩
   | true=>have:=aO8 hn hp; omega
 | succ m ih =>
  intro ρ hm
  cases hp:iX W L o (ρ,false) with
  | none=>exact ⟨_,.bad hp⟩
  | some t =>
   obtain ⟨ρ',b⟩:=t
   cases b with
   | false=>exact ⟨_,.done hp⟩
   | true =>
    have:=aO8 hn hp
    obtain ⟨r,hr⟩:=ih ρ' (by omega)
    exact ⟨r,.more hp hr⟩
theorem aK6 {p:Nat→Prop} (h:∃ n,p n):∃ n,p n∧∀ m,p m→n≤m:=by
 obtain ⟨n,hn⟩:=h
 induction n using Nat.strongRecOn with
 | _ n ih =>
  by_cases hm:∃ m,m < n∧p m
  ·obtain ⟨m,h1,h2⟩:=hm
   exact ih m h1 h2
  ·exact ⟨n,hn,fun m h=>Nat.le_of_not_lt fun h1=>hm ⟨m,h1,h⟩⟩
open Classical in
noncomputable def least (p:Nat→Prop):Nat:=if h:∃ n,p n then Classical.choose (aK6 h) else 0
theorem aDo {p:Nat→Prop} (h:∃ n,p n):p (least p):=by
 unfold least
 rw [dif_pos h]
 exact (Classical.choose_spec (aK6 h)).1
theorem least_le {p:Nat→Prop} {m:Nat} (h:p m):least p≤m:=by
 have hex:∃ n,p n:=⟨m,h⟩
 unfold least
 rw [dif_pos hex]
 exact (Classical.choose_spec (aK6 hex)).2 m h
end Go.Fbs

namespace Go.Fbs
open Go.Proofs Go.RowKit Go.Maps
open Go.WideElems (Fit rd rg pl rd_val elemAt)
open Go.MapKept Go.ChangeMaps Go.WideShapes
theorem b19 {H:Type} {w:World} {P:Program} {K:TypeId} {R:Value→Option (DataW H×List MemPlace)} {b n m:Nat} {D:DataW H} (h:w.ownsMap P K R b n D) (hm:Maps.size D≤m):w.ownsMap P K R b m D:=by
 obtain ⟨es,clock,h1,h2,h3,rfl⟩:=h
 exact ⟨es,clock,h1,h2,by simpa [Maps.size,length_sorted] using hm,rfl⟩
variable {P:Program} {K T E:TypeId} {w w':World} {b n k:Nat} {m:Mp}
theorem jH.bFp (h:jH P K w b n m) (kl0:WideMaps.KeyLaw P K) (ht:P.underlying T=some (.map K E)) (hn:n < maxLen) {z:Value} (hz:∀ u:World,(zeroValue E).run P u = .ok z u) {key:Value} {kl:Lit} (hkey:keyOf P K key=some kl) (hk:WideAt.IsKeyLit kl) :
  ∃ v0 st w1,(Instr.mapEntry T (.map (some b)) key).run P w = .ok (.tuple #[v0,goInt st]) w1∧w.grownBy w1 (some b) ∧
   ∀ val,∃ w2,(Instr.entryStore T (.map (some b)) (goInt st) val).run P w1 = .ok () w2∧jH P K w2 b (if (m kl).isSome then n else n+1) (kJ m kl val)∧w.grownBy w2 (some b):=by
 obtain ⟨D,h1,h2⟩:=h
 have h1':=h1
 obtain ⟨es,clock,hb,F,hs,hD⟩:=h1
 obtain ⟨v0,st,es1,clock1,hr,_,hst⟩:=WideElems.entry_then_store kl0 ht hz hb F hkey
 refine ⟨v0,st,_,hr,⟨rfl,rfl,rfl,by simp [setBlock],fun i _ hi=>heap_setBlock_other hb _ (fun e=>hi (by rw [e]))⟩,fun val=>?_⟩
 have hb1 : (setBlock w b (.map es1 clock1)).heap[b]? = some (.map es1 clock1):=heap_setBlock_same hb _
 obtain ⟨es',clock',hr2,hup⟩:=hst _ val hb1
 obtain ⟨w',hr3,h3,h4⟩:=h1'.update (Keyed.of_law kl0) ht hn hkey (val:=val) (d:=.held val) (ps:=[]) rfl
 rw [hup] at hr3
 have e:setBlock w b (.map es' clock')=w':=by simpa using hr3
 have e2:setBlock (setBlock w b (.map es1 clock1)) b (.map es' clock')=w':=by rw [← e]; simp [setBlock]
 have hsz:=size_put (k:=kl) (h1'.tidy (Keyed.of_law kl0)) (.held val)
 rw [jH.has h2 hk] at hsz
 have hle:=h1'.size_le
 refine ⟨_,hr2,?_,by rw [e2]; exact h4⟩
 rw [e2]
 refine ⟨_,b19 h3 ?_,aUz h1'.isMap h2 hk val⟩
 rw [hsz]
 split <;> omega
variable {mt:Lit→Option Int} {mr:Lit→Option RX} {mk:Lit→Option Nat} {W:World}
theorem gL.bCw (h:gL W n k mt mr mk) (hk:k < maxLen) {a b:List UInt8} (ha:a.length≤maxLen) (hb:b.length≤maxLen) (i:Nat) :
  ∃ v0 st w1 w2,(Instr.mapEntry 94 (.map (some (n+2))) (.agg #[.string ⟨⟨a⟩⟩,.string ⟨⟨b⟩⟩])).run Try.prog W = .ok (.tuple #[v0,.int .i64 st]) w1 ∧
   (Instr.entryStore 94 (.map (some (n+2))) (.int .i64 st) (.int .i64 (i:Int))).run Try.prog w1 = .ok () w2∧gL w2 n (if (mk (dY a b)).isSome then k else k+1) mt mr (kJ mk (dY a b) i)∧W.grownBy w2 (some (n+2)):=by
 obtain ⟨v0,st,w1,h1,h2,h3⟩:=h.k.bFp aU0 Try.underlying94 hk bFn (a3d ha hb) trivial
 obtain ⟨w4,h4,h5,h6⟩:=h3 (.int .i64 (i:Int))
 have hlt:=h.lt
 have hb : ∀ b,n + 2 ≠ b → b ≤ n + 3 → w4.heap[b]? = W.heap[b]?:=fun b h4 h5=>h6.block b (by omega) fun e=>by cases e; omega
 have hle:k≤if (mk (dY a b)).isSome then k else k+1:=by split <;> omega
 refine ⟨v0,st,w1,w4,h1,h4,⟨(hb _ (by omega) (by omega)).trans h.s,(h.t.same (hb _ (by omega) (by omega))).mono hle,(h.r.same (hb _ (by omega) (by omega))).mono hle,?_⟩,h6⟩
 rw [aO6]
 rw [show ((mk (dY a b)).map fun i:Nat=>Value.int .i64 (i:Int)).isSome=(mk (dY a b)).isSome from by cases mk (dY a b) <;> rfl] at h5
 exact h5
structure GKw (n:Nat) (w w':World):Prop where
 os:w'.os=w.os
 output:w'.output=w.output
 size:w.heap.size≤w'.heap.size
 block : ∀ b,b < w.heap.size → b ≠ n + 2 → w'.heap[b]? = w.heap[b]?
theorem GKw.refl (n:Nat) (w:World):GKw n w w:=⟨rfl,rfl,zxy _,fun _ _ _=>rfl⟩
theorem GKw.jI {n:Nat} {w w' w'':World} (h:GKw n w w') (k:dU w' w''):GKw n w w'' :=
 ⟨k.os.trans h.os,k.output.trans h.output,Nat.le_trans h.size k.size,fun b hb hn=>(k.same b (zuz hb h.size)).trans (h.block b hb hn)⟩
theorem GKw.grown {n:Nat} {w w' w'':World} (h:GKw n w w') (k:w'.grownBy w'' (some (n+2))):GKw n w w'' :=
 ⟨k.os.trans h.os,k.output.trans h.output,Nat.le_trans h.size k.size,fun b hb hn=>(k.block b (zuz hb h.size) fun e=>hn (Option.some.inj e)).trans (h.block b hb hn)⟩
theorem b5n {n':Nat} {base:Nat} {e:TypeId} {size n:Nat} {v:Value} {xs:List Value} (h:w.ownsRow base e size v n xs) (hs:GKw n' w w') (hb:n'+2 < base):w'.ownsRow base e size v n xs:=by
 obtain ⟨h1,h2⟩:=h
 refine ⟨h1,?_⟩
 rcases h2 with h2 | ⟨g,cap,cur,hv,hg,hh,hr⟩
 ·exact .inl h2
 ·exact .inr ⟨g,cap,cur,hv,hg,(hs.block g (zsz.1 hh).1 (by omega)).trans hh,hr⟩
def aK7 (mk:Lit→Option Nat) (ρ:Rk):Prop:=∀ q:Nm,q.1.length≤1000→q.2.length≤1000→(mk (dY q.1 q.2)).getD 0=ρ q
theorem aK7.put {ρ:Rk} (h:aK7 mk ρ) {q:Nm} (h1:q.1.length≤1000) (h2:q.2.length≤1000) (v:Nat):aK7 (kJ mk (dY q.1 q.2) v) (wI ρ q v):=fun x h3 h4=>by
 unfold kJ wI
 by_cases e:x=q
 ·subst e
  rw [if_pos rfl,if_pos rfl]; rfl
 ·rw [if_neg e,if_neg fun hk=>e ?_]
  ·exact h x h3 h4
  ·have:=aDk (by unfold maxLen; omega) (by unfold maxLen; omega) (by unfold maxLen; omega) (by unfold maxLen; omega) hk
   exact Prod.ext this.1 this.2
def aAm (mk:Lit→Option Nat) (o:List Nm):Nat:=(o.filter fun q=>(mk (dY q.1 q.2)).isSome).length
theorem bCx (mk:Lit→Option Nat) (o:List Nm):aAm mk o≤o.length:=List.length_filter_le _ _
theorem b8v {mk:Lit→Option Nat} {o:List Nm} {q:Nm} (hq:q ∈ o) (v:Nat):(if (mk (dY q.1 q.2)).isSome then aAm mk o else aAm mk o+1)≤aAm (kJ mk (dY q.1 q.2) v) o:=by
 have hmono:∀ x:Nm,(mk (dY x.1 x.2)).isSome=true→(kJ mk (dY q.1 q.2) v (dY x.1 x.2)).isSome=true:=fun x hx=>by
  unfold kJ
  split
  ·rfl
  ·exact hx
 have hle:∀ o:List Nm,aAm mk o≤aAm (kJ mk (dY q.1 q.2) v) o:=by
  intro o
  induction o with
  | nil=>exact zxy _
  | cons x r ih =>
   unfold aAm at ih ⊢
   rw [List.filter_cons,List.filter_cons]
   by_cases h1:(mk (dY x.1 x.2)).isSome=true
   ·rw [if_pos h1,if_pos (hmono x h1)]
    simp only [zwx]; omega
   ·rw [if_neg h1]
    split
    ·simp only [zwx]; omega
    ·exact ih
 by_cases hs:(mk (dY q.1 q.2)).isSome=true
 ·rw [if_pos hs]; exact hle o
 ·rw [if_neg hs]
  induction o with
  | nil=>cases hq
  | cons x r ih =>
   rcases List.mem_cons.1 hq with rfl | hq
   ·have:=hle r
    unfold aAm at this ⊢
    rw [List.filter_cons,if_neg hs,List.filter_cons,if_pos (by unfold kJ; rw [if_pos rfl]; rfl)]
    simp only [zwx]; omega
   ·have:=ih hq
    unfold aAm at this ⊢
    rw [List.filter_cons,List.filter_cons]
    by_cases h1:(mk (dY x.1 x.2)).isSome=true
    ·rw [if_pos h1,if_pos (hmono x h1)]
     simp only [zwx]; omega
    ·rw [if_neg h1]
     split
     ·simp only [zwx]; omega
     ·exact this
end Go.Fbs

/- Common texts: values, words, what they answer; no statement of the seat. -/
import Derived.Test.YtngdbicnabbplaaS1
import Derived.Lib.ConvBytes
import Derived.Laws.BytesString
import Derived.Carry
import Derived.ChangeMaps5
import Derived.OpenShut
set_option linter.unusedSimpArgs false
set_option linter.unusedVariables false
set_option linter.unusedSectionVars false
/- Calls and appends; an operation,whatever it is. -/
namespace Go.Fbs
section
variable {P:Program} {tt:TT} (hT:∀ t ti,cU tt t=some ti→aV P ti∧ti.t=t)
variable {p:PT} {Q:V→Prop} {ks:List (List V→Prop)} {N:Nat} {gk:Nat→Option Nat} {gb:List Nat} {S:SS} {ρ:Nat→V} {env:Env} {m:Hp}
include hT in
theorem aW8 (c:aH N gk gb S ρ env m) {g:Gd} {t:TypeId} {x y:Operand} {k:SV→SS→OL} {L:L} (h:gO tt g (.makeSlice t x y) S k=some L) (hw:L.wp p Q S.nv ρ ks):Fin p Q ks N ρ S env k (LO' P tt p g env m (.makeSlice t x y)):=by
 simp only [gO] at h
 split at h
 ·rename_i ti a b hti ha hb
  obtain ⟨tok,htt⟩:=hT t ti hti
  have hd:=tok.d
  rw [htt] at hd
  obtain ⟨v1,h1,h1',_⟩:=c.wU ha
  obtain ⟨v2,h2,h2',_⟩:=c.wU hb
  split at h
  ·rename_i e hdd
   rw [hdd] at hd
   have hu:P.underlying t=some (.slice e):=hd
   split at h
   ·rename_i ei hei
    obtain ⟨etok,het⟩:=hT e ei hei
    have hsz:=etok.sz; have hby:=etok.fL
    rw [het] at hsz hby
    split at h
    ·rename_i z hz
     obtain ⟨zv,hz1,hz2,hz3,hz4⟩:=etok.z z hz
     rw [het] at hz1
     cases hc:(Nat.blt 0 ei.sz && Nat.beq z.length ei.sz && (ei.agg || Nat.beq ei.sz 1)) with
     | false=>rw [hc] at h; simp at h
     | true =>
      rw [hc] at h
      simp only [cond_true] at h
      simp only [zxz] at hc
      have hpos:=iC hc.1.1
      have hzl:=zzx hc.1.2
      have hzv:(bif ei.agg then V.agg (z.map V.aF) else (z.map V.aF).headD .undef)=zv.aF:=by
       cases hag:ei.agg with
       | true=>rw [hz3 hag]; simp [V.aF,cI]
       | false=>rw [hz4 hag]; rfl
      obtain ⟨w,L',kn,bl,e2,e3,e4,e5⟩:=kN c h hw
      simp only [jE,E.ev,← h1',← h2',hzv] at e2
      unfold aRv at e2
      split at e2
      ·rename_i k1 n1 k2 n2 e6 e7
       rw [lP e6] at h1
       rw [lP e7] at h2
       split at e2
       ·rename_i hcond
        simp only [zzz] at e2
        have hev:evalW P (CE tt p) env m (.makeSlice t x y)=if n1=n2 then some (.sl .full (List.replicate n1.toNat zv),m) else some (.sl (.own m.T.length) (List.replicate n1.toNat zv),{ m with T:=m.T++[(n1.toNat,nM e ei.sz)] }):=by
         simp only [evalW,h1,h2]
         rw [aWw hu hsz hz1 hby (by rw [hz2]; exact hzl) hpos]
         simp only [aB5]
         rw [if_pos hcond]
        have hden:ext ρ S.nv w S.nv = .sl .ro ((List.replicate n1.toNat zv).map V.aF):=by rw [kD,← e2]; simp
        cases hz:(Nat.beq (nM e ei.sz) 1 && !b0i a) with
        | true =>
         rw [hz] at e3
         have hval:∀ tg:Tag,(V.sl tg (List.replicate n1.toNat zv)).aF=ext ρ S.nv w S.nv:=fun tg=>by
          rw [hden]; simp only [V.aF,cI]
         by_cases hn:n1=n2
         ·rw [if_pos hn] at hev
          exact ⟨_,m,_,_,_,L',gk,gb,⟨rfl,rfl,yI rfl rfl hev⟩,e3,e4,e5,hval _,mZ _,bZ _ _ _,Nat.le_succ _,rfl⟩
         ·rw [if_neg hn] at hev
          have c1:=e5.b00 (T':=m.T++[(n1.toNat,nM e ei.sz)]) (by simp) (fun k i x hk hx=>by
           rw [ztz (zzy.1 hx).1]; exact hx)
          exact ⟨_,_,_,_,_,L',gk,gb,⟨rfl,rfl,yI rfl rfl hev⟩,e3,e4,c1,hval _,mZ _,bZ _ _ _,Nat.le_succ _,rfl⟩
        | false =>
         rw [hz] at e3
         by_cases hn:n1=n2
         ·rw [if_pos hn] at hev
          refine ⟨_,m,_,_,_,L',gk,gb,⟨rfl,rfl,yI rfl rfl hev⟩,e3,e4,e5.b7t,⟨_,hden,.inl ⟨rfl,fun h1=>?_⟩⟩,mZ _,bZ _ _ _,Nat.le_succ _,rfl⟩
          rw [h1] at hz
          simp only [Nat.beq_refl,Bool.true_and,Bool.not_eq_false'] at hz
          rw [List.length_replicate]
          unfold b0i at hz
          split at hz
          ·rw [h1'] at e6
           have e6:V.int _ _=V.int k1 n1:=e6
           simp only [V.int.injEq] at e6
           rw [← e6.2]; rfl
          ·simp at hz
         ·rw [if_neg hn] at hev
          have c1:=e5.b00 (T':=m.T++[(n1.toNat,nM e ei.sz)]) (by simp) (fun k i x hk hx=>by
           rw [ztz (zzy.1 hx).1]; exact hx)
          have c2:=c1.aH5 (i:=m.T.length) (by simp) (fun k hk=>by have:=(e5.tY k _ hk).2; omega)
          exact ⟨_,_,_,_,_,L',_,gb,⟨rfl,rfl,yI rfl rfl hev⟩,e3,e4,c2,⟨_,hden,.inr ⟨m.T.length,by simp [SS.lL],rfl,by simp⟩⟩,mZ _,bZ _ _ _,Nat.le_succ _,rfl⟩
       ·simp at e2
      ·simp at e2
    ·simp at h
   ·simp at h
  ·simp at h
 ·simp at h
include hT in
theorem b7u (c:aH N gk gb S ρ env m) {g:Gd} {args:Array Operand} {ts:Array TypeId} {k:SV→SS→OL} {L:L} (h:gO tt g (.call ⟨.builtin .append,args,ts⟩) S k=some L) (hw:L.wp p Q S.nv ρ ks):Fin p Q ks N ρ S env k (LO' P tt p g env m (.call ⟨.builtin .append,args,ts⟩)):=by
 simp only [gO] at h
 split at h
 ·rename_i hcal _; simp at hcal
 ·rename_i hcal; simp at hcal
 ·rename_i hcal; simp at hcal
 ·rename_i t u hcal hts
  split at h
  ·rename_i ti ui x y hti hui hargs
   split at h
   ·rename_i e sx b hdd hsx hb
    obtain ⟨tok,htt⟩:=hT t ti hti
    obtain ⟨utok,hut⟩:=hT u ui hui
    have hd:=tok.d
    rw [htt,hdd] at hd
    have hu:P.underlying t=some (.slice e):=hd
    have hud:=utok.d
    rw [hut] at hud
    obtain ⟨vx,h1,h2,h2b⟩:=c.gI hsx
    obtain ⟨vy,h3,h3',h3b⟩:=c.wU hb
    split at h
    ·rename_i ei hei
     obtain ⟨etok,het⟩:=hT e ei hei
     have hsz:=etok.sz; have hby:=etok.fL
     rw [het] at hsz hby
     split at h
     ·rename_i z hz
      obtain ⟨zv,hz1,hz2,_⟩:=etok.z z hz
      rw [het] at hz1
      cases hc:(Nat.blt 0 ei.sz && Nat.beq z.length ei.sz) with
      | false=>rw [hc] at h; simp at h
      | true =>
       rw [hc] at h
       simp only [cond_true] at h
       simp only [zxz] at hc
       have hpos:=iC hc.1
       have hzl:=zzx hc.2
       have fin : ∀ {E' : E} {a : A} {L : Go.Fbs.L},L.wp p Q S.nv ρ ks → sx.a? = some a → ((∃ q,sx = .grow q (nM e ei.sz) a) ∨ sx = .nJ) →
         emit none E' (S.a0x sx) (fun y S'=>k (.grow S'.nk (nM e ei.sz) y) { S' with nk:=S'.nk+1 })=some L →
         (∀ w,E'.ev p ρ=some w→∃ g es ys,vx = .sl g es∧w = .sl .ro ((es++ys).map V.aF)∧(es.length+ys.length)*(ei.fL+1)≤70368744177664∧es.all (fun e=>e.cells.length == ei.sz)=true∧ys.all (fun e=>e.cells.length == ei.sz)=true ∧
          qM P .append [t,u] [vx,vy] m=a3t ei.sz (nM e ei.sz) ei.fL vx ys m) →
         Fin p Q ks N ρ S env k (LO' P tt p none env m (.call ⟨.builtin .append,args,ts⟩)):=by
        intro E' a L hw ha hcase he hE
        have hwS:L.wp p Q (S.a0x sx).nv ρ ks:=by cases sx <;> exact hw
        obtain ⟨gk1,c1,hnv,hdep⟩:∃ gk1,aH N gk1 gb (S.a0x sx) ρ env m∧(S.a0x sx).nv=S.nv∧(S.a0x sx).dep=S.dep:=by
         rcases hcase with ⟨q,rfl⟩ | rfl
         ·exact ⟨_,c.kC q,rfl,rfl⟩
         ·exact ⟨gk,c,rfl,rfl⟩
        obtain ⟨w,L',kn,bl,e2,e3,e4,e5⟩:=kN c1 he hwS
        obtain ⟨g0,es,ys,e6,e7,e8,e9,e10,e11⟩:=hE w e2
        obtain ⟨v,m',gk',a1,a2,a3,a4⟩:=aW7 c h2 (n:=ei.sz) (cd:=nM e ei.sz) e6 (by rcases hcase with ⟨q,h⟩ | h; exact .inl ⟨q,a,h⟩; exact .inr h) e8 e9 e10
        rw [hnv] at e3 e4 e5
        have c2:aH N gk' gb { ((S.a0x sx).lL (S.nv+1) kn bl) with nk:=S.nk+1 } (ext ρ S.nv w) env m':=by
         refine ⟨a3.n,fun t' s hs=>?_,fun b' cells hb'=>?_,a3.lT,a3.oY,a3.blt,a3.kY,a3.tY,e5.known,e5.cS,a3.own⟩
         ·obtain ⟨q1,q2,q3⟩:=a3.cE t' s hs
          exact ⟨q1,q2.agree (bZ _ _ _) (by rw [← hnv]; exact q3),SV.cF q3 (by show (S.a0x sx).nv≤S.nv+1; omega)⟩
         ·obtain ⟨l,cs,q1,q2,q3⟩:=a3.boxes b' cells hb'
          have q3':Cells ρ gk' gb m'.T S.nv cells cs:=by rw [← hnv]; exact q3
          exact ⟨l,cs,q1,q2,q3'.agree (bZ _ _ _) (Nat.le_succ _)⟩
        have hnk:(S.a0x sx).nk=S.nk:=by cases sx <;> rfl
        refine ⟨v,m',.grow S.nk (nM e ei.sz) (.v S.nv),_,_,L',gk',gb,⟨rfl,rfl,yI rfl rfl ?_⟩,?_,e4,c2,a4 _ _ ?_,mZ _,bZ _ _ _,Nat.le_succ _,hdep⟩
        ·simp only [evalW,hargs,Fbs.nN,h1,h3,hts]
         rw [e11]; exact a1
        ·rw [← e3]
         simp only [SS.lL,hnk]
        ·show ext ρ S.nv w S.nv=_; rw [kD]; exact e7
       have hslice : ∀ {a : A} {L : Go.Fbs.L} {e' : TypeId},L.wp p Q S.nv ρ ks → sx.a? = some a → ((∃ q,sx = .grow q (nM e ei.sz) a) ∨ sx = .nJ) → ui.d = .sl e' → emit none (.app ei.sz ei.fL a b) (S.a0x sx) (fun y S'=>k (.grow S'.nk (nM e ei.sz) y) { S' with nk:=S'.nk + 1 }) = some L →
         Fin p Q ks N ρ S env k (LO' P tt p none env m (.call ⟨.builtin .append,args,ts⟩)):=by
        intro a L e' hw ha hcase hue he
        rw [hue] at hud
        refine fin hw ha hcase he fun w hw'=>?_
        simp only [E.ev,← vY h2 ha,← h3'] at hw'
        obtain ⟨g0,es,g1,ys,r1,r2,r3,r4,r5,r6⟩:=aP5 hw'
        refine ⟨g0,es,ys,r1,r3,r4,r5,r6,?_⟩
        rw [b7b hu hud hsz hz1 hby (by rw [hz2]; exact hzl) hpos,r2]; rfl
       have hstr : ∀ {a : A} {L : Go.Fbs.L},L.wp p Q S.nv ρ ks → sx.a? = some a → ((∃ q,sx = .grow q (nM e ei.sz) a) ∨ sx = .nJ) → ui.d = .str → ei.sz = 1 → emit none (.aTa ei.fL a b) (S.a0x sx) (fun y S'=>k (.grow S'.nk (nM e ei.sz) y) { S' with nk:=S'.nk + 1 }) = some L →
         Fin p Q ks N ρ S env k (LO' P tt p none env m (.call ⟨.builtin .append,args,ts⟩)):=by
        intro a L hw ha hcase hue hone he
        rw [hue] at hud
        refine fin hw ha hcase he fun w hw'=>?_
        simp only [E.ev,← vY h2 ha,← h3'] at hw'
        unfold b0e at hw'
        split at hw'
        ·rename_i s hs
         have hby':(V.sl .ro (s.map fun b=>V.int .u8 b.toNat)).aF = .sl .ro (s.map fun b=>.int .u8 b.toNat):=by simp [V.aF,cI]
         rw [← hby'] at hw'
         obtain ⟨g0,es,g1,ys,r1,r2,r3,r4,r5,r6⟩:=aP5 hw'
         simp only [V.sl.injEq] at r2
         obtain ⟨_,rfl⟩:=r2
         rw [← hone] at r5 r6
         refine ⟨g0,es,_,r1,r3,r4,r5,r6,?_⟩
         rw [b3h hu hud (by rw [hsz,hone]) hz1 hby (by rw [hz2,hzl,hone]),a1k hs,hone]; rfl
        ·simp at hw'
       split at h
       ·rename_i q sz a
        cases hz':Nat.beq sz (nM e ei.sz) with
        | false=>rw [hz'] at h; simp at h
        | true =>
         rw [hz'] at h
         simp only [cond_true] at h
         have:=zzx hz'
         subst this
         split at h
         ·rename_i e' hue
          exact hslice (a:=a) hw rfl (.inl ⟨q,rfl⟩) hue h
         ·rename_i hue
          cases h1':Nat.beq ei.sz 1 with
          | false=>rw [h1'] at h; simp at h
          | true =>
           rw [h1'] at h
           exact hstr (a:=a) hw rfl (.inl ⟨q,rfl⟩) hue (zzx h1') h
         ·simp at h
       ·split at h
        ·rename_i e' hue
         exact hslice (a:=aFr) hw rfl (.inr rfl) hue h
        ·rename_i hue
         cases h1':Nat.beq ei.sz 1 with
         | false=>rw [h1'] at h; simp at h
         | true =>
          rw [h1'] at h
          exact hstr (a:=aFr) hw rfl (.inr rfl) hue (zzx h1') h
        ·simp at h
       ·simp at h
     ·simp at h
    ·simp at h
   ·simp at h
  ·simp at h
 all_goals first | (simp at h; done) | (rename_i hcal; exact absurd hcal (by simp)) | (rename_i hcal _; exact absurd hcal (by simp))
end
end Go.Fbs

/- A call that is led to boxes. -/
namespace Go.Fbs
theorem tK {l:List Nat} {t:Nat} : wV l t=true↔t ∈ l:=by
 unfold wV
 rw [List.any_eq_true]
 exact ⟨fun ⟨x,h1,h2⟩=>by rw [zzx h2]; exact h1,fun h=>⟨t,h,Nat.beq_refl t⟩⟩
section
variable {α:Type} {f:Nat→α}
theorem a7y:a2k f ([]:List α):=fun i j n h=>by simp at h
theorem a1l {x:α} {l:List α} (h:a2k f l) (hx:∀ n,x=f n→f n ∉ l):a2k f (x::l):=by
 intro i j n h1 h2
 cases i with
 | zero =>
  simp only [zux,zzz] at h1
  cases j with
  | zero=>rfl
  | succ j=>exact absurd (zyx (by simpa using h2)) (hx n h1)
 | succ i =>
  cases j with
  | zero =>
   simp only [zux,zzz] at h2
   exact absurd (zyx (by simpa using h1)) (hx n h2)
  | succ j=>rw [h i j n (by simpa using h1) (by simpa using h2)]
theorem a1m {x:α} {l:List α} (h:a2k f (x::l)):a2k f l∧∀ n,x=f n→f n ∉ l:=by
 refine ⟨fun i j n h1 h2=>?_,fun n hx hm=>?_⟩
 ·have:=h (i+1) (j+1) n (by simpa using h1) (by simpa using h2)
  omega
 ·obtain ⟨j,hj⟩:=List.mem_iff_getElem?.1 hm
  have:=h 0 (j+1) n (by simp [hx]) (by simpa using hj)
  omega
theorem aJa {a b:List α} (ha:a2k f a) (hb:a2k f b) (hd:∀ n,f n ∈ a→f n ∉ b):a2k f (a++b):=by
 induction a with
 | nil=>exact hb
 | cons x a ih =>
  obtain ⟨h1,h2⟩:=a1m ha
  refine a1l (ih h1 fun n hn=>hd n (List.mem_cons_of_mem _ hn)) fun n hx hm=>?_
  rcases List.mem_append.1 hm with h3 | h3
  ·exact h2 n hx h3
  ·exact hd n (by rw [← hx]; exact List.mem_cons_self) h3
theorem b01 {a b:List α} (h:a2k f (a++b)):a2k f a∧a2k f b∧∀ n,f n ∈ a→f n ∉ b:=by
 induction a with
 | nil=>exact ⟨a7y,h,fun n hn=>by simp at hn⟩
 | cons x a ih =>
  obtain ⟨h1,h2⟩:=a1m (show a2k f (x::(a++b)) from h)
  obtain ⟨h3,h4,h5⟩:=ih h1
  refine ⟨a1l h3 fun n hx hm=>h2 n hx (List.mem_append_left _ hm),h4,fun n hn hm=>?_⟩
  rcases List.mem_cons.1 hn with h6 | h6
  ·exact h2 n h6.symm (List.mem_append_right _ hm)
  ·exact h5 n h6 hm
end
theorem a6s:∀ {l:List Nat},zE l=true→a7t l
 | [],_=>a7y
 | n::r,h=>by
  simp only [zE,zxz,Bool.not_eq_true'] at h
  refine a1l (a6s h.2) fun k hk hm=>?_
  subst hk
  rw [tK.2 hm] at h
  simp at h
def AI.den (ρ:Nat→V):AI→V
 | .w a=>a.den ρ
 | .b _ as _=>.agg (as.map (A.den ρ))
def AI.below (n:Nat):AI→Bool
 | .w a=>a.below n
 | .b _ as _=>as.all (A.below n)
def zZ:List AI→List (List CK)
 | []=>[]
 | .w _::r=>zZ r
 | .b _ _ ks::r=>ks::zZ r
section
variable {gk:Nat→Option Nat} {gb:List Nat} {ρ:Nat→V} {T:List (Nat×Nat)} {nv:Nat}
theorem a6t {b : Nat} : ∀ {cks : List CK} {cells : List SV} {as : List A} {ids : List Nat},cellsIn b cks cells = some (as,ids) → ∀ t,tyK cks = some t → ∃ (j b' : Nat) (a : A),cells[j]? = some (SV.self t b' a)
 | [],_,as,ids,e=>fun t ht=>by simp [tyK] at ht
 | .self t0::ks,[],as,ids,e=>fun t ht=>by simp [cellsIn] at e
 | .pl::ks,[],as,ids,e=>fun t ht=>by simp [cellsIn] at e
 | .gr _ _::ks,[],as,ids,e=>fun t ht=>by simp [cellsIn] at e
 | .self t0::ks,s::ss,as,ids,e=>fun t ht=>by
  simp only [tyK,zzz] at ht
  subst ht
  simp only [cellsIn] at e
  split at e
  ·rename_i a q ha hq
   exact ⟨0,b,a,by rw [a6p ha]; rfl⟩
  ·simp at e
 | .pl::ks,s::ss,as,ids,e=>fun t ht=>by
  simp only [cellsIn] at e
  split at e
  ·rename_i a q ha hq
   obtain ⟨j,b',a',h⟩:=a6t (as:=q.1) (ids:=q.2) hq t ht
   exact ⟨j+1,b',a',by simpa using h⟩
  ·simp at e
 | .gr sz _::ks,s::ss,as,ids,e=>fun t ht=>by
  simp only [cellsIn] at e
  split at e
  ·rename_i a q hq
   obtain ⟨j,b',a',h⟩:=a6t (as:=q.1) (ids:=q.2) hq t ht
   exact ⟨j+1,b',a',by simpa using h⟩
  ·rename_i q hq
   obtain ⟨j,b',a',h⟩:=a6t (as:=q.1) (ids:=q.2) hq t ht
   exact ⟨j+1,b',a',by simpa using h⟩
  ·simp at e
theorem aJb {b:Nat} {cks:List CK} {cells:List SV} {q:List A×List Nat} {e:Option Nat} (h:cellsIn b cks cells=some q) (hs:STy cells e):a6k cks e=true:=by
 unfold a6k
 split
 ·rfl
 ·rename_i t ht
  obtain ⟨j,b',a,hj⟩:=a6t (as:=q.1) (ids:=q.2) h t ht
  rw [hs j t b' a hj]
  simp
theorem aOt:∀ {ks:List CK} {t:Nat},CK.self t ∈ ks→∃ t',tyK ks=some t'
 | [],t,h=>by simp at h
 | .self t0::ks,t,h=>⟨t0,rfl⟩
 | .pl::ks,t,h=>aOt (ks:=ks) (by simpa using h)
 | .gr _ _::ks,t,h=>aOt (ks:=ks) (by simpa using h)
theorem b36 {ks:List CK} (h:a7u ks=true) {t:Nat} (hm:CK.self t ∈ ks):tyK ks=some t:=by
 obtain ⟨t',ht⟩:=aOt hm
 have:=List.all_eq_true.1 h _ hm
 simp only [a6k,ht,beq_iff_eq,zzz] at this
 rw [ht,this]
theorem a9d {b z t b' : Nat} {a : A} : ∀ {ks : List CK} {j q i : Nat},(dJ b z j q ks)[i]? = some (.self t b' a) → CK.self t ∈ ks
 | [],j,q,i,h=>by simp [dJ] at h
 | .pl::ks,j,q,i,h=>by
  cases i with
  | zero=>simp [dJ] at h
  | succ i=>exact List.mem_cons_of_mem _ (a9d (by simpa [dJ] using h))
 | .gr _ _::ks,j,q,i,h=>by
  cases i with
  | zero=>simp [dJ] at h
  | succ i=>exact List.mem_cons_of_mem _ (a9d (by simpa [dJ] using h))
 | .self t0::ks,j,q,i,h=>by
  cases i with
  | zero=>simp [dJ] at h; rw [h.1]; exact List.mem_cons_self
  | succ i=>exact List.mem_cons_of_mem _ (a9d (by simpa [dJ] using h))
theorem aTx {b z j q:Nat} {ks:List CK} (h:a7u ks=true):STy (dJ b z j q ks) (tyK ks):=fun _ _ _ _ hj=>b36 h (a9d hj)
theorem uM (kY : ∀ k k' i,gk k = some i → gk k' = some i → k = k') {b l : Nat} (hbl : gb[b]? = some l) : ∀ {cks : List CK} {cells : List SV} {cs : List V} {as : List A} {ids : List Nat},cellsIn b cks cells = some (as,ids) → Cells ρ gk gb T nv cells cs →
  ∃ gs,gT l T cks cs=some (as.map (A.den ρ),gs)∧(∀ i,GA.own i ∈ gs→∃ k ∈ ids,gk k=some i)∧(a7t ids→aCa gs)∧as.all (A.below nv)=true
 | [],[],cs,as,ids,e,h=>by
  simp only [cellsIn,zzz,zvy] at e
  obtain ⟨rfl,rfl⟩:=e
  obtain rfl:=List.eq_nil_of_length_eq_zero h.1.symm
  exact ⟨[],rfl,fun i hi=>by simp at hi,fun _=>a7y,rfl⟩
 | .pl::ks,s::ss,cs,as,ids,e,h=>by
  obtain ⟨hl,hc⟩:=h
  cases cs with
  | nil=>simp at hl
  | cons c cs =>
   simp only [cellsIn] at e
   split at e
   ·rename_i a q ha hq
    simp only [zzz,zvy] at e
    obtain ⟨rfl,rfl⟩:=e
    obtain ⟨gs,h1,h2,h3,h4⟩:=uM (cs:=cs) kY hbl hq ⟨by simpa using hl,fun j s c h1 h2=>hc (j+1) s c (by simpa using h1) (by simpa using h2)⟩
    obtain ⟨r0,b0⟩:=hc 0 s c rfl rfl
    refine ⟨gs,?_,h2,h3,by simp [h4,zH b0 ha]⟩
    simp only [gT,h1,Option.map_some,zsx,vY r0 ha]
   ·simp at e
 | .self t::ks,s::ss,cs,as,ids,e,h=>by
  obtain ⟨hl,hc⟩:=h
  cases cs with
  | nil=>simp at hl
  | cons c cs =>
   simp only [cellsIn] at e
   split at e
   ·rename_i a q ha hq
    simp only [zzz,zvy] at e
    obtain ⟨rfl,rfl⟩:=e
    obtain ⟨gs,h1,h2,h3,h4⟩:=uM (cs:=cs) kY hbl hq ⟨by simpa using hl,fun j s c h1 h2=>hc (j+1) s c (by simpa using h1) (by simpa using h2)⟩
    obtain ⟨r0,b0⟩:=hc 0 s c rfl rfl
    refine ⟨gs,?_,h2,h3,by simp [h4,b0t b0 ha]⟩
    rcases aTq ha hbl r0 with ⟨g1,rfl⟩ | ⟨g1,rfl⟩
    ·simp only [gT,h1,Option.map_some,zsx,g1]
    ·simp only [gT,and_self,if_true,h1,Option.map_some,zsx,g1]
   ·simp at e
 | .gr sz _::ks,s::ss,cs,as,ids,e,h=>by
  obtain ⟨hl,hc⟩:=h
  cases cs with
  | nil=>simp at hl
  | cons c cs =>
   simp only [cellsIn] at e
   obtain ⟨r0,b0⟩:=hc 0 s c rfl rfl
   split at e
   ·rename_i k sz' a q hq
    cases hcnd:(Nat.beq sz' sz && Nat.blt 0 sz) with
    | false=>rw [hcnd] at e; simp at e
    | true =>
     rw [hcnd] at e
     simp only [cond_true,zzz,zvy] at e
     obtain ⟨rfl,rfl⟩:=e
     simp only [zxz] at hcnd
     have hsz:=zzx hcnd.1
     subst hsz
     have hpos:0 < sz':=zxx hcnd.2
     obtain ⟨gs,h1,h2,h3,h4⟩:=uM (cs:=cs) kY hbl hq ⟨by simpa using hl,fun j s c h1 h2=>hc (j+1) s c (by simpa using h1) (by simpa using h2)⟩
     obtain ⟨es,g1,g2⟩:=r0
     have hab:A.below nv a=true:=b0
     rcases g2 with ⟨rfl,g9⟩ | ⟨i,g3,rfl,g4⟩
     ·refine ⟨.full es.length sz'::gs,?_,fun i hi=>?_,fun ho=>a1l (h3 (a1m ho).1) fun n hn=>by simp at hn,by simp [h4,hab]⟩
      ·simp only [gT]
       rw [if_pos ⟨hpos,g9⟩,h1]
       simp only [Option.map_some,zsx,g1]
      ·simp only [List.mem_cons] at hi
       rcases hi with hi | hi
       ·simp at hi
       ·obtain ⟨k',q1,q2⟩:=h2 i hi; exact ⟨k',List.mem_cons_of_mem _ q1,q2⟩
     ·refine ⟨.own i::gs,?_,fun j hj=>?_,fun ho=>a1l (h3 (a1m ho).1) fun n hn hm=>?_,by simp [h4,hab]⟩
      ·simp only [gT]
       rw [if_pos ⟨hpos,g4⟩,h1]
       simp only [Option.map_some,zsx,g1]
      ·simp only [List.mem_cons] at hj
       rcases hj with hj | hj
       ·simp only [GA.own.injEq] at hj; subst hj; exact ⟨k,List.mem_cons_self,g3⟩
       ·obtain ⟨k',q1,q2⟩:=h2 j hj; exact ⟨k',List.mem_cons_of_mem _ q1,q2⟩
      ·simp only [GA.own.injEq] at hn
       subst hn
       obtain ⟨k',q1,q2⟩:=h2 i hm
       have:=kY k k' i g3 q2
       subst this
       exact (a1m ho).2 k rfl q1
   ·rename_i q hq
    cases hcnd:Nat.blt 0 sz with
    | false=>rw [hcnd] at e; simp at e
    | true =>
     rw [hcnd] at e
     simp only [cond_true,zzz,zvy] at e
     obtain ⟨rfl,rfl⟩:=e
     have hpos:0 < sz:=zxx hcnd
     obtain ⟨gs,h1,h2,h3,h4⟩:=uM (cs:=cs) kY hbl hq ⟨by simpa using hl,fun j s c h1 h2=>hc (j+1) s c (by simpa using h1) (by simpa using h2)⟩
     have hv:c = .sl .full []:=r0
     subst hv
     refine ⟨.full 0 sz::gs,?_,fun i hi=>?_,fun ho=>a1l (h3 ho) fun n hn=>by simp at hn,by simp [h4,aFr,A.below]⟩
     ·simp only [gT]
      rw [if_pos ⟨hpos,fun _=>rfl⟩,h1]
      rfl
     ·simp only [List.mem_cons] at hi
      rcases hi with hi | hi
      ·simp at hi
      ·exact h2 i hi
   ·simp at e
 | [],_::_,_,_,_,e,_=>by simp [cellsIn] at e
 | .pl::_,[],_,_,_,e,_=>by simp [cellsIn] at e
 | .gr _ _::_,[],_,_,_,e,_=>by simp [cellsIn] at e
 | .self _::_,[],_,_,_,e,_=>by simp [cellsIn] at e
end
section
variable {p:PT} {Q:V→Prop} {ks:List (List V→Prop)} {N:Nat} {gk:Nat→Option Nat} {gb:List Nat} {S:SS} {ρ:Nat→V} {env:Env} {m:Hp}
def evB (env:Env) (gb:List Nat):Ob→Option V
 | .op x=>Fbs.ev env x
 | .bx b=>(gb[b]?).map (V.ptr · 0)
def iI (env:Env) (gb:List Nat):List Ob→Option (List V)
 | []=>some []
 | x::xs =>
  match evB env gb x,iI env gb xs with
  | some v,some vs=>some (v::vs)
  | _,_=>none
theorem aOu:∀ xs:List Operand,iI env gb (xs.map .op)=Fbs.nN env xs
 | []=>rfl
 | x::xs=>by
  simp only [zsx,iI,Fbs.nN,evB,aOu xs]
  cases Fbs.ev env x with
  | none=>rfl
  | some v=>cases Fbs.nN env xs <;> rfl
theorem a99:∀ {xs ys:List Ob} {vs:List V},iI env gb (xs++ys)=some vs→∃ v0 v1,iI env gb xs=some v0∧iI env gb ys=some v1∧vs=v0++v1
 | [],ys,vs,h=>⟨[],vs,rfl,h,rfl⟩
 | x::xs,ys,vs,h=>by
  simp only [List.cons_append,iI] at h
  split at h
  ·rename_i u us h1 h2
   simp only [zzz] at h
   subst h
   obtain ⟨v0,v1,e1,e2,rfl⟩:=a99 h2
   exact ⟨u::v0,v1,by simp only [iI,h1,e1],e2,rfl⟩
  ·simp at h
theorem aP6:∀ {xs ys:List Ob} {v0 v1:List V},iI env gb xs=some v0→iI env gb ys=some v1→iI env gb (xs++ys)=some (v0++v1)
 | [],ys,v0,v1,h0,h1=>by simp only [iI,zzz] at h0; subst h0; exact h1
 | x::xs,ys,v0,v1,h0,h1=>by
  simp only [iI] at h0
  split at h0
  ·rename_i u us h2 h3
   simp only [zzz] at h0
   subst h0
   simp only [List.cons_append,iI,h2,aP6 h3 h1]
  ·simp at h0
theorem a9e : ∀ {l : List (Nat × Nat)} {cs : List V},cs.length = l.length → (∀ (i : Nat) q v,l[i]? = some q → cs[i]? = some v → ∃ a,gb[q.2]? = some a ∧ v = .ptr a 0) → iI env gb (l.map fun q=>Ob.bx q.2) = some cs
 | [],cs,hl,_=>by
  have:cs=[]:=List.eq_nil_of_length_eq_zero hl
  subst this; rfl
 | q::r,[],hl,_=>by simp at hl
 | q::r,v::cs,hl,hr=>by
  obtain ⟨a,h1,rfl⟩:=hr 0 q v rfl rfl
  have ih:=a9e (l:=r) (cs:=cs) (by simpa using hl) fun i q w hq hw=>hr (i+1) q w (by simpa using hq) (by simpa using hw)
  simp only [zsx,iI,evB,h1,Option.map_some,ih]
theorem aH.obj (c : aH N gk gb S ρ env m) {x : Ob} {b o : Nat} (h : S.obj x = some (.ptr b o none)) {cells : List SV} (hb : S.boxes[b]? = some (some cells)) : ∃ l,gb[b]? = some l ∧ evB env gb x = some (.ptr l o):=by
 cases x with
 | op x =>
  obtain ⟨v,g1,g2,g3⟩:=c.gI (show S.gI x=some (.ptr b o none) from h)
  obtain ⟨l,g4,rfl⟩:=g2.1 trivial
  exact ⟨l,g4,g1⟩
 | bx b' =>
  simp only [SS.obj,zzz,SV.ptr.injEq,and_true] at h
  obtain ⟨rfl,rfl⟩:=h
  obtain ⟨l,cs,e0,e1,e2⟩:=c.boxes _ cells hb
  exact ⟨l,e0,by simp only [evB,e0,Option.map_some]⟩
theorem aR4 (c:aH N gk gb S ρ env m):∀ {gr:List GK} {xs:List Ob} {vs:List V} {r:Option (List Ob)},flS S gr xs=some r→iI env gb xs=some vs →
  match r with | some ys=>∃ us,sJ gr vs=some us∧iI env gb ys=some us | none=>sJ gr vs=none
 | [],xs,vs,r,h,e=>by
  simp only [flS,zzz] at h
  subst h
  exact ⟨vs,rfl,e⟩
 | .one::gs,[],vs,r,h,e=>by
  simp only [flS,zzz] at h
  subst h
  simp only [iI,zzz] at e
  subst e
  rfl
 | .one::gs,x::xs,vs,r,h,e=>by
  simp only [iI] at e
  split at e
  ·rename_i v vs' h1 h2
   simp only [zzz] at e
   subst e
   simp only [flS,zyy] at h
   obtain ⟨r0,h3,rfl⟩:=h
   have ih:=aR4 c h3 h2
   cases r0 with
   | none=>simp only [Option.map_none,sJ]; rw [show sJ gs vs'=none from ih]; rfl
   | some ys =>
    obtain ⟨us,i1,i2⟩:=ih
    exact ⟨v::us,by simp only [sJ,i1,Option.map_some],by simp only [iI,h1,i2]⟩
  ·simp at e
 | .kX f n::gs,[],vs,r,h,e=>by
  simp only [flS,zzz] at h
  subst h
  simp only [iI,zzz] at e
  subst e
  rfl
 | .kX f n::gs,.bx b::xs,vs,r,h,e=>by
  simp only [flS,zzz] at h
  subst h
  simp only [iI,evB] at e
  split at e
  ·rename_i v vs' h1 h2
   simp only [zzz] at e
   subst e
   obtain ⟨l,_,rfl⟩:=zyy.1 h1
   rfl
  ·simp at e
 | .kX f n::gs,.op x::xs,vs,r,h,e=>by
  simp only [iI,evB] at e
  split at e
  ·rename_i v vs' h1 h2
   simp only [zzz] at e
   subst e
   simp only [flS] at h
   split at h
   ·rename_i f' caps hx
    obtain ⟨v0,g1,g2,_⟩:=c.gI hx
    rw [h1] at g1
    simp only [zzz] at g1
    subst g1
    obtain ⟨cs,rfl,r2,r3⟩:=g2
    cases hc:(Nat.beq f' f && Nat.beq caps.length n) with
    | false =>
     rw [hc] at h
     simp only [cond_false,zzz] at h
     subst h
     show sJ (.kX f n::gs) (.func f' cs::vs')=none
     simp only [sJ]
     rw [if_neg]
     rintro ⟨rfl,h5⟩
     rw [← r2,h5] at hc
     simp at hc
    | true =>
     rw [hc] at h
     simp only [cond_true,zyy] at h
     obtain ⟨r0,h3,rfl⟩:=h
     simp only [zxz] at hc
     obtain ⟨hc1,hc2⟩:=hc
     obtain rfl:=zzx hc1
     have hc2:=zzx hc2
     have ih:=aR4 c h3 h2
     cases r0 with
     | none =>
      show sJ (.kX f' n::gs) (.func f' cs::vs')=none
      simp only [sJ]
      rw [if_pos (by simp [r2,hc2]),show sJ gs vs'=none from ih]; rfl
     | some ys =>
      obtain ⟨us,i1,i2⟩:=ih
      refine ⟨cs++us,?_,aP6 (a9e r2 r3) i2⟩
      simp only [sJ]
      rw [if_pos (by simp [r2,hc2]),i1]; rfl
   ·rename_i v0 hx
    cases hc:(aMa v0 && Nat.blt 0 n) with
    | false=>rw [hc] at h; simp at h
    | true =>
     rw [hc] at h
     simp only [cond_true,zzz] at h
     subst h
     simp only [zxz] at hc
     obtain ⟨v1,g1,g2,_⟩:=c.gI hx
     rw [h1] at g1
     simp only [zzz] at g1
     subst g1
     have g2:v.aF=v0:=g2
     show sJ (.kX f n::gs) (v::vs')=none
     cases v with
     | func g cs =>
      simp only [V.aF] at g2
      subst g2
      simp only [sJ]
      refine if_neg fun hq=>?_
      have h5:=hq.2
      have hn:0 < n:=iC hc.2
      cases cs with
      | nil=>simp at h5; omega
      | cons a r=>rw [cI] at hc; simp [aMa] at hc
     | _=>rfl
   ·simp at h
  ·simp at e
theorem aOv (c:aH N gk gb S ρ env m):∀ {gr:List GK} {xs ys:List Ob} {us:List V},flS S gr xs=some (some ys)→iI env gb ys=some us→∃ vs,iI env gb xs=some vs∧sJ gr vs=some us
 | [],xs,ys,us,h,e=>by
  simp only [flS,zzz] at h
  subst h
  exact ⟨us,e,rfl⟩
 | .one::gs,[],ys,us,h,e=>by simp [flS] at h
 | .one::gs,x::xs,ys,us,h,e=>by
  simp only [flS,zyy] at h
  obtain ⟨r0,h3,zs,rfl,rfl⟩:=h
  simp only [iI] at e
  split at e
  ·rename_i v vs' h1 h2
   simp only [zzz] at e
   subst e
   obtain ⟨vs,i1,i2⟩:=aOv c h3 h2
   exact ⟨v::vs,by simp only [iI,h1,i1],by simp only [sJ,i2,Option.map_some]⟩
  ·simp at e
 | .kX f n::gs,[],ys,us,h,e=>by simp [flS] at h
 | .kX f n::gs,.bx b::xs,ys,us,h,e=>by simp [flS] at h
 | .kX f n::gs,.op x::xs,ys,us,h,e=>by
  simp only [flS] at h
  split at h
  ·rename_i f' caps hx
   obtain ⟨v0,g1,⟨cs,rfl,r2,r3⟩,_⟩:=c.gI hx
   cases hc:(Nat.beq f' f && Nat.beq caps.length n) with
   | false=>rw [hc] at h; simp at h
   | true =>
    rw [hc] at h
    simp only [cond_true,zyy] at h
    obtain ⟨r0,h3,zs,rfl,rfl⟩:=h
    simp only [zxz] at hc
    obtain ⟨hc1,hc2⟩:=hc
    obtain rfl:=zzx hc1
    have hc2:=zzx hc2
    obtain ⟨v0,v1,j1,j2,rfl⟩:=a99 e
    rw [a9e r2 r3] at j1
    simp only [zzz] at j1
    subst j1
    obtain ⟨vs,i1,i2⟩:=aOv c h3 j2
    refine ⟨.func f' cs::vs,by simp only [iI,evB,g1,i1],?_⟩
    simp only [sJ]
    rw [if_pos (by simp [r2,hc2]),i2]; rfl
  ·rename_i v0 _
   cases hc:(aMa v0 && Nat.blt 0 n) <;> rw [hc] at h <;> simp at h
  ·simp at h
theorem aAa (c:aH N gk gb S ρ env m):∀ {aks:List AK} {xs:List Ob} {ais:List AI} {ids:List Nat},yF S aks xs=some (ais,ids) →
  ∃ vs ls gs,iI env gb xs=some vs∧jD m aks vs=some (ais.map (AI.den ρ),ls,gs)∧(mY ais).map (fun b=>gb[b]?)=ls.map some∧(∀ i,GA.own i ∈ gs→∃ k ∈ ids,gk k=some i)∧(a7t ids→aCa gs) ∧
   gY aks=zZ ais∧ais.all (AI.below S.nv)=true∧(zZ ais).all a7u=true
 | [],[],ais,ids,e=>by
  simp only [yF,zzz,zvy] at e
  obtain ⟨rfl,rfl⟩:=e
  exact ⟨[],[],[],rfl,rfl,rfl,fun i hi=>by simp at hi,fun _=>a7y,rfl,rfl,rfl⟩
 | .v::aks,.bx b::xs,ais,ids,e=>by simp [yF] at e
 | .v::aks,.op x::xs,ais,ids,e=>by
  simp only [yF] at e
  split at e
  ·rename_i a q ha hq
   simp only [zzz,zvy] at e
   obtain ⟨rfl,rfl⟩:=e
   obtain ⟨vs,ls,gs,h1,h2,h3,h4,h5,h6,h7,h8⟩:=aAa c hq
   obtain ⟨v,g1,g2,g3⟩:=c.wU ha
   refine ⟨v::vs,ls,gs,by simp only [iI,evB,g1,h1],?_,h3,h4,h5,h6,by simp [h7,AI.below,g3],h8⟩
   simp only [jD,h2,Option.map_some,zsx,AI.den,g2]
  ·simp at e
 | .b off cks::aks,x::xs,ais,ids,e=>by
  simp only [yF] at e
  split at e
  ·rename_i b o hx
   cases ho:(Nat.beq o off && a7u (cks.map CK.out)) with
   | false=>rw [ho] at e; simp at e
   | true =>
    rw [ho] at e
    simp only [cond_true] at e
    simp only [zxz] at ho
    have:=zzx ho.1
    subst this
    split at e
    ·rename_i cells hb
     split at e
     ·rename_i as ids1 q hci hq
      simp only [zzz,zvy] at e
      obtain ⟨rfl,rfl⟩:=e
      obtain ⟨vs,ls,gs,h1,h2,h3,h4,h5,h6,h7,h8⟩:=aAa c hq
      obtain ⟨l,g4,g1⟩:=c.obj hx hb
      obtain ⟨l',cs,e0,⟨e9,e1,es⟩,e2⟩:=c.boxes b cells hb
      rw [g4] at e0
      simp only [zzz] at e0
      subst e0
      obtain ⟨gs1,k1,k2,k3,k4⟩:=uM c.kY g4 hci e2
      refine ⟨.ptr l o::vs,l::ls,gs1++gs,by simp only [iI,g1,h1],?_,by simp only [mY,zsx,g4,h3],fun i hi=>?_,fun hd=>?_,by simp only [gY,iB,zZ,zsx]; rw [← h6]; rfl,by simp [h7,AI.below]; simpa using k4,by simp only [zZ,List.all_cons,ho.2,h8]; rfl⟩
      ·simp only [jD,if_true,e1,aOk k1 (aJb hci es),h2,zsx,AI.den]
      ·rcases List.mem_append.1 hi with hi | hi
       ·obtain ⟨k,q1,q2⟩:=k2 i hi; exact ⟨k,List.mem_append_left _ q1,q2⟩
       ·obtain ⟨k,q1,q2⟩:=h4 i hi; exact ⟨k,List.mem_append_right _ q1,q2⟩
      ·obtain ⟨d1,d2,d3⟩:=b01 hd
       refine aJa (k3 d1) (h5 d2) fun n hn hm=>?_
       obtain ⟨k,q1,q2⟩:=k2 n hn
       obtain ⟨k',q3,q4⟩:=h4 n hm
       have:=c.kY k k' n q2 q4
       subst this
       exact d3 k q1 q3
     ·simp at e
    ·simp at e
  ·simp at e
 | [],_::_,_,_,e=>by simp [yF] at e
 | .v::_,[],_,_,e=>by simp [yF] at e
 | .b _ _::_,[],_,_,e=>by simp [yF] at e
theorem AI.cF {n n':Nat} (hn:n≤n') {a:AI} (h:a.below n=true):a.below n'=true:=by
 cases a with
 | w a=>exact A.cF h hn
 | b _ as _=>exact uK h hn
theorem AI.agree {ρ':Nat→V} {n:Nat} (ha:aZ ρ ρ' n) {a:AI} (h:a.below n=true):a.den ρ'=a.den ρ:=by
 cases a with
 | w a=>exact gQ ha h
 | b _ as _=>simp only [AI.den]; rw [tA ha h]
theorem aF3:∀ {ais:List AI} {S:SS} {ρ:Nat→V} {k:List A→SS→OL} {L:L},aH N gk gb S ρ env m→aL8 ais S k=some L→L.wp p Q S.nv ρ ks→ais.all (AI.below S.nv)=true →
  ∃ ws nv kn bl ρ' L',k ws (S.lL nv kn bl)=some L'∧L'.wp p Q nv ρ' ks∧aH N gk gb (S.lL nv kn bl) ρ' env m∧S.nv≤nv∧aZ ρ ρ' S.nv∧ws.map (A.den ρ')=ais.map (AI.den ρ)∧ws.all (A.below nv)=true
 | [],S,ρ,k,L,c,h,hw,hb=>⟨[],S.nv,S.known,(S.cS,S.a2l),ρ,L,h,hw,c,zxy _,aZ.refl _ _,rfl,rfl⟩
 | .w a::r,S,ρ,k,L,c,h,hw,hb=>by
  simp only [List.all_cons,zxz] at hb
  obtain ⟨ws,nv,kn,bl,ρ',L',h1,h2,h3,h4,h5,h6,h7⟩:=aF3 (ais:=r) c h hw hb.2
  refine ⟨a::ws,nv,kn,bl,ρ',L',h1,h2,h3,h4,h5,?_,by simp [h7,A.cF hb.1 h4]⟩
  simp only [zsx,h6,AI.den,gQ h5 hb.1]
 | .b b as cks::r,S,ρ,k,L,c,h,hw,hb=>by
  simp only [List.all_cons,zxz] at hb
  obtain ⟨y,L1,kn1,bl1,g1,g2,g3,g4⟩:=kN c (g:=none) h hw
  have hy:y = .agg (as.map (A.den ρ)):=by
   have:aG (as.map (A.den ρ))=some y:=g1
   exact (a9c this).1
  have hn1:S.nv≤S.nv+1:=Nat.le_succ _
  obtain ⟨ws,nv,kn,bl,ρ',L',h1,h2,h3,h4,h5,h6,h7⟩:=aF3 (ais:=r) g4 g2 g3 (List.all_eq_true.2 fun a ha=>AI.cF hn1 (List.all_eq_true.1 hb.2 a ha))
  have h4':S.nv+1≤nv:=h4
  refine ⟨.v S.nv::ws,nv,kn,bl,ρ',L',h1,h2,h3,by omega,(bZ ρ S.nv y).trans h5 hn1,?_,?_⟩
  ·simp only [zsx,h6]
   congr 1
   ·show ρ' S.nv=_
    rw [h5 S.nv (Nat.lt_succ_self _),kD,hy]; rfl
   ·exact List.map_congr_left fun a ha=>AI.agree (bZ ρ S.nv y) (List.all_eq_true.1 hb.2 a ha)
  ·simp only [List.all_cons,h7,Bool.and_true]
   exact Nat.ble_eq_true_of_le h4'
def gkD (ids:List Nat) (gk:Nat→Option Nat):Nat→Option Nat:=fun k=>if wV ids k then none else gk k
theorem aH.sZ:∀ {ids:List Nat} {gk:Nat→Option Nat} {S:SS},aH N gk gb S ρ env m→aH N (gkD ids gk) gb (S.sZ ids) ρ env m
 | [],gk,S,c=>c
 | q::r,gk,S,c=>by
  have:=aH.sZ (ids:=r) (c.kC q)
  have e:gkD r (fun k=>if k=q then none else gk k)=gkD (q::r) gk:=by
   funext k
   simp only [gkD]
   by_cases h1:wV r k=true
   ·have:wV (q::r) k=true:=tK.2 (List.mem_cons_of_mem _ (tK.1 h1))
    simp [h1,this]
   ·by_cases h2:k=q
    ·subst h2
     have:wV (k::r) k=true:=tK.2 List.mem_cons_self
     simp [this]
    ·have:¬ wV (q::r) k=true:=fun h=>by
      rcases List.mem_cons.1 (tK.1 h) with h3 | h3
      ·exact h2 h3
      ·exact h1 (tK.2 h3)
     simp [h1,h2,this]
  rw [e] at this
  exact this
theorem aF4:∀ {ids:List Nat} {S:SS},(S.sZ ids).nv=S.nv∧(S.sZ ids).dep=S.dep∧(S.sZ ids).nk=S.nk
 | [],S=>⟨rfl,rfl,rfl⟩
 | q::r,S=>aF4 (ids:=r) (S:=S.kC q)
theorem aH.forget:∀ {bs:List Nat} {S:SS},aH N gk gb S ρ env m→aH N gk gb (S.forget bs) ρ env m
 | [],S,c=>c
 | b::r,S,c=>aH.forget (bs:=r) ⟨c.n,c.cE,fun b' cells hb=>by
   by_cases hbb:b=b'
   ·subst hbb
    rw [List.getElem?_set] at hb
    simp only [if_true] at hb
    split at hb <;> simp at hb
   ·rw [List.getElem?_set_ne hbb] at hb
    exact c.boxes b' cells hb,by simp [c.lT],c.oY,c.blt,c.kY,c.tY,c.known,c.cS,c.own⟩
theorem aJd : ∀ {bs : List Nat} {S : SS},(S.forget bs).nv = S.nv ∧ (S.forget bs).dep = S.dep ∧ (S.forget bs).nk = S.nk ∧ (∀ b ∈ bs,∀ cells : List SV,(S.forget bs).boxes[b]? ≠ some (some cells)) ∧ ∀ b : Nat,S.boxes[b]? = some none → (S.forget bs).boxes[b]? = some none
 | [],S=>⟨rfl,rfl,rfl,fun b hb=>by simp at hb,fun _ h=>h⟩
 | b::r,S=>by
  obtain ⟨h1,h2,h3,h4,h5⟩:=aJd (bs:=r) (S:={ S with boxes:=S.boxes.set b none })
  refine ⟨h1,h2,h3,fun b' hb' cells h=>?_,fun b' hb'=>h5 b' ?_⟩
  ·rcases List.mem_cons.1 hb' with rfl | hb'
   ·by_cases hl:b' < S.boxes.length
    ·have:=h5 b' (by rw [List.getElem?_set_self hl])
     rw [show (S.forget (b'::r))=({ S with boxes:=S.boxes.set b' none } : SS).forget r from rfl,this] at h
     simp at h
    ·have hlen:∀ {bs:List Nat} {S:SS},(S.forget bs).boxes.length=S.boxes.length:=by
      intro bs
      induction bs with
      | nil=>intro S; rfl
      | cons b bs ih=>intro S; rw [show S.forget (b::bs)=({ S with boxes:=S.boxes.set b none } : SS).forget bs from rfl,ih]; simp
     have:=(zzy.1 h).1
     rw [hlen] at this
     exact hl this
   ·exact h4 b' hb' cells h
  ·by_cases hbb:b=b'
   ·subst hbb
    have hl:=(zzy.1 hb').1
    rw [List.getElem?_set_self hl]
   ·rw [List.getElem?_set_ne hbb]; exact hb'
theorem aH.mem (c : aH N gk gb S ρ env m) {m' : Hp} (hl : m'.H.length = m.H.length) (hb : ∀ (b l : Nat) cells,S.boxes[b]? = some (some cells) → gb[b]? = some l → m'.H[l]? = m.H[l]?) (hT : m.T.length ≤ m'.T.length)
  (ht : ∀ (k i : Nat) x,gk k = some i → m.T[i]? = some x → m'.T[i]? = some x) : aH N gk gb S ρ env m' :=
 ⟨c.n,fun t s hs=>let ⟨h1,h2,h3⟩:=c.cE t s hs; ⟨h1,h2.up (fun _ _ h=>h) (fun _ _ h=>h) ht,h3⟩,
  fun b cells hbx=>let ⟨l,cs,h1,h2,h3⟩:=c.boxes b cells hbx; ⟨l,cs,h1,let ⟨e9,h4,h5⟩:=h2; ⟨e9,by rw [hb b l cells hbx h1]; exact h4,h5⟩,h3.up (fun _ _ h=>h) (fun _ _ h=>h) ht⟩,
  c.lT,c.oY,fun l h=>by rw [hl]; exact c.blt l h,c.kY,fun k i hk=>let ⟨h1,h2⟩:=c.tY k i hk; ⟨h1,zuz h2 hT⟩,c.known,c.cS,c.own⟩
theorem aH.b7v (c:aH N gk gb S ρ env m) {q n:Nat} (hi:q+n≤m.T.length) (hn:∀ k j,gk k=some j→j < q):aH N (fun k=>if S.nk≤k∧k < S.nk+n then some (q+(k - S.nk)) else gk k) gb { S with nk:=S.nk+n } ρ env m:=by
 have up:∀ k j,gk k=some j→(if S.nk≤k∧k < S.nk+n then some (q+(k - S.nk)) else gk k)=some j:=fun k j h=>by
  rw [if_neg (by have:=(c.tY k j h).1; omega)]; exact h
 refine ⟨c.n,fun t s hs=>let ⟨h1,h2,h3⟩:=c.cE t s hs; ⟨h1,h2.up up (fun _ _ h=>h) (fun _ _ _ _ h=>h),h3⟩,fun b cells hb=>let ⟨l,cs,h1,h2,h3⟩:=c.boxes b cells hb; ⟨l,cs,h1,h2,h3.up up (fun _ _ h=>h) (fun _ _ _ _ h=>h)⟩,
  c.lT,c.oY,c.blt,fun k k' j h1 h2=>?_,fun k j h=>?_,c.known,c.cS,c.own⟩
 ·split at h1 <;> split at h2
  ·simp only [zzz] at h1 h2; omega
  ·simp only [zzz] at h1; have:=hn k' j h2; omega
  ·simp only [zzz] at h2; have:=hn k j h1; omega
  ·exact c.kY k k' j h1 h2
 ·split at h
  ·simp only [zzz] at h
   exact ⟨by show k < S.nk+n; omega,by omega⟩
  ·obtain ⟨h1,h2⟩:=c.tY k j h; exact ⟨by show k < S.nk+n; omega,h2⟩
theorem aH.bB2 (c : aH N gk gb S ρ env m) {b l : Nat} {cells : List SV} (hl : gb[b]? = some l) {cs : List V} (hH : HAt m l cells cs) (h : Cells ρ gk gb m.T S.nv cells cs) :
  aH N gk gb { S with boxes:=S.boxes.set b (some cells) } ρ env m:=by
 refine ⟨c.n,c.cE,fun b' cs' hc=>?_,by simp [c.lT],c.oY,c.blt,c.kY,c.tY,c.known,c.cS,c.own⟩
 by_cases hbb:b=b'
 ·subst hbb
  have hbl:b < S.boxes.length:=by rw [← c.lT]; exact (zzy.1 hl).1
  rw [List.getElem?_set_self hbl] at hc
  simp only [zzz] at hc
  subst hc
  exact ⟨l,cs,hl,hH,h⟩
 ·rw [List.getElem?_set_ne hbb] at hc
  exact c.boxes b' cs' hc
def aH6 (m:Hp):Nat→List (List CK)→List Nat→List V→Prop
 | q,ks :: kss,l :: ls,.agg ws :: outs=>m.H[l]? = some (.cells (tyK ks) (iV l q ks ws).1) ∧ (∀ (i : Nat) x,(iV l q ks ws).2[i]? = some x → m.T[q + i]? = some x) ∧ aH6 m (q + (iV l q ks ws).2.length) kss ls outs
 | _,[],[],[]=>True
 | _,_,_,_=>False
theorem aTz:∀ {kss:List (List CK)} {q:Nat} {ls:List Nat} {outs:List V} {H:List LO},(pU q kss ls outs H).1.length=H.length:=by
 intro kss q ls outs H
 fun_induction pU q kss ls outs H with
 | case1 q cks kss l ls ws outs H ih=>simp only [ih,List.length_set]
 | case2=>rfl
theorem aF5 : ∀ {kss : List (List CK)} {q : Nat} {ls : List Nat} {outs : List V} {H : List LO} {l : Nat},l ∉ ls → (pU q kss ls outs H).1[l]? = H[l]?:=by
 intro kss q ls outs H
 fun_induction pU q kss ls outs H with
 | case1 q cks kss l0 ls ws outs H ih =>
  intro l hl
  simp only [List.mem_cons,not_or] at hl
  simp only [ih hl.2]
  rw [List.getElem?_set_ne (fun e=>hl.1 e.symm)]
 | case2=>intro l hl; rfl
theorem aX6 {T0:List (Nat×Nat)} : ∀ {kss:List (List CK)} {q:Nat} {ls:List Nat} {outs:List V} {H:List LO} {T1:List (Nat×Nat)},iP kss outs=true→ls.length=kss.length→a7t ls→(∀ l ∈ ls,l < H.length)→T1.length=q →
  aH6 ⟨(pU q kss ls outs H).1,T1++(pU q kss ls outs H).2⟩ q kss ls outs
 | [],q,ls,outs,H,T1,hs,hl,ho,hlt,hq=>by
  obtain rfl:=List.eq_nil_of_length_eq_zero hl
  cases outs with
  | nil=>trivial
  | cons a b=>simp [iP] at hs
 | ks::kss,q,[],outs,H,T1,hs,hl,ho,hlt,hq=>by simp at hl
 | ks::kss,q,l::ls,[],H,T1,hs,hl,ho,hlt,hq=>by simp [iP] at hs
 | ks::kss,q,l::ls,o::outs,H,T1,hs,hl,ho,hlt,hq=>by
  cases o with
  | agg ws =>
   simp only [iP,zxz] at hs
   obtain ⟨d1,d2⟩:=a1m ho
   have hnot:l ∉ ls:=d2 l rfl
   have ih:=aX6 (T0:=T0) (kss:=kss) (q:=q+(iV l q ks ws).2.length) (ls:=ls) (outs:=outs) (H:=H.set l (.cells (tyK ks) (iV l q ks ws).1)) (T1:=T1++(iV l q ks ws).2) hs.2 (by simpa using hl) d1 (fun l' h'=>by rw [List.length_set]; exact hlt l' (List.mem_cons_of_mem _ h')) (by simp [hq])
   refine ⟨?_,fun i x hi=>?_,?_⟩
   ·simp only [pU]
    rw [aF5 hnot,List.getElem?_set_self (hlt l List.mem_cons_self)]
   ·simp only [pU]
    rw [ztx (by omega),show q+i - T1.length=i by omega,ztz (zzy.1 hi).1]
    exact hi
   ·simp only [pU]
    rw [← zty]
    exact ih
  | _=>simp [iP] at hs
theorem aBd {b:Nat} : ∀ {ks:List CK} {ws:List V} {q:Nat},mM ks ws=true→(iV b q ks ws).1.length=ks.length∧ws.length=ks.length∧(iV b q ks ws).2.length=tX ks
 | [],[],q,_=>⟨rfl,rfl,rfl⟩
 | .pl::ks,w::ws,q,h=>by
  obtain ⟨h1,h2,h3⟩:=aBd (b:=b) (ks:=ks) (ws:=ws) (q:=q) h
  refine ⟨by show (w::(iV b q ks ws).1).length=_; simp [h1],by simp [h2],h3⟩
 | .self t::ks,w::ws,q,h=>by
  cases w with
  | bool x =>
   obtain ⟨h1,h2,h3⟩:=aBd (b:=b) (ks:=ks) (ws:=ws) (q:=q) h
   refine ⟨by simp [iV,h1],by simp [h2],by simp [iV,tX,h3]⟩
  | _=>simp [mM] at h
 | .gr sz _::ks,w::ws,q,h=>by
  cases w with
  | sl g es =>
   cases g with
   | ro =>
    obtain ⟨h1,h2,h3⟩:=aBd (b:=b) (ks:=ks) (ws:=ws) (q:=q+1) h
    refine ⟨by simp [iV,h1],by simp [h2],by simp [iV,tX,h3]⟩
   | _=>simp [mM] at h
  | _=>simp [mM] at h
 | [],_::_,_,h=>by simp [mM] at h
 | .pl::_,[],_,h=>by simp [mM] at h
 | .gr _ _::_,[],_,h=>by simp [mM] at h
 | .self _::_,[],_,h=>by simp [mM] at h
theorem uT {z nv q0 r0 b l : Nat} {T : List (Nat × Nat)} (hgb : gb[b]? = some l) (hz : z < nv) (hgk : ∀ i,gk (r0 + i) = some (q0 + i) ∨ True) : ∀ {ks : List CK} {ws : List V} {j q r : Nat},mM ks ws = true → (∀ (i : Nat) w,ws[i]? = some w → aA (ρ z) (j + i) = w ∧ w.aF = w) →
  (∀ i,i < tX ks → gk (r + i) = some (q + i)) → (∀ (i : Nat) x,(iV l q ks ws).2[i]? = some x → T[q + i]? = some x) →
  ∀ (i : Nat) s v,(dJ b z j r ks)[i]? = some s → (iV l q ks ws).1[i]? = some v → dQ ρ gk gb T s v ∧ s.below nv = true
 | [],[],j,q,r,hs,hw,hg,hT=>fun i s v h1=>by simp [dJ] at h1
 | .pl::ks,w::ws,j,q,r,hs,hw,hg,hT=>fun i s v h1 h2=>by
  have h2 : (w :: (iV l q ks ws).1)[i]? = some v:=h2
  cases i with
  | zero =>
   simp only [dJ,zux,zzz] at h1 h2
   subst h1; subst h2
   obtain ⟨h3,h4⟩:=hw 0 w rfl
   exact ⟨by show w.aF=aA (ρ z) j; rw [h4]; exact h3.symm,Nat.ble_eq_true_of_le hz⟩
  | succ i =>
   simp only [dJ,zvx] at h1 h2
   exact uT hgb hz hgk (ks:=ks) (ws:=ws) (j:=j+1) (q:=q) (r:=r) hs (fun i w hi=>by rw [show j+1+i=j+(i+1) by omega]; exact hw (i+1) w (by simpa using hi)) hg hT i s v h1 h2
 | .self t::ks,w::ws,j,q,r,hs,hw,hg,hT=>fun i s v h1 h2=>by
  cases w with
  | bool x =>
   have h2 : (aRx l (.bool x) :: (iV l q ks ws).1)[i]? = some v:=h2
   cases i with
   | zero =>
    simp only [dJ,zux,zzz] at h1 h2
    subst h1; subst h2
    obtain ⟨h3,h4⟩:=hw 0 _ rfl
    refine ⟨⟨l,hgb,?_⟩,Nat.ble_eq_true_of_le hz⟩
    have h3:aA (ρ z) j = .bool x:=h3
    cases x with
    | false=>exact .inl ⟨h3,rfl⟩
    | true=>exact .inr ⟨h3,rfl⟩
   | succ i =>
    simp only [dJ,zvx] at h1 h2
    exact uT hgb hz hgk (ks:=ks) (ws:=ws) (j:=j+1) (q:=q) (r:=r) hs (fun i w hi=>by rw [show j+1+i=j+(i+1) by omega]; exact hw (i+1) w (by simpa using hi)) hg hT i s v h1 h2
  | _=>simp [mM] at hs
 | .gr sz _::ks,w::ws,j,q,r,hs,hw,hg,hT=>fun i s v h1 h2=>by
  cases w with
  | sl g es =>
   cases g with
   | ro =>
    cases i with
    | zero =>
     simp only [dJ,zux,zzz] at h1
     simp only [iV,zux,zzz] at h2
     subst h1; subst h2
     obtain ⟨h3,h4⟩:=hw 0 (.sl .ro es) rfl
     simp only [V.aF,cI,V.sl.injEq,true_and] at h4
     refine ⟨⟨es,by show aA (ρ z) j=_; rw [h4]; exact h3,.inr ⟨q,?_,rfl,?_⟩⟩,Nat.ble_eq_true_of_le hz⟩
     ·have:=hg 0 (by simp [tX]); simpa using this
     ·have:=hT 0 (es.length,sz) (by simp [iV]); simpa using this
    | succ i =>
     simp only [dJ,zvx] at h1
     simp only [iV,zvx] at h2
     exact uT hgb hz hgk (ks:=ks) (ws:=ws) (j:=j+1) (q:=q+1) (r:=r+1) hs (fun i w hi=>by rw [show j+1+i=j+(i+1) by omega]; exact hw (i+1) w (by simpa using hi))
      (fun i hi=>by rw [show r+1+i=r+(i+1) by omega,show q+1+i=q+(i+1) by omega]; exact hg (i+1) (by simp only [tX]; omega))
      (fun i x hi=>by rw [show q+1+i=q+(i+1) by omega]; exact hT (i+1) x (by simpa [iV] using hi)) i s v h1 h2
   | _=>simp [mM] at hs
  | _=>simp [mM] at hs
 | [],_::_,_,_,_,h,_,_,_=>by simp [mM] at h
 | .pl::_,[],_,_,_,h,_,_,_=>by simp [mM] at h
 | .gr _ _::_,[],_,_,_,h,_,_,_=>by simp [mM] at h
 | .self _::_,[],_,_,_,h,_,_,_=>by simp [mM] at h
theorem uN {b z:Nat} : ∀ {ks:List CK} {j r:Nat},(dJ b z j r ks).length=ks.length
 | [],_,_=>rfl
 | .pl::ks,j,r=>by simp [dJ,uN]
 | .gr _ _::ks,j,r=>by simp [dJ,uN]
 | .self t::ks,j,r=>by simp [dJ,uN]
theorem aKb {y:A} {rs:List V} (her:rs.map V.aF=rs):∀ {ais:List AI} {S:SS} {ρ:Nat→V} {gk:Nat→Option Nat} {i q:Nat} {ls:List Nat} {outs:List V} {k:SS→OL} {L:L},aH N gk gb S ρ env m→aL9 y i ais S k=some L→L.wp p Q S.nv ρ ks →
  y.den ρ = .aO rs→y.below S.nv=true→rs.drop i=outs→iP (zZ ais) outs=true→aH6 m q (zZ ais) ls outs→(mY ais).map (fun b=>gb[b]?)=ls.map some→(∀ k j,gk k=some j→j < q)→q≤m.T.length→(zZ ais).all a7u=true →
  ∃ S' ρ' gk' L',k S'=some L'∧L'.wp p Q S'.nv ρ' ks∧aH N gk' gb S' ρ' env m∧S.nv≤S'.nv∧aZ ρ ρ' S.nv∧S'.dep=S.dep
 | [],S,ρ,gk,i,q,ls,outs,k,L,c,h,hw,hy,hyb,ho,hs,hB,hl,hq,hqT,hso=>⟨S,ρ,gk,L,h,hw,c,zxy _,aZ.refl _ _,rfl⟩
 | .w a::r,S,ρ,gk,i,q,ls,outs,k,L,c,h,hw,hy,hyb,ho,hs,hB,hl,hq,hqT,hso=>aKb her (ais:=r) c h hw hy hyb ho hs hB hl hq hqT hso
 | .b b as cks::r,S,ρ,gk,i,q,ls,outs,k,L,c,h,hw,hy,hyb,ho,hs,hB,hl,hq,hqT,hso=>by
  cases ls with
  | nil=>simp [mY] at hl
  | cons l ls =>
   cases outs with
   | nil=>simp [zZ,iP] at hs
   | cons o outs =>
    cases o with
    | agg ws =>
     simp only [zZ,iP,zxz] at hs
     obtain ⟨⟨hsc,hsh⟩,hs'⟩:=hs
     obtain ⟨hB1,hB2,hB3⟩:=hB
     simp only [mY,zsx,List.cons.injEq] at hl
     obtain ⟨hl1,hl2⟩:=hl
     obtain ⟨c1,c2,c3⟩:=aBd (b:=l) (q:=q) hsh
     obtain ⟨y1,L1,kn1,bl1,g1,g2,g3,g4⟩:=kN c (g:=none) h hw
     have hri : rs[i]? = some (.agg ws):=by
      have : (rs.drop i)[0]? = some (.agg ws):=by rw [ho]; rfl
      rw [List.getElem?_drop] at this
      simpa using this
     have hy1:y1 = .agg ws:=by
      have g1:aC (y.den ρ) i=some y1:=g1
      rw [hy] at g1
      have g1 : rs[i]? = some y1:=g1
      rw [hri] at g1
      simpa using g1.symm
     obtain ⟨y2,L2,kn2,bl2,f1,f2,f3,f4⟩:=kN g4 (g:=none) g2 g3
     have hy2:y2 = .agg ws:=by
      have f1:bF cks.length (A.den (ext ρ S.nv y1) (.v S.nv))=some y2:=f1
      have:=(yH f1).1
      rw [this]
      show ext ρ S.nv y1 S.nv=_
      rw [kD,hy1]
     have hz:S.nv+1 < S.nv+1+1:=by omega
     have hρz:ext (ext ρ S.nv y1) (S.nv+1) y2 (S.nv+1) = .agg ws:=by rw [kD,hy2]
     have hwe : ∀ (j : Nat) w,ws[j]? = some w → w.aF = w:=by
      intro j w hj
      have h1:(V.agg ws).aF = .agg ws:=by
       have:=congrArg (·[i]?) her
       simp only [zvz,hri,Option.map_some,zzz] at this
       exact this
      simp only [V.aF,cI,V.agg.injEq] at h1
      have:=congrArg (·[j]?) h1
      simp only [zvz,hj,Option.map_some,zzz] at this
      exact this
     have hTl:q+tX cks≤m.T.length:=by
      by_cases hg:tX cks=0
      ·omega
      ·have hlt:tX cks - 1 < (iV l q cks ws).2.length:=by omega
       have:=hB2 (tX cks - 1) _ (zyz hlt)
       have:=(zzy.1 this).1
       omega
     have c5:=aH.b7v (S:=(S.lL (S.nv+1) kn1 bl1).lL (S.nv+1+1) kn2 bl2) f4 hTl hq
     simp only [zZ,List.all_cons,zxz] at hso
     have c6:=c5.bB2 hl1 (cells:=dJ b (S.nv+1) 0 S.nk cks) ⟨_,hB1,aTx hso.1⟩ ⟨by rw [uN,c1],fun j s v h1 h2 =>
      uT (r0:=0) (q0:=0) hl1 hz (fun _=>.inr trivial) hsh (fun j w hj=>⟨by
       show aA (ext (ext ρ S.nv y1) (S.nv+1) y2 (S.nv+1)) (0+j)=w
       rw [hρz,Nat.zero_add]
       simp only [aA,V.cells,zry,hj,Option.getD_some],hwe j w hj⟩)
       (fun j hj=>by
        show (if S.nk≤S.nk+j∧S.nk+j < S.nk+tX cks then some (q+(S.nk+j - S.nk)) else gk (S.nk+j))=some (q+j)
        rw [if_pos ⟨by omega,by omega⟩,show S.nk+j - S.nk=j by omega]) hB2 j s v h1 h2⟩
     have agr:aZ ρ (ext (ext ρ S.nv y1) (S.nv+1) y2) S.nv:=(bZ ρ S.nv y1).trans (bZ _ _ _) (Nat.le_succ _)
     obtain ⟨S',ρ',gk',L',e1,e2,e3,e4,e5,e6⟩:=aKb her (ais:=r) c6 f2 f3 (by show A.den (ext (ext ρ S.nv y1) (S.nv+1) y2) y=_; rw [gQ agr hyb]; exact hy) (A.cF hyb (by show S.nv≤S.nv+1+1; omega))
      (by show rs.drop (i+1)=outs; rw [← List.drop_drop,ho]; rfl) hs' hB3 hl2 (fun k j hk=>by
       rw [c3]
       have hk:(if S.nk≤k∧k < S.nk+tX cks then some (q+(k - S.nk)) else gk k)=some j:=hk
       by_cases hcond:S.nk≤k∧k < S.nk+tX cks
       ·rw [if_pos hcond] at hk
        simp only [zzz] at hk
        omega
       ·rw [if_neg hcond] at hk
        have:=hq k j hk; omega) (by rw [c3]; exact hTl) hso.2
     have e4':S.nv+1+1≤S'.nv:=e4
     exact ⟨S',ρ',gk',L',e1,e2,e3,by omega,agr.trans e5 (by show S.nv≤S.nv+1+1; omega),e6⟩
    | _=>simp [zZ,iP] at hs
theorem aMm {bs ls gb : List Nat} (h : bs.map (fun b=>gb[b]?) = ls.map some) {j l : Nat} (hl : ls[j]? = some l) : ∃ b,bs[j]? = some b ∧ gb[b]? = some l:=by
 have:=congrArg (·[j]?) h
 simp only [zvz,hl,Option.map_some,zyy] at this
 exact this
theorem b02:∀ ais:List AI,(mY ais).length=(zZ ais).length
 | []=>rfl
 | .w _::r=>b02 r
 | .b _ _ _::r=>by simp [mY,zZ,b02 r]
theorem b37 {rs:List V} {n:Nat} (hn:n≤rs.length):pack (rs.take n)=if n=1 then rs.headD .undef else .aO (rs.take n):=by
 match n,rs,hn with
 | 0,rs,_=>rfl
 | 1,a::rs,_=>rfl
 | n+2,a::b::rs,_=>simp [pack]
variable {tt:TT}
theorem a6u {f:FuncId} {xs:List Ob} {e:FuncId} {sg:iA} : ∀ {l:List FuncId},a4r tt S f xs l=some (e,sg)→a4q tt e=some (f,sg)
 | [],h=>by simp [a4r] at h
 | e'::r,h=>by
  simp only [a4r] at h
  split at h
  ·rename_i q hq
   cases hc:Nat.beq q.1 f with
   | true =>
    rw [hc] at h
    simp only [cond_true] at h
    split at h
    ·simp only [zzz,zvy] at h
     obtain ⟨rfl,rfl⟩:=h
     rw [hq,← zzx hc]
    ·exact a6u h
    ·simp at h
   | false=>rw [hc] at h; exact a6u h
  ·exact a6u h
theorem bDy (c:aH N gk gb S ρ env m) {x:Ob} {q:Nat×List SV} (h:b7l S x=some q) {v:V} (hv:evB env gb x=some v):∃ cs,b7r m v=some (q.1,cs)∧Cells ρ gk gb m.T S.nv q.2 cs:=by
 unfold b7l at h
 split at h
 ·rename_i b o hx
  split at h
  ·rename_i cells hb
   obtain ⟨l,g4,g1⟩:=c.obj hx hb
   rw [hv] at g1
   simp only [zzz] at g1
   subst g1
   obtain ⟨l',cs,e0,⟨e9,e1,_⟩,e2⟩:=c.boxes b cells hb
   rw [g4] at e0
   simp only [zzz] at e0
   subst e0
   simp only [zzz] at h
   subst h
   exact ⟨cs,by simp only [b7r,e1],e2⟩
  ·simp at h
 ·simp at h
theorem b7w (v:V):aTi v.aF=aTi v:=by cases v <;> rfl
theorem aAb {T:List (Nat×Nat)} {nv:Nat} : ∀ {cks:List CK} {cells:List SV} {cs:List V} {r:Bool},yG cks cells=some r→Cells ρ gk gb T nv cells cs→nZ cks cs=r
 | [],[],cs,r,h,hc=>by
  obtain rfl:=List.eq_nil_of_length_eq_zero hc.1.symm
  simpa [yG,nZ] using h
 | [],s::ss,cs,r,h,hc=>by
  cases cs with
  | nil=>have:=hc.1; simp at this
  | cons c cs=>simpa [yG,nZ] using h
 | k::ks,[],cs,r,h,hc=>by
  obtain rfl:=List.eq_nil_of_length_eq_zero hc.1.symm
  cases k <;> simpa [yG,nZ] using h
 | k::ks,s::ss,cs,r,h,hc=>by
  cases cs with
  | nil=>have:=hc.1; simp at this
  | cons c cs =>
   have hc':Cells ρ gk gb T nv ss cs:=⟨by simpa using hc.1,fun j s v h1 h2=>hc.2 (j+1) s v (by simpa using h1) (by simpa using h2)⟩
   obtain ⟨r0,_⟩:=hc.2 0 s c rfl rfl
   simp only [yG] at h
   split at h
   ·rename_i h1
    have ih:=aAb h1 hc'
    cases k with
    | pl=>simp only [zF,zzz] at h; subst h; simp only [nZ,ih]
    | self t =>
     simp only [nZ,ih,Bool.true_and]
     cases s with
     | self t b a =>
      simp only [zF,zzz] at h
      subst h
      obtain ⟨l,_,⟨_,rfl⟩ | ⟨_,rfl⟩⟩:=r0 <;> rfl
     | _=>simp [zF] at h
    | gr sz _ =>
     simp only [nZ,ih,Bool.true_and]
     cases s with
     | grow q sz' a =>
      simp only [zF,zzz] at h
      subst h
      obtain ⟨es,_,h2⟩:=r0
      rcases h2 with ⟨rfl,_⟩ | ⟨i,_,rfl,_⟩ <;> rfl
     | nJ =>
      simp only [zF,zzz] at h
      subst h
      have:c = .sl .full []:=r0
      subst this; rfl
     | val a =>
      cases a with
      | k v =>
       have hv:c.aF=v:=r0
       simp only [zF] at h
       cases hs:aTi v with
       | true=>rw [hs] at h; simp at h
       | false =>
        rw [hs] at h
        simp only [cond_false,zzz] at h
        subst h
        rw [← b7w,hv]; exact hs
      | _=>simp [zF] at h
     | _=>simp [zF] at h
   ·rename_i h1
    simp only [zzz] at h
    subst h
    have ih:=aAb h1 hc'
    cases k <;> simp only [nZ,ih,Bool.false_and]
   ·simp at h
theorem aOw (c:aH N gk gb S ρ env m):∀ {aks:List AK} {xs:List Ob} {vs:List V} {r:Bool},a6l S aks xs=some r→iI env gb xs=some vs→a6o m aks vs=r
 | [],[],vs,r,h,e=>by simp only [iI,zzz] at e; subst e; simpa [a6l,a6o] using h
 | [],x::xs,vs,r,h,e=>by
  simp only [iI] at e
  split at e
  ·simp only [zzz] at e; subst e; simpa [a6l,a6o] using h
  ·simp at e
 | .v::ks,[],vs,r,h,e=>by simp only [iI,zzz] at e; subst e; simpa [a6l,a6o] using h
 | .b _ _::ks,[],vs,r,h,e=>by simp only [iI,zzz] at e; subst e; simpa [a6l,a6o] using h
 | .v::ks,x::xs,vs,r,h,e=>by
  simp only [iI] at e
  split at e
  ·rename_i v vs' h1 h2
   simp only [zzz] at e
   subst e
   exact aOw c (aks:=ks) h h2
  ·simp at e
 | .b off cks::ks,x::xs,vs,r,h,e=>by
  simp only [iI] at e
  split at e
  ·rename_i v vs' h1 h2
   simp only [zzz] at e
   subst e
   simp only [a6l] at h
   split at h
   ·rename_i q r' h3 h4
    obtain ⟨cs,h5,h6⟩:=bDy c h3 h1
    simp only [a6o,h5,aOw c h4 h2]
    cases hc:(Nat.beq q.1 off && r') with
    | true=>rw [hc] at h; rw [aAb h h6]; rfl
    | false=>rw [hc] at h; simpa using h
   ·simp at h
  ·simp at e
theorem aX7 (c:aH N gk gb S ρ env m) {sg:iA} {xs:List Ob} {vs:List V} {r:Bool} (h:b7m S sg xs=some r) (e:iI env gb xs=some vs):aMh m sg vs=r:=by
 unfold b7m at h
 split at h
 ·rename_i ys hf
  obtain ⟨us,h1,h2⟩:=aR4 c hf e
  unfold aMh
  rw [h1]
  exact aOw c h h2
 ·rename_i hf
  have:=aR4 c hf e
  unfold aMh
  rw [show sJ sg.gr vs=none from this]
  simpa using h
 ·simp at h
theorem aH7 (c:aH N gk gb S ρ env m) {f:FuncId} {xs:List Ob} {vs:List V} (hv:iI env gb xs=some vs) {r:FuncId×iA} : ∀ {l:List FuncId},a4r tt S f xs l=some r→findD tt m f vs l=some r
 | [],h=>by simp [a4r] at h
 | e'::l,h=>by
  simp only [a4r] at h
  simp only [findD]
  split at h
  ·rename_i q hq
   (first | rw [hq] | skip)
   (try simp only)
   cases hc:Nat.beq q.1 f with
   | true =>
    rw [hc] at h
    simp only [cond_true] at h
    split at h
    ·rename_i hf
     rw [aX7 c hf hv]
     exact h
    ·rename_i hf
     rw [aX7 c hf hv]
     exact aH7 c hv h
    ·simp at h
   | false =>
    rw [hc] at h
    exact aH7 c hv h
  ·rename_i hq
   (first | rw [hq] | skip)
   exact aH7 c hv h
theorem aT0 (hp:Canon tt p) (c:aH N gk gb S ρ env m) {f:FuncId} {xs:List Ob} {k:SV→SS→OL} {L:L} (h:aRz tt f xs S k=some L) (hw:L.wp p Q S.nv ρ ks) :
  Fin p Q ks N ρ S env k (fun v m'=>∃ vs,iI env gb xs=some vs∧aCh tt p f vs m=some (v,m')):=by
 unfold aRz at h
 split at h
 case h_2=>simp at h
 rename_i e sg hfind
 have hs:=a6u hfind
 split at h
 ·rename_i ais ids hai
  split at hai
  case h_2=>simp at hai
  rename_i fys hfl
  cases hc:(zE ids && zE (mY ais)) with
  | false=>rw [hc] at h; simp at h
  | true =>
   rw [hc] at h
   simp only [cond_true] at h
   simp only [zxz] at hc
   have hid:=a6s hc.1
   have hbx:=a6s hc.2
   obtain ⟨us,ls,gs,e0,e2,e3,e4,e5,e6,e7,e8⟩:=aAa c hai
   obtain ⟨vs,e1,e1'⟩:=aOv c hfl e0
   have hown:=e5 hid
   have hones:a7t ls:=fun i j l h1 h2=>by
    obtain ⟨b,q1,q2⟩:=aMm e3 h1
    obtain ⟨b',q3,q4⟩:=aMm e3 h2
    have:=c.oY b b' l q2 q4
    subst this
    exact hbx i j b q1 q3
   obtain ⟨ws,nv1,kn1,bl1,ρ1,L1,f1,f2,f3,f4,f5,f6,f7⟩:=aF3 c h hw e7
   obtain ⟨y,L2,kn2,bl2,g1,g2,g3,g4⟩:=kN f3 (g:=none) f1 f2
   have hy:p e (ais.map (AI.den ρ))=some y:=by
    have g1:p e (ws.map (A.den ρ1))=some y:=g1
    rw [f6] at g1; exact g1
   obtain ⟨her0,hans⟩:=hp _ _ _ hy
   obtain ⟨rs,rfl,hn,hsh⟩:=(hans f sg hs).aO
   have her:rs.map V.aF=rs:=by simpa [V.aF,cI] using her0
   have c2:aH N (gkD ids gk) gb ((((S.lL nv1 kn1 bl1).lL (nv1+1) kn2 bl2).sZ ids).forget (mY ais)) (ext ρ1 nv1 (.aO rs)) env m:=(g4.sZ (ids:=ids)).forget (bs:=mY ais)
   obtain ⟨n1,n2,n3,n4,_⟩:=aJd (bs:=mY ais) (S:=((S.lL nv1 kn1 bl1).lL (nv1+1) kn2 bl2).sZ ids)
   obtain ⟨d1,d2,d3⟩:=aF4 (ids:=ids) (S:=(S.lL nv1 kn1 bl1).lL (nv1+1) kn2 bl2)
   generalize hS3:(((S.lL nv1 kn1 bl1).lL (nv1+1) kn2 bl2).sZ ids).forget (mY ais)=S3 at c2 n1 n2 n3 n4
   have hnv:S3.nv=nv1+1:=n1.trans d1
   have hdep:S3.dep=S.dep:=n2.trans d2
   have g2:emit none (bif Nat.beq sg.cL 1 then .ext (.v nv1) 0 else .pre sg.cL (.v nv1)) S3 (fun r S=>aL9 (.v nv1) sg.cL ais S fun S=>k (.val r) S)=some L2:=by rw [← hS3]; exact g2
   have g3':L2.wp p Q S3.nv (ext ρ1 nv1 (.aO rs)) ks:=by rw [hnv]; exact g3
   obtain ⟨r,L3,kn3,bl3,k1,k2,k3,k4⟩:=kN c2 (g:=none) g2 g3'
   have hρ2:ext ρ1 nv1 (.aO rs) nv1 = .aO rs:=kD _ _ _
   have hr:r=pack (rs.take sg.cL):=by
    rw [b37 hn]
    cases hb:Nat.beq sg.cL 1 with
    | true =>
     have h1:=zzx hb
     rw [hb] at k1
     have k1:aC (ext ρ1 nv1 (.aO rs) nv1) 0=some r:=k1
     rw [hρ2] at k1
     have k1 : rs[0]? = some r:=k1
     rw [if_pos h1]
     cases rs with
     | nil=>simp at k1
     | cons a rs=>simpa using k1.symm
    | false =>
     have h1:¬ sg.cL=1:=fun e=>by rw [e] at hb; simp at hb
     rw [hb] at k1
     have k1:iH sg.cL (ext ρ1 nv1 (.aO rs) nv1)=some r:=k1
     rw [hρ2] at k1
     simp only [iH,zzz] at k1
     rw [if_neg h1]; exact k1.symm
   have hrer:r.aF=r:=by
    rw [hr]
    have:((rs.take sg.cL).map V.aF)=rs.take sg.cL:=by rw [List.map_take,her]
    cases ht:rs.take sg.cL with
    | nil=>rfl
    | cons a l =>
     rw [ht] at this
     cases l with
     | nil=>simp only [zsx,List.map_nil,List.cons.injEq,and_true] at this; exact this
     | cons b l=>simp only [pack,V.aF,cI,this]
   generalize hH:pU m.T.length (gY sg.as) ls (rs.drop sg.cL) m.H=pb
   have hkl:(zD gs m.T).length=m.T.length:=by simp [zD]
   have hlsl:ls.length=(gY sg.as).length:=by
    have:=congrArg List.length e3
    simp only [zsy] at this
    rw [← this,e6]
    exact b02 ais
   have hlt:∀ l ∈ ls,l < m.H.length:=fun l hl=>by
    obtain ⟨j,hj⟩:=List.mem_iff_getElem?.1 hl
    obtain ⟨b,_,q2⟩:=aMm e3 hj
    exact c.blt l (zyx q2)
   have c4:=k4.mem (m':=⟨pb.1,zD gs m.T++pb.2⟩) (by rw [← hH]; exact aTz) (fun b l cells hb hl=>by
     have hnb:b ∉ mY ais:=fun hm=>n4 b hm cells hb
     rw [← hH]
     refine aF5 fun hm=>?_
     obtain ⟨j,hj⟩:=List.mem_iff_getElem?.1 hm
     obtain ⟨b',q1,q2⟩:=aMm e3 hj
     have:=c.oY b' b l q2 hl
     subst this
     exact hnb (zyx q1)) (by simp [hkl]) (fun k i x hk hx=>by
     unfold gkD at hk
     split at hk
     ·simp at hk
     ·rename_i hnk
      have hlt:i < m.T.length:=(zzy.1 hx).1
      rw [ztz (by rw [hkl]; exact hlt)]
      simp only [zD,List.getElem?_mapIdx,hx,Option.map_some,zzz]
      cases hgi:uH gs i with
      | false=>rfl
      | true =>
       exfalso
       obtain ⟨q,hq⟩:=a6j.1 hgi
       obtain ⟨k',q1,q2⟩:=e4 i (zyx hq)
       have:=c.kY k k' i hk q2
       subst this
       exact hnk (tK.2 q1))
   have hB:aH6 ⟨pb.1,zD gs m.T++pb.2⟩ m.T.length (zZ ais) ls (rs.drop sg.cL):=by
    rw [← hH,e6]
    exact aX6 (T0:=[]) (by rw [← e6]; exact hsh) (by rw [← e6]; exact hlsl) hones hlt hkl
   have agr:aZ (ext ρ1 nv1 (.aO rs)) (ext (ext ρ1 nv1 (.aO rs)) S3.nv r) (nv1+1):=by rw [← hnv]; exact bZ _ _ _
   obtain ⟨S',ρ',gk',L',x1,x2,x3,x4,x5,x6⟩:=aKb her (y:=.v nv1) c4 k2 k3 (by
     show ext (ext ρ1 nv1 (.aO rs)) S3.nv r nv1=_
     rw [agr nv1 (Nat.lt_succ_self _),hρ2]) (by show Nat.blt nv1 (S3.nv+1)=true; exact Nat.ble_eq_true_of_le (by omega)) rfl (by rw [← e6]; exact hsh) hB e3 (fun k j hk=>by
     unfold gkD at hk
     split at hk
     ·simp at hk
     ·exact (c.tY k j hk).2) (by simp [hkl]) e8
   have x4':S3.nv+1≤S'.nv:=x4
   have f4':S.nv≤nv1:=f4
   refine ⟨pack (rs.take sg.cL),⟨pb.1,zD gs m.T++pb.2⟩,.val (.v S3.nv),S',ρ',L',gk',gb,⟨vs,e1,?_⟩,x1,x2,x3,?_,Nat.ble_eq_true_of_le x4',?_,by omega,x6.trans hdep⟩
   ·unfold aCh
    rw [aH7 c e1 hfind]
    simp only
    unfold aOl
    rw [e1',Option.bind_some,e2]
    simp only
    rw [if_pos ⟨hones,hown⟩,hy]
    simp only [hH]
   ·show (pack (rs.take sg.cL)).aF=ρ' S3.nv
    rw [x5 S3.nv (Nat.lt_succ_self _),kD,← hr,hrer]
   ·refine (f5.trans (bZ ρ1 nv1 (.aO rs)) f4').trans ?_ (zxy _)
    intro i hi
    rw [x5 i (by show i < S3.nv+1; omega),agr i (by omega)]
 ·simp at h
end
end Go.Fbs

/- An operation,whatever it is; operations one behind the other. -/
namespace Go.Fbs
section
variable {P:Program} {tt:TT} (hT:∀ t ti,cU tt t=some ti→aV P ti∧ti.t=t)
variable {p:PT} (hp:Canon tt p) {Q:V→Prop} {ks:List (List V→Prop)} {N:Nat} {gk:Nat→Option Nat} {gb:List Nat} {S:SS} {ρ:Nat→V} {env:Env} {m:Hp}
def OO (P:Program) (tt:TT) (p:PT) (ρ:Nat→V) (g:Gd) (env:Env) (m:Hp) (op:Op) (v:V) (m':Hp):Prop :=
 (pG (CE tt p) op=true∧QO P tt p ρ g env m op v m')∨LO' P tt p g env m op v m'
theorem Fin.quiet {g:Gd} {op:Op} {k:SV→SS→OL} (hq:pG (CE tt p) op=true) (h:Fin p Q ks N ρ S env k (QO P tt p ρ g env m op)):Fin p Q ks N ρ S env k (OO P tt p ρ g env m op):=h.mono fun _ _ h=>.inl ⟨hq,h⟩
theorem Fin.aT1 {g:Gd} {op:Op} {k:SV→SS→OL} (h:Fin p Q ks N ρ S env k (LO' P tt p g env m op)):Fin p Q ks N ρ S env k (OO P tt p ρ g env m op):=h.mono fun _ _ h=>.inr h
include hT hp in
theorem bDz (c:aH N gk gb S ρ env m) {g:Gd} (hgk:tJ S ρ g) {cl:Call} {k:SV→SS→OL} {L:L} (h:gO tt g (.call cl) S k=some L) (hw:L.wp p Q S.nv ρ ks):Fin p Q ks N ρ S env k (OO P tt p ρ g env m (.call cl)):=by
 obtain ⟨callee,args,ts⟩:=cl
 have two:∀ {a b:A} {vs:List V},vs.map V.aF=[a,b].map (A.den ρ)→∃ v u,vs=[v,u]∧v.aF=a.den ρ∧u.aF=b.den ρ:=by
  intro a b vs h2
  have:=congrArg List.length h2
  simp only [zsy,zwx,List.length_nil] at this
  match vs,this with
  | [v,u],_ =>
   simp only [zsx,List.map_nil,List.cons.injEq,and_true] at h2
   exact ⟨v,u,rfl,h2.1,h2.2⟩
 have vcall:∀ {x:Operand},pG (CE tt p) (.call ⟨.value x,args,ts⟩)=true→(match S.jB g x,S.oR g args.toList with | some a,some as=>uE g (.aL4 a as) S k | _,_=>none)=some L→Fin p Q ks N ρ S env k (OO P tt p ρ g env m (.call ⟨.value x,args,ts⟩)):=by
  intro x hx h
  split at h
  ·rename_i a as ha has
   obtain ⟨vf,hf1,hf2,_⟩:=c.jB ha
   obtain ⟨vs,h1,h2,_⟩:=c.oR has
   refine Fin.quiet hx (oZ c h hw fun hon w hw'=>?_)
   ·simp only [E.ev,← h2 hon,← hf2 hon] at hw'
    obtain ⟨v,e1,rfl⟩:=bBq hw'
    refine ⟨v,?_,?_⟩
    ·simp only [bK,h1,tC,hf1]; exact e1
    ·unfold wR at hw'
     split at hw'
     ·rename_i gf _ _
      cases hlt:Nat.blt gf a06 with
      | false=>rw [hlt] at hw'; simp at hw'
      | true=>rw [hlt] at hw'; exact (hp _ _ _ hw').1
     ·simp at hw'
  ·simp at h
 cases callee with
 | builtin b =>
  cases b with
  | append=>exact (b7u hT c h hw).aT1
  | len =>
   simp only [gO] at h
   split at h <;> (try (rename_i hq; simp at hq; done)) <;> (try (rename_i hq _; simp at hq; done)) <;> (try (simp at h; done))
   rename_i t _ hts
   split at h
   ·rename_i ti a hti has
    obtain ⟨tok,htt⟩:=hT t ti hti
    have hd:=tok.d
    rw [htt] at hd
    obtain ⟨vs,h1,h2,_,h2l⟩:=c.oR has
    obtain ⟨v,rfl⟩:∃ v,vs=[v]:=List.length_eq_one_iff.1 (by simpa using h2l)
    simp only [zsx,List.map_nil,List.cons.injEq,and_true] at h2
    have hev:bK P (CE tt p) env m.H (.call ⟨.builtin .len,args,ts⟩)=vO P .len [t] [v]:=by
     simp only [bK,h1,hts]
    split at h
    ·rename_i hdd
     rw [hdd] at hd
     refine Fin.quiet rfl (iW c h hgk hw fun hon w hw'=>?_)
     simp only [E.ev,← h2 hon] at hw'
     rw [hev,bDi hd]; exact bDn hw'
    ·rename_i e hdd
     rw [hdd] at hd
     refine Fin.quiet rfl (iW c h hgk hw fun hon w hw'=>?_)
     simp only [E.ev,← h2 hon] at hw'
     rw [hev,bDj hd]; exact bDo hw'
    ·simp at h
   ·simp at h
  | min =>
   simp only [gO] at h
   split at h <;> (try (simp at h; done))
   rename_i a b has
   obtain ⟨vs,h1,h2,_,h2l⟩:=c.oR has
   refine Fin.quiet rfl (iW c h hgk hw fun hon w hw'=>?_)
   obtain ⟨v,u,rfl,h3,h4⟩:=two (h2 hon)
   simp only [E.ev,← h3,← h4] at hw'
   simp only [bK,h1]
   exact bDs (g:=false) hw'
  | max =>
   simp only [gO] at h
   split at h <;> (try (simp at h; done))
   rename_i a b has
   obtain ⟨vs,h1,h2,_,h2l⟩:=c.oR has
   refine Fin.quiet rfl (iW c h hgk hw fun hon w hw'=>?_)
   obtain ⟨v,u,rfl,h3,h4⟩:=two (h2 hon)
   simp only [E.ev,← h3,← h4] at hw'
   simp only [bK,h1]
   exact bDs (g:=true) hw'
  | _=>simp [gO] at h
 | value x =>
  cases x with
  | func f =>
   simp only [gO] at h
   cases hsg:isE tt f with
   | false =>
    rw [hsg] at h
    simp only [cond_false] at h
    split at h
    ·rename_i as has
     cases hlt:Nat.blt f a06 with
     | false=>rw [hlt] at h; simp at h
     | true =>
      rw [hlt] at h
      simp only [cond_true] at h
      obtain ⟨vs,h1,h2,_⟩:=c.oR has
      refine Fin.quiet (by show (!isE tt f)=true; rw [hsg]; rfl) (oZ c h hw fun hon w hw'=>⟨w,?_,(hp _ _ _ hw').1⟩)
      simp only [E.ev,← h2 hon] at hw'
      simp only [bK,h1,tC,ev,aLn,List.append_nil]
      rw [hlt]
      exact hw'
    ·simp at h
   | true =>
    rw [hsg] at h
    simp only [cond_true] at h
    cases g with
    | some g=>simp at h
    | none =>
     have hq:pG (CE tt p) (.call ⟨.value (.func f),args,ts⟩)=false:=by show (!isE tt f)=false; rw [hsg]; rfl
     refine (aT0 hp c h hw).mono fun v m' ⟨vs,h1,h2⟩=>.inr ⟨rfl,hq,yI hq rfl ?_⟩
     rw [aOu] at h1
     simp only [evalW,h1,ev,List.append_nil]
     exact h2
  | tmp t =>
   simp only [gO] at h
   cases hd:jM tt.dyn t with
   | false =>
    rw [hd] at h
    simp only [cond_false] at h
    exact vcall (by show (!jM tt.dyn t)=true; rw [hd]; rfl) h
   | true =>
    rw [hd] at h
    simp only [cond_true] at h
    split at h
    ·rename_i f caps hlk
     cases hc:isE tt f with
     | false=>rw [hc] at h; simp at h
     | true =>
      rw [hc] at h
      simp only [cond_true] at h
      have hq:pG (CE tt p) (.call ⟨.value (.tmp t),args,ts⟩)=false:=by show (!jM tt.dyn t)=false; rw [hd]; rfl
      obtain ⟨ht,⟨cs,r1,r2,r3⟩,_⟩:=c.cE t _ hlk
      have hcaps:iI env gb (caps.map fun q=>Ob.bx q.2)=some cs:=a9e r2 r3
      refine (aT0 hp c h hw).mono fun v m' ⟨vs,h1,h2⟩=>.inr ⟨rfl,hq,yI hq rfl ?_⟩
      obtain ⟨v0,v1,g1,g2,rfl⟩:=a99 h1
      rw [aOu] at g1
      rw [hcaps] at g2
      simp only [zzz] at g2
      subst g2
      have hev:ev env (.tmp t)=some (.func f cs):=by
       simp only [ev,Env.get]
       rw [if_pos (by rw [c.n]; exact ht),r1]
      simp only [evalW,g1,hev]
      exact h2
    ·simp at h
  | const v=>simp only [gO] at h; exact vcall rfl h
  | global v=>simp only [gO] at h; exact vcall rfl h
 | invoke r n=>simp [gO] at h
include hT hp in
theorem b38 (c:aH N gk gb S ρ env m) {g:Gd} (hgk:tJ S ρ g) {op:Op} {k:SV→SS→OL} {L:L} (h:gO tt g op S k=some L) (hw:L.wp p Q S.nv ρ ks):Fin p Q ks N ρ S env k (OO P tt p ρ g env m op):=by
 cases op with
 | move x=>exact (b32 c h hgk hw).quiet rfl
 | assign x=>exact (b32 c h hgk hw).quiet rfl
 | pick a b d=>exact (bDu (P:=P) c hgk h hw).quiet rfl
 | load t x=>exact (bDv hT c hgk h hw).quiet rfl
 | nilCheck x=>exact (b0x (P:=P) c hgk h hw).quiet rfl
 | binOp op t x y u=>exact (bBt hT c hgk h hw).quiet rfl
 | unOp op t x=>exact (bDw (P:=P) c hgk h hw).quiet rfl
 | convert s d x=>exact (b33 hT c hgk h hw).quiet rfl
 | slice t x lo hi mx =>
  cases mx with
  | none=>exact (bBu hT c h hw).quiet rfl
  | some _=>simp [gO] at h
 | field t x f=>exact (bBv hT c hgk h hw).quiet rfl
 | fieldAddr t x f=>exact (aW3 hT c hgk h hw).quiet rfl
 | indexAddr t x i=>exact (aW4 hT c hgk h hw).quiet rfl
 | index t x i=>exact (bBw hT c h hw).quiet rfl
 | extract x i=>exact (b34 (P:=P) c hgk h hw).quiet rfl
 | build t ps=>exact (bBx hT c hgk h hw).quiet rfl
 | buildSlice t n ps=>exact (aTu hT c hgk h hw).quiet rfl
 | makeFunc f a b=>exact (b0y (P:=P) c h hw).quiet rfl
 | alloc t=>exact (bB0 hT c h hw).aT1
 | box t x=>exact (bGf c h hw).aT1
 | store t x y=>exact (bB1 hT c h hw).aT1
 | makeSlice t x y=>exact (aW8 hT c h hw).aT1
 | call cl=>exact bDz hT hp c hgk h hw
 | _=>simp [gO] at h
theorem aF6 {α:Type} {l:List (Nat×α)} {d t:Nat} (h:t≠d):assoc (l.filter fun p=>!Nat.beq p.1 d) t=assoc l t:=by
 induction l with
 | nil=>rfl
 | cons q l ih =>
  obtain ⟨j,x⟩:=q
  by_cases hj:j=d
  ·have hb:Nat.beq j d=true:=by subst hj; exact Nat.beq_refl j
   have hjt:Nat.beq j t=false:=by
    cases hq:Nat.beq j t with
    | false=>rfl
    | true=>have:=zzx hq; omega
   rw [List.filter_cons]
   simp only [hb,Bool.not_true,zuy,if_false,assoc,hjt,cond_false]
   exact ih
  ·have hb:Nat.beq j d=false:=by
    cases hq:Nat.beq j d with
    | false=>rfl
    | true=>exact absurd (zzx hq) hj
   rw [List.filter_cons]
   simp only [hb,Bool.not_false,if_true,assoc]
   rw [ih]
theorem aH.put (c:aH N gk gb S ρ env m) {d:Option Tmp} {s:SV} {v:V} {S':SS} (h:S.put N d s=some S') (r:dQ ρ gk gb m.T s v) (hb:s.below S.nv=true):aH N gk gb S' ρ (iS env d v) m∧S'.nv=S.nv∧S'.dep=S.dep:=by
 cases d with
 | none =>
  simp only [SS.put,zzz] at h
  subst h
  exact ⟨c,rfl,rfl⟩
 | some d =>
  simp only [SS.put] at h
  cases hd:Nat.blt d N with
  | false=>rw [hd] at h; simp at h
  | true =>
   rw [hd] at h
   simp only [cond_true,zzz] at h
   subst h
   refine ⟨⟨c.n,fun t s' hs=>?_,c.boxes,c.lT,c.oY,c.blt,c.kY,c.tY,c.known,c.cS,c.own⟩,rfl,rfl⟩
   simp only [SS.look,assoc] at hs
   show t < N∧dQ ρ gk gb m.T s' ((env.put d v).f t)∧_
   rw [Env.b92]
   by_cases ht:d=t
   ·subst ht
    rw [show Nat.beq d d=true from Nat.beq_refl d] at hs
    simp only [cond_true,zzz] at hs
    subst hs
    rw [if_pos rfl]
    exact ⟨iC hd,r,hb⟩
   ·have hbt:Nat.beq d t=false:=by
     cases hq:Nat.beq d t with
     | false=>rfl
     | true=>exact absurd (zzx hq) ht
    rw [hbt] at hs
    simp only [cond_false] at hs
    rw [aF6 (fun e=>ht e.symm)] at hs
    rw [if_neg (fun e=>ht e.symm)]
    exact c.cE t s' hs
theorem b03 (x:V) (b:Bool) (o:Option V):aQ x.aF b o=aQ x b o:=by
 cases x <;> rfl
structure Left (p:PT) (Q:V→Prop) (N:Nat) (ρ:Nat→V) (S:SS) (ks:List (List V→Prop)) (k:SS→OL) (env:Env) (m:Hp):Prop where
 out:∃ S' ρ' L' gk' gb' pre,k S'=some L'∧L'.wp p Q S'.nv ρ' (pre++ks)∧aH N gk' gb' S' ρ' env m∧aZ ρ ρ' S.nv∧S.nv≤S'.nv∧S'.dep=S.dep+pre.length
theorem Left.step {S1:SS} {ρ1:Nat→V} {k:SS→OL} (h:Left p Q N ρ1 S1 ks k env m) (ha:aZ ρ ρ1 S.nv) (hn:S.nv≤S1.nv) (hd:S1.dep=S.dep):Left p Q N ρ S ks k env m:=by
 obtain ⟨S',ρ',L',gk',gb',pre,h1,h2,h3,h4,h5,h6⟩:=h.out
 exact ⟨S',ρ',L',gk',gb',pre,h1,h2,h3,ha.trans h4 hn,Nat.le_trans hn h5,by rw [h6,hd]⟩
theorem aH.bD0 (c:aH N gk gb S ρ env m) {t:Nat} {s:SV} (ht:t < N) (r:dQ ρ gk gb m.T s (env.f t)) (hb:s.below S.nv=true):aH N gk gb { S with cE:=(t,s)::S.cE.filter (fun p=>!Nat.beq p.1 t) } ρ env m:=by
 refine ⟨c.n,fun t' s' hs=>?_,c.boxes,c.lT,c.oY,c.blt,c.kY,c.tY,c.known,c.cS,c.own⟩
 simp only [SS.look,assoc] at hs
 by_cases htt:t=t'
 ·subst htt
  rw [show Nat.beq t t=true from Nat.beq_refl t] at hs
  simp only [cond_true,zzz] at hs
  subst hs
  exact ⟨ht,r,hb⟩
 ·have hbt:Nat.beq t t'=false:=by
   cases hq:Nat.beq t t' with
   | false=>rfl
   | true=>exact absurd (zzx hq) htt
  rw [hbt] at hs
  simp only [cond_false] at hs
  rw [aF6 (fun e=>htt e.symm)] at hs
  exact c.cE t' s' hs
theorem a1n {g:Gd} : ∀ {xs:List Operand} {S:SS} {ρ:Nat→V} {k:SS→OL} {L:L},aH N gk gb S ρ env m→zX g xs S k=some L→L.wp p Q S.nv ρ ks →
  ∃ S' ρ' L',k S'=some L'∧L'.wp p Q S'.nv ρ' ks∧aH N gk gb S' ρ' env m∧aZ ρ ρ' S.nv∧S.nv≤S'.nv∧S'.dep=S.dep
 | [],S,ρ,k,L,c,h,hw=>⟨S,ρ,L,h,hw,c,aZ.refl _ _,zxy _,rfl⟩
 | .tmp t::r,S,ρ,k,L,c,h,hw=>by
  simp only [zX] at h
  split at h
  ·rename_i a g' hl
   cases hs:Gd.same g' g with
   | true=>rw [hs] at h; exact a1n c h hw
   | false =>
    rw [hs] at h
    simp only [cond_false] at h
    obtain ⟨ht,hr,hb⟩:=c.cE t _ hl
    obtain ⟨y,L',kn,bl,e1,e2,e3,e4⟩:=kN c h hw
    have hy:V.aF (env.f t)=y:=by
     rcases xE e1 with ⟨hon,e5⟩ | ⟨hoff,rfl,_⟩
     ·simp only [E.ev,zzz] at e5
      rw [← e5]; exact hr.1 hon
     ·rw [hr.2 hoff]; rfl
    have c2:=e4.bD0 (t:=t) (s:=.val (.v S.nv)) ht (by show V.aF _=ext ρ S.nv y S.nv; rw [kD]; exact hy) (mZ _)
    obtain ⟨S',ρ',L2,q1,q2,q3,q4,q5,q6⟩:=a1n c2 e2 e3
    exact ⟨S',ρ',L2,q1,q2,q3,(bZ ρ S.nv y).trans q4 (Nat.le_succ _),Nat.le_trans (Nat.le_succ _) q5,q6⟩
  ·exact a1n c h hw
 | .const v::r,S,ρ,k,L,c,h,hw=>by simp only [zX] at h; exact a1n c h hw
 | .global v::r,S,ρ,k,L,c,h,hw=>by simp only [zX] at h; exact a1n c h hw
 | .func v::r,S,ρ,k,L,c,h,hw=>by simp only [zX] at h; exact a1n c h hw
theorem tJ.to {S S':SS} {ρ ρ':Nat→V} {g:Gd} (hg:tJ S ρ g) (hn:S.nv≤S'.nv) (ha:aZ ρ ρ' S.nv):tJ S' ρ' g :=
 ⟨Gd.cF hg.1 hn,fun a b h=>by
  have hb:a.below S.nv=true:=by have:=hg.1; rw [h] at this; exact this
  rw [gQ ha hb]; exact hg.2 a b h⟩
theorem aH.unG (c:aH N gk gb S ρ env m) {g:Gd} (hg:gP ρ g):aH N gk gb (S.unG g) ρ env m:=by
 refine ⟨c.n,fun t s hs=>?_,c.boxes,c.lT,c.oY,c.blt,c.kY,c.tY,c.known,c.cS,c.own⟩
 have key:∀ {l:List (Nat×SV)},assoc (l.map fun p=>(p.1,p.2.unG g)) t=some s→∃ s0,assoc l t=some s0∧s=s0.unG g:=by
  intro l
  induction l with
  | nil=>intro h; simp [assoc] at h
  | cons q l ih =>
   obtain ⟨j,y⟩:=q
   intro h
   simp only [zsx,assoc] at h ⊢
   cases hb:Nat.beq j t with
   | true =>
    rw [hb] at h
    simp only [cond_true,zzz] at h
    exact ⟨y,rfl,h.symm⟩
   | false=>rw [hb] at h; exact ih h
 obtain ⟨s0,h0,rfl⟩:=key hs
 obtain ⟨ht,hr,hb⟩:=c.cE t s0 h0
 refine ⟨ht,?_,?_⟩
 ·cases s0 with
  | nI a g' =>
   simp only [SV.unG]
   cases hsm:g'.same g with
   | false=>exact hr
   | true=>exact hr.1 (by rw [Gd.fD hsm]; exact hg)
  | ptr b off g' =>
   simp only [SV.unG]
   cases hsm:g'.same g with
   | false=>exact hr
   | true=>exact ⟨fun _=>hr.1 (by rw [Gd.fD hsm]; exact hg),fun h=>absurd trivial h⟩
  | _=>exact hr
 ·cases s0 with
  | nI a g' =>
   simp only [SV.unG]
   simp only [SV.below,zxz] at hb
   cases hsm:g'.same g with
   | false=>simp only [cond_false,SV.below,zxz]; exact hb
   | true=>exact hb.1
  | ptr b off g' =>
   simp only [SV.unG]
   cases hsm:g'.same g with
   | false=>exact hb
   | true=>rfl
  | _=>exact hb
def a3y (kn:List (A×Bool)) (n:Nat) (ρ:Nat→V):Prop:=∀ q ∈ kn,q.1.below n=true∧q.1.den ρ = .bool q.2
theorem a3y.mono {kn:List (A×Bool)} {n n':Nat} {ρ ρ':Nat→V} (h:a3y kn n ρ) (ha:aZ ρ ρ' n) (hn:n≤n'):a3y kn n' ρ':=fun q hq=>by
 obtain ⟨h1,h2⟩:=h q hq
 exact ⟨A.cF h1 hn,by rw [gQ ha h1]; exact h2⟩
theorem a3y.cons {kn:List (A×Bool)} {n:Nat} {ρ:Nat→V} (h:a3y kn n ρ) {a:A} {b:Bool} (ha:a.below n=true) (hb:a.den ρ = .bool b):a3y ((a,b)::kn) n ρ:=fun q hq=>by
 rcases List.mem_cons.1 hq with rfl | hq
 ·exact ⟨ha,hb⟩
 ·exact h q hq
theorem aP7:∀ {kn:List (A×Bool)} {a:A} {b:Bool},aTj kn a=some b→(a,b) ∈ kn
 | [],_,_,h=>by simp [aTj] at h
 | (x,c)::r,a,b,h=>by
  simp only [aTj] at h
  cases hs:x.same a with
  | true =>
   rw [hs] at h
   simp only [cond_true,zzz] at h
   rw [A.fD hs,h]
   exact List.mem_cons_self
  | false=>rw [hs] at h; exact List.mem_cons_of_mem _ (aP7 h)
theorem bD1 {b want:Bool} (h:¬ b=want):b = !want:=by cases b <;> cases want <;> first | rfl | exact absurd rfl h
theorem bB3 {b want:Bool} {n:Nat} {ρ:Nat→V} {x y:Go.Fbs.L} (h:¬ b=want) (hw:if b then (bif want then x else y).wp p Q n ρ ks else (bif want then y else x).wp p Q n ρ ks):y.wp p Q n ρ ks:=by
 rw [bD1 h] at hw
 cases want <;> exact hw
theorem aKc {a:A} {b:Bool} {ρ:Nat→V} (h:b0j a=some b):a.den ρ = .bool b:=by
 unfold b0j at h
 split at h
 ·simp only [zzz] at h; subst h; rfl
 ·simp at h
theorem aOx {kn:List (A×Bool)} {n:Nat} {ρ:Nat→V} (hk:a3y kn n ρ) {a:A} {b:Bool} (h:knB kn a=some b):a.den ρ = .bool b:=by
 unfold knB at h
 split at h
 ·rename_i b' hb
  simp only [zzz] at h; subst h; exact aKc hb
 ·exact (hk _ (aP7 h)).2
theorem bB4 {kn:List (A×Bool)} {n:Nat} {ρ:Nat→V} (hk:a3y kn n ρ) {a:A} {b want:Bool} (h:knU kn a want=some b):a.den ρ = .bool b∨(a.den ρ = .undef∧b = !want):=by
 unfold knU at h
 split at h
 ·simp only [zzz] at h; exact .inr ⟨rfl,h.symm⟩
 ·exact .inl (aOx hk h)
theorem b7x {P:Program} {kn:List (A×Bool)} {S:SS} {ρ:Nat→V} {env:Env} {m:Hp} {gk:Nat→Option Nat} {gb:List Nat} {N:Nat} (c:aH N gk gb S ρ env m) (hk:a3y kn S.nv ρ) (op:Op) :
  a2n kn S op=op∨(∃ x,a2n kn S op = .move x)∧(∃ a b d,op = .pick a b d)∧∀ (C:cN) (H:List LO) (v:V),bK P C env H (a2n kn S op)=some v→bK P C env H op=some v:=by
 unfold a2n
 split
 ·rename_i q a b
  split
  ·rename_i c' hc
   obtain ⟨v0,h1,h2,_⟩:=c.wU hc
   split
   ·rename_i hb
    cases hs:(S.gI b).isSome with
    | false=>exact .inl rfl
    | true =>
     obtain ⟨s,hs⟩:=Option.isSome_iff_exists.1 hs
     obtain ⟨u,hu,_,_⟩:=c.gI hs
     have hv0:v0 = .bool true:=oX (by rw [h2]; exact aOx hk hb)
     refine .inr ⟨⟨a,rfl⟩,⟨_,_,_,rfl⟩,fun C H v h=>?_⟩
     have h:Fbs.ev env a=some v:=h
     show (match Fbs.ev env q,Fbs.ev env a,Fbs.ev env b with | some t,some u,some v=>cH t u v | _,_,_=>none)=some v
     rw [h1,h,hu,hv0]; rfl
   ·rename_i hb
    cases hs:(S.gI a).isSome with
    | false=>exact .inl rfl
    | true =>
     obtain ⟨s,hs⟩:=Option.isSome_iff_exists.1 hs
     obtain ⟨u,hu,_,_⟩:=c.gI hs
     have hv0:v0 = .bool false:=oX (by rw [h2]; exact aOx hk hb)
     refine .inr ⟨⟨b,rfl⟩,⟨_,_,_,rfl⟩,fun C H v h=>?_⟩
     have h:Fbs.ev env b=some v:=h
     show (match Fbs.ev env q,Fbs.ev env a,Fbs.ev env b with | some t,some u,some v=>cH t u v | _,_,_=>none)=some v
     rw [h1,h,hu,hv0]; rfl
   ·exact .inl rfl
  ·exact .inl rfl
 ·exact .inl rfl
theorem aT2 {kn:List (A×Bool)} {S:SS} {ρ ρ2:Nat→V} {env:Env} {m m':Hp} {gk:Nat→Option Nat} {gb:List Nat} {N:Nat} {tt:TT} {p:PT} {P:Program} (c:aH N gk gb S ρ env m) (hk:a3y kn S.nv ρ) {op:Op} {v:V} (h:OO P tt p ρ2 none env m (a2n kn S op) v m'):OO P tt p ρ2 none env m op v m':=by
 rcases b7x (P:=P) c hk op with h1 | ⟨⟨x,hx⟩,⟨a,b,d,rfl⟩,h1⟩
 ·rw [h1] at h; exact h
 ·rcases h with ⟨_,hm,h⟩ | ⟨_,hq,_⟩
  ·exact .inl ⟨rfl,hm,h1 _ _ _ h⟩
  ·rw [hx] at hq; simp [pG] at hq
include hT hp in
theorem aH8 {ops:List Oper} : ∀ {rest:List Oper} {kn:List (A×Bool)} {S:SS} {ρ:Nat→V} {env:Env} {m:Hp} {gk:Nat→Option Nat} {gb:List Nat} {k:SS→OL} {L:L} (c:aH N gk gb S ρ env m) (hkn:a3y kn S.nv ρ) (h:zY tt N ops kn rest S k=some L) (hw:L.wp p Q S.nv ρ ks)
  {K:Env→Hp→Prop} (hK:∀ env' m',Left p Q N ρ S ks k env' m'→K env' m'),jK P (CE tt p) ops rest env m K
 | [],kn,S,ρ,env,m,gk,gb,k,L,c,hkn,h,hw,K,hK=>hK env m ⟨S,ρ,L,gk,gb,[],h,hw,c,aZ.refl _ _,zxy _,rfl⟩
 | o::rest,kn,S,ρ,env,m,gk,gb,k,L,c,hkn,h,hw,K,hK=>by
  simp only [zY] at h
  have main:∀ {S1:SS} {ρ1:Nat→V} {g:Gd} {L1:Go.Fbs.L},aH N gk gb S1 ρ1 env m→tJ S1 ρ1 g→L1.wp p Q S1.nv ρ1 ks→aZ ρ ρ1 S.nv→S.nv≤S1.nv→S1.dep=S.dep →
    ∀ {op':Op},(zX g (aA7 S1 g op') S1 fun S=>gO tt g op' S fun s S'=>match S'.put N o.dst s with | some S''=>zY tt N ops kn rest S'' k | none=>none)=some L1 →
    ∃ ρ2 v m',aZ ρ ρ2 S.nv∧aZ ρ1 ρ2 S1.nv∧OO P tt p ρ2 g env m op' v m'∧jK P (CE tt p) ops rest (iS env o.dst v) m' K:=by
   intro S1 ρ1 g L1 c1 hg1 hw1 ha1 hn1 hd1 op' h1
   obtain ⟨S2,ρ2,L2,r1,r2,r3,r4,r5,r6⟩:=a1n c1 h1 hw1
   obtain ⟨v,m',s,S',ρ',L',gk',gb',e1,e2,e3,e4,e5,e6,e7,e8,e9⟩:=b38 hT hp r3 (hg1.to r5 r4) r1 r2
   simp only at e2
   split at e2
   ·rename_i S'' hput
    obtain ⟨c2,hnv,hdep⟩:=e4.put hput e5 e6
    have hall:=ha1.trans (r4.trans e7 r5) hn1
    refine ⟨ρ2,v,m',ha1.trans r4 hn1,r4,e1,aH8 c2 (hkn.mono hall (by rw [hnv]; omega)) e2 (by rw [hnv]; exact e3) fun env' m' hl=>hK env' m' ?_⟩
    refine Left.step hl ?_ ?_ ?_
    ·exact hall
    ·rw [hnv]; omega
    ·rw [hdep,e9,r6,hd1]
   ·simp at e2
  have fire:∀ {ρ2:Nat→V} {v:V} {m':Hp},OO P tt p ρ2 none env m o.op v m'→jK P (CE tt p) ops rest (iS env o.dst v) m' K→a2e P (CE tt p) o.op env m fun v m'=>jK P (CE tt p) ops rest (iS env o.dst v) m' K:=by
   intro ρ2 v m' e1 e2
   unfold a2e
   rcases e1 with ⟨hq,rfl,e1⟩ | ⟨_,hq,e1⟩
   ·rw [if_pos hq]
    have e1':bK P (CE tt p) env _ o.op=some v:=e1
    rw [e1']; exact e2
   ·rw [if_neg (by rw [hq]; simp)]
    unfold evalOp at e1
    rw [if_neg (by rw [hq]; simp)] at e1
    cases ha:qY o.op with
    | true =>
     rw [ha] at e1
     simp only [if_true,zyy,zvy] at e1
     obtain ⟨cs,e3,rfl,rfl⟩:=e1
     rw [if_pos rfl,e3]; exact e2
    | false =>
     rw [ha] at e1
     simp only [zuy,if_false] at e1
     rw [if_neg (by simp),e1]; exact e2
  have fired:∀ {ρ2:Nat→V} {v:V} {m':Hp} {g:V} {want:Bool},g = .bool want→OO P tt p ρ2 none env m o.op v m'→jK P (CE tt p) ops rest (iS env o.dst v) m' K →
    (if pG (CE tt p) o.op then opt (aQ g want (bK P (CE tt p) env m.H o.op)) fun v=>jK P (CE tt p) ops rest (iS env o.dst v) m K
     else a43 g want (a2e P (CE tt p) o.op env m fun v m'=>jK P (CE tt p) ops rest (iS env o.dst v) m' K) (jK P (CE tt p) ops rest (iS env o.dst .undef) m K)):=by
   intro ρ2 v m' g want hg e1 e2
   subst hg
   have hs:=fire e1 e2
   simp only [aQ,a43,beq_self_eq_true,if_true]
   rcases e1 with ⟨hq,rfl,e1⟩ | ⟨_,hq,_⟩
   ·rw [if_pos hq]
    have e1':bK P (CE tt p) env _ o.op=some v:=e1
    rw [e1']; exact e2
   ·rw [if_neg (by rw [hq]; simp)]; exact hs
  have passed:∀ {g:V} {b want:Bool},g = .bool b→b≠want→jK P (CE tt p) ops rest (iS env o.dst .undef) m K →
    (if pG (CE tt p) o.op then opt (aQ g want (bK P (CE tt p) env m.H o.op)) fun v=>jK P (CE tt p) ops rest (iS env o.dst v) m K
     else a43 g want (a2e P (CE tt p) o.op env m fun v m'=>jK P (CE tt p) ops rest (iS env o.dst v) m' K) (jK P (CE tt p) ops rest (iS env o.dst .undef) m K)):=by
   intro g b want hg hne e2
   subst hg
   have hbe:(b == want)=false:=by simpa using hne
   simp only [aQ,a43,hbe]
   cases hq:pG (CE tt p) o.op with
   | true=>exact e2
   | false=>exact e2
  have passedU:∀ {g:V} {want:Bool},g = .undef→jK P (CE tt p) ops rest (iS env o.dst .undef) m K →
    (if pG (CE tt p) o.op then opt (aQ g want (bK P (CE tt p) env m.H o.op)) fun v=>jK P (CE tt p) ops rest (iS env o.dst v) m K
     else a43 g want (a2e P (CE tt p) o.op env m fun v m'=>jK P (CE tt p) ops rest (iS env o.dst v) m' K) (jK P (CE tt p) ops rest (iS env o.dst .undef) m K)):=by
   intro g want hg e2
   subst hg
   cases hq:pG (CE tt p) o.op with
   | true=>exact e2
   | false=>exact e2
  simp only [jK]
  unfold b3u at h
  split at h
  ·rename_i hg
   rw [hg]
   simp only at h ⊢
   obtain ⟨ρ2,v,m',_,_,e1,e2⟩:=main c ⟨rfl,fun _ _ h=>by simp at h⟩ hw (aZ.refl _ _) (zxy _) rfl h
   exact fire (aT2 c hkn e1) e2
  ·rename_i j want hg
   rw [hg]
   simp only
   split at h
   ·rename_i d hd1
    obtain ⟨S0,ρ0,L0,r1,r2,c0,ha0,hn0,hd0⟩:=a1n c h hw
    split at r1
    ·rename_i s hd2
     obtain ⟨ht,hr,hbel⟩:=c0.cE d s hd2
     have hgv:nI ops env j=some (env.f d):=by
      unfold nI
      rw [hd1]
      show env.get d=_
      unfold Env.get
      rw [if_pos (by rw [c0.n]; exact ht)]
     rw [hgv]
     simp only
     split at r1
     ·rename_i a ha
      have hden:=vY hr ha
      have hab:=zH hbel ha
      have done:∀ {S1:SS} {ρ1:Nat→V} {L1:Go.Fbs.L},aH N gk gb S1 ρ1 env m→tJ S1 ρ1 (some (a,want))→L1.wp p Q S1.nv ρ1 ks→aZ ρ0 ρ1 S0.nv→S0.nv≤S1.nv→S1.dep=S0.dep →
        (match knU kn a want with
         | some b =>
          bif b == want then zX none (aA7 S1 none (a2n kn S1 o.op)) S1 fun S=>gO tt none (a2n kn S1 o.op) S fun s S'=>match S'.put N o.dst s with | some S''=>zY tt N ops kn rest S'' k | none=>none
          else match S1.put N o.dst wS with | some S'=>zY tt N ops kn rest S' k | none=>none
         | none =>
          bif isSplit tt o.op then
           match gO tt none o.op (S1.unG (some (a,want))) (fun s S'=>match S'.put N o.dst s with | some S''=>zY tt N ops ((a,want)::kn) rest S'' k | none=>none),(match S1.put N o.dst wS with | some S'=>zY tt N ops ((a,!want)::kn) rest S' k | none=>none) with
           | some x,some y=>some (.ite a (bif want then x else y) (bif want then y else x))
           | _,_=>none
          else zX (some (a,want)) (aA7 S1 (some (a,want)) o.op) S1 fun S=>gO tt (some (a,want)) o.op S fun s S'=>match S'.put N o.dst s with | some S''=>zY tt N ops kn rest S'' k | none=>none)=some L1 →
        (if pG (CE tt p) o.op then opt (aQ (env.f d) want (bK P (CE tt p) env m.H o.op)) fun v=>jK P (CE tt p) ops rest (iS env o.dst v) m K
         else a43 (env.f d) want (a2e P (CE tt p) o.op env m fun v m'=>jK P (CE tt p) ops rest (iS env o.dst v) m' K) (jK P (CE tt p) ops rest (iS env o.dst .undef) m K)):=by
       intro S1 ρ1 L1 c1 hg1 hw1 ha1 hn1 hd1' h1
       have hda:a.den ρ1=(env.f d).aF:=by rw [gQ ha1 hab,hden]
       have hab1:a.below S1.nv=true:=A.cF hab hn1
       have hall:aZ ρ ρ1 S.nv:=ha0.trans ha1 hn0
       have hkn1:a3y kn S1.nv ρ1:=hkn.mono hall (Nat.le_trans hn0 hn1)
       have hfin:∀ {S2:SS} {ρ2:Nat→V} {env':Env} {m':Hp},aZ ρ1 ρ2 S1.nv→S1.nv≤S2.nv→S2.dep=S1.dep→Left p Q N ρ2 S2 ks k env' m'→K env' m':=fun h2 h3 h4 hl=>hK _ _ (Left.step hl (hall.trans h2 (Nat.le_trans hn0 hn1)) (by omega) (by rw [h4,hd1',hd0]))
       have undefs:∀ {kn':List (A×Bool)} {y:Go.Fbs.L},a3y kn' S1.nv ρ1→y.wp p Q S1.nv ρ1 ks→(match S1.put N o.dst wS with | some S'=>zY tt N ops kn' rest S' k | none=>none)=some y→jK P (CE tt p) ops rest (iS env o.dst .undef) m K:=by
        intro kn' y hkn' hyw hy
        split at hy
        ·rename_i S'' hput
         obtain ⟨c2,hnv,hdep⟩:=c1.put (v:=.undef) hput (by show V.undef.aF=_; rfl) rfl
         exact aH8 c2 (by rw [hnv]; exact hkn') hy (by rw [hnv]; exact hyw) fun env' m' hl=>hfin (aZ.refl _ _) (by rw [hnv]; exact zxy _) (by rw [hdep]) hl
        ·simp at hy
       split at h1
       ·-- the way is known
        rename_i b hkb
        rcases bB4 hkn1 hkb with hkb | ⟨hku,rfl⟩
        rotate_left
        ·have hbf:((!want) == want)=false:=by cases want <;> rfl
         rw [hbf] at h1
         simp only [cond_false] at h1
         exact passedU (b3y (by rw [← hda]; exact hku)) (undefs hkn1 hw1 h1)
        have hvb:env.f d = .bool b:=oX (by rw [← hda]; exact hkb)
        cases hbw:(b == want) with
        | true =>
         rw [hbw] at h1
         simp only [cond_true] at h1
         obtain rfl:b=want:=by simpa using hbw
         obtain ⟨ρ2,v,m',_,_,e1,e2⟩:=main c1 ⟨rfl,fun _ _ h=>by simp at h⟩ hw1 hall (Nat.le_trans hn0 hn1) (hd1'.trans hd0) h1
         exact fired hvb (aT2 c1 hkn1 e1) e2
        | false =>
         rw [hbw] at h1
         simp only [cond_false] at h1
         exact passed hvb (by simpa using hbw) (undefs hkn1 hw1 h1)
       ·cases hsp:isSplit tt o.op with
        | true =>
         rw [hsp] at h1
         simp only [cond_true] at h1
         split at h1
         ·rename_i x y hx hy
          simp only [zzz] at h1
          subst h1
          replace hw1:bP (a.den ρ1) ((bif want then x else y).wp p Q S1.nv ρ1 ks) ((bif want then y else x).wp p Q S1.nv ρ1 ks):=hw1
          unfold bP at hw1
          split at hw1
          ·rename_i b hb
           have hvb:env.f d = .bool b:=oX (by rw [← hda]; exact hb)
           by_cases hbw:b=want
           ·have hxw:x.wp p Q S1.nv ρ1 ks:=by subst hbw; cases b <;> simpa using hw1
            have hon:a.den ρ1 = .bool want:=by rw [hb,hbw]
            have cT:=c1.unG (g:=some (a,want)) hon
            obtain ⟨v,m',s,S',ρ',L',gk',gb',e1,e2,e3,e4,e5,e6,e7,e8,e9⟩:=b38 hT hp cT ⟨rfl,fun _ _ h=>by simp at h⟩ hx hxw
            simp only at e2
            split at e2
            ·rename_i S'' hput
             obtain ⟨c2,hnv,hdep⟩:=e4.put hput e5 e6
             have hrest:jK P (CE tt p) ops rest (iS env o.dst v) m' K:=aH8 c2 (by rw [hnv]; exact (hkn1.cons hab1 hon).mono e7 e8) e2 (by rw [hnv]; exact e3) fun env' m' hl=>hfin e7 (by rw [hnv]; exact e8) (by rw [hdep,e9]; rfl) hl
             exact fired (by rw [hvb,hbw]) e1 hrest
            ·simp at e2
           ·have hyw:y.wp p Q S1.nv ρ1 ks:=bB3 hbw hw1
            exact passed hvb hbw (undefs (hkn1.cons hab1 (by rw [hb,bD1 hbw])) hyw hy)
          ·exact hw1.elim
         ·simp at h1
        | false =>
         rw [hsp] at h1
         simp only [cond_false] at h1
         obtain ⟨ρ2,v,m',_,hρ,e1,e2⟩:=main c1 hg1 hw1 hall (Nat.le_trans hn0 hn1) (hd1'.trans hd0) h1
         rcases e1 with ⟨hq,rfl,e1⟩ | ⟨hno,_,_⟩
         ·rw [if_pos hq]
          simp only [jE] at e1
          rw [gQ (ha1.trans hρ hn1) hab,← hden,b03] at e1
          rw [e1]; exact e2
         ·simp at hno
      cases hb:S0.isB a with
      | true =>
       rw [hb] at r1
       exact done c0 ⟨hab,fun a' b' e=>by simp only [zzz,zvy] at e; obtain ⟨rfl,_⟩:=e; exact c0.isB hb⟩ r2 (aZ.refl _ _) (zxy _) rfl r1
      | false =>
       rw [hb] at r1
       simp only [cond_false] at r1
       obtain ⟨y,L',kn',bl,e1,e2,e3,e4⟩:=kN c0 r1 r2
       have hbu:vU (a.den ρ0)=true:=by
        simp only [jE,E.ev,qG] at e1
        split at e1
        ·rename_i hh; exact hh
        ·simp at e1
       have hag:=bZ ρ0 S0.nv y
       have hbu':vU (a.den (ext ρ0 S0.nv y))=true:=by rw [gQ hag hab]; exact hbu
       have hab':a.below (S0.nv+1)=true:=A.cF hab (Nat.le_succ _)
       refine done (S1:={ (S0.lL (S0.nv+1) kn' bl) with cS:=(S0.lL (S0.nv+1) kn' bl).a08 a }) ?_ ⟨hab',fun a' b' e=>by simp only [zzz,zvy] at e; obtain ⟨rfl,_⟩:=e; exact hbu'⟩ e3 hag (Nat.le_succ _) rfl e2
       exact ⟨e4.n,e4.cE,e4.boxes,e4.lT,e4.oY,e4.blt,e4.kY,e4.tY,e4.known,e4.a08 hab' hbu',e4.own⟩
     ·simp at r1
    ·simp at r1
   ·simp at h
include hT hp in
theorem bB5 {ops rest:List Oper} {S:SS} {ρ:Nat→V} {env:Env} {m:Hp} {gk:Nat→Option Nat} {gb:List Nat} {k:SS→OL} {L:L} (c:aH N gk gb S ρ env m) (h:aTk tt N ops rest S k=some L) (hw:L.wp p Q S.nv ρ ks)
  {K:Env→Hp→Prop} (hK:∀ env' m',Left p Q N ρ S ks k env' m'→K env' m'):jK P (CE tt p) ops rest env m K :=
 aH8 hT hp c (fun _ h=>by simp at h) h hw hK
end
end Go.Fbs

/- A place that is come to by several ways. -/
namespace Go.Fbs
section
variable {p:PT} {Q:V→Prop} {N:Nat}
theorem aMn {S:SS} : ∀ {vars:Vars} {as:List A} {ids:List Nat},aMc S vars=some (as,ids) →
  as.length = vars.length ∧ (∀ (i : Nat) l q,vars[i]? = some (l,q) → ∃ s a,S.at_ l = some s ∧ as[i]? = some a ∧ ((∀ t b,q ≠ .self t b) → s.a? = some a) ∧
   (∀ n,q = .val (some n)→S.mQ a n=true)∧(∀ sz,q = .grow sz→s = .nJ∨∃ k,s = .grow k sz a)∧(∀ t b,q = .self t b→(∃ j,l = .c b j)∧a83 t b s=some a)) ∧
  (∀ (i : Nat) l q k sz a,vars[i]? = some (l,q) → S.at_ l = some (.grow k sz a) → (∃ sz',q = .grow sz') → k ∈ ids) ∧
  (∀ (i j : Nat) l l' sz sz' k a a',vars[i]? = some (l,.grow sz) → vars[j]? = some (l',.grow sz') → S.at_ l = some (.grow k sz a) → S.at_ l' = some (.grow k sz' a') → i = j)
 | [],as,ids,h=>by
  simp only [aMc,zzz,zvy] at h
  obtain ⟨rfl,rfl⟩:=h
  exact ⟨rfl,fun i l q h=>by simp at h,fun i l q k sz a h=>by simp at h,fun i j l l' sz sz' k a a' h=>by simp at h⟩
 | (l,q)::r,as,ids,h=>by
  simp only [aMc] at h
  split at h
  ·rename_i s as' ids' hs hr
   obtain ⟨i1,i2,i3,i4⟩:=aMn hr
   have key : ∃ a,as = a :: as' ∧ ((∀ t b,q ≠ .self t b) → s.a? = some a) ∧ (∀ n,q = .val (some n) → S.mQ a n = true) ∧ (∀ sz,q = .grow sz → s = .nJ ∨ ∃ k,s = .grow k sz a) ∧ (∀ t b,q = .self t b → (∃ j,l = .c b j) ∧ a83 t b s = some a) ∧
     (∀ k,k ∈ ids'→k ∈ ids)∧(∀ k sz a,s = .grow k sz a→(∃ sz',q = .grow sz')→k ∈ ids∧k ∉ ids'):=by
    split at h
    ·rename_i n
     split at h
     ·rename_i a ha
      cases hc:S.b3v n a with
      | false=>rw [hc] at h; simp at h
      | true =>
       rw [hc] at h
       simp only [cond_true,zzz,zvy] at h
       obtain ⟨rfl,rfl⟩:=h
       exact ⟨a,rfl,fun _=>ha,fun n' hn=>by simp only [LK.val.injEq] at hn; subst hn; exact hc,fun sz hq=>by simp at hq,fun t b hq=>by simp at hq,fun k hk=>hk,fun k sz a _ ⟨sz',hq⟩=>by simp at hq⟩
     ·simp at h
    ·rename_i sz k sz' a
     cases hc:(Nat.beq sz sz' && !jM ids' k) with
     | false=>rw [hc] at h; simp at h
     | true =>
      rw [hc] at h
      simp only [cond_true,zzz,zvy] at h
      obtain ⟨rfl,rfl⟩:=h
      simp only [zxz,Bool.not_eq_true'] at hc
      have:=zzx hc.1
      subst this
      refine ⟨a,rfl,fun _=>rfl,fun n hn=>by simp at hn,fun sz'' hq=>?_,fun t b hq=>by simp at hq,fun k' hk=>List.mem_cons_of_mem _ hk,fun k' sz'' a' hq _=>?_⟩
      ·simp only [LK.grow.injEq] at hq; subst hq; exact .inr ⟨k,rfl⟩
      ·simp only [SV.grow.injEq] at hq
       obtain ⟨rfl,_,_⟩:=hq
       refine ⟨List.mem_cons_self,fun hm=>?_⟩
       have hh:jM ids' k=true:=by
        unfold jM
        rw [List.any_eq_true]
        exact ⟨k,hm,Nat.beq_refl k⟩
       rw [hc.2] at hh; simp at hh
    ·simp only [zzz,zvy] at h
     obtain ⟨rfl,rfl⟩:=h
     exact ⟨aFr,rfl,fun _=>rfl,fun n hn=>by simp at hn,fun sz hq=>.inl rfl,fun t b hq=>by simp at hq,fun k hk=>hk,fun k sz a hq=>by simp at hq⟩
    ·rename_i t b
     cases hlc:aTl b l with
     | false=>rw [hlc] at h; simp at h
     | true =>
      rw [hlc] at h
      simp only [cond_true] at h
      split at h
      ·rename_i a ha
       simp only [zzz,zvy] at h
       obtain ⟨rfl,rfl⟩:=h
       refine ⟨a,rfl,fun hn=>absurd rfl (hn t b),fun n hn=>by simp at hn,fun sz hq=>by simp at hq,fun t' b' hq=>?_,fun k hk=>hk,fun k sz a hq ⟨sz',hz⟩=>by simp at hz⟩
       simp only [LK.self.injEq] at hq
       obtain ⟨rfl,rfl⟩:=hq
       refine ⟨?_,ha⟩
       cases l with
       | s t=>simp [aTl] at hlc
       | c b' j=>rw [← zzx (show Nat.beq b' b=true from hlc)]; exact ⟨j,rfl⟩
      ·simp at h
    ·simp at h
   obtain ⟨a,rfl,k1,k2,k3,k6,k4,k5⟩:=key
   refine ⟨by simp [i1],fun i l' q' hi=>?_,fun i l' q' k sz a' hi hat hq=>?_,fun i j l1 l2 sz sz' k a1 a2 h1 h2 h3 h4=>?_⟩
   ·cases i with
    | zero =>
     simp only [zux,zzz,zvy] at hi
     obtain ⟨rfl,rfl⟩:=hi
     exact ⟨s,a,hs,rfl,k1,k2,k3,k6⟩
    | succ i =>
     simp only [zvx] at hi ⊢
     exact i2 i l' q' hi
   ·cases i with
    | zero =>
     simp only [zux,zzz,zvy] at hi
     obtain ⟨rfl,rfl⟩:=hi
     rw [hs] at hat
     simp only [zzz] at hat
     exact (k5 k sz a' hat hq).1
    | succ i =>
     simp only [zvx] at hi
     exact k4 k (i3 i l' q' k sz a' hi hat hq)
   ·cases i with
    | zero =>
     simp only [zux,zzz,zvy] at h1
     obtain ⟨rfl,rfl⟩:=h1
     cases j with
     | zero=>rfl
     | succ j =>
      simp only [zvx] at h2
      rw [hs] at h3
      simp only [zzz] at h3
      exact absurd (i3 j l2 _ k sz' a2 h2 h4 ⟨_,rfl⟩) (k5 k sz a1 h3 ⟨_,rfl⟩).2
    | succ i =>
     simp only [zvx] at h1
     cases j with
     | zero =>
      simp only [zux,zzz,zvy] at h2
      obtain ⟨rfl,rfl⟩:=h2
      rw [hs] at h4
      simp only [zzz] at h4
      exact absurd (i3 i l1 _ k sz a1 h1 h3 ⟨_,rfl⟩) (k5 k sz' a2 h4 ⟨_,rfl⟩).2
     | succ j =>
      simp only [zvx] at h2
      rw [i4 i j l1 l2 sz sz' k a1 a2 h1 h2 h3 h4]
  ·simp at h
theorem aF7 {α:Type} {l r:List (Nat×α)} {t:Nat} {x:α} (h:assoc (l++r) t=some x):assoc l t=some x∨(assoc l t=none∧assoc r t=some x):=by
 induction l with
 | nil=>exact .inr ⟨rfl,h⟩
 | cons q l ih =>
  obtain ⟨j,y⟩:=q
  simp only [List.cons_append,assoc] at h ⊢
  cases hb:Nat.beq j t with
  | true=>rw [hb] at h; exact .inl h
  | false=>rw [hb] at h; exact ih h
theorem a9f {α:Type} {l:List (Nat×α)} {t:Nat} {x:α} (h:assoc l t=some x):(t,x) ∈ l:=by
 induction l with
 | nil=>simp [assoc] at h
 | cons q l ih =>
  obtain ⟨j,y⟩:=q
  simp only [assoc] at h
  cases hb:Nat.beq j t with
  | true =>
   rw [hb] at h
   simp only [cond_true,zzz] at h
   rw [← h,zzx hb]
   exact List.mem_cons_self
  | false=>rw [hb] at h; exact List.mem_cons_of_mem _ (ih h)
theorem a2p {α:Type} {f:Nat→Bool} {l:List (Nat×α)} {t:Nat} {x:α} (h:assoc (l.filter fun p=>f p.1) t=some x):assoc l t=some x:=by
 induction l with
 | nil=>exact h
 | cons q l ih =>
  obtain ⟨j,y⟩:=q
  rw [List.filter_cons] at h
  simp only [assoc]
  cases hf:f j with
  | true =>
   simp only [hf,if_true,assoc] at h
   cases hb:Nat.beq j t with
   | true=>rw [hb] at h; exact h
   | false=>rw [hb] at h; exact ih h
  | false =>
   simp only [hf,zuy,if_false] at h
   cases hb:Nat.beq j t with
   | true =>
    exfalso
    have:=zzx hb
    subst this
    have hm:=a9f h
    rw [List.mem_filter] at hm
    simp [hf] at hm
   | false=>exact ih h
theorem a2q {S : SS} : ∀ {vars : Vars} {i0 t : Nat} {s : SV},assoc (vV S i0 vars) t = some s → ∃ (i : Nat) (q : LK),vars[i]? = some (.s t,q) ∧ s = xD S (i0 + i) q
 | [],i0,t,s,h=>by simp [vV,assoc] at h
 | (.s t',q)::r,i0,t,s,h=>by
  simp only [vV,assoc] at h
  cases hb:Nat.beq t' t with
  | true =>
   rw [hb] at h
   simp only [cond_true,zzz] at h
   have:=zzx hb
   subst this
   exact ⟨0,q,rfl,by rw [Nat.add_zero]; exact h.symm⟩
  | false =>
   rw [hb] at h
   obtain ⟨i,q',h1,h2⟩:=a2q (by simpa using h)
   exact ⟨i+1,q',by simpa using h1,by rw [h2]; congr 1; omega⟩
 | (.c b j,q)::r,i0,t,s,h=>by
  simp only [vV] at h
  obtain ⟨i,q',h1,h2⟩:=a2q h
  exact ⟨i+1,q',by simpa using h1,by rw [h2]; congr 1; omega⟩
theorem tL {S : SS} : ∀ {vars : Vars} {i0 t n : Nat},assoc (pL S i0 vars) t = some n → ∃ (i : Nat) (l : Loc),vars[i]? = some (l,.val (some n)) ∧ t = S.nv + i0 + i
 | [],i0,t,n,h=>by simp [pL,assoc] at h
 | (l,.val (some m))::r,i0,t,n,h=>by
  simp only [pL,assoc] at h
  cases hb:Nat.beq (S.nv+i0) t with
  | true =>
   rw [hb] at h
   simp only [cond_true,zzz] at h
   subst h
   exact ⟨0,l,rfl,by rw [← zzx hb]; rfl⟩
  | false =>
   rw [hb] at h
   obtain ⟨i,l',h1,h2⟩:=tL (by simpa using h)
   exact ⟨i+1,l',by simpa using h1,by omega⟩
 | (l,.val none)::r,i0,t,n,h=>by
  simp only [pL] at h
  obtain ⟨i,l',h1,h2⟩:=tL h
  exact ⟨i+1,l',by simpa using h1,by omega⟩
 | (l,.grow sz)::r,i0,t,n,h=>by
  simp only [pL] at h
  obtain ⟨i,l',h1,h2⟩:=tL h
  exact ⟨i+1,l',by simpa using h1,by omega⟩
 | (l,.self _ b)::r,i0,t,n,h=>by
  simp only [pL] at h
  obtain ⟨i,l',h1,h2⟩:=tL h
  exact ⟨i+1,l',by simpa using h1,by omega⟩
theorem a2r {S : SS} : ∀ {vars : Vars} {i0 : Nat} {bs : List (Option (List SV))} {b : Nat} {cells : List SV},(nR S i0 vars bs)[b]? = some (some cells) →
  ∃ cells0,bs[b]? = some (some cells0) ∧ cells.length = cells0.length ∧ ∀ (j : Nat) s,cells[j]? = some s → (∃ (i : Nat) (q : LK),vars[i]? = some (.c b j,q) ∧ s = xD S (i0 + i) q) ∨ (cells0[j]? = some s ∧ (b,j) ∉ vW vars)
 | [],i0,bs,b,cells,h=>⟨cells,h,rfl,fun j s hs=>.inr ⟨hs,by simp [vW]⟩⟩
 | (.s t,q)::r,i0,bs,b,cells,h=>by
  simp only [nR] at h
  obtain ⟨c0,h1,h2,h3⟩:=a2r h
  refine ⟨c0,h1,h2,fun j s hs=>?_⟩
  rcases h3 j s hs with ⟨i,q',h4,h5⟩ | h4
  ·exact .inl ⟨i+1,q',by simpa using h4,by rw [h5]; congr 1; omega⟩
  ·exact .inr h4
 | (.c b' j',q)::r,i0,bs,b,cells,h=>by
  simp only [nR] at h
  obtain ⟨c1,h1,h2,h3⟩:=a2r h
  have lift : ∀ {j : Nat} {s : SV},(∃ (i : Nat) (q' : LK),r[i]? = some (Loc.c b j,q') ∧ s = xD S (i0 + 1 + i) q') → ∃ (i : Nat) (q' : LK),((Loc.c b' j',q) :: r)[i]? = some (.c b j,q') ∧ s = xD S (i0 + i) q':=by
   rintro j s ⟨i,q',h4,h5⟩
   exact ⟨i+1,q',by simpa using h4,by rw [h5]; congr 1; omega⟩
  split at h1
  ·rename_i cs0 hb'
   by_cases hbb:b'=b
   ·subst hbb
    have hlt:b' < bs.length:=(zzy.1 hb').1
    rw [List.getElem?_set_self hlt] at h1
    simp only [zzz] at h1
    subst h1
    refine ⟨cs0,hb',by rw [h2,List.length_set],fun j s hs=>?_⟩
    rcases h3 j s hs with h4 | ⟨h4,h5⟩
    ·exact .inl (lift h4)
    ·by_cases hj:j'=j
     ·subst hj
      have hjl:j' < cs0.length:=by have:=(zzy.1 h4).1; simpa using this
      rw [List.getElem?_set_self hjl] at h4
      simp only [zzz] at h4
      exact .inl ⟨0,q,rfl,h4.symm⟩
     ·rw [List.getElem?_set_ne hj] at h4
      exact .inr ⟨h4,by simp only [vW,List.mem_cons,not_or]; exact ⟨fun e=>hj (by simp only [zvy] at e; exact e.2.symm),h5⟩⟩
   ·rw [List.getElem?_set_ne hbb] at h1
    refine ⟨c1,h1,h2,fun j s hs=>?_⟩
    rcases h3 j s hs with h4 | ⟨h4,h5⟩
    ·exact .inl (lift h4)
    ·exact .inr ⟨h4,by simp only [vW,List.mem_cons,not_or]; exact ⟨fun e=>hbb (by simp only [zvy] at e; exact e.1.symm),h5⟩⟩
  ·rename_i hb'
   refine ⟨c1,h1,h2,fun j s hs=>?_⟩
   rcases h3 j s hs with h4 | ⟨h4,h5⟩
   ·exact .inl (lift h4)
   ·refine .inr ⟨h4,?_⟩
    simp only [vW,List.mem_cons,not_or]
    refine ⟨fun e=>?_,h5⟩
    simp only [zvy] at e
    rw [e.1] at h1
    exact hb' _ h1
theorem a3z {S:SS} : ∀ {vars:Vars} {i0:Nat} {bs:List (Option (List SV))},(nR S i0 vars bs).length=bs.length
 | [],i0,bs=>rfl
 | (.s t,q)::r,i0,bs=>by simp only [nR]; exact a3z
 | (.c b j,q)::r,i0,bs=>by
  simp only [nR]
  rw [a3z]
  split <;> simp
theorem aEb {vc : List (Nat × Nat)} {b : Nat} : ∀ {j : Nat} {cs ds : List SV},a1a vc b j cs ds = true → cs.length = ds.length ∧ ∀ (q : Nat) d,ds[q]? = some d → (b,j + q) ∉ vc → ∃ s,cs[q]? = some s ∧ SV.fits (some s) d = true
 | j,[],[],h=>⟨rfl,fun q d hd=>by simp at hd⟩
 | j,s::cs,d::ds,h=>by
  simp only [a1a,zxz,Bool.or_eq_true] at h
  obtain ⟨h1,h2⟩:=aEb h.2
  refine ⟨by simp [h1],fun q d' hd hn=>?_⟩
  cases q with
  | zero =>
   simp only [zux,zzz] at hd
   subst hd
   rcases h.1 with h3 | h3
   ·exfalso
    rw [List.any_eq_true] at h3
    obtain ⟨p,h4,h5⟩:=h3
    simp only [zxz] at h5
    obtain ⟨p1,p2⟩:=p
    have e1:=zzx h5.1
    have e2:=zzx h5.2
    simp only at e1 e2
    subst e1; subst e2
    exact hn h4
   ·exact ⟨s,rfl,h3⟩
  | succ q =>
   simp only [zvx] at hd ⊢
   exact h2 q d' hd (by rw [show j+1+q=j+(q+1) by omega]; exact hn)
 | j,[],_::_,h=>by simp [a1a] at h
 | j,_::_,[],h=>by simp [a1a] at h
theorem a5p {vc : List (Nat × Nat)} : ∀ {b0 : Nat} {cs ds : List (Option (List SV))},tU vc b0 cs ds = true → ds.length ≤ cs.length ∧ ∀ (b : Nat) d,ds[b]? = some (some d) → ∃ c,cs[b]? = some (some c) ∧ a1a vc (b0 + b) 0 c d = true
 | b0,cs,[],h=>⟨Nat.zero_le _,fun b d hd=>by simp at hd⟩
 | b0,x::cs,none::ds,h=>by
  simp only [tU] at h
  obtain ⟨h1,h2⟩:=a5p h
  refine ⟨by simp [h1],fun b d hd=>?_⟩
  cases b with
  | zero=>simp at hd
  | succ b =>
   simp only [zvx] at hd ⊢
   obtain ⟨c,h3,h4⟩:=h2 b d hd
   exact ⟨c,h3,by rw [show b0+(b+1)=b0+1+b by omega]; exact h4⟩
 | b0,some c::cs,some d::ds,h=>by
  simp only [tU,zxz] at h
  obtain ⟨h1,h2⟩:=a5p h.2
  refine ⟨by simp [h1],fun b d' hd=>?_⟩
  cases b with
  | zero =>
   simp only [zux,zzz] at hd
   subst hd
   exact ⟨c,rfl,h.1⟩
  | succ b =>
   simp only [zvx] at hd ⊢
   obtain ⟨c',h3,h4⟩:=h2 b d' hd
   exact ⟨c',h3,by rw [show b0+(b+1)=b0+1+b by omega]; exact h4⟩
 | b0,none::cs,some d::ds,h=>by simp [tU] at h
 | b0,[],none::ds,h=>by simp [tU] at h
 | b0,[],some d::ds,h=>by simp [tU] at h
theorem a30 (ρ:Nat→V) (n:Nat) (vs:List V):aZ ρ (exts ρ n vs) n:=by
 intro i hi
 unfold exts
 have:Nat.ble n i=false:=by
  cases hb:Nat.ble n i with
  | false=>rfl
  | true=>have:=zxx hb; omega
 rw [this]; rfl
theorem bB6 (ρ : Nat → V) {n i : Nat} {vs : List V} {v : V} (h : vs[i]? = some v) : exts ρ n vs (n + i) = v:=by
 unfold exts
 rw [show Nat.ble n (n+i)=true from Nat.ble_eq_true_of_le (Nat.le_add_right _ _)]
 simp only [cond_true]
 rw [show n+i - n=i by omega,gv,zry,h]; rfl
theorem aMo:∀ {l l':List (Nat×Nat)},aH1 l l'=true→l=l'
 | [],[],_=>rfl
 | [],_::_,h=>by simp [aH1] at h
 | _::_,[],h=>by simp [aH1] at h
 | (a,b)::r,(a',b')::r',h=>by
  simp only [aH1,zxz] at h
  rw [zzx h.1.1,zzx h.1.2,aMo h.2]
theorem SV.fD {s t:SV} (h:s.same t=true):s=t∧(s = .nJ∨(∃ a n off g,s = .elem a n off g)∨(∃ b off g,s = .ptr b off g)∨(∃ b off n i g,s = .pix b off n i g)∨(∃ f l,s = .kX f l)∨∃ t b a,s = .self t b a):=by
 unfold SV.same at h
 split at h
 ·exact ⟨rfl,.inl rfl⟩
 ·simp only [zxz] at h
  obtain ⟨⟨⟨h1,h2⟩,h3⟩,h4⟩:=h
  rw [A.fD h1,zzx h2,zzx h3,Gd.fD h4]
  exact ⟨rfl,.inr (.inl ⟨_,_,_,_,rfl⟩)⟩
 ·simp only [zxz] at h
  obtain ⟨⟨h1,h2⟩,h3⟩:=h
  rw [zzx h1,zzx h2,Gd.fD h3]
  exact ⟨rfl,.inr (.inr (.inl ⟨_,_,_,rfl⟩))⟩
 ·simp only [zxz] at h
  obtain ⟨⟨⟨⟨h1,h2⟩,h3⟩,h4⟩,h5⟩:=h
  rw [zzx h1,zzx h2,zzx h3,A.fD h4,Gd.fD h5]
  exact ⟨rfl,.inr (.inr (.inr (.inl ⟨_,_,_,_,_,rfl⟩)))⟩
 ·simp only [zxz] at h
  rw [zzx h.1,aMo h.2]
  exact ⟨rfl,.inr (.inr (.inr (.inr (.inl ⟨_,_,rfl⟩))))⟩
 ·simp only [zxz] at h
  rw [zzx h.1.1,zzx h.1.2,A.fD h.2]
  exact ⟨rfl,.inr (.inr (.inr (.inr (.inr ⟨_,_,_,rfl⟩))))⟩
 ·simp at h
theorem aEc {S:SS} {s:SV} (h:S.keeps s=true):S.keeps (aH4 s)=true:=by
 cases s <;> exact h
theorem aT3 {gk gk2 : Nat → Option Nat} {gb gb2 : List Nat} {T : List (Nat × Nat)} {ρ' ρ2 : Nat → V} {n nb : Nat} (ha : aZ ρ' ρ2 n) (hgb : ∀ (b l : Nat),b < nb → gb[b]? = some l → gb2[b]? = some l) {s' t : SV} {v : V}
  (r:dQ ρ' gk gb T s' v) (hf:SV.fits (some s') t=true) (hbl:t.below n=true) (hin:t.inb nb=true):dQ ρ2 gk2 gb2 T t v:=by
 have viaSame:s'.same t=true→dQ ρ2 gk2 gb2 T t v:=fun h=>by
  obtain ⟨rfl,h2⟩:=SV.fD h
  have r2:=r.agree ha hbl
  rcases h2 with rfl | ⟨a,m,off,g,rfl⟩ | ⟨b,off,g,rfl⟩ | ⟨b,off,m,i,g,rfl⟩ | ⟨f,caps,rfl⟩ | ⟨t0,b,a,rfl⟩
  ·exact r2
  ·exact r2
  ·exact ⟨fun hon=>let ⟨l,h3,h4⟩:=r2.1 hon; ⟨l,hgb b l (iC hin) h3,h4⟩,r2.2⟩
  ·exact ⟨fun hon=>let ⟨l,q,z,h3,h4⟩:=r2.1 hon; ⟨l,q,z,hgb b l (iC hin) h3,h4⟩,r2.2⟩
  ·obtain ⟨cs,h1,h3,h4⟩:=r2
   refine ⟨cs,h1,h3,fun i q c hq hc=>?_⟩
   obtain ⟨l,h5,h6⟩:=h4 i q c hq hc
   have hin:caps.all (fun q=>Nat.blt q.2 nb)=true:=hin
   exact ⟨l,hgb _ l (iC (List.all_eq_true.1 hin q (zyx hq))) h5,h6⟩
  ·obtain ⟨l,h3,h4⟩:=r2
   exact ⟨l,hgb b l (iC hin) h3,h4⟩
 unfold SV.fits at hf
 cases t with
 | val a =>
  simp only at hf
  split at hf
  ·rename_i a' ha'
   have:=A.fD hf
   subst this
   show v.aF=a'.den ρ2
   rw [gQ ha hbl]; exact vY r ha'
  ·simp at hf
 | nI a g=>exact viaSame hf
 | grow k sz a=>exact viaSame hf
 | nJ=>exact viaSame hf
 | elem a m off g=>exact viaSame hf
 | ptr b off g=>exact viaSame hf
 | pix b off m i g=>exact viaSame hf
 | stv a nl=>exact viaSame hf
 | kX f caps=>exact viaSame hf
 | self t0 b a=>exact viaSame hf
theorem aEd {S:SS} {i m:Nat} {q:LK} (h:i < m):(xD S i q).below (S.nv+m)=true:=by
 cases q <;> exact Nat.ble_eq_true_of_le (by omega)
theorem aT4 {S:SS} {ρ:Nat→V} (hk0:∀ i n,assoc S.known i=some n→i < S.nv∧nT n (ρ i)) (hb0:∀ i ∈ S.cS,i < S.nv∧vU (ρ i)=true) {ds:List Nat} {vars:Vars}
  {S':SS} {ρ':Nat→V} {gk:Nat→Option Nat} {gb:List Nat} {env:Env} {m:Hp} (c:aH N gk gb S' ρ' env m) (ha:aZ ρ ρ' S.nv) {as:List A} (h:aMd S' (nS S ds vars) vars=some as) :
  as.length=vars.length∧∃ gk2 gb2,aH N gk2 gb2 (nS S ds vars) (exts ρ S.nv (as.map (A.den ρ'))) env m:=by
 unfold aMd at h
 split at h
 ·rename_i as' ids hargs
  cases hc:((nS S ds vars).cE.all (fun p=>jM (a7v vars) p.1 || SV.fits (S'.look p.1) p.2) && tU (vW vars) 0 S'.boxes (nS S ds vars).boxes && (Nat.beq S'.own (nS S ds vars).own && Nat.ble (nS S ds vars).own (nS S ds vars).boxes.length)) with
  | false=>rw [hc] at h; simp at h
  | true =>
   rw [hc] at h
   simp only [cond_true,zzz] at h
   subst h
   simp only [zxz] at hc
   obtain ⟨⟨hsl,hbx⟩,hown⟩:=hc
   obtain ⟨i1,i2,_,i4⟩:=aMn hargs
   obtain ⟨b1,b2⟩:=a5p hbx
   have hblen:(nS S ds vars).boxes.length=S.boxes.length:=by
    show (nR S 0 vars _).length=_
    rw [a3z,zsy]
   rw [hblen] at b1
   generalize hvs:as'.map (A.den ρ')=vs
   have hvsl:vs.length=vars.length:=by rw [← hvs,zsy,i1]
   have hlow:aZ ρ' (exts ρ S.nv vs) S.nv:=fun i hi=>by rw [a30 ρ S.nv vs i hi,ha i hi]
   have hat : ∀ {i : Nat} {a : A},as'[i]? = some a → exts ρ S.nv vs (S.nv + i) = a.den ρ':=fun {i a} hi=>by
    apply bB6
    rw [← hvs,zvz,hi]; rfl
   let gk2 : Nat → Option Nat:=fun k=>if S.nk ≤ k then (match vars[k - S.nk]? with | some (l,.grow _)=>(match S'.at_ l with | some (.grow q _ _)=>gk q | _=>none) | _=>none) else none
   have gk2_spec : ∀ k i,gk2 k = some i → S.nk ≤ k ∧ ∃ l sz q sz' a,vars[k - S.nk]? = some (l,.grow sz) ∧ S'.at_ l = some (.grow q sz' a) ∧ gk q = some i:=by
    intro k i hk
    simp only [gk2] at hk
    split at hk
    ·rename_i hle
     split at hk
     ·rename_i l sz hv
      split at hk
      ·rename_i q sz' a hat'
       exact ⟨hle,l,sz,q,sz',a,hv,hat',hk⟩
      ·simp at hk
     ·simp at hk
    ·simp at hk
   have uT : ∀ {i : Nat} {l : Loc} {q : LK} {s' : SV} {v : V},vars[i]? = some (l,q) → (∀ b j,l = .c b j → ∃ l',(gb.take S.boxes.length)[b]? = some l' ∧ gb[b]? = some l') → S'.at_ l = some s' → dQ ρ' gk gb m.T s' v → dQ (exts ρ S.nv vs) gk2 (gb.take S.boxes.length) m.T (xD S i q) v:=by
    intro i l q s' v hv hgl hl r
    obtain ⟨s,a,e1,e2,e3,e4,e5,e6⟩:=i2 i l q hv
    rw [hl] at e1
    simp only [zzz] at e1
    subst e1
    cases q with
    | val n =>
     show v.aF=exts ρ S.nv vs (S.nv+i)
     rw [hat e2]; exact vY r (e3 fun t b hq=>by simp at hq)
    | self t b =>
     obtain ⟨⟨j,rfl⟩,hsa⟩:=e6 t b rfl
     obtain ⟨l',g1,g2⟩:=hgl b j rfl
     have hd:=aTq hsa g2 r
     exact ⟨l',g1,by rw [show (A.v (S.nv+i)).den (exts ρ S.nv vs)=a.den ρ' from hat e2]; exact hd⟩
    | grow sz =>
     have e3:=e3 fun t b hq=>by simp at hq
     rcases e5 sz rfl with rfl | ⟨k,rfl⟩
     ·have hv':v = .sl .full []:=r
      simp only [SV.a?,zzz] at e3
      subst e3
      refine ⟨[],?_,.inl ⟨hv',fun _=>rfl⟩⟩
      show exts ρ S.nv vs (S.nv+i)=_
      rw [hat e2]; rfl
     ·obtain ⟨es,h1,h2⟩:=r
      refine ⟨es,?_,?_⟩
      ·show exts ρ S.nv vs (S.nv+i)=_
       rw [hat e2]; exact h1
      ·rcases h2 with h2 | ⟨j,h3,h4,h5⟩
       ·exact .inl h2
       ·refine .inr ⟨j,?_,h4,h5⟩
        show gk2 (S.nk+i)=some j
        simp only [gk2]
        rw [if_pos (Nat.le_add_right _ _),show S.nk+i - S.nk=i by omega,hv]
        simp only [hl]
        exact h3
   have hgb : ∀ (b l : Nat),b < S.boxes.length → gb[b]? = some l → (gb.take S.boxes.length)[b]? = some l:=fun b l hb h=>by
    rw [List.getElem?_take,if_pos hb]; exact h
   have hgb' : ∀ (b l : Nat),(gb.take S.boxes.length)[b]? = some l → gb[b]? = some l:=fun b l h=>by
    rw [List.getElem?_take] at h
    split at h
    ·exact h
    ·simp at h
   refine ⟨i1,gk2,gb.take S.boxes.length,⟨c.n,fun t s hs=>?_,fun b cells hb=>?_,?_,fun b b' l h1 h2=>c.oY b b' l (hgb' b l h1) (hgb' b' l h2),fun l hl=>c.blt l (List.mem_of_mem_take hl),fun k k' i h1 h2=>?_,fun k i hk=>?_,fun i n hi=>?_,fun i hi=>?_,fun b hb=>?_⟩⟩
   ·-- cE
    simp only [SS.look,nS] at hs
    rcases aF7 hs with hs1 | ⟨hs0,hs1⟩
    ·obtain ⟨i,q,hv,rfl⟩:=a2q hs1
     obtain ⟨s',a,e1,e2,e3,_⟩:=i2 i _ q hv
     obtain ⟨h1,h2,h3⟩:=c.cE t s' e1
     rw [Nat.zero_add]
     have hil:i < vars.length:=(zzy.1 hv).1
     exact ⟨h1,uT hv (fun b j hq=>by simp at hq) e1 h2,aEd hil⟩
    ·have hm:=a9f hs1
     have hall:=List.all_eq_true.1 hsl (t,s) (by simp only [nS]; exact List.mem_append_right _ hm)
     rw [List.mem_map] at hm
     obtain ⟨⟨t0,s0⟩,hm1,hm2⟩:=hm
     simp only [zvy] at hm2
     obtain ⟨rfl,rfl⟩:=hm2
     rw [List.mem_filter] at hm1
     obtain ⟨_,hm1⟩:=hm1
     simp only [zxz,Bool.not_eq_true'] at hm1
     have hkp:=aEc hm1.2
     simp only [SS.keeps,zxz] at hkp
     simp only [hm1.1.2,Bool.false_or] at hall
     cases hl:S'.look t0 with
     | none=>rw [hl] at hall; simp [SV.fits] at hall
     | some s' =>
      rw [hl] at hall
      obtain ⟨h1,h2,h3⟩:=c.cE t0 s' hl
      exact ⟨h1,aT3 hlow hgb h2 hall hkp.1 hkp.2,SV.cF hkp.1 (Nat.le_add_right _ _)⟩
   ·-- boxes
    have hb' : (nR S 0 vars (S.boxes.map fun b=>match b with | some cells=>if cells.all S.keeps then some (cells.map aH4) else none | none=>none))[b]? = some (some cells):=hb
    obtain ⟨c0,hc0,hcl,hcs⟩:=a2r hb'
    obtain ⟨c1,hc1,hfit⟩:=b2 b cells hb
    obtain ⟨l,cs,h1,⟨e9,h2,e8⟩,h3⟩:=c.boxes b c1 hc1
    obtain ⟨hlen,hfits⟩:=aEb hfit
    have hbl:b < S.boxes.length:=by have:=(zzy.1 hc0).1; simpa using this
    refine ⟨l,cs,hgb b l hbl h1,⟨e9,h2,fun j t b' a hj=>?_⟩,by rw [← hlen]; exact h3.1,fun j s v hj hv=>?_⟩
    case refine_1 =>
     rcases hcs j _ hj with ⟨i,q,hvar,hq⟩ | ⟨hj0,hnv⟩
     ·obtain ⟨s',a',e1,_,_,_,_,e6⟩:=i2 i _ q hvar
      have e1' : c1[j]? = some s':=by
       simp only [SS.at_,hc1] at e1
       exact e1
      cases q with
      | self t' b'' =>
       simp only [xD,SV.self.injEq] at hq
       obtain ⟨rfl,rfl,_⟩:=hq
       rw [a6p (e6 _ _ rfl).2] at e1'
       exact e8 j _ _ _ e1'
      | _=>simp [xD] at hq
     ·obtain ⟨s',hs',hf⟩:=hfits j _ hj (by rw [Nat.zero_add,Nat.zero_add]; exact hnv)
      have hsm:s'.same (.self t b' a)=true:=hf
      rw [(SV.fD hsm).1] at hs'
      exact e8 j _ _ _ hs'
    rcases hcs j s hj with ⟨i,q,hvar,rfl⟩ | ⟨hj0,hnv⟩
    ·have hil:i < vars.length:=(zzy.1 hvar).1
     obtain ⟨s',a,e1,e2,e3,_⟩:=i2 i _ q hvar
     have e1' : c1[j]? = some s':=by
      simp only [SS.at_,hc1] at e1
      exact e1
     rw [Nat.zero_add]
     exact ⟨uT hvar (fun b' j' hq=>by simp only [Loc.c.injEq] at hq; obtain ⟨rfl,_⟩:=hq; exact ⟨l,hgb b l hbl h1,h1⟩) e1 (h3.2 j s' v e1' hv).1,aEd hil⟩
    ·obtain ⟨s',hs',hf⟩:=hfits j s hj (by rw [Nat.zero_add,Nat.zero_add]; exact hnv)
     have hkp:S.keeps s=true:=by
      rw [zvz,zyy] at hc0
      obtain ⟨o,_,ho⟩:=hc0
      split at ho
      ·split at ho
       ·rename_i cells1 hall
        simp only [zzz] at ho
        subst ho
        rw [zvz,zyy] at hj0
        obtain ⟨s0,hs0,rfl⟩:=hj0
        exact aEc (List.all_eq_true.1 hall s0 (zyx hs0))
       ·simp at ho
      ·simp at ho
     simp only [SS.keeps,zxz] at hkp
     exact ⟨aT3 hlow hgb (h3.2 j s' v hs' hv).1 hf hkp.1 hkp.2,SV.cF hkp.1 (Nat.le_add_right _ _)⟩
   ·rw [hblen,List.length_take,c.lT]; omega
   ·obtain ⟨hle1,l1,sz1,q1,sz1',a1,v1,at1,g1⟩:=gk2_spec k i h1
    obtain ⟨hle2,l2,sz2,q2,sz2',a2,v2,at2,g2⟩:=gk2_spec k' i h2
    have hq:=c.kY q1 q2 i g1 g2
    subst hq
    obtain ⟨s,a,e1,e2,e3,e4,e5,_⟩:=i2 _ _ _ v1
    obtain ⟨s',a',f1,f2,f3,f4,f5,_⟩:=i2 _ _ _ v2
    rw [at1] at e1; rw [at2] at f1
    simp only [zzz] at e1 f1
    subst e1; subst f1
    have z1:sz1'=sz1:=by
     rcases e5 sz1 rfl with e | ⟨k0,e⟩
     ·simp at e
     ·simp only [SV.grow.injEq] at e; exact e.2.1
    have z2:sz2'=sz2:=by
     rcases f5 sz2 rfl with e | ⟨k0,e⟩
     ·simp at e
     ·simp only [SV.grow.injEq] at e; exact e.2.1
    subst z1; subst z2
    have:=i4 _ _ _ _ _ _ _ _ _ v1 v2 at1 at2
    omega
   ·obtain ⟨hle1,l1,sz1,q1,sz1',a1,v1,at1,g1⟩:=gk2_spec k i hk
    have:=(zzy.1 v1).1
    exact ⟨by show k < S.nk+vars.length; omega,(c.tY q1 i g1).2⟩
   ·-- what is known
    have hi':assoc (pL S 0 vars++(S.known.filter fun p=>Nat.blt p.1 S.nv)) i=some n:=hi
    rcases aF7 hi' with h1 | ⟨_,h1⟩
    ·obtain ⟨j,l,hv,rfl⟩:=tL h1
     obtain ⟨s,a,e1,e2,e3,e4,_⟩:=i2 j l _ hv
     have hjl:j < vars.length:=(zzy.1 hv).1
     refine ⟨by show S.nv+0+j < S.nv+vars.length; omega,?_⟩
     rw [show S.nv+0+j=S.nv+j by omega,hat e2]
     exact c.mQ (e4 n rfl)
    ·have h2:=a2p (f:=fun j=>Nat.blt j S.nv) h1
     obtain ⟨h3,h4⟩:=hk0 i n h2
     refine ⟨by show i < S.nv+vars.length; omega,?_⟩
     rw [a30 ρ S.nv vs i h3]; exact h4
   ·have hi':i ∈ S.cS.filter fun i=>Nat.blt i S.nv:=hi
    rw [List.mem_filter] at hi'
    obtain ⟨h3,h4⟩:=hb0 i hi'.1
    refine ⟨by show i < S.nv+vars.length; omega,?_⟩
    rw [a30 ρ S.nv vs i h3]; exact h4
   ·have e1:=zzx hown.1
    have e2:=zxx hown.2
    rw [hblen] at e2
    exact hgb b b (by omega) (c.own b (by rw [e1]; exact hb))
 ·simp at h
end
end Go.Fbs

/- A list that is made and then filled: what the code does. -/
namespace Go.Fbs
def At (a : Act) (t : Nat) (x : Value) : Prop:=a.tmps[t]? = some x
theorem At.ev {a:Act} {t:Nat} {x:Value} (h:At a t x):a.eval (.tmp t)=x:=by
 obtain ⟨ht,h3⟩:=zsz.1 h
 simp [Act.eval,Array.getD,ht,h3]
theorem At.same {a:Act} {d:Nat} {x:Value} (h:d < a.tmps.size):At (a.put (some d) x) d x:=by
 unfold At
 simp only [Act.put]
 rw [Array.getElem?_setIfInBounds,if_pos rfl,if_pos h]
theorem At.cZ {a:Act} {d t:Nat} {x y:Value} (h:At a t y) (hn:d≠t):At (a.put (some d) x) t y:=by
 unfold At at h ⊢
 simp only [Act.put]
 rw [Array.getElem?_setIfInBounds_ne hn]
 exact h
structure a2s (D:List Nat) (a a':Act):Prop where
 size:a'.tmps.size=a.tmps.size
 defers:a'.defers=a.defers
 cE : ∀ t,t ∉ D → a'.tmps[t]? = a.tmps[t]?
theorem a2s.refl (D:List Nat) (a:Act):a2s D a a:=⟨rfl,rfl,fun _ _=>rfl⟩
theorem a2s.put {D:List Nat} {a a':Act} (h:a2s D a a') {d:Nat} (hd:d ∈ D) (x:Value):a2s D a (a'.put (some d) x):=by
 refine ⟨by simp [Act.put,h.size],h.defers,fun t ht=>?_⟩
 simp only [Act.put]
 rw [Array.getElem?_setIfInBounds_ne (fun e=>ht (by rw [← e]; exact hd))]
 exact h.cE t ht
section
variable {P:Program} {ops:Array Oper} {Q:Exit→Act→World→Prop} {a:Act} {w w':World} {rest:List Oper} {o:Oper}
theorem a2t {y:Value} (hg:o.guard=none) (hr:(execOp a.eval o).run P w = .ok (.value y) w') (h:wpList P ops Q rest (a.put o.dst y) w'):wpList P ops Q (o::rest) a w:=by
 unfold wpList
 rw [if_pos (by simp [Region.wanted,hg])]
 left
 unfold Oper.wp
 rw [hr]
 exact h
theorem aX8 (hg:o.guard=none) (hr:(execOp a.eval o).run P w = .ok .skip w') (h:wpList P ops Q rest (a.put o.dst undef) w'):wpList P ops Q (o::rest) a w:=by
 unfold wpList
 rw [if_pos (by simp [Region.wanted,hg])]
 left
 unfold Oper.wp
 rw [hr]
 exact h
theorem sU {v:Nat×Operand} (h:uI o=some v) {x:Value} (hx:a.eval v.2=x) (k:wpList P ops Q rest (a.put (some v.1) x) w):wpList P ops Q (o::rest) a w:=by
 unfold uI at h
 split at h
 ·rename_i d x' hg hd ho
  simp only [zzz] at h
  subst h
  exact a2t hg (by unfold execOp; rw [ho]; simp only [Sem.run_pure]; rw [hx]) (by rw [hd]; exact k)
 ·rename_i d x' hg hd ho
  simp only [zzz] at h
  subst h
  exact a2t hg (by unfold execOp; rw [ho]; simp only [Sem.run_pure]; rw [hx]) (by rw [hd]; exact k)
 ·simp at h
theorem a9g {v:Nat×BinOp×Operand×Operand} (h:aCe o=some v) {kk:IntKind} {p q:Int} (hx:a.eval v.2.2.1 = .int kk p) (hy:a.eval v.2.2.2 = .int kk q) (h1:v.2.1 ≠ .shl) (h2:v.2.1 ≠ .shr) {r:V} (e:fX v.2.1 kk p q=some r)
  (k:∀ z,aW ⟨fun _=>0,fun _=>none,[]⟩ w.heap r z→wpList P ops Q rest (a.put (some v.1) z) w):wpList P ops Q (o::rest) a w:=by
 unfold aCe at h
 split at h
 ·rename_i d op ty x y ty' hg hd ho
  simp only [zzz] at h
  subst h
  obtain ⟨z,hz,rz⟩:=aLp (κ:=⟨fun _=>0,fun _=>none,[]⟩) (P:=P) (w:=w) (t:=ty) h1 h2 e
  refine a2t hg (y:=z) (w':=w) ?_ (by rw [hd]; exact k z rz)
  unfold execOp
  rw [ho]
  simp only
  simp only at hx hy
  rw [hx,hy]
  have hgd:(eqGuard op ty x y (.int kk p) (.int kk q)).run P w = .ok () w:=by cases op <;> simp [eqGuard]
  simp only [Sem.run_bind,hgd,Result.andThen_ok,hz,Sem.run_pure]
 ·simp at h
theorem b04 {v:Nat×Operand×TypeId} (h:aTm o=some v) {e:TypeId} (hu:P.underlying v.2.2=some (.slice e)) {p:Option Addr} {n cap:Nat} (hx:a.eval v.2.1 = .slice p n cap) (k:wpList P ops Q rest (a.put (some v.1) (.int .i64 n)) w):wpList P ops Q (o::rest) a w:=by
 unfold aTm at h
 split at h
 ·rename_i d args ts hg hd ho
  split at h
  ·rename_i x t hxs hts
   simp only [zzz] at h
   subst h
   simp only at hx hu
   obtain ⟨args⟩:=args
   obtain ⟨ts⟩:=ts
   simp only at hxs hts
   subst hxs; subst hts
   refine a2t hg (y:=.int .i64 n) (w':=w) ?_ (by rw [hd]; exact k)
   unfold execOp
   rw [ho]
   simp [resolve,invoke,builtin,Builtin.len_,run_underlying hu,goInt,hx]
  ·simp at h
 ·simp at h
theorem b05 {v:Nat×TypeId×Operand×Operand} (h:aTn o=some v) {e:TypeId} (hu:P.underlying v.2.1=some (.slice e)) (hsz:iO P e=some 1) {b n cap i:Nat} {q:IntKind} (hx:a.eval v.2.2.1 = .slice (some ⟨b,0,none⟩) n cap) (hi:a.eval v.2.2.2 = .int q i) (hlt:i < n)
  (k:wpList P ops Q rest (a.put (some v.1) (.pointer (some ⟨b,i,none⟩))) w):wpList P ops Q (o::rest) a w:=by
 unfold aTn at h
 split at h
 ·rename_i d t x y hg hd ho
  simp only [zzz] at h
  subst h
  simp only at hx hi hu
  refine a2t hg (y:=.pointer (some ⟨b,i,none⟩)) (w':=w) ?_ (by rw [hd]; exact k)
  unfold execOp
  rw [ho]
  simp only
  rw [hx,hi]
  have:(0:Int)≤(i:Int)∧(i:Int) < (n:Int):=⟨by omega,by omega⟩
  simp [Instr.indexAt,run_underlying hu,asIntOf,this,nY w hsz,Addr.add_mid]
  intro hge
  omega
 ·simp at h
theorem bGg {v : TypeId × Operand × Operand} (h : aOr o = some v) (hsz : iO P v.1 = some 1) {b i : Nat} {x : Value} (hp : a.eval v.2.1 = .pointer (some ⟨b,i,none⟩)) (hv : a.eval v.2.2 = x) (hone : x.cells = #[x]) (ho1 : x.oneCell' = true) {c : Array Value} {E : TypeId} (hc : w.heap[b]? = some (.cells c E (0,0))) (hi : i < c.size)
  (k:wpList P ops Q rest a (w.setCells b i [x])):wpList P ops Q (o::rest) a w:=by
 unfold aOr at h
 split at h
 ·rename_i t p y hg hd ho
  simp only [zzz] at h
  subst h
  simp only at hp hv hsz
  refine aX8 hg (w':=w.setCells b i [x]) ?_ (by rw [hd]; exact k)
  unfold execOp
  rw [ho]
  simp only
  rw [hp,hv]
  have hst:=aA0 (P:=P) (off:=i) (vs:=[x]) hc (by simp; omega) (by simpa using ho1)
  simp only [Instr.storeAt,Instr.sureAddr,storeVar,Sem.run_bind,Sem.run_pure,Result.andThen_ok,nY w hsz]
  rw [if_neg (by simp [hone])]
  simp [hst,hone]
 ·simp at h
theorem bGh {v:Nat×TypeId×Operand×Operand} (h:b7o o=some v) {e:TypeId} (hu:P.underlying v.2.1=some (.slice e)) (hsz:iO P e=some 1) {z:V} {fL:Nat} (hz:qF P e=some z) (hzl:z.cells.length=1) (hby:qX P e=some fL) {q:IntKind} {n:Int}
  (hl:a.eval v.2.2.1 = .int q n) (hc:a.eval v.2.2.2 = .int q n) (h0:0≤n) (h63:n≤9223372036854775807) (hb:fL*n≤140737488355328)
  (k:∀ c:Array Value,c.size=n.toNat→wpList P ops Q rest (a.put (some v.1) (.slice (some ⟨w.heap.size,0,none⟩) n.toNat n.toNat)) (w.alloc (.cells c e))):wpList P ops Q (o::rest) a w:=by
 unfold b7o at h
 split at h
 ·rename_i d t l c hg hd ho
  simp only [zzz] at h
  subst h
  simp only at hl hc hu
  obtain ⟨i,zv,hi,hiz,hzv⟩:=a6g hz
  obtain ⟨i',hi',hisz⟩:=aJz hsz
  obtain rfl:i=i':=by rw [hi] at hi'; simpa using hi'
  have hiby:i.bytes=fL:=by unfold qX at hby; rw [hi] at hby; simpa using hby
  subst hiby
  have hrun:=run_make w t e i zv hu hi hiz q q n n h0 (Int.le_refl _) (by omega) h63
  refine a2t hg (y:=.slice (some ⟨w.heap.size,0,none⟩) n.toNat n.toNat) (w':=w.alloc (.cells (madeCells zv.cells (n.toNat*i.size)) e)) ?_ (by
   rw [hd]
   exact k _ (by rw [size_madeCells,hisz,Nat.mul_one]))
  unfold execOp
  rw [ho]
  simp only
  rw [hl,hc]
  simp [hrun]
 ·simp at h
end
end Go.Fbs

/- A list that is made and then filled: one word. -/
namespace Go.Fbs
theorem dW {x:Operand} {t:Nat} (h:mV x t=true):x = .tmp t:=by
 unfold mV at h
 split at h
 ·rw [zzx h]
 ·simp at h
theorem b39 {x:Operand} {n:Nat} (h:isZ x n=true) (a:Act):a.eval x = .int .i64 n:=by
 unfold isZ at h
 split at h
 ·rw [zzx h]; rfl
 ·simp at h
theorem b7y {x:BinOp} (h:b0m x=true):x = .lss:=by cases x <;> simp_all [b0m]
theorem b7z {x:BinOp} (h:isAdd x=true):x = .add:=by cases x <;> simp_all [isAdd]
theorem aT5 {x:Operand} {c:Nat} (h:aR1 x=some c) (a:Act):a.eval x = .int .u8 c:=by
 unfold aR1 at h
 split at h
 ·simp at h; subst h; rfl
 ·simp at h
theorem b06 {l:List Nat} {t:Nat} (h:t ∈ l):wV l t=true:=by
 unfold wV
 rw [List.any_eq_true]
 exact ⟨t,h,Nat.beq_refl t⟩
theorem aKd : ∀ {l : List Nat},zE l = true → ∀ {i j x y : Nat},i < j → l[i]? = some x → l[j]? = some y → x ≠ y
 | [],_,i,j,x,y,_,h1,_=>by simp at h1
 | n::r,h,i,j,x,y,hij,h1,h2=>by
  simp only [zE,zxz,Bool.not_eq_true'] at h
  cases j with
  | zero=>omega
  | succ j =>
   rw [zvx] at h2
   cases i with
   | zero =>
    simp only [zux,zzz] at h1
    subst h1
    intro e
    subst e
    rw [b06 (zyx h2)] at h
    simp at h
   | succ i =>
    rw [zvx] at h1
    exact aKd h.2 (by omega) h1 h2
structure aKe (w0 w:World) (e:TypeId) (K i:Nat) (x:Value):Prop where
 size:w.heap.size=w0.heap.size+1
 old : ∀ j,j < w0.heap.size → w.heap[j]? = w0.heap[j]?
 cG : ∃ c : Array Value,w.heap[w0.heap.size]? = some (.cells c e (0,0)) ∧ c.size = K ∧ ∀ j,j < i → c[j]? = some x
 os:w.os=w0.os
 out:Kept w0 w
theorem aKe.set {w0 w:World} {e:TypeId} {K i:Nat} {x:Value} (h:aKe w0 w e K i x) (hi:i < K):aKe w0 (w.setCells w0.heap.size i [x]) e K (i+1) x:=by
 obtain ⟨c,h1,h2,h3⟩:=h.cG
 obtain ⟨h4,h5⟩:=wO w0.heap.size e [x] i w c h1 (by simp; omega)
 have h6:=sG w0.heap.size i [x] w
 refine ⟨by rw [h5.1,h.size],fun j hj=>by rw [h5.2 j (by omega)]; exact h.old j hj,⟨_,h4,?_,fun j hj=>?_⟩,h6.1.trans h.os,h.out.trans h6.2⟩
 ·have:c.toList.length=K:=by simpa using h2
  simp
  omega
 ·have hl:c.toList.length=K:=by simpa using h2
  simp only [List.getElem?_toArray]
  show (c.toList.take i ++ [x] ++ c.toList.drop (i + [x].length))[j]? = _
  rw [zty]
  by_cases hji:j < i
  ·rw [ztz (by rw [List.length_take]; omega),List.getElem?_take_of_lt hji]
   have:=h3 j hji
   simpa using this
  ·have hje:j=i:=by omega
   subst hje
   rw [ztx (by rw [List.length_take]; omega),List.length_take,show j - min j c.toList.length=0 by omega]
   rfl
theorem aKe.done {w0 w:World} {e:TypeId} {K:Nat} {x:Value} (h:aKe w0 w e K K x):w.heap=w0.heap.push (.cells ⟨List.replicate K x⟩ e (0,0)):=by
 obtain ⟨c,h1,h2,h3⟩:=h.cG
 have hc:c=⟨List.replicate K x⟩:=by
  apply Array.ext_getElem?
  intro i
  by_cases hi:i < K
  ·rw [h3 i hi]
   simp [hi]
  ·rw [Array.getElem?_eq_none (by omega)]
   simp [hi]
 subst hc
 apply Array.ext_getElem?
 intro i
 by_cases hi:i < w0.heap.size
 ·rw [h.old i hi,Array.getElem?_push_lt hi,← Array.getElem?_eq_getElem]
 ·by_cases hie:i=w0.heap.size
  ·subst hie
   rw [h1]; simp
  ·rw [Array.getElem?_eq_none (by rw [h.size]; omega),Array.getElem?_eq_none (by simp; omega)]
theorem aT6 {A B rest:Code} {N:Nat} {f:FI} (h:a88 N A B=some (f,rest)):f.b ∈ f.D∧∀ d ∈ f.D,d < N:=by
 unfold a88 at h
 split at h
 ·split at h
  ·simp only [zyy,zvy] at h
   obtain ⟨f',h,rfl,rfl⟩:=h
   simp only [b0r,Option.bind_eq_bind,zwz] at h
   obtain ⟨v1,e1,v2,e2,v3,e3,v4,e4,v5,e5,v6,e6,v7,e7,v8,e8,v9,e9,vA,eA,vB,eB,vC,eC,vD,eD,vE,eE,vF,eF,c,ec,h⟩:=h
   rw [cond_eq_ite] at h
   split at h
   ·rename_i hc
    simp only [zzz] at h
    subst h
    rw [zxz,zxz] at hc
    refine ⟨by simp,fun d hd=>?_⟩
    exact iC (List.all_eq_true.1 hc.1.2 d hd)
   ·simp at h
  ·simp at h
 ·simp at h
theorem bB7 {P:Program} {A B rest:Code} {N:Nat} {f:FI} (h:a88 N A B=some (f,rest)) {e:TypeId} (hu:P.underlying f.ty=some (.slice e)) (hsz:iO P e=some 1) (hesz:iO P f.ety=some 1) {z:V} {fL:Nat} (hz:qF P e=some z) (hzl:z.cells.length=1) (hby:qX P e=some fL)
  {a:Act} {w:World} (hN:a.tmps.size=N) {q:IntKind} {k:Int} (hk:a.eval f.ks = .int q k) (h0:0≤k) (h63:k≤9223372036854775807) (hb:fL*k≤140737488355328) {R:Exit→Act→World→Prop}
  (hR:∀ a' w',a2s f.D a a'→f.b ∈ f.D→At a' f.b (.slice (some ⟨w.heap.size,0,none⟩) k.toNat k.toNat)→w'.heap=w.heap.push (.cells ⟨List.replicate k.toNat (.int .u8 f.c)⟩ e (0,0))→w'.os=w.os→Kept w w'→rest.wp P R a' w'):(Code.seq A B).wp P R a w:=by
 unfold a88 at h
 split at h
 ·rename_i idA mk idP pre out idT tst m out' nx idG asg idS st idE stp rest'
  split at h
  ·rename_i o1 o2 o3 o4 o5 o6 o7 o8 o9 oA oB oC oD oE oF hmk hpre htst hasg hst hstp
   simp only [zyy,zvy] at h
   obtain ⟨f',h,rfl,rfl⟩:=h
   obtain rfl:mk=[o1,o2,o3].toArray:=Array.ext' (by simpa using hmk)
   obtain rfl:pre=[o4,o5,o6].toArray:=Array.ext' (by simpa using hpre)
   obtain rfl:tst=[o7].toArray:=Array.ext' (by simpa using htst)
   obtain rfl:asg=[o8,o9].toArray:=Array.ext' (by simpa using hasg)
   obtain rfl:st=[oA,oB,oC,oD].toArray:=Array.ext' (by simpa using hst)
   obtain rfl:stp=[oE,oF].toArray:=Array.ext' (by simpa using hstp)
   simp only [b0r,Option.bind_eq_bind,zwz] at h
   obtain ⟨v1,e1,v2,e2,v3,e3,v4,e4,v5,e5,v6,e6,v7,e7,v8,e8,v9,e9,vA,eA,vB,eB,vC,eC,vD,eD,vE,eE,vF,eF,c,ec,h⟩:=h
   generalize hD:[v1.1,v2.1,v3.1,v4.1,v5.1,v6.1,v7.1,v8.1,v9.1,vA.1,vB.1,vC.1,vE.1]=D at h
   rw [cond_eq_ite] at h
   split at h
   ·rename_i hc
    simp only [zzz] at h
    subst h
    simp only [zxz] at hc
    obtain ⟨⟨⟨⟨⟨⟨⟨⟨⟨⟨⟨⟨⟨⟨⟨⟨⟨⟨⟨⟨⟨⟨⟨⟨⟨⟨t1,t2⟩,t3⟩,t4⟩,t5⟩,t6⟩,t7⟩,t8⟩,t9⟩,t10⟩,t11⟩,t12⟩,t13⟩,t14⟩,t15⟩,t16⟩,t17⟩,t18⟩,t19⟩,t20⟩,t21⟩,t22⟩,t23⟩,t24⟩,t25⟩,t26⟩,t27⟩:=hc
    simp only at hu hesz hk
    have t6:=zzx t6
    have t8:=zzx t8
    have t18:=zzx t18
    have t24:=zzx t24
    have t25:=zzx t25
    have t9:=b7y t9
    have t20:=b7z t20
    have lt : ∀ {i d : Nat},D[i]? = some d → d < N:=fun {i d} hi=>by
     have:=List.all_eq_true.1 t26 d (zyx hi)
     exact iC this
    have inD : ∀ {i d : Nat},D[i]? = some d → d ∈ D:=fun hi=>zyx hi
    have ne : ∀ {i j x y : Nat},i < j → D[i]? = some x → D[j]? = some y → x ≠ y:=fun hij h1 h2=>aKd t27 hij h1 h2
    have d1 : D[0]? = some v1.1:=by rw [← hD]; rfl
    have d2 : D[1]? = some v2.1:=by rw [← hD]; rfl
    have d3 : D[2]? = some v3.1:=by rw [← hD]; rfl
    have d4 : D[3]? = some v4.1:=by rw [← hD]; rfl
    have d5 : D[4]? = some v5.1:=by rw [← hD]; rfl
    have d6 : D[5]? = some v6.1:=by rw [← hD]; rfl
    have d7 : D[6]? = some v7.1:=by rw [← hD]; rfl
    have d8 : D[7]? = some v8.1:=by rw [← hD]; rfl
    have d9 : D[8]? = some v9.1:=by rw [← hD]; rfl
    have dA : D[9]? = some vA.1:=by rw [← hD]; rfl
    have dB : D[10]? = some vB.1:=by rw [← hD]; rfl
    have dC : D[11]? = some vC.1:=by rw [← hD]; rfl
    have dE : D[12]? = some vE.1:=by rw [← hD]; rfl
    clear hD t26 t27
    generalize hK:k.toNat=K at *
    generalize hx:(Value.int .u8 c:Value)=x at *
    have hkK:k=(K:Int):=by omega
    refine wp_seq (wp_region_lit (sU e1 hk ?_))
    have s1:a2s D a (a.put (some v1.1) (.int q k)):=(a2s.refl D a).put (inD d1) _
    have g1:At (a.put (some v1.1) (.int q k)) v1.1 (.int q k):=At.same (by rw [hN]; exact lt d1)
    generalize a.put (some v1.1) (.int q k)=a1 at *
    refine bGh e2 hu hsz hz hzl hby (by rw [dW t1]; exact g1.ev) (by rw [dW t2]; exact g1.ev) h0 h63 hb fun cs hcs=>?_
    rw [hK] at hcs ⊢
    have s2:=s1.put (inD d2) (.slice (some ⟨w.heap.size,0,none⟩) K K)
    have g2:At (a1.put (some v2.1) (.slice (some ⟨w.heap.size,0,none⟩) K K)) v2.1 _:=At.same (by rw [s1.size,hN]; exact lt d2)
    generalize a1.put (some v2.1) (.slice (some ⟨w.heap.size,0,none⟩) K K)=a2 at *
    refine sU (x:=(.slice (some ⟨w.heap.size,0,none⟩) K K)) e3 (by rw [dW t3]; exact g2.ev) ?_
    have s3:=s2.put (inD d3) (.slice (some ⟨w.heap.size,0,none⟩) K K)
    have g3:At (a2.put (some v3.1) (.slice (some ⟨w.heap.size,0,none⟩) K K)) v3.1 _:=At.same (by rw [s2.size,hN]; exact lt d3)
    generalize a2.put (some v3.1) (.slice (some ⟨w.heap.size,0,none⟩) K K)=a3 at *
    have f0:aKe w (w.alloc (.cells cs e)) e K 0 x:=⟨by show (w.heap.push _).size=_; simp,fun j hj=>by
     show (w.heap.push _)[j]? = _
     rw [Array.getElem?_push_lt hj,← Array.getElem?_eq_getElem],⟨cs,by show (w.heap.push _)[w.heap.size]? = _; simp,hcs,fun j hj=>by omega⟩,rfl,a6d w _ _⟩
    generalize w.alloc (.cells cs e)=w1 at *
    refine wp_seq (wp_seq (wp_region_lit (sU (x:=(.slice (some ⟨w.heap.size,0,none⟩) K K)) e4 (by rw [dW t4]; exact g3.ev) ?_)))
    have s4:=s3.put (inD d4) (.slice (some ⟨w.heap.size,0,none⟩) K K)
    have g4:At (a3.put (some v4.1) (.slice (some ⟨w.heap.size,0,none⟩) K K)) v4.1 _:=At.same (by rw [s3.size,hN]; exact lt d4)
    have g43:=g3.cZ (d:=v4.1) (x:=(.slice (some ⟨w.heap.size,0,none⟩) K K)) (ne (by omega) d3 d4).symm
    generalize a3.put (some v4.1) (.slice (some ⟨w.heap.size,0,none⟩) K K)=a4 at *
    refine b04 e5 (by rw [t6]; exact hu) (by rw [dW t5]; exact g4.ev) ?_
    have s5:=s4.put (inD d5) (.int .i64 K)
    have g5:At (a4.put (some v5.1) (.int .i64 K)) v5.1 _:=At.same (by rw [s4.size,hN]; exact lt d5)
    have g53:=g43.cZ (d:=v5.1) (x:=(.int .i64 K)) (ne (by omega) d3 d5).symm
    generalize a4.put (some v5.1) (.int .i64 K)=a5 at *
    refine sU (x:=(.int .i64 (0:Nat))) e6 (b39 t7 a5) ?_
    have s6:=s5.put (inD d6) (.int .i64 (0:Nat))
    have g6:At (a5.put (some v6.1) (.int .i64 (0:Nat))) v6.1 _:=At.same (by rw [s5.size,hN]; exact lt d6)
    have g63:=g53.cZ (d:=v6.1) (x:=(.int .i64 (0:Nat))) (ne (by omega) d3 d6).symm
    have g65:=g5.cZ (d:=v6.1) (x:=(.int .i64 (0:Nat))) (ne (by omega) d5 d6).symm
    generalize a5.put (some v6.1) (.int .i64 (0:Nat))=a6 at *
    have key:∀ (r i:Nat) (b:Act) (u:World),i+r=K→a2s D a b→At b v3.1 (.slice (some ⟨w.heap.size,0,none⟩) K K)→At b v5.1 (.int .i64 K)→At b v6.1 (.int .i64 i)→aKe w u e K i x →
      Code.rounds P (.seq (.region idT [o7].toArray false) (.seq (.cond (.tmp m) .skip (.exit out')) (.seq (.block nx (.seq (.region idG [o8,o9].toArray false) (.region idS [oA,oB,oC,oD].toArray false))) (.region idE [oE,oF].toArray false)))) (Exit.inBlock out (Exit.then (rest'.wp P R) R)) (r+1) b u:=by
     intro r
     induction r with
     | zero =>
      intro i b u hi sb b3 b5 b6 fu
      obtain rfl:i=K:=by omega
      refine wp_seq (wp_region_lit (a9g e7 (by rw [dW t10]; exact b6.ev) (by rw [dW t11]; exact b5.ev) (by rw [t9]; simp) (by rw [t9]; simp) (r:=.bool false) (by rw [t9]; simp [fX]) fun zz rz=>?_))
      obtain rfl:=qN rz
      have s7:=sb.put (inD d7) (.bool false)
      have g7:At (b.put (some v7.1) (.bool false)) v7.1 _:=At.same (by rw [sb.size,hN]; exact lt d7)
      have g73:=b3.cZ (d:=v7.1) (x:=.bool false) (ne (by omega) d3 d7).symm
      generalize b.put (some v7.1) (.bool false)=b' at *
      refine wp_seq (wp_cond (t:=false) (by rw [← t8]; exact g7.ev) ?_)
      refine wp_exit ?_
      simp only [Exit.then,Exit.inBlock]
      rw [if_pos t25.symm]
      exact hR b' u s7 (inD d3) g73 fu.done fu.os fu.out
     | succ r ih =>
      intro i b u hi sb b3 b5 b6 fu
      refine wp_seq (wp_region_lit (a9g e7 (by rw [dW t10]; exact b6.ev) (by rw [dW t11]; exact b5.ev) (by rw [t9]; simp) (by rw [t9]; simp) (r:=.bool true) (by
       rw [t9]; simp [fX]; omega) fun zz rz=>?_))
      obtain rfl:=qN rz
      have s7:=sb.put (inD d7) (.bool true)
      have g7:At (b.put (some v7.1) (.bool true)) v7.1 _:=At.same (by rw [sb.size,hN]; exact lt d7)
      have g73:=b3.cZ (d:=v7.1) (x:=.bool true) (ne (by omega) d3 d7).symm
      have g75:=b5.cZ (d:=v7.1) (x:=.bool true) (ne (by omega) d5 d7).symm
      have g76:=b6.cZ (d:=v7.1) (x:=.bool true) (ne (by omega) d6 d7).symm
      generalize b.put (some v7.1) (.bool true)=b' at *
      refine wp_seq (wp_cond (t:=true) (by rw [← t8]; exact g7.ev) ?_)
      refine wp_skip ?_
      refine wp_seq (wp_block (wp_seq (wp_region_lit (sU (x:=(.int .i64 i)) e8 (by rw [dW t12]; exact g76.ev) ?_))))
      have s8:=s7.put (inD d8) (.int .i64 i)
      have g8:At (b'.put (some v8.1) (.int .i64 i)) v8.1 _:=At.same (by rw [s7.size,hN]; exact lt d8)
      have g83:=g73.cZ (d:=v8.1) (x:=.int .i64 i) (ne (by omega) d3 d8).symm
      have g85:=g75.cZ (d:=v8.1) (x:=.int .i64 i) (ne (by omega) d5 d8).symm
      have g86:=g76.cZ (d:=v8.1) (x:=.int .i64 i) (ne (by omega) d6 d8).symm
      generalize b'.put (some v8.1) (.int .i64 i)=b8 at *
      refine sU (x:=(.int .i64 i)) e9 (by rw [dW t13]; exact g8.ev) ?_
      have s9:=s8.put (inD d9) (.int .i64 i)
      have g9:At (b8.put (some v9.1) (.int .i64 i)) v9.1 _:=At.same (by rw [s8.size,hN]; exact lt d9)
      have g93:=g83.cZ (d:=v9.1) (x:=.int .i64 i) (ne (by omega) d3 d9).symm
      have g95:=g85.cZ (d:=v9.1) (x:=.int .i64 i) (ne (by omega) d5 d9).symm
      have g96:=g86.cZ (d:=v9.1) (x:=.int .i64 i) (ne (by omega) d6 d9).symm
      generalize b8.put (some v9.1) (.int .i64 i)=b9 at *
      refine wp_region_lit (sU (x:=(.slice (some ⟨w.heap.size,0,none⟩) K K)) eA (by rw [dW t14]; exact g93.ev) ?_)
      have sA:=s9.put (inD dA) (.slice (some ⟨w.heap.size,0,none⟩) K K)
      have gA:At (b9.put (some vA.1) (.slice (some ⟨w.heap.size,0,none⟩) K K)) vA.1 _:=At.same (by rw [s9.size,hN]; exact lt dA)
      have gA3:=g93.cZ (d:=vA.1) (x:=(.slice (some ⟨w.heap.size,0,none⟩) K K)) (ne (by omega) d3 dA).symm
      have gA5:=g95.cZ (d:=vA.1) (x:=(.slice (some ⟨w.heap.size,0,none⟩) K K)) (ne (by omega) d5 dA).symm
      have gA6:=g96.cZ (d:=vA.1) (x:=(.slice (some ⟨w.heap.size,0,none⟩) K K)) (ne (by omega) d6 dA).symm
      have gA9:=g9.cZ (d:=vA.1) (x:=(.slice (some ⟨w.heap.size,0,none⟩) K K)) (ne (by omega) d9 dA).symm
      generalize b9.put (some vA.1) (.slice (some ⟨w.heap.size,0,none⟩) K K)=bA at *
      refine sU (x:=(.int .i64 i)) eB (by rw [dW t15]; exact gA9.ev) ?_
      have sB:=sA.put (inD dB) (.int .i64 i)
      have gB:At (bA.put (some vB.1) (.int .i64 i)) vB.1 _:=At.same (by rw [sA.size,hN]; exact lt dB)
      have gB3:=gA3.cZ (d:=vB.1) (x:=.int .i64 i) (ne (by omega) d3 dB).symm
      have gB5:=gA5.cZ (d:=vB.1) (x:=.int .i64 i) (ne (by omega) d5 dB).symm
      have gB6:=gA6.cZ (d:=vB.1) (x:=.int .i64 i) (ne (by omega) d6 dB).symm
      have gBA:=gA.cZ (d:=vB.1) (x:=.int .i64 i) (ne (by omega) dA dB).symm
      generalize bA.put (some vB.1) (.int .i64 i)=bB at *
      refine b05 eC (by rw [t18]; exact hu) hsz (by rw [dW t16]; exact gBA.ev) (by rw [dW t17]; exact gB.ev) (by omega:i < K) ?_
      have sC:=sB.put (inD dC) (.pointer (some ⟨w.heap.size,i,none⟩))
      have gC:At (bB.put (some vC.1) (.pointer (some ⟨w.heap.size,i,none⟩))) vC.1 _:=At.same (by rw [sB.size,hN]; exact lt dC)
      have gC3:=gB3.cZ (d:=vC.1) (x:=.pointer (some ⟨w.heap.size,i,none⟩)) (ne (by omega) d3 dC).symm
      have gC5:=gB5.cZ (d:=vC.1) (x:=.pointer (some ⟨w.heap.size,i,none⟩)) (ne (by omega) d5 dC).symm
      have gC6:=gB6.cZ (d:=vC.1) (x:=.pointer (some ⟨w.heap.size,i,none⟩)) (ne (by omega) d6 dC).symm
      generalize bB.put (some vC.1) (.pointer (some ⟨w.heap.size,i,none⟩))=bC at *
      obtain ⟨cu,hu1,hu2,hu3⟩:=fu.cG
      refine bGg eD hesz (by rw [dW t19]; exact gC.ev) (x:=x) (by rw [← hx]; exact aT5 ec bC) (by rw [← hx]; rfl) (by rw [← hx]; rfl) hu1 (by omega) ?_
      have fv:=fu.set (by omega:i < K)
      generalize u.setCells w.heap.size i [x]=v at *
      refine wp_region_lit (a9g eE (by rw [dW t21]; exact gC6.ev) (b39 t22 bC) (by rw [t20]; simp) (by rw [t20]; simp) (r:=.int .i64 (IntKind.i64.wrap ((i:Int)+(1:Nat)))) (by rw [t20]; simp [fX]) fun zz rz=>?_)
      obtain rfl:=eQ rz
      have hwr:IntKind.i64.wrap ((i:Int)+(1:Nat))=((i+1:Nat):Int):=by rw [lN (by omega) (by omega)]; omega
      rw [hwr]
      have sE:=sC.put (inD dE) (.int .i64 (i+1:Nat))
      have gE:At (bC.put (some vE.1) (.int .i64 (i+1:Nat))) vE.1 _:=At.same (by rw [sC.size,hN]; exact lt dE)
      have gE3:=gC3.cZ (d:=vE.1) (x:=.int .i64 (i+1:Nat)) (ne (by omega) d3 dE).symm
      have gE5:=gC5.cZ (d:=vE.1) (x:=.int .i64 (i+1:Nat)) (ne (by omega) d5 dE).symm
      generalize bC.put (some vE.1) (.int .i64 (i+1:Nat))=bE at *
      refine sU (x:=(.int .i64 (i+1:Nat))) eF (by rw [dW t23]; exact gE.ev) ?_
      rw [t24]
      have sF:=sE.put (inD d6) (.int .i64 (i+1:Nat))
      have gF:At (bE.put (some v6.1) (.int .i64 (i+1:Nat))) v6.1 _:=At.same (by rw [sE.size,hN]; exact lt d6)
      have gF3:=gE3.cZ (d:=v6.1) (x:=.int .i64 (i+1:Nat)) (ne (by omega) d3 d6).symm
      have gF5:=gE5.cZ (d:=v6.1) (x:=.int .i64 (i+1:Nat)) (ne (by omega) d5 d6).symm
      exact ih (i+1) _ v (by omega) sF gF3 gF5 gF fv
    exact wp_block (wp_loop_rounds (K+1) (key K 0 a6 w1 (by omega) s6 g63 g65 g6 f0))
   ·simp at h
  ·simp at h
 ·simp at h
theorem a2s.ev {D:List Nat} {a a':Act} (s:a2s D a a') {x:Operand} (h:b0n D x=true):a'.eval x=a.eval x:=by
 unfold b0n at h
 split at h
 ·rename_i t
  have ht:t ∉ D:=fun hm=>by
   have:D.any (Nat.beq t)=true:=List.any_eq_true.2 ⟨t,hm,Nat.beq_refl t⟩
   rw [this] at h; simp at h
  have:=s.cE t ht
  simp only [Act.eval,Array.getD_eq_getD_getElem?,this]
 ·rfl
 ·simp at h
theorem bAh {x:Operand} {m:Nat} (h:fZ x=some m) (a:Act):a.eval x = .int .i64 m:=by
 unfold fZ at h
 split at h
 ·simp only [zzz] at h; subst h; rfl
 ·simp at h
theorem aF8 {x:BinOp} : (fOp x=1→x = .gtr)∧(fOp x=2→x = .and)∧(fOp x=3→x = .rem)∧(fOp x=4→x = .xor):=by cases x <;> simp [fOp]
section
variable {P:Program} {ops:Array Oper} {Q:Exit→Act→World→Prop} {a:Act} {w w':World} {rest:List Oper} {o:Oper}
theorem bD2 {v:Nat×TypeId×TypeId×Operand} (h:fCv o=some v) {e:TypeId} (hs:P.underlying v.2.1=some .string) (hd:P.underlying v.2.2.1=some (.slice e)) (he:P.underlying e=some (.int .u8)) {l:List UInt8} (hx:a.eval v.2.2.2 = .string ⟨⟨l⟩⟩)
  (k:∀ cap,wpList P ops Q rest (a.put (some v.1) (.slice (some ⟨w.heap.size,0,none⟩) l.length cap)) (Lib.bytesWorld w e ⟨⟨l⟩⟩)):wpList P ops Q (o::rest) a w:=by
 unfold fCv at h
 split at h
 ·rename_i d src dst x hg hdst ho
  simp only [zzz] at h
  subst h
  simp only at hx hs hd
  refine a2t hg (y:=.slice (some ⟨w.heap.size,0,none⟩) l.length (grownCap w l.length 0 e)) (w':=Lib.bytesWorld w e ⟨⟨l⟩⟩) ?_ (by rw [hdst]; exact k _)
  unfold execOp
  rw [ho]
  simp only
  rw [hx]
  have:=Lib.run_convert_string_bytes (P:=P) w src dst e ⟨⟨l⟩⟩ hs hd he
  simp [this]
  exact ⟨rfl,rfl⟩
 ·simp at h
theorem bD3 {v:Nat×TypeId×TypeId×Operand} (h:fCv o=some v) {e:TypeId} (hs:P.underlying v.2.1=some (.slice e)) (he:P.underlying e=some (.int .u8)) (hd:P.underlying v.2.2.1=some .string) {b cap n:Nat} {ns:List Int} (hx:a.eval v.2.2.2 = .slice (some ⟨b,0,none⟩) n cap)
  (hl : ns.length = n) (hc : ∀ j m,ns[j]? = some m → w.cell? ⟨b,j,none⟩ = some (.int .u8 m)) (k : wpList P ops Q rest (a.put (some v.1) (.string ⟨⟨ns.map fun n=>UInt8.ofNat n.toNat⟩⟩)) w) : wpList P ops Q (o :: rest) a w:=by
 unfold fCv at h
 split at h
 ·rename_i d src dst x hg hdst ho
  simp only [zzz] at h
  subst h
  simp only at hx hs hd
  refine a2t hg (y:=.string ⟨⟨ns.map fun n=>UInt8.ofNat n.toNat⟩⟩) (w':=w) ?_ (by rw [hdst]; exact k)
  unfold execOp
  rw [ho]
  simp only
  rw [hx]
  have hl2:=run_loadCells_list (P:=P) w ⟨b,0,none⟩ (ns.map (Value.int .u8)) (fun j v hv=>by
   rw [zvz,zyy] at hv
   obtain ⟨m,h1,rfl⟩:=hv
   rw [Addr.add_mid,Nat.zero_add]
   exact hc j m h1)
  have:=run_bytesToString w ⟨b,0,none⟩ (ns.map (Value.int .u8)).length cap ns hl2
  rw [foldl_push] at this
  rw [← hl]
  simp only [zsy] at this ⊢
  simp only [convert,Sem.run_bind,run_underlying hs,run_underlying hd,run_underlying he,Result.andThen_ok,this]
  simp
 ·simp at h
theorem bGi {v : Nat × TypeId × Operand} (h : fLd o = some v) (hsz : iO P v.2.1 = some 1) (hag : zW P v.2.1 = some false) {b i : Nat} {x : Value} (hp : a.eval v.2.2 = .pointer (some ⟨b,i,none⟩)) (hc : w.cell? ⟨b,i,none⟩ = some x)
  (k:wpList P ops Q rest (a.put (some v.1) x) w):wpList P ops Q (o::rest) a w:=by
 unfold fLd at h
 split at h
 ·rename_i d t y hg hdst ho
  simp only [zzz] at h
  subst h
  simp only at hp hsz hag
  refine a2t hg (y:=x) (w':=w) ?_ (by rw [hdst]; exact k)
  unfold execOp
  rw [ho]
  simp only
  rw [hp]
  simp [Instr.loadAt,Instr.sureAddr,loadVar,a7l (w:=w) hag,hc]
 ·simp at h
theorem bGj {v : TypeId × Operand × Operand} (h : aOr o = some v) (hsz : iO P v.1 = some 1) {b i : Nat} {x : Value} (hp : a.eval v.2.1 = .pointer (some ⟨b,i,none⟩)) (hv : a.eval v.2.2 = x) (hone : x.cells = #[x]) (ho1 : x.oneCell' = true) (hc : (w.cell? ⟨b,i,none⟩).isSome = true) (hf : w.frozen? ⟨b,i,none⟩ = false)
  (k:wpList P ops Q rest a (w.setCells b i [x])):wpList P ops Q (o::rest) a w:=by
 unfold aOr at h
 split at h
 ·rename_i t p y hg hd ho
  simp only [zzz] at h
  subst h
  simp only at hp hv hsz
  refine aX8 hg (w':=w.setCells b i [x]) ?_ (by rw [hd]; exact k)
  unfold execOp
  rw [ho]
  simp only
  rw [hp,hv]
  have hst:(storeCells ⟨b,i,none⟩ [x]).run P w = .ok () (w.setCells b i [x]):=by
   have:=run_storeCells_cells (P:=P) b i [x] 0 w (fun j hj=>by simp at hj; subst hj; simpa using hc) (fun j hj=>by simp at hj; subst hj; simpa using hf) (by simpa using ho1)
   simpa using this
  simp only [Instr.storeAt,Instr.sureAddr,storeVar,Sem.run_bind,Sem.run_pure,Result.andThen_ok,nY w hsz]
  rw [if_neg (by simp [hone])]
  simp [hst,hone]
 ·simp at h
end
theorem b70 (w : World) (e : TypeId) (l : List UInt8) : (∀ j,j < w.heap.size → (Lib.bytesWorld w e ⟨⟨l⟩⟩).heap[j]? = w.heap[j]?) ∧ w.heap.size ≤ (Lib.bytesWorld w e ⟨⟨l⟩⟩).heap.size ∧ (Lib.bytesWorld w e ⟨⟨l⟩⟩).os = w.os ∧ Kept w (Lib.bytesWorld w e ⟨⟨l⟩⟩) ∧
  (∃ c E fr,(Lib.bytesWorld w e ⟨⟨l⟩⟩).heap[w.heap.size]? = some (.cells c E fr) ∧ l.length ≤ fr.1 ∧ l.length ≤ c.size ∧ ∀ (i : Nat) x,l[i]? = some x → c[i]? = some (.int .u8 (x.toNat : Int))):=by
 have hsz:=Lib.bytesWorld_size w e ⟨⟨l⟩⟩
 have hc:l.length≤(Lib.bytesCells w e ⟨⟨l⟩⟩).size:=by
  unfold Lib.bytesCells
  simp
 refine ⟨fun j hj=>Lib.bytesWorld_at_old w e _ j hj,by omega,?_,⟨?_,by omega⟩,_,_,_,Lib.bytesWorld_at_new w e ⟨⟨l⟩⟩,hc,hc,fun i x hx=>?_⟩
 ·unfold Lib.bytesWorld World.freeze; split <;> rfl
 ·unfold Lib.bytesWorld World.freeze; split <;> rfl
 ·unfold Lib.bytesCells
  have hi:=(zzy.1 hx).1
  rw [Array.getElem?_append_left (by simpa using hi)]
  simp [hx]
theorem b07 {w w1 : World} {l : List UInt8} {i : Nat} {e : Int} (hi : i < l.length) (b0 : ∀ j,j < w.heap.size → w1.heap[j]? = w.heap[j]?) (b1 : w.heap.size ≤ w1.heap.size) (b2 : w1.os = w.os) (b3 : Kept w w1)
  {c : Array Value} {E : TypeId} {fr : Nat × Nat} (k1 : w1.heap[w.heap.size]? = some (.cells c E fr)) (k3 : l.length ≤ c.size) (k4 : ∀ (i : Nat) x,l[i]? = some x → c[i]? = some (.int .u8 (x.toNat : Int))) :
  (∀ j,j < w.heap.size → (w1.setCells w.heap.size i [.int .u8 e]).heap[j]? = w.heap[j]?) ∧ w.heap.size ≤ (w1.setCells w.heap.size i [.int .u8 e]).heap.size ∧ (w1.setCells w.heap.size i [.int .u8 e]).os = w.os ∧ Kept w (w1.setCells w.heap.size i [.int .u8 e]) ∧
  ∀ j m,((l.map fun c=>(c.toNat : Int)).set i e)[j]? = some m → (w1.setCells w.heap.size i [.int .u8 e]).cell? ⟨w.heap.size,j,none⟩ = some (.int .u8 m):=by
 obtain ⟨h4,h5⟩:=wO w.heap.size E [.int .u8 e] i w1 c k1 (by simp; omega)
 have h6:=sG w.heap.size i [.int .u8 e] w1
 refine ⟨fun j hj=>by rw [h5.2 j (by omega)]; exact b0 j hj,by rw [h5.1]; exact b1,h6.1.trans b2,b3.trans h6.2,fun j m hm=>?_⟩
 rw [qL]
 unfold bD
 rw [h4]
 simp only [List.getElem?_toArray]
 have hj:j < l.length:=by have:=(zzy.1 hm).1; simpa using this
 have hcl:c.toList.length=c.size:=by simp
 rw [List.getElem?_set] at hm
 rw [zty]
 by_cases hji:i=j
 ·subst hji
  rw [if_pos rfl] at hm
  rw [ztx (by rw [List.length_take]; omega),List.length_take,show i - min i c.toList.length=0 by omega]
  split at hm
  ·simp only [zzz] at hm; subst hm; rfl
  ·simp at hm
 ·rw [if_neg hji,zvz,zyy] at hm
  obtain ⟨x,hx,rfl⟩:=hm
  have hcx:=k4 j x hx
  rw [← Array.getElem?_toList] at hcx
  by_cases hlt:j < i
  ·rw [ztz (by rw [List.length_take]; omega),List.getElem?_take_of_lt hlt]
   exact hcx
  ·rw [ztx (by rw [List.length_take]; omega),List.length_take,ztx (by simp; omega),List.getElem?_drop]
   rw [← hcx]
   congr 1
   simp
   omega
theorem b08 (l:List UInt8) (i:Nat) (e:Int):((l.map fun c=>(c.toNat:Int)).set i e).map (fun n=>UInt8.ofNat n.toNat)=l.set i (UInt8.ofNat e.toNat):=by
 rw [List.map_set,List.map_map]
 congr 1
 conv=>rhs; rw [← List.map_id l]
 apply List.map_congr_left
 intro c _
 simp
theorem b4a {m1 m2:Nat} {n b:Int} : a4p m1 m2 (.str []) (.int .i64 n) (.int .u8 b)=some (.str []):=by simp [a4p]
theorem b09 {m1 m2:Nat} {l:List UInt8} {n b:Int} {l':List UInt8} (hl:l≠[]) (h:a4p m1 m2 (.str l) (.int .i64 n) (.int .u8 b)=some (.str l')) :
  ∃ q r x d e,fX .and .i64 n m1 = some (.int .i64 q) ∧ fX .rem .i64 q l.length = some (.int .i64 r) ∧ l[r.toNat]? = some x ∧ fX .and .u8 b m2 = some (.int .u8 d) ∧ fX .xor .u8 x.toNat d = some (.int .u8 e) ∧ 0 ≤ r ∧ l' = l.set r.toNat (UInt8.ofNat e.toNat):=by
 unfold a4p at h
 simp only at h
 split at h
 ·first | rw [if_neg hl,zyy] at h | rw [zyy] at h
  obtain ⟨p,h1,h2⟩:=h
  unfold b98 at h1
  split at h1
  ·rename_i q e1
   split at h1
   ·rename_i r e2
    split at h1
    ·rename_i x d e3 e4
     split at h1
     ·rename_i e e5
      split at h1
      ·rename_i hr
       simp only [zzz] at h1
       subst h1
       simp only [V.str.injEq] at h2
       exact ⟨q,r,x,d,e,e1,e2,e3,e4,e5,hr,h2.symm⟩
      ·simp at h1
     ·simp at h1
    ·simp at h1
   ·simp at h1
  ·simp at h1
 ·simp at h
set_option maxHeartbeats 2000000 in
theorem bB8 {P:Program} {A B:Code} {N:Nat} {f:FJ} (h:aCf N A B=some f) {eT:TypeId} (hts:P.underlying f.ts=some .string) (htb:P.underlying f.tb=some (.slice eT)) (hte:P.underlying eT=some (.int .u8)) (hsz1:iO P eT=some 1)
  (htl:iO P f.tl=some 1) (hag:zW P f.tl=some false) (htw:iO P f.tw=some 1) (htr:P.underlying f.tr=some .string) {a:Act} {w:World} (hN:a.tmps.size=N) {l l':List UInt8} {n c:Int} (hs:a.eval f.s = .string ⟨⟨l⟩⟩) (hi0:a.eval f.i = .int .i64 n) (hc0:a.eval f.c = .int .u8 c)
  (hf:a4p f.m1 f.m2 (.str l) (.int .i64 n) (.int .u8 c)=some (.str l')) {R:Exit→Act→World→Prop}
  (hR : ∀ a' w',a2s f.D a a' → f.b ∈ f.D → At a' f.b (.string ⟨⟨l'⟩⟩) → (∀ j,j < w.heap.size → w'.heap[j]? = w.heap[j]?) → w.heap.size ≤ w'.heap.size → w'.os = w.os → Kept w w' → R .normal a' w') : (Code.seq A B).wp P R a w:=by
 unfold aCf at h
 split at h
 ·rename_i i1 r0 i2 r2 m i3 r3 i4 r4
  split at h
  ·rename_i o1 o2 o3 o4 o5 o6 o7 o8 o9 oA oB oC oD oE oF oG oH oI oJ oK oL oM hr1 hr2 hr3 hr4
   simp only [b0o,Option.bind_eq_bind,zwz] at h
   obtain ⟨v1,e1,v2,e2,v3,e3,v4,e4,v5,e5,v6,e6,v7,e7,v8,e8,v9,e9,vA,eA,vB,eB,vC,eC,vD,eD,vE,eE,vF,eF,vG,eG,vH,eH,vI,eI,vJ,eJ,vK,eK,vL,eL,vM,eM,m0,em0,m1,em1,m2,em2,h⟩:=h
   generalize hD:[v1.1,v2.1,v3.1,v4.1,v5.1,v6.1,v7.1,v8.1,v9.1,vA.1,vB.1,vC.1,vD.1,vE.1,vF.1,vG.1,vH.1,vI.1,vK.1,vL.1,vM.1]=D at h
   rw [cond_eq_ite] at h
   split at h
   ·rename_i hc
    simp only [zzz] at h
    subst h
    simp only [zxz] at hc
    obtain ⟨⟨⟨⟨⟨⟨⟨⟨⟨⟨⟨⟨t1,t2⟩,t3⟩,t4⟩,t5⟩,t6⟩,t7⟩,t8⟩,t9⟩,⟨⟨⟨⟨⟨⟨⟨⟨t10,t11⟩,t12⟩,t13⟩,t14⟩,t15⟩,t16⟩,t17⟩,t18⟩⟩,⟨⟨⟨⟨⟨⟨⟨⟨t19,t20⟩,t21⟩,t22⟩,t23⟩,t24⟩,t25⟩,t26⟩,t27⟩⟩,⟨⟨⟨⟨⟨⟨⟨⟨t28,t29⟩,t30⟩,t31⟩,t32⟩,t33⟩,t34⟩,t35⟩,t36⟩⟩,⟨⟨⟨t37,t38⟩,t39⟩,t40⟩⟩:=hc
    obtain rfl:r0=[o1,o2,o3].toArray:=Array.ext' (by simpa using hr1)
    obtain rfl:r2=[o4,o5,o6].toArray:=Array.ext' (by simpa using hr2)
    obtain rfl:r3=[o7,o8,o9,oA,oB,oC,oD,oE,oF,oG,oH,oI,oJ].toArray:=Array.ext' (by simpa using hr3)
    obtain rfl:r4=[oK,oL,oM].toArray:=Array.ext' (by simpa using hr4)
    simp only at hts htb htl hag htw htr hs hi0 hc0 hf hR
    have t5:=zzx t5
    have t6:=aF8.1 (zzx t6)
    have t8:=zzx t8
    have t9:=zzx t9
    have t11:=aF8.2.1 (zzx t11)
    have t15:=zzx t15
    have t16:=aF8.2.2.1 (zzx t16)
    have t21:=zzx t21
    have t23:=aF8.2.1 (zzx t23)
    have t25:=aF8.2.2.2 (zzx t25)
    have t30:=zzx t30
    have t35:=zzx t35
    have lt : ∀ {i d : Nat},D[i]? = some d → d < N:=fun {i d} hi=>iC (List.all_eq_true.1 t39 d (zyx hi))
    have inD : ∀ {i d : Nat},D[i]? = some d → d ∈ D:=fun hi=>zyx hi
    have ne : ∀ {i j x y : Nat},i < j → D[i]? = some x → D[j]? = some y → x ≠ y:=fun hij h1 h2=>aKd t40 hij h1 h2
    have d1 : D[0]? = some v1.1:=by rw [← hD]; rfl
    have d2 : D[1]? = some v2.1:=by rw [← hD]; rfl
    have d3 : D[2]? = some v3.1:=by rw [← hD]; rfl
    have d4 : D[3]? = some v4.1:=by rw [← hD]; rfl
    have d5 : D[4]? = some v5.1:=by rw [← hD]; rfl
    have d6 : D[5]? = some v6.1:=by rw [← hD]; rfl
    have d7 : D[6]? = some v7.1:=by rw [← hD]; rfl
    have d8 : D[7]? = some v8.1:=by rw [← hD]; rfl
    have d9 : D[8]? = some v9.1:=by rw [← hD]; rfl
    have dA : D[9]? = some vA.1:=by rw [← hD]; rfl
    have dB : D[10]? = some vB.1:=by rw [← hD]; rfl
    have dC : D[11]? = some vC.1:=by rw [← hD]; rfl
    have dD : D[12]? = some vD.1:=by rw [← hD]; rfl
    have dE : D[13]? = some vE.1:=by rw [← hD]; rfl
    have dF : D[14]? = some vF.1:=by rw [← hD]; rfl
    have dG : D[15]? = some vG.1:=by rw [← hD]; rfl
    have dH : D[16]? = some vH.1:=by rw [← hD]; rfl
    have dI : D[17]? = some vI.1:=by rw [← hD]; rfl
    have dK : D[18]? = some vK.1:=by rw [← hD]; rfl
    have dL : D[19]? = some vL.1:=by rw [← hD]; rfl
    have dM : D[20]? = some vM.1:=by rw [← hD]; rfl
    clear hD t39 t40
    have s0:=a2s.refl D a
    refine wp_seq (wp_region_lit (sU (x:=.string ⟨⟨l⟩⟩) e1 hs ?_))
    have s1:=s0.put (inD d1) (.string ⟨⟨l⟩⟩)
    have g1_1:At (a.put (some v1.1) (.string ⟨⟨l⟩⟩)) v1.1 _:=At.same (by rw [s0.size,hN]; exact lt d1)
    generalize a.put (some v1.1) (.string ⟨⟨l⟩⟩)=a1 at *
    refine bD2 e2 hts htb hte (by rw [dW t1]; exact g1_1.ev) fun cap=>?_
    have s2:=s1.put (inD d2) (.slice (some ⟨w.heap.size,0,none⟩) l.length cap)
    have g2_2:At (a1.put (some v2.1) (.slice (some ⟨w.heap.size,0,none⟩) l.length cap)) v2.1 _:=At.same (by rw [s1.size,hN]; exact lt d2)
    generalize a1.put (some v2.1) (.slice (some ⟨w.heap.size,0,none⟩) l.length cap)=a2 at *
    refine sU (x:=(.slice (some ⟨w.heap.size,0,none⟩) l.length cap)) e3 (by rw [dW t2]; exact g2_2.ev) ?_
    have s3:=s2.put (inD d3) (.slice (some ⟨w.heap.size,0,none⟩) l.length cap)
    have g3_3:At (a2.put (some v3.1) (.slice (some ⟨w.heap.size,0,none⟩) l.length cap)) v3.1 _:=At.same (by rw [s2.size,hN]; exact lt d3)
    generalize a2.put (some v3.1) (.slice (some ⟨w.heap.size,0,none⟩) l.length cap)=a3 at *
    obtain ⟨b0,b1,b2,b3,cs,E,fr,k1,k2,k3,k4⟩:=b70 w eT l
    generalize Lib.bytesWorld w eT ⟨⟨l⟩⟩=w1 at *
    have b4 : ∀ (i : Nat) x,l[i]? = some x → w1.cell? ⟨w.heap.size,i,none⟩ = some (.int .u8 (x.toNat : Int)):=fun i x hx=>by
     rw [qL]; unfold bD; rw [k1]; exact k4 i x hx
    have b5 : ∀ i,i < l.length → w1.frozen? ⟨w.heap.size,i,none⟩ = false:=fun i hi=>by
     unfold World.frozen?
     simp only [k1]
     simp
     intro h
     omega
    refine wp_seq (wp_seq (wp_region_lit (sU (x:=(.slice (some ⟨w.heap.size,0,none⟩) l.length cap)) e4 (by rw [dW t3]; exact g3_3.ev) ?_)))
    have s4:=s3.put (inD d4) (.slice (some ⟨w.heap.size,0,none⟩) l.length cap)
    have g4_4:At (a3.put (some v4.1) (.slice (some ⟨w.heap.size,0,none⟩) l.length cap)) v4.1 _:=At.same (by rw [s3.size,hN]; exact lt d4)
    have g4_3:=g3_3.cZ (d:=v4.1) (x:=(.slice (some ⟨w.heap.size,0,none⟩) l.length cap)) (ne (by omega) d3 d4).symm
    generalize a3.put (some v4.1) (.slice (some ⟨w.heap.size,0,none⟩) l.length cap)=a4 at *
    refine b04 e5 (by rw [t5]; exact htb) (by rw [dW t4]; exact g4_4.ev) ?_
    have s5:=s4.put (inD d5) (.int .i64 l.length)
    have g5_5:At (a4.put (some v5.1) (.int .i64 l.length)) v5.1 _:=At.same (by rw [s4.size,hN]; exact lt d5)
    have g5_3:=g4_3.cZ (d:=v5.1) (x:=(.int .i64 l.length)) (ne (by omega) d3 d5).symm
    generalize a4.put (some v5.1) (.int .i64 l.length)=a5 at *
    refine a9g e6 (by rw [dW t7]; exact g5_5.ev) (bAh em0 a5) (by rw [t6]; simp) (by rw [t6]; simp) (r:=.bool (decide (0 < l.length))) (by rw [t6,t8]; simp [fX]) fun zz rz=>?_
    obtain rfl:=qN rz
    have s6:=s5.put (inD d6) (.bool (decide (0 < l.length)))
    have g6_6:At (a5.put (some v6.1) (.bool (decide (0 < l.length)))) v6.1 _:=At.same (by rw [s5.size,hN]; exact lt d6)
    have g6_3:=g5_3.cZ (d:=v6.1) (x:=(.bool (decide (0 < l.length)))) (ne (by omega) d3 d6).symm
    generalize a5.put (some v6.1) (.bool (decide (0 < l.length)))=a6 at *
    have fin : ∀ (b : Act) (u : World) (ns : List Int),a2s D a b → At b v3.1 (.slice (some ⟨w.heap.size,0,none⟩) l.length cap) → ns.length = l.length → (∀ j n,ns[j]? = some n → u.cell? ⟨w.heap.size,j,none⟩ = some (.int .u8 n)) → (ns.map fun n=>UInt8.ofNat n.toNat) = l' → (∀ j,j < w.heap.size → u.heap[j]? = w.heap[j]?) → w.heap.size ≤ u.heap.size → u.os = w.os → Kept w u →
      (Code.region i4 [oK,oL,oM].toArray false).wp P R b u:=by
     intro b u ns sb gb hl bD hns hold hsz hos hout
     refine wp_region_lit (sU (x:=(.slice (some ⟨w.heap.size,0,none⟩) l.length cap)) eK (by rw [dW t33]; exact gb.ev) ?_)
     have s7:=sb.put (inD dK) (.slice (some ⟨w.heap.size,0,none⟩) l.length cap)
     have g7_K:At (b.put (some vK.1) (.slice (some ⟨w.heap.size,0,none⟩) l.length cap)) vK.1 _:=At.same (by rw [sb.size,hN]; exact lt dK)
     generalize b.put (some vK.1) (.slice (some ⟨w.heap.size,0,none⟩) l.length cap)=a7 at *
     refine bD3 eL (by rw [t35]; exact htb) hte htr (by rw [dW t34]; exact g7_K.ev) hl bD ?_
     rw [hns]
     have s8:=s7.put (inD dL) (.string ⟨⟨l'⟩⟩)
     have g8_L:At (a7.put (some vL.1) (.string ⟨⟨l'⟩⟩)) vL.1 _:=At.same (by rw [s7.size,hN]; exact lt dL)
     generalize a7.put (some vL.1) (.string ⟨⟨l'⟩⟩)=a8 at *
     refine sU (x:=.string ⟨⟨l'⟩⟩) eM (by rw [dW t36]; exact g8_L.ev) ?_
     have s9:=s8.put (inD dM) (.string ⟨⟨l'⟩⟩)
     have g9_M:At (a8.put (some vM.1) (.string ⟨⟨l'⟩⟩)) vM.1 _:=At.same (by rw [s8.size,hN]; exact lt dM)
     generalize a8.put (some vM.1) (.string ⟨⟨l'⟩⟩)=a9 at *
     exact hR _ u s9 (inD dM) g9_M hold hsz hos hout
    refine wp_cond (t:=decide (0 < l.length)) (by rw [← t9]; exact g6_6.ev) ?_
    by_cases hl0:l=[]
    ·subst hl0
     rw [b4a] at hf
     simp only [zzz,V.str.injEq] at hf
     subst hf
     simp only [List.length_nil,Nat.lt_irrefl,decide_false,zuy,if_false]
     exact wp_skip (fin a6 w1 [] s6 g6_3 rfl (fun j n h=>by simp at h) rfl b0 b1 b2 b3)
    ·have hpos:0 < l.length:=List.length_pos_iff.2 hl0
     obtain ⟨q,r,x,d,e,f1,f2,f3,f4,f5,f6,rfl⟩:=b09 hl0 hf
     obtain ⟨i,rfl⟩:∃ i:Nat,r=i:=⟨r.toNat,by omega⟩
     rw [Int.toNat_natCast] at f3 fin
     have hi:=(zzy.1 f3).1
     rw [if_pos (decide_eq_true hpos)]
     refine wp_region_lit (sU (x:=(.slice (some ⟨w.heap.size,0,none⟩) l.length cap)) e7 (by rw [dW t10]; exact g6_3.ev) ?_)
     have s10:=s6.put (inD d7) (.slice (some ⟨w.heap.size,0,none⟩) l.length cap)
     have g10_7:At (a6.put (some v7.1) (.slice (some ⟨w.heap.size,0,none⟩) l.length cap)) v7.1 _:=At.same (by rw [s6.size,hN]; exact lt d7)
     have g10_3:=g6_3.cZ (d:=v7.1) (x:=(.slice (some ⟨w.heap.size,0,none⟩) l.length cap)) (ne (by omega) d3 d7).symm
     generalize a6.put (some v7.1) (.slice (some ⟨w.heap.size,0,none⟩) l.length cap)=a10 at *
     refine sU (x:=.int .i64 n) e8 (by rw [s10.ev t37]; exact hi0) ?_
     have s11:=s10.put (inD d8) (.int .i64 n)
     have g11_8:At (a10.put (some v8.1) (.int .i64 n)) v8.1 _:=At.same (by rw [s10.size,hN]; exact lt d8)
     have g11_3:=g10_3.cZ (d:=v8.1) (x:=(.int .i64 n)) (ne (by omega) d3 d8).symm
     have g11_7:=g10_7.cZ (d:=v8.1) (x:=(.int .i64 n)) (ne (by omega) d7 d8).symm
     generalize a10.put (some v8.1) (.int .i64 n)=a11 at *
     refine a9g e9 (by rw [dW t12]; exact g11_8.ev) (bAh em1 a11) (by rw [t11]; simp) (by rw [t11]; simp) (r:=.int .i64 q) (by rw [t11]; exact f1) fun zz rz=>?_
     obtain rfl:=eQ rz
     have s12:=s11.put (inD d9) (.int .i64 q)
     have g12_9:At (a11.put (some v9.1) (.int .i64 q)) v9.1 _:=At.same (by rw [s11.size,hN]; exact lt d9)
     have g12_3:=g11_3.cZ (d:=v9.1) (x:=(.int .i64 q)) (ne (by omega) d3 d9).symm
     have g12_7:=g11_7.cZ (d:=v9.1) (x:=(.int .i64 q)) (ne (by omega) d7 d9).symm
     generalize a11.put (some v9.1) (.int .i64 q)=a12 at *
     refine sU (x:=(.slice (some ⟨w.heap.size,0,none⟩) l.length cap)) eA (by rw [dW t13]; exact g12_3.ev) ?_
     have s13:=s12.put (inD dA) (.slice (some ⟨w.heap.size,0,none⟩) l.length cap)
     have g13_A:At (a12.put (some vA.1) (.slice (some ⟨w.heap.size,0,none⟩) l.length cap)) vA.1 _:=At.same (by rw [s12.size,hN]; exact lt dA)
     have g13_3:=g12_3.cZ (d:=vA.1) (x:=(.slice (some ⟨w.heap.size,0,none⟩) l.length cap)) (ne (by omega) d3 dA).symm
     have g13_7:=g12_7.cZ (d:=vA.1) (x:=(.slice (some ⟨w.heap.size,0,none⟩) l.length cap)) (ne (by omega) d7 dA).symm
     have g13_9:=g12_9.cZ (d:=vA.1) (x:=(.slice (some ⟨w.heap.size,0,none⟩) l.length cap)) (ne (by omega) d9 dA).symm
     generalize a12.put (some vA.1) (.slice (some ⟨w.heap.size,0,none⟩) l.length cap)=a13 at *
     refine b04 eB (by rw [t15]; exact htb) (by rw [dW t14]; exact g13_A.ev) ?_
     have s14:=s13.put (inD dB) (.int .i64 l.length)
     have g14_B:At (a13.put (some vB.1) (.int .i64 l.length)) vB.1 _:=At.same (by rw [s13.size,hN]; exact lt dB)
     have g14_3:=g13_3.cZ (d:=vB.1) (x:=(.int .i64 l.length)) (ne (by omega) d3 dB).symm
     have g14_7:=g13_7.cZ (d:=vB.1) (x:=(.int .i64 l.length)) (ne (by omega) d7 dB).symm
     have g14_9:=g13_9.cZ (d:=vB.1) (x:=(.int .i64 l.length)) (ne (by omega) d9 dB).symm
     generalize a13.put (some vB.1) (.int .i64 l.length)=a14 at *
     refine a9g eC (by rw [dW t17]; exact g14_9.ev) (by rw [dW t18]; exact g14_B.ev) (by rw [t16]; simp) (by rw [t16]; simp) (r:=.int .i64 (i:Nat)) (by rw [t16]; exact f2) fun zz rz=>?_
     obtain rfl:=eQ rz
     have s15:=s14.put (inD dC) (.int .i64 (i:Nat))
     have g15_C:At (a14.put (some vC.1) (.int .i64 (i:Nat))) vC.1 _:=At.same (by rw [s14.size,hN]; exact lt dC)
     have g15_3:=g14_3.cZ (d:=vC.1) (x:=(.int .i64 (i:Nat))) (ne (by omega) d3 dC).symm
     have g15_7:=g14_7.cZ (d:=vC.1) (x:=(.int .i64 (i:Nat))) (ne (by omega) d7 dC).symm
     generalize a14.put (some vC.1) (.int .i64 (i:Nat))=a15 at *
     refine b05 eD (by rw [t21]; exact htb) hsz1 (by rw [dW t19]; exact g15_7.ev) (by rw [dW t20]; exact g15_C.ev) hi ?_
     have s16:=s15.put (inD dD) (.pointer (some ⟨w.heap.size,i,none⟩))
     have g16_D:At (a15.put (some vD.1) (.pointer (some ⟨w.heap.size,i,none⟩))) vD.1 _:=At.same (by rw [s15.size,hN]; exact lt dD)
     have g16_3:=g15_3.cZ (d:=vD.1) (x:=(.pointer (some ⟨w.heap.size,i,none⟩))) (ne (by omega) d3 dD).symm
     have g16_7:=g15_7.cZ (d:=vD.1) (x:=(.pointer (some ⟨w.heap.size,i,none⟩))) (ne (by omega) d7 dD).symm
     have g16_C:=g15_C.cZ (d:=vD.1) (x:=(.pointer (some ⟨w.heap.size,i,none⟩))) (ne (by omega) dC dD).symm
     generalize a15.put (some vD.1) (.pointer (some ⟨w.heap.size,i,none⟩))=a16 at *
     refine bGi eE htl hag (x:=.int .u8 x.toNat) (by rw [dW t22]; exact g16_D.ev) (b4 i x f3) ?_
     have s17:=s16.put (inD dE) (.int .u8 x.toNat)
     have g17_E:At (a16.put (some vE.1) (.int .u8 x.toNat)) vE.1 _:=At.same (by rw [s16.size,hN]; exact lt dE)
     have g17_3:=g16_3.cZ (d:=vE.1) (x:=(.int .u8 x.toNat)) (ne (by omega) d3 dE).symm
     have g17_7:=g16_7.cZ (d:=vE.1) (x:=(.int .u8 x.toNat)) (ne (by omega) d7 dE).symm
     have g17_C:=g16_C.cZ (d:=vE.1) (x:=(.int .u8 x.toNat)) (ne (by omega) dC dE).symm
     generalize a16.put (some vE.1) (.int .u8 x.toNat)=a17 at *
     refine sU (x:=.int .u8 c) eF (by rw [s17.ev t38]; exact hc0) ?_
     have s18:=s17.put (inD dF) (.int .u8 c)
     have g18_F:At (a17.put (some vF.1) (.int .u8 c)) vF.1 _:=At.same (by rw [s17.size,hN]; exact lt dF)
     have g18_3:=g17_3.cZ (d:=vF.1) (x:=(.int .u8 c)) (ne (by omega) d3 dF).symm
     have g18_7:=g17_7.cZ (d:=vF.1) (x:=(.int .u8 c)) (ne (by omega) d7 dF).symm
     have g18_C:=g17_C.cZ (d:=vF.1) (x:=(.int .u8 c)) (ne (by omega) dC dF).symm
     have g18_E:=g17_E.cZ (d:=vF.1) (x:=(.int .u8 c)) (ne (by omega) dE dF).symm
     generalize a17.put (some vF.1) (.int .u8 c)=a18 at *
     refine a9g eG (by rw [dW t24]; exact g18_F.ev) (aT5 em2 a18) (by rw [t23]; simp) (by rw [t23]; simp) (r:=.int .u8 d) (by rw [t23]; exact f4) fun zz rz=>?_
     obtain rfl:=eQ rz
     have s19:=s18.put (inD dG) (.int .u8 d)
     have g19_G:At (a18.put (some vG.1) (.int .u8 d)) vG.1 _:=At.same (by rw [s18.size,hN]; exact lt dG)
     have g19_3:=g18_3.cZ (d:=vG.1) (x:=(.int .u8 d)) (ne (by omega) d3 dG).symm
     have g19_7:=g18_7.cZ (d:=vG.1) (x:=(.int .u8 d)) (ne (by omega) d7 dG).symm
     have g19_C:=g18_C.cZ (d:=vG.1) (x:=(.int .u8 d)) (ne (by omega) dC dG).symm
     have g19_E:=g18_E.cZ (d:=vG.1) (x:=(.int .u8 d)) (ne (by omega) dE dG).symm
     generalize a18.put (some vG.1) (.int .u8 d)=a19 at *
     refine a9g eH (by rw [dW t26]; exact g19_E.ev) (by rw [dW t27]; exact g19_G.ev) (by rw [t25]; simp) (by rw [t25]; simp) (r:=.int .u8 e) (by rw [t25]; exact f5) fun zz rz=>?_
     obtain rfl:=eQ rz
     have s20:=s19.put (inD dH) (.int .u8 e)
     have g20_H:At (a19.put (some vH.1) (.int .u8 e)) vH.1 _:=At.same (by rw [s19.size,hN]; exact lt dH)
     have g20_3:=g19_3.cZ (d:=vH.1) (x:=(.int .u8 e)) (ne (by omega) d3 dH).symm
     have g20_7:=g19_7.cZ (d:=vH.1) (x:=(.int .u8 e)) (ne (by omega) d7 dH).symm
     have g20_C:=g19_C.cZ (d:=vH.1) (x:=(.int .u8 e)) (ne (by omega) dC dH).symm
     generalize a19.put (some vH.1) (.int .u8 e)=a20 at *
     refine b05 eI (by rw [t30]; exact htb) hsz1 (by rw [dW t28]; exact g20_7.ev) (by rw [dW t29]; exact g20_C.ev) hi ?_
     have s21:=s20.put (inD dI) (.pointer (some ⟨w.heap.size,i,none⟩))
     have g21_I:At (a20.put (some vI.1) (.pointer (some ⟨w.heap.size,i,none⟩))) vI.1 _:=At.same (by rw [s20.size,hN]; exact lt dI)
     have g21_3:=g20_3.cZ (d:=vI.1) (x:=(.pointer (some ⟨w.heap.size,i,none⟩))) (ne (by omega) d3 dI).symm
     have g21_H:=g20_H.cZ (d:=vI.1) (x:=(.pointer (some ⟨w.heap.size,i,none⟩))) (ne (by omega) dH dI).symm
     generalize a20.put (some vI.1) (.pointer (some ⟨w.heap.size,i,none⟩))=a21 at *
     refine bGj eJ htw (by rw [dW t31]; exact g21_I.ev) (x:=.int .u8 e) (by rw [dW t32]; exact g21_H.ev) rfl rfl (by rw [b4 i x f3]; rfl) (b5 i hi) ?_
     obtain ⟨h0,h1,h2,h3,h4⟩:=b07 (e:=e) hi b0 b1 b2 b3 k1 k3 k4
     exact fin a21 _ ((l.map fun c=>(c.toNat:Int)).set i e) s21 g21_3 (by simp) h4 (b08 l i e) h0 h1 h2 h3
   ·simp at h
  ·simp at h
 ·simp at h
theorem a9h {κ : Ctx} {h h' : cJ} (hs : h.size ≤ h'.size) (hb : ∀ k,k < h.size → h'[k]? = h[k]?) : Le κ h κ h' where
 size:=hs
 same b hb' _:=hb b hb'
 yA _ _ _:=rfl
 mK b i x _ hc:=by
  have hlt:b < h.size:=tT hc
  unfold bD at hc ⊢
  rw [hb b hlt]; exact hc
 hw _:=zxy _
 box _ _ h:=h
 a0g _ h:=.inl h
 aN _ L h:=⟨L,h,.inl rfl⟩
 tQ L h hk:=.inl ⟨L,h,hk,rfl⟩
theorem b1a {κ : Ctx} {h h' : cJ} {m : Hp} (k : Mem κ h m) (hs : h.size ≤ h'.size) (hb : ∀ k,k < h.size → h'[k]? = h[k]?) : Mem κ h' m:=by
 obtain ⟨ok,hp,ht⟩:=k
 refine ⟨⟨fun b h=>zuz (ok.iK b h) hs,ok.rF,ok.vN,fun L h hk=>zuz (ok.jJ L h hk) hs,ok.lhw,ok.lnd,ok.tR,fun L h hv=>?_,fun b h=>ok.fresh b (Nat.le_trans hs h),ok.xR,ok.lbt,ok.tbs.le (a9h hs hb)⟩,?_,ht⟩
 ·obtain ⟨c,E,fr,h1,h2⟩:=ok.rZ L h hv
  exact ⟨c,E,fr,by rw [hb _ (ok.jJ L h (nf hv))]; exact h1,h2⟩
 ·exact hp.mono (a9h hs hb) rfl fun b h=>hb b (ok.iK b h)
theorem aT7 {A B:Code} {N:Nat} {f:FJ} (h:aCf N A B=some f):f.b ∈ f.D∧∀ d ∈ f.D,d < N:=by
 unfold aCf at h
 split at h
 ·split at h
  ·simp only [b0o,Option.bind_eq_bind,zwz] at h
   obtain ⟨v1,e1,v2,e2,v3,e3,v4,e4,v5,e5,v6,e6,v7,e7,v8,e8,v9,e9,vA,eA,vB,eB,vC,eC,vD,eD,vE,eE,vF,eF,vG,eG,vH,eH,vI,eI,vJ,eJ,vK,eK,vL,eL,vM,eM,m0,em0,m1,em1,m2,em2,h⟩:=h
   rw [cond_eq_ite] at h
   split at h
   ·rename_i hc
    simp only [zzz] at h
    subst h
    rw [zxz,zxz,zxz,zxz] at hc
    simp only [zxz] at hc
    refine ⟨by simp,fun d hd=>?_⟩
    exact iC (List.all_eq_true.1 hc.2.1.2 d hd)
   ·simp at h
  ·simp at h
 ·simp at h
end Go.Fbs

/- Code,and a function. -/
namespace Go.Fbs
section
variable {P:Program} {C:cN} {s:St} {Q:Exit→St→Prop}
theorem aT8 {m:Hp} : ∀ {ks:List AK} {as:List V} {q:List V×List Nat×List GA},jD m ks as=some q→∀ l ∈ q.2.1,∃ off,V.ptr l off ∈ as
 | [],[],q,h,l,hl=>by
  simp only [jD,zzz] at h
  subst h; simp at hl
 | .v::ks,a::as,q,h,l,hl=>by
  simp only [jD,zyy] at h
  obtain ⟨q',h1,rfl⟩:=h
  obtain ⟨off,ho⟩:=aT8 h1 l hl
  exact ⟨off,List.mem_cons_of_mem _ ho⟩
 | .b off cks::ks,a::as,q,h,l,hl=>by
  cases a with
  | ptr l0 o =>
   simp only [jD] at h
   split at h
   ·split at h
    ·split at h
     ·rename_i w gs q' h1 h2
      simp only [zzz] at h
      subst h
      rcases List.mem_cons.1 hl with rfl | hl
      ·exact ⟨o,List.mem_cons_self⟩
      ·obtain ⟨off',ho⟩:=aT8 h2 l hl
       exact ⟨off',List.mem_cons_of_mem _ ho⟩
     ·simp at h
    ·simp at h
   ·simp at h
  | _=>simp [jD] at h
 | [],_::_,_,h,_,_=>by simp [jD] at h
 | .v::_,[],_,h,_,_=>by simp [jD] at h
 | .b _ _::_,[],_,h,_,_=>by simp [jD] at h
theorem aP8 {sg : iA} {F : List V → Option V} {args : List V} {m m' : Hp} {v : V} (h : aOl sg F args m = some (v,m')) : m'.H.length = m.H.length ∧ ∀ l,sg.gr = [] → (∀ off,V.ptr l off ∉ args) → m'.H[l]? = m.H[l]?:=by
 unfold aOl at h
 split at h
 ·rename_i words ls gs hin
  split at h
  ·split at h
   ·simp only [zzz,zvy] at h
    obtain ⟨_,rfl⟩:=h
    refine ⟨aTz,fun l hg hl=>aF5 fun hm=>?_⟩
    rw [hg] at hin
    simp only [sJ,Option.bind_some] at hin
    obtain ⟨off,ho⟩:=aT8 hin l hm
    exact hl off ho
   ·simp at h
  ·simp at h
 ·simp at h
theorem b71:∀ {g:List GK},b7n g=true→g=[]
 | [],_=>rfl
 | _::_,h=>by simp [b7n] at h
theorem bB9 {tt:TT} {p:PT} : Calm (CE tt p) where
 len f args m v m' h:=by
  have h:aCh tt p f args m=some (v,m'):=h
  unfold aCh at h
  split at h
  ·exact Nat.le_of_eq (aP8 h).1.symm
  ·simp at h
 cZ f args m v m' l hf h:=by
  have h:aCh tt p f args m=some (v,m'):=h
  have hf:b0k tt f=true:=hf
  unfold aCh at h
  split at h
  ·rename_i e sg hs
   refine (aP8 h).2 l ?_
   have hsg:=a2o hs
   unfold a4q at hsg
   cases hle:Nat.ble a06 e with
   | false=>rw [hle] at hsg; simp at hsg
   | true =>
    rw [hle] at hsg
    have hm:=a9f hsg
    have:=List.all_eq_true.1 hf _ hm
    simp only [Nat.beq_refl,Bool.not_true,Bool.false_or] at this
    exact b71 this
  ·simp at h
theorem b1b (hC:Sound P C) (hcalm:Calm C) {id:Nat} {ops:List Oper} {sl:TypeId→Bool} {ex:Rt→Rt→Bool} (hm:P.follows .mixedOrders=true) (hd:a3v C sl ex ops=true) (hsl:∀ t,sl t=true→∃ e,P.underlying t=some (.slice e)) (hex:∀ r r',ex r r'=true→aHx s.env s.m.H.length r r')
  (h:∀ K:Env→Hp→Prop,aZ1 (∀ env m,Q .normal ⟨env,m⟩→K env m)→jK P C ops ops s.env s.m K):AW P (.region id ops.toArray true) s Q:=by
 obtain ⟨env',m',h1,h2⟩:=rR (h (fun env m=>Q .normal ⟨env,m⟩) ⟨fun _ _ h=>h⟩)
 exact fun κ w a k re R hR=>aS5 hC hcalm hd hsl hex hm h1 k re (fun κ' w' a' hx hr=>hR _ ⟨env',m'⟩ κ' w' a' h2 hx hr)
theorem b72 {c:Code} (I:Nat→St→Prop) {n0:Nat} (h0:I n0 s) (round:∀ n s,I n s→AW P c s (b94 (fun s'=>∃ n',n' < n∧I n' s') Q)):AW P (.loop c) s Q:=by
 intro κ w a k re R hR
 have key:∀ (n i:Nat) (s1:St) (κ1:Ctx) (w1:World) (a1:Act),i < n→I i s1→Ext κ w s.m κ1 w1 s1.m→gW κ1 w1.heap s1.env a1→Code.rounds P c R n a1 w1:=by
  intro n
  induction n with
  | zero=>intro i s1 κ1 w1 a1 h; omega
  | succ n ih =>
   intro i s1 κ1 w1 a1 hn hI hx hr
   refine round i s1 hI κ1 w1 a1 hx.mem hr _ fun e s' κ' w' a' hq hx' hr'=>?_
   cases e with
   | normal =>
    obtain ⟨i',h1,h2⟩:=hq
    exact ih i' s' κ' w' a' (by omega) h2 (hx.trans hx') hr'
   | _=>exact hR _ s' κ' w' a' hq (hx.trans hx') hr'
 exact wp_loop_rounds (n0+1) (key _ n0 s κ w a (Nat.lt_succ_self _) h0 (Ext.refl k) re)
end
section
variable {P:Program} {tt:TT} (hT:∀ t ti,cU tt t=some ti→aV P ti∧ti.t=t) (hm:P.follows .mixedOrders=true)
variable {p:PT} (hS:Sound P (CE tt p)) (hp:Canon tt p) {Q:V→Prop} {N:Nat}
def Way (p:PT) (Q:V→Prop) (N:Nat) (ρ:Nat→V) (S:SS) (ks:List (List V→Prop)) (xs:List (Nat×KX)) (k r:KX):Exit→St→Prop
 | .normal,s=>Left p Q N ρ S ks k s.env s.m
 | .ret,s=>Left p Q N ρ S ks r s.env s.m
 | .exit id,s=>∃ kx,aJ8 xs id=some kx∧Left p Q N ρ S ks kx s.env s.m
 | _,_=>False
theorem Left.via {ρ ρ':Nat→V} {S S':SS} {ks pre:List (List V→Prop)} {k:KX} {env:Env} {m:Hp} (h:Left p Q N ρ' S' (pre++ks) k env m) (ha:aZ ρ ρ' S.nv) (hn:S.nv≤S'.nv) (hd:S'.dep=S.dep+pre.length):Left p Q N ρ S ks k env m:=by
 obtain ⟨S2,ρ2,L',gk',gb',bD4,h1,h2,h3,h4,h5,h6⟩:=h.out
 refine ⟨S2,ρ2,L',gk',gb',bD4++pre,h1,by rw [zty]; exact h2,h3,ha.trans h4 hn,Nat.le_trans hn h5,by rw [h6,hd,zwy]; omega⟩
theorem Way.via {ρ ρ':Nat→V} {S S':SS} {ks pre:List (List V→Prop)} {xs:List (Nat×KX)} {k r:KX} {e:Exit} {s:St} (h:Way p Q N ρ' S' (pre++ks) xs k r e s) (ha:aZ ρ ρ' S.nv) (hn:S.nv≤S'.nv) (hd:S'.dep=S.dep+pre.length):Way p Q N ρ S ks xs k r e s:=by
 cases e with
 | normal=>exact Left.via h ha hn hd
 | ret=>exact Left.via h ha hn hd
 | exit id=>obtain ⟨kx,h1,h2⟩:=h; exact ⟨kx,h1,h2.via ha hn hd⟩
 | _=>exact h
theorem aT9 {S:SS} {ρ:Nat→V} (hk0:∀ i n,assoc S.known i=some n→i < S.nv∧nT n (ρ i)) (hb0:∀ i ∈ S.cS,i < S.nv∧vU (ρ i)=true) {ds:List Nat} {vars:Vars} {ks:List (List V→Prop)} {r:List V→Prop} {S1:SS} (hnv:S1.nv=S.nv) (hdep:S1.dep=S.dep+1) {env:Env} {m:Hp}
  (h:Left p Q N ρ S1 (r::ks) (aCg (nS S ds vars) S.dep vars) env m):∃ vs gk2 gb2,vs.length=vars.length∧r vs∧aH N gk2 gb2 (nS S ds vars) (exts ρ S.nv vs) env m:=by
 obtain ⟨S',ρ',L',gk',gb',pre,h1,h2,h3,h4,h5,h6⟩:=h.out
 simp only [aCg,zyy] at h1
 obtain ⟨as,h7,rfl⟩:=h1
 rw [hnv] at h4
 obtain ⟨h8,gk2,gb2,h9⟩:=aT4 hk0 hb0 h3 h4 h7
 refine ⟨as.map (A.den ρ'),gk2,gb2,by rw [zsy,h8],?_,h9⟩
 simp only [L.wp] at h2
 have : (pre ++ r :: ks)[S'.dep - 1 - S.dep]? = some r:=by
  rw [h6,hdep,show S.dep+1+pre.length - 1 - S.dep=pre.length by omega,ztx (zxy _)]
  simp
 rw [this] at h2
 exact h2
include hT in
omit hm hS hp in
theorem bD5 (t:TypeId) (h:slX tt t=true):∃ e,P.underlying t=some (.slice e):=by
 unfold slX at h
 split at h
 ·rename_i ti hti
  obtain ⟨tok,htt⟩:=hT t ti hti
  split at h
  ·rename_i e hd
   have:=tok.d
   rw [hd,htt] at this
   exact ⟨e,this⟩
  ·simp at h
 ·simp at h
omit hT hm hS hp in
theorem b73 {ρ : Nat → V} {gk : Nat → Option Nat} {gb : List Nat} {T : List (Nat × Nat)} {s : SV} {l off : Nat} (r : dQ ρ gk gb T s (.ptr l off)) {o : Option Nat} (h : s.a86 = some o) : ∃ b,o = some b ∧ gb[b]? = some l:=by
 cases s <;> simp [SV.a86] at h
 ·subst h
  by_cases hon:gP ρ ‹Gd›
  ·obtain ⟨cs,h1,_⟩:=r.1 hon; simp at h1
  ·have:=r.2 hon; simp at this
 ·subst h
  by_cases hon:gP ρ ‹Gd›
  ·obtain ⟨l',h1,h2⟩:=r.1 hon
   simp only [V.ptr.injEq] at h2
   exact ⟨_,rfl,by rw [h2.1]; exact h1⟩
  ·have:=r.2 hon; simp at this
 ·subst h
  by_cases hon:gP ρ ‹Gd›
  ·obtain ⟨l',q,z,h1,h2,h3,h4⟩:=r.1 hon
   simp only [V.ptr.injEq] at h4
   exact ⟨_,rfl,by rw [h4.1]; exact h1⟩
  ·have:=r.2 hon; simp at this
omit hT hm hS hp in
theorem aH.apart {gk:Nat→Option Nat} {gb:List Nat} {S:SS} {ρ:Nat→V} {env:Env} {m:Hp} (c:aH N gk gb S ρ env m) (r r':Rt) (h:S.apart r r'=true):aHx env m.H.length r r':=by
 have at_ : ∀ {t : Nat} {l off : Nat} {o : Option Nat},env.get t = some (.ptr l off) → (S.look t).bind SV.a86 = some o → ∃ b,o = some b ∧ gb[b]? = some l:=by
  intro t l off o e1 e2
  obtain ⟨s,e3,e4⟩:=zwz.1 e2
  obtain ⟨_,e5,_⟩:=c.cE t s e3
  unfold Env.get at e1
  split at e1
  ·simp only [zzz] at e1
   rw [e1] at e5
   exact b73 e5 e4
  ·simp at e1
 have low:∀ {t:Nat},((S.look t).bind SV.a86).isSome=true→∀ l off,env.get t=some (.ptr l off)→l < m.H.length:=by
  intro t h l off e1
  obtain ⟨o,ho⟩:=Option.isSome_iff_exists.1 h
  obtain ⟨b,_,q⟩:=at_ e1 ho
  exact c.blt l (zyx q)
 cases r with
 | ro=>trivial
 | nw i =>
  cases r' with
  | ro=>trivial
  | tm t=>exact low h
  | nw j =>
   intro e
   subst e
   simp [SS.apart] at h
 | tm t =>
  cases r' with
  | ro=>trivial
  | nw i=>exact low h
  | tm t' =>
   intro l off off' h1 h2
   simp only [SS.apart] at h
   split at h
   ·rename_i b b' e1 e2
    obtain ⟨_,q1,q2⟩:=at_ h1 e1
    obtain ⟨_,q3,q4⟩:=at_ h2 e2
    simp only [zzz] at q1 q3
    subst q1; subst q3
    rw [c.oY b b' l q2 q4] at h
    simp at h
   ·rename_i e1 e2
    obtain ⟨_,q1,_⟩:=at_ h1 e1
    simp at q1
   ·simp at h
omit hT hm hS hp in
theorem aEf {α:Type} {f:Nat→Bool} {l:List (Nat×α)} {t:Nat} {x:α} (h:assoc (l.filter fun p=>f p.1) t=some x):f t=true:=by
 have:=a9f h
 rw [List.mem_filter] at this
 exact this.2
def a32 (env:Env) (f:FJ) (l:List UInt8):Env:=⟨env.n,fun t=>if t=f.b then .str l else if t ∈ f.D then .any else env.f t⟩
omit hT hm hS hp in
theorem bCa {A B:Code} {N:Nat} {f:FJ} (h:aCf N A B=some f) {eT:TypeId} (hts:P.underlying f.ts=some .string) (htb:P.underlying f.tb=some (.slice eT)) (hte:P.underlying eT=some (.int .u8)) (hsz1:iO P eT=some 1)
  (htl:iO P f.tl=some 1) (hag:zW P f.tl=some false) (htw:iO P f.tw=some 1) (htr:P.underlying f.tr=some .string) {env:Env} {m:Hp} (hN:env.n=N) {l l':List UInt8} {n c:Int} (hs:ev env f.s=some (.str l)) (hi:ev env f.i=some (.int .i64 n)) (hc:ev env f.c=some (.int .u8 c))
  (hf:a4p f.m1 f.m2 (.str l) (.int .i64 n) (.int .u8 c)=some (.str l')) {Q:Exit→St→Prop} (hn:Q .normal ⟨a32 env f l',m⟩):AW P (.seq A B) ⟨env,m⟩ Q:=by
 intro κ w a km re R hR
 refine bB8 h hts htb hte hsz1 htl hag htw htr (by rw [re.2.1]; exact hN) (gN (re.ev hs)) (eQ (re.ev hi)) (eQ (re.ev hc)) hf fun a' w' sm hbD hat hold hsz hos hout=>?_
 refine hR _ _ κ w' a' hn ⟨a9h hsz hold,b1a km hsz hold,zxy _,fun _ _ h=>h,hos,hout⟩ ⟨by rw [sm.defers]; exact re.1,by rw [sm.size]; exact re.2.1,fun i v x h1 h2=>?_⟩
 unfold Env.get a32 at h1
 simp only at h1
 split at h1
 ·rename_i hin
  simp only [zzz] at h1
  by_cases hib:i=f.b
  ·rw [if_pos hib] at h1
   subst h1; subst hib
   unfold At at hat
   rw [hat] at h2
   simp only [zzz] at h2
   subst h2
   exact .str _
  ·rw [if_neg hib] at h1
   by_cases hiD:i ∈ f.D
   ·rw [if_pos hiD] at h1
    subst h1
    exact .any x
   ·rw [if_neg hiD] at h1
    rw [sm.cE i hiD] at h2
    refine (re.2.2 i v x ?_ h2).mono (a9h hsz hold)
    unfold Env.get
    rw [if_pos hin,h1]
 ·simp at h1
omit hT hm hS hp in
theorem b4b {A B:Code} {f:FJ} (hx:aCf N A B=some f) {gk:Nat→Option Nat} {gb:List Nat} {S:SS} {n:Nat} {ρ:Nat→V} {env:Env} {m:Hp} (e5:aH N gk gb S ρ env m) {l:List UInt8} (hn:S.nv=n+1) (hv:ρ n = .str l):aH N gk gb (b0q f S (.v n)) ρ (a32 env f l) m:=by
 refine ⟨e5.n,fun t s hs=>?_,e5.boxes,e5.lT,e5.oY,e5.blt,e5.kY,e5.tY,e5.known,e5.cS,e5.own⟩
 simp only [SS.look,b0q,assoc] at hs
 by_cases htb:f.b=t
 ·subst htb
  rw [show Nat.beq f.b f.b=true from Nat.beq_refl _] at hs
  simp only [cond_true,zzz] at hs
  subst hs
  refine ⟨(aT7 hx).2 _ (aT7 hx).1,?_,Nat.ble_eq_true_of_le (by show n+1≤S.nv; omega)⟩
  show V.aF (a32 env f l |>.f f.b)=ρ n
  rw [hv]
  simp [a32,V.aF]
 ·have hbt:Nat.beq f.b t=false:=by
   cases hq:Nat.beq f.b t with
   | false=>rfl
   | true=>exact absurd (zzx hq) htb
  rw [hbt] at hs
  simp only [cond_false] at hs
  have hnD:=aEf (f:=fun t=>!jM f.D t) hs
  have hold:=a2p (f:=fun t=>!jM f.D t) hs
  have htD:t ∉ f.D:=fun hm=>by
   have:jM f.D t=true:=by
    unfold jM
    rw [List.any_eq_true]
    exact ⟨t,hm,Nat.beq_refl t⟩
   rw [this] at hnD; simp at hnD
  obtain ⟨q1,q2,q3⟩:=e5.cE t s hold
  refine ⟨q1,?_,q3⟩
  show dQ _ _ _ _ s ((a32 env f _).f t)
  simp only [a32]
  rw [if_neg (fun e=>htb e.symm),if_neg htD]
  exact q2
omit hT hm hS hp in
theorem b1c {m1 m2:Nat} {s i c y:V} (h:a4p m1 m2 s i c=some y):∃ l n b l',s = .str l∧i = .int .i64 n∧c = .int .u8 b∧y = .str l':=by
 unfold a4p at h
 split at h
 ·rename_i l n b
  split at h
  ·split at h
   ·simp only [zzz] at h; exact ⟨l,n,b,_,rfl,rfl,rfl,h.symm⟩
   ·simp only [zyy] at h; obtain ⟨_,_,rfl⟩:=h; exact ⟨l,n,b,_,rfl,rfl,rfl,rfl⟩
  ·simp at h
 ·simp at h
omit hT hm hS hp in
theorem b74 {v:V} {l:List UInt8} (h:v.aF = .str l):v = .str l:=by cases v <;> simp_all [V.aF]
omit hm hS hp in
include hT in
theorem b75 {f:FJ} (h:aR3 tt f=true):∃ eT,P.underlying f.ts=some .string∧P.underlying f.tb=some (.slice eT)∧P.underlying eT=some (.int .u8)∧iO P eT=some 1∧iO P f.tl=some 1∧zW P f.tl=some false∧iO P f.tw=some 1∧P.underlying f.tr=some .string:=by
 have str:∀ {t:TypeId} {ti:TI},cU tt t=some ti→aR2 ti.d=true→P.underlying t=some .string:=fun {t ti} h1 h2=>by
  obtain ⟨ok,ht⟩:=hT t ti h1
  have hd:=ok.d
  rw [ht] at hd
  unfold aR2 at h2
  split at h2
  ·rename_i e; rw [e] at hd; exact hd
  ·simp at h2
 have one:∀ {t:TypeId} {ti:TI},cU tt t=some ti→Nat.beq ti.sz 1=true→iO P t=some 1:=fun {t ti} h1 h2=>by
  obtain ⟨ok,ht⟩:=hT t ti h1
  have hd:=ok.sz
  rw [ht,zzx h2] at hd
  exact hd
 have u8:∀ {t:TypeId} {ti:TI},cU tt t=some ti→b0p ti.d=true→P.underlying t=some (.int .u8):=fun {t ti} h1 h2=>by
  obtain ⟨ok,ht⟩:=hT t ti h1
  have hd:=ok.d
  rw [ht] at hd
  unfold b0p at h2
  split at h2
  ·rename_i e; rw [e] at hd; exact hd
  ·simp at h2
 unfold aR3 at h
 split at h
 ·rename_i ts tb tl tw tr h1 h2 h3 h4 h5
  split at h
  ·rename_i e he
   split at h
   ·rename_i te h6
    simp only [zxz,Bool.not_eq_true'] at h
    obtain ⟨⟨⟨⟨⟨⟨⟨c1,c2⟩,c3⟩,c4⟩,c5⟩,c6⟩,c7⟩,c8⟩:=h
    obtain ⟨okb,hb⟩:=hT _ _ h2
    have hd:=okb.d
    rw [hb,he] at hd
    obtain ⟨okl,hl⟩:=hT _ _ h3
    have hg:=okl.agg
    rw [hl,c6] at hg
    exact ⟨e,str h1 c1,hd,u8 h6 c2,one h6 c3,one h3 c5,hg,one h4 c7,str h5 c8⟩
   ·simp at h
  ·simp at h
 ·simp at h
include hT hm hS hp in
theorem aKf {orc:List (OK×Vars)} : ∀ (c:Code) {S:SS} {ρ:Nat→V} {env:Env} {m:Hp} {gk:Nat→Option Nat} {gb:List Nat} {xs:List (Nat×KX)} {k r:KX} {L:L} {ks:List (List V→Prop)} (_:aH N gk gb S ρ env m)
  (_:nF tt N orc c S xs k r=some L) (_:L.wp p Q S.nv ρ ks),AW P c ⟨env,m⟩ (Way p Q N ρ S ks xs k r):=by
 have left0:∀ {S:SS} {ρ:Nat→V} {env:Env} {m:Hp} {gk:Nat→Option Nat} {gb:List Nat} {k:KX} {L:L} {ks:List (List V→Prop)},aH N gk gb S ρ env m→k S=some L→L.wp p Q S.nv ρ ks→Left p Q N ρ S ks k env m :=
  fun c h hw=>⟨_,_,_,_,_,[],h,hw,c,aZ.refl _ _,zxy _,rfl⟩
 intro c
 induction c with
 | skip=>intro S ρ env m gk gb xs k r L ks cc h hw; exact bBg (left0 cc h hw)
 | label l=>intro S ρ env m gk gb xs k r L ks cc h hw; exact b62 (left0 cc h hw)
 | ret=>intro S ρ env m gk gb xs k r L ks cc h hw; exact bDh (left0 cc h hw)
 | exit id =>
  intro S ρ env m gk gb xs k r L ks cc h hw
  simp only [nF] at h
  split at h
  ·rename_i kx hx
   exact bBh ⟨kx,hx,left0 cc h hw⟩
  ·simp at h
 | region id ops d =>
  intro S ρ env m gk gb xs k r L ks cc h hw
  simp only [nF] at h
  have hops:∀ {L:Go.Fbs.L},L.wp p Q S.nv ρ ks→aTk tt N ops.toList ops.toList S k=some L→∀ K:Env→Hp→Prop,aZ1 (∀ env m,Way p Q N ρ S ks xs k r .normal ⟨env,m⟩→K env m)→jK P (CE tt p) ops.toList ops.toList env m K :=
   fun hw h K hK=>bB5 hT hp cc h hw fun env' m' hl=>hK.out env' m' hl
  cases d with
  | false =>
   simp only [cond_false] at h
   have:=aZ2 hS (s:=⟨env,m⟩) (Q:=Way p Q N ρ S ks xs k r) (id:=id) (ops:=ops.toList) (hops hw h)
   simpa using this
  | true =>
   simp only [cond_true] at h
   generalize b0l tt ops.toList ops.toList.length=n at h
   cases h1:(a41 ops.toList n && (ops.toList.take n).all (fun o=>pG (CK0 tt) o.op || (qY o.op && o.guard.isNone))) with
   | false =>
    rw [h1] at h
    simp only [cond_false] at h
    cases h2:a3v (CK0 tt) (slX tt) S.apart ops.toList with
    | false=>rw [h2] at h; simp at h
    | true =>
     rw [h2] at h
     simp only [cond_true] at h
     have h3:a3v (CE tt p) (slX tt) S.apart ops.toList=true:=h2
     have:=b1b hS bB9 (s:=⟨env,m⟩) (Q:=Way p Q N ρ S ks xs k r) (id:=id) (ops:=ops.toList) hm h3 (bD5 hT) cc.apart (hops hw h)
     simpa using this
   | true =>
    rw [h1] at h
    simp only [cond_true] at h
    simp only [zxz] at h1
    have:=b3g hS (s:=⟨env,m⟩) (Q:=Way p Q N ρ S ks xs k r) (id:=id) (ops:=ops.toList) _ hm h1.1 h1.2 (hops hw h)
    simpa using this
 | seq a b iha ihb =>
  intro S ρ env m gk gb xs k r L ks cc h hw
  simp only [nF] at h
  split at h
  ·rename_i f sa ia ca hfs
   unfold bAd at hfs
   split at hfs
   ·rename_i f' hfx
    split at hfs
    ·rename_i s0 i0 c0 hs hi hc
     cases hft:aR3 tt f' with
     | false=>rw [hft] at hfs; simp at hfs
     | true =>
      rw [hft] at hfs
      simp only [cond_true,zzz,zvy] at hfs
      obtain ⟨rfl,rfl,rfl,rfl⟩:=hfs
      obtain ⟨v1,g1,g2,_⟩:=cc.wU hs
      obtain ⟨v2,g3,g4,_⟩:=cc.wU hi
      obtain ⟨v3,g5,g6,_⟩:=cc.wU hc
      obtain ⟨y,L',kn,bl,e2,e3,e4,e5⟩:=kN cc h hw
      simp only [jE,E.ev] at e2
      obtain ⟨l,n,b,l',q1,q2,q3,rfl⟩:=b1c e2
      rw [q1,q2,q3] at e2
      rw [q1] at g2; rw [q2] at g4; rw [q3] at g6
      obtain rfl:=b74 g2
      rw [lP g4] at g3
      rw [lP g6] at g5
      obtain ⟨eT,t1,t2,t3,t4,t5,t6,t7,t8⟩:=b75 hT hft
      refine bCa hfx t1 t2 t3 t4 t5 t6 t7 t8 cc.n g1 g3 g5 e2 ?_
      exact ⟨_,_,L',gk,gb,[],e3,e4,b4b hfx e5 rfl (kD ..),bZ ρ S.nv _,Nat.le_succ _,rfl⟩
    ·simp at hfs
   ·simp at hfs
  ·refine b3e (AW.mono (iha cc h hw) fun e s' hq=>?_)
   cases e with
   | normal =>
    obtain ⟨S',ρ',L',gk',gb',pre,h1,h2,h3,h4,h5,h6⟩:=hq.out
    exact AW.mono (ihb h3 h1 h2) fun e s'' hq=>hq.via h4 h5 h6
   | _=>exact hq
 | cond q a b iha ihb =>
  intro S ρ env m gk gb xs k r L ks cc h hw
  simp only [nF] at h
  split at h
  ·rename_i qa hqa
   obtain ⟨v,hv,hden,hbel⟩:=cc.wU hqa
   split at h
   ·rename_i hlit
    have hvb:v = .bool true:=oX (by rw [hden]; exact aKc hlit)
    subst hvb
    refine aOg hv ?_
    simp only [if_true]
    exact iha cc h hw
   ·rename_i hlit
    have hvb:v = .bool false:=oX (by rw [hden]; exact aKc hlit)
    subst hvb
    refine aOg hv ?_
    simp only [zuy,if_false]
    exact ihb cc h hw
   have branch:∀ {x y:Go.Fbs.L} {S1:SS} {ks1:List (List V→Prop)} {k1:KX},S1.nv=S.nv→(∀ bl,(∀ i ∈ bl,i < S.nv∧vU (ρ i)=true)→bl=S.a08 qa→aH N gk gb S1 ρ env m) →
     nF tt N orc a S1 xs k1 r=some x→nF tt N orc b S1 xs k1 r=some y→bP (qa.den ρ) (x.wp p Q S.nv ρ ks1) (y.wp p Q S.nv ρ ks1)→AW P (.cond q a b) ⟨env,m⟩ (Way p Q N ρ S1 ks1 xs k1 r):=by
    intro x y S1 ks1 k1 hnv hc1 hx hy hi
    unfold bP at hi
    split at hi
    ·rename_i t ht
     have hvb:v = .bool t:=oX (by rw [hden]; exact ht)
     subst hvb
     have c1:=hc1 _ (cc.a08 hbel (by rw [ht]; rfl)) rfl
     refine aOg hv ?_
     cases t with
     | true =>
      simp only [if_true] at hi ⊢
      exact iha c1 hx (by rw [hnv]; exact hi)
     | false =>
      simp only [zuy,if_false] at hi ⊢
      exact ihb c1 hy (by rw [hnv]; exact hi)
    ·exact hi.elim
   have addb:∀ {dep:Nat} (bl:List Nat),(∀ i ∈ bl,i < S.nv∧vU (ρ i)=true)→bl=S.a08 qa→aH N gk gb { S with dep:=dep,cS:=S.a08 qa } ρ env m:=fun bl hbl he=>by
    subst he
    exact ⟨cc.n,cc.cE,cc.boxes,cc.lT,cc.oY,cc.blt,cc.kY,cc.tY,cc.known,hbl,cc.own⟩
   split at h
   ·split at h
    ·rename_i x y hx hy
     simp only [zzz] at h
     subst h
     refine AW.mono (branch (S1:={ S with cS:=S.a08 qa }) (ks1:=ks) rfl (fun bl h1 h2=>addb (dep:=S.dep) bl h1 h2) hx hy hw) fun e s' hq=>?_
     exact Way.via (pre:=[]) hq (aZ.refl _ _) (zxy _) rfl
    ·simp at h
   ·rename_i vars _
    split at h
    ·rename_i z x y hz hx hy
     simp only [zzz] at h
     subst h
     simp only [L.wp,qI] at hw
     refine AW.mono (branch (S1:={ S with dep:=S.dep+1,cS:=S.a08 qa }) rfl (fun bl h1 h2=>addb bl h1 h2) hx hy hw) fun e s' hq=>?_
     cases e with
     | normal =>
      obtain ⟨vs,gk2,gb2,h1,⟨_,h2⟩,h3⟩:=aT9 (S1:={ S with dep:=S.dep+1,cS:=S.a08 qa }) cc.known cc.cS rfl rfl hq
      exact ⟨_,_,_,gk2,gb2,[],hz,h2,h3,a30 _ _ _,Nat.le_add_right _ _,rfl⟩
     | ret=>exact Left.via (pre:=[_]) hq (aZ.refl _ _) (zxy _) rfl
     | exit id=>obtain ⟨kx,h1,h2⟩:=hq; exact ⟨kx,h1,h2.via (pre:=[_]) (aZ.refl _ _) (zxy _) rfl⟩
     | _=>exact hq
    ·simp at h
  ·simp at h
 | block id c ih =>
  intro S ρ env m gk gb xs k r L ks cc h hw
  simp only [nF] at h
  split at h
  ·refine aSu (AW.mono (ih cc h hw) fun e s' hq=>?_)
   cases e with
   | exit j =>
    obtain ⟨kx,h1,h2⟩:=hq
    simp only [aL0]
    simp only [aJ8] at h1
    by_cases hj:j=id
    ·subst hj
     rw [show Nat.beq j j=true from Nat.beq_refl j] at h1
     simp only [cond_true,zzz] at h1
     subst h1
     rw [if_pos rfl]; exact h2
    ·have hb:Nat.beq id j=false:=by
      cases hq:Nat.beq id j with
      | false=>rfl
      | true=>exact absurd (zzx hq).symm hj
     rw [hb] at h1
     rw [if_neg hj]; exact ⟨kx,h1,h2⟩
   | _=>exact hq
  ·rename_i vars _
   split at h
   ·rename_i z x hz hx
    simp only [zzz] at h
    subst h
    simp only [L.wp,qI] at hw
    have c1:aH N gk gb { S with dep:=S.dep+1 } ρ env m:=⟨cc.n,cc.cE,cc.boxes,cc.lT,cc.oY,cc.blt,cc.kY,cc.tY,cc.known,cc.cS,cc.own⟩
    have meet:∀ {env':Env} {m':Hp},Left p Q N ρ { S with dep:=S.dep+1 } ((fun vs=>vs.length=vars.length∧z.wp p Q (S.nv+vars.length) (exts ρ S.nv vs) ks)::ks) (aCg (nS S (a09 c) vars) S.dep vars) env' m'→Left p Q N ρ S ks k env' m':=fun hq=>by
     obtain ⟨vs,gk2,gb2,h1,⟨_,h2⟩,h3⟩:=aT9 (S1:={ S with dep:=S.dep+1 }) cc.known cc.cS rfl rfl hq
     exact ⟨_,_,_,gk2,gb2,[],hz,h2,h3,a30 _ _ _,Nat.le_add_right _ _,rfl⟩
    refine aSu (AW.mono (ih c1 hx hw) fun e s' hq=>?_)
    cases e with
    | normal=>exact meet hq
    | ret=>exact Left.via (pre:=[_]) hq (aZ.refl _ _) (zxy _) rfl
    | exit j =>
     obtain ⟨kx,h1,h2⟩:=hq
     simp only [aL0]
     simp only [aJ8] at h1
     by_cases hj:j=id
     ·subst hj
      rw [show Nat.beq j j=true from Nat.beq_refl j] at h1
      simp only [cond_true,zzz] at h1
      subst h1
      rw [if_pos rfl]; exact meet h2
     ·have hb:Nat.beq id j=false:=by
       cases hq:Nat.beq id j with
       | false=>rfl
       | true=>exact absurd (zzx hq).symm hj
      rw [hb] at h1
      rw [if_neg hj]
      exact ⟨kx,h1,h2.via (pre:=[_]) (aZ.refl _ _) (zxy _) rfl⟩
    | _=>exact hq
   ·simp at h
 | loop c ih =>
  intro S ρ env m gk gb xs k r L ks cc h hw
  simp only [nF] at h
  split at h
  ·rename_i vars _
   split at h
   ·rename_i init x hi hx
    simp only [zzz] at h
    subst h
    simp only [L.wp] at hw
    obtain ⟨n0,hw⟩:=hw
    obtain ⟨hl0,gk0,gb0,c0⟩:=aT4 cc.known cc.cS cc (aZ.refl _ _) hi
    generalize hF:(fun (r:List V→Prop) (vs:List V)=>vs.length=init.length∧x.wp p Q (S.nv+init.length) (exts ρ S.nv vs) (r::ks))=F at hw
    refine b72 (fun n s'=>∃ vs gk gb,aH0 F n vs∧aH N gk gb (nS S (a09 c) vars) (exts ρ S.nv vs) s'.env s'.m) (n0:=n0) ⟨_,gk0,gb0,hw,c0⟩ ?_
    rintro n s' ⟨vs,gk1,gb1,h1,h2⟩
    cases n with
    | zero=>exact h1.elim
    | succ n =>
     simp only [aH0] at h1
     rw [← hF] at h1
     obtain ⟨h3,h4⟩:=h1
     have c1:aH N gk1 gb1 { nS S (a09 c) vars with dep:=S.dep+1 } (exts ρ S.nv vs) s'.env s'.m:=⟨h2.n,h2.cE,h2.boxes,h2.lT,h2.oY,h2.blt,h2.kY,h2.tY,h2.known,h2.cS,h2.own⟩
     refine AW.mono (ih c1 hx (by show x.wp p Q (S.nv+vars.length) _ _; rw [← hl0]; exact h4)) fun e s'' hq=>?_
     have low:=a30 ρ S.nv vs
     cases e with
     | normal =>
      obtain ⟨S',ρ',L',gk',gb',pre,e1,e2,e3,e4,e5,e6⟩:=hq.out
      have hq':Left p Q N ρ { S with dep:=S.dep+1 } (aH0 F n::ks) (aCg (nS S (a09 c) vars) S.dep vars) s''.env s''.m :=
       ⟨S',ρ',L',gk',gb',pre,e1,by rw [hF] at e2; exact e2,e3,low.trans e4 (Nat.le_add_right _ _),Nat.le_trans (Nat.le_add_right _ _) e5,e6⟩
      obtain ⟨vs',gk2,gb2,q1,q2,q3⟩:=aT9 (S1:={ S with dep:=S.dep+1 }) cc.known cc.cS rfl rfl hq'
      exact ⟨n,Nat.lt_succ_self _,vs',gk2,gb2,q2,q3⟩
     | ret=>exact Left.via (pre:=[_]) hq low (Nat.le_add_right _ _) rfl
     | exit j=>obtain ⟨kx,e1,e2⟩:=hq; exact ⟨kx,e1,e2.via (pre:=[_]) low (Nat.le_add_right _ _) rfl⟩
     | _=>exact hq
   ·simp at h
  ·simp at h
 | _=>intros; rename_i h _; simp [nF] at h
theorem b1d {N:Nat} {A B rest:Code} {f:FI} (h:a88 N A B=some (f,rest)):∃ X,B = .seq X rest:=by
 unfold a88 at h
 split at h
 ·split at h
  ·simp only [zyy,zvy] at h
   obtain ⟨_,_,_,rfl⟩:=h
   exact ⟨_,rfl⟩
  ·simp at h
 ·simp at h
def a33 (env:Env) (f:FI) (es:List V):Env:=⟨env.n,fun t=>if t=f.b then .sl .ro es else if t ∈ f.D then .any else env.f t⟩
omit hT hm hS hp in
theorem bCb {A B rest:Code} {N:Nat} {f:FI} (h:a88 N A B=some (f,rest)) {e:TypeId} (hu:P.underlying f.ty=some (.slice e)) (hsz:iO P e=some 1) (hesz:iO P f.ety=some 1) {z:V} {fL:Nat} (hz:qF P e=some z) (hzl:z.cells.length=1) (hby:qX P e=some fL)
  {env:Env} {m:Hp} (hN:env.n=N) {q:IntKind} {k:Int} (hk:ev env f.ks=some (.int q k)) (h0:0≤k) (h63:k≤9223372036854775807) (hb:fL*k≤140737488355328) {Q:Exit→St→Prop}
  (hn:AW P rest ⟨a33 env f (List.replicate k.toNat (.int .u8 f.c)),m⟩ Q):AW P (.seq A B) ⟨env,m⟩ Q:=by
 intro κ w a km re R hR
 refine bB7 h hu hsz hesz hz hzl hby (by rw [re.2.1]; exact hN) (eQ (re.ev hk)) h0 h63 hb fun a' w' sm hbD hat hheap hos hout=>?_
 have hone:∀ x ∈ (⟨List.replicate k.toNat (.int .u8 f.c)⟩:Array Value).toList.take k.toNat,x.oneCell'=true:=by
  intro x hx
  have:=List.eq_of_mem_replicate (List.mem_of_mem_take hx)
  rw [this]; rfl
 obtain ⟨κ',l,k',hbk⟩:=aBv km ⟨List.replicate k.toNat (.int .u8 f.c)⟩ e (0,0) k.toNat hone
 rw [← hheap] at l k' hbk
 have lw:LeW κ w κ' w':=⟨l,hos,hout⟩
 have hx0:Ext κ w m κ' w' m:=lw.ext k' (zxy _)
 refine hn κ' w' a' k' ⟨by rw [sm.defers]; exact re.1,by rw [sm.size]; exact re.2.1,fun i v x h1 h2=>?_⟩ R (fun e s' κ2 w2 a2 hq hx hr=>hR e s' κ2 w2 a2 hq (hx0.trans hx) hr)
 unfold Env.get a33 at h1
 simp only at h1
 split at h1
 ·rename_i hin
  simp only [zzz] at h1
  by_cases hib:i=f.b
  ·rw [if_pos hib] at h1
   subst h1; subst hib
   unfold At at hat
   rw [hat] at h2
   simp only [zzz] at h2
   subst h2
   have hcl:∀ e' ∈ List.replicate k.toNat (V.int .u8 f.c),e'.cells.length=1:=fun e' he=>by rw [List.eq_of_mem_replicate he]; rfl
   have hfl:flat (List.replicate k.toNat (V.int .u8 f.c))=List.replicate k.toNat (V.int .u8 f.c):=by
    generalize k.toNat=K
    induction K with
    | zero=>rfl
    | succ K ih=>rw [List.replicate_succ]; simp only [flat,List.flatMap_cons] at ih ⊢; rw [ih]; rfl
   have hlen:k.toNat=(List.replicate k.toNat (V.int .u8 f.c)).length:=by simp
   have:=aW.sl (κ:=κ') (h:=w'.heap) .ro (List.replicate k.toNat (V.int .u8 f.c)) w.heap.size 0 k.toNat 1 (List.replicate k.toNat (.int .u8 f.c)) (by simpa using hbk) hcl (by rw [hfl]; simp) (fun j c x hc hx=>by
    rw [hfl] at hc
    rw [List.eq_of_mem_replicate (zyx hc),List.eq_of_mem_replicate (zyx hx)]
    exact .int _ _) (by simp) trivial
   rw [← hlen] at this
   exact this
  ·rw [if_neg hib] at h1
   by_cases hiD:i ∈ f.D
   ·rw [if_pos hiD] at h1
    subst h1
    exact .any x
   ·rw [if_neg hiD] at h1
    rw [sm.cE i hiD] at h2
    refine (re.2.2 i v x ?_ h2).mono l.toLe
    unfold Env.get
    rw [if_pos hin,h1]
 ·simp at h1
include hT hm hS hp in
theorem b76 {orc:List (OK×Vars)} : ∀ (c:Code),
  (∀ {S:SS} {ρ:Nat→V} {env:Env} {m:Hp} {gk:Nat→Option Nat} {gb:List Nat} {k r:KX} {L:L} {ks:List (List V→Prop)} (_:aH N gk gb S ρ env m) (_:a6m tt N orc false c S k r=some L) (_:L.wp p Q S.nv ρ ks),AW P c ⟨env,m⟩ (Way p Q N ρ S ks [] k r)) ∧
  (∀ X rest,c = .seq X rest→∀ {S:SS} {ρ:Nat→V} {env:Env} {m:Hp} {gk:Nat→Option Nat} {gb:List Nat} {k r:KX} {L:L} {ks:List (List V→Prop)} (_:aH N gk gb S ρ env m) (_:a6m tt N orc true c S k r=some L) (_:L.wp p Q S.nv ρ ks),AW P rest ⟨env,m⟩ (Way p Q N ρ S ks [] k r)):=by
 intro c
 induction c with
 | seq a b iha ihb =>
  refine ⟨?_,?_⟩
  ·intro S ρ env m gk gb k r L ks cc h hw
   simp only [a6m,cond_false] at h
   split at h
   ·rename_i f x q hf
    unfold bAe at hf
    split at hf
    ·rename_i f' rest hfx
     split at hf
     ·rename_i x' ti si hx hti hsi
      split at hf
      ·rename_i e hdd
       split at hf
       ·rename_i ei hei
        split at hf
        ·rename_i z hz
         rw [cond_eq_ite] at hf
         split at hf
         ·rename_i hcond
          simp only [zzz,zvy] at hf
          obtain ⟨rfl,rfl,rfl⟩:=hf
          simp only [zxz,Bool.not_eq_true'] at hcond
          obtain ⟨⟨c1,c2⟩,c3⟩:=hcond
          have c1:=zzx c1
          have c3:=zzx c3
          obtain ⟨tok,htt⟩:=hT _ _ hti
          obtain ⟨etok,het⟩:=hT _ _ hei
          obtain ⟨stok,hst⟩:=hT _ _ hsi
          have hd:=tok.d
          rw [htt,hdd] at hd
          have hu:P.underlying f'.ty=some (.slice e):=hd
          have hsz:=etok.sz
          rw [het,c1] at hsz
          have hby:=etok.fL
          rw [het] at hby
          have hesz:=stok.sz
          rw [hst,c3] at hesz
          obtain ⟨zv,hz1,hz2,_,_⟩:=etok.z _ hz
          rw [het] at hz1
          obtain ⟨v1,g1,g2,_⟩:=cc.wU hx
          obtain ⟨y,L',kn,bl,e2,e3,e4,e5⟩:=kN cc h hw
          simp only [jE,E.ev,← g2] at e2
          unfold aRv at e2
          split at e2
          ·rename_i k1 n1 k2 n2 e6 e7
           rw [e6] at e7
           simp only [V.int.injEq] at e7
           obtain ⟨rfl,rfl⟩:=e7
           rw [lP e6] at g1
           split at e2
           ·rename_i hcc
            simp only [zzz] at e2
            obtain ⟨X,rfl⟩:=b1d hfx
            refine bCb hfx hu hsz hesz hz1 (by rw [hz2]; rfl) hby cc.n g1 hcc.1 hcc.2.2.1 hcc.2.2.2 ?_
            have cn:aH N gk gb { S.lL (S.nv+1) kn bl with cE:=(f'.b,.val (.v S.nv))::(S.lL (S.nv+1) kn bl).cE.filter (fun p=>!jM f'.D p.1) } (ext ρ S.nv y) (a33 env f' (List.replicate n1.toNat (.int .u8 f'.c))) m:=by
             refine ⟨e5.n,fun t s hs=>?_,e5.boxes,e5.lT,e5.oY,e5.blt,e5.kY,e5.tY,e5.known,e5.cS,e5.own⟩
             simp only [SS.look,assoc] at hs
             by_cases htb:f'.b=t
             ·subst htb
              rw [show Nat.beq f'.b f'.b=true from Nat.beq_refl _] at hs
              simp only [cond_true,zzz] at hs
              subst hs
              have hbN:f'.b < N:=(aT6 hfx).2 _ (aT6 hfx).1
              refine ⟨hbN,?_,Nat.ble_eq_true_of_le (zxy _)⟩
              show V.aF (a33 env f' _ |>.f f'.b)=ext ρ S.nv y S.nv
              rw [kD,← e2]
              simp [a33,V.aF,cI]
             ·have hbt:Nat.beq f'.b t=false:=by
               cases hq:Nat.beq f'.b t with
               | false=>rfl
               | true=>exact absurd (zzx hq) htb
              rw [hbt] at hs
              simp only [cond_false] at hs
              have hnD:=aEf (f:=fun t=>!jM f'.D t) hs
              have hold:=a2p (f:=fun t=>!jM f'.D t) hs
              have htD:t ∉ f'.D:=fun hm=>by
               have:jM f'.D t=true:=by
                unfold jM
                rw [List.any_eq_true]
                exact ⟨t,hm,Nat.beq_refl t⟩
               rw [this] at hnD; simp at hnD
              obtain ⟨q1,q2,q3⟩:=e5.cE t s hold
              refine ⟨q1,?_,q3⟩
              show dQ _ _ _ _ s ((a33 env f' _).f t)
              simp only [a33]
              rw [if_neg (fun e=>htb e.symm),if_neg htD]
              exact q2
            exact AW.mono (ihb.2 X rest rfl cn e3 e4) fun e s' hq=>Way.via (pre:=[]) hq (bZ ρ S.nv y) (Nat.le_succ _) rfl
           ·simp at e2
          ·simp at e2
         ·simp at hf
        ·simp at hf
       ·simp at hf
      ·simp at hf
     ·simp at hf
    ·simp at hf
   ·refine b3e (AW.mono (aKf hT hm hS hp a cc h hw) fun e s' hq=>?_)
    cases e with
    | normal =>
     obtain ⟨S',ρ',L',gk',gb',pre,h1,h2,h3,h4,h5,h6⟩:=hq.out
     exact AW.mono (ihb.1 h3 h1 h2) fun e s'' hq=>hq.via h4 h5 h6
    | _=>exact hq
  ·intro X rest he S ρ env m gk gb k r L ks cc h hw
   simp only [Code.seq.injEq] at he
   obtain ⟨rfl,rfl⟩:=he
   simp only [a6m,cond_true] at h
   exact ihb.1 cc h hw
 | _ =>
  refine ⟨?_,fun X rest he=>by simp at he⟩
  intro S ρ env m gk gb k r L ks cc h hw
  simp only [a6m,cond_false] at h
  exact aKf hT hm hS hp _ cc h hw
theorem b77 {f : FuncId} {fn : Func} {c : Code} (hf : P.funcs[f]? = some fn) (hb : fn.body = some c) {args : List V} {v : V}
  (hn:args.length≤fn.ntmps) (h:AW P c ⟨entry fn.ntmps args,empty⟩ (fun e s=>(e = .normal∨e = .ret)∧∃ v0,aFi P fn.results.toList s=some v0∧v0.aF=v))
  (ha:qZ args=true) (hv:v.plain=true) (m:Hp):a0j P f args m v m:=by
 intro κ w xs k ra
 have ra0:aJ (bare κ) w.heap args xs:=aZz (κ:=κ) (κ':=bare κ) (fun _=>zxy _) ra ha
 refine calls_of_wp hf hb (h (bare κ) w _ (b64 k) (aI0 ra0 hn) _ fun e s κ1 w1 a1 hq hx hr=>?_)
 obtain ⟨he,v0,hv0,hv1⟩:=hq
 obtain ⟨x,hx1,hx2⟩:=aSv hx.mem hr hv0
 obtain ⟨κ',l,k',hhw⟩:=aZ0 k hx
 have hR:aW κ' w1.heap v x:=a42 (κ:=κ1) (fun b=>by rw [hhw]; exact zxy _) (by rw [← hv1]; exact aA4 hx2) hv
 have fin:a1.defers=[]∧∃ v',(results fn a1.tmps).run P w1 = .ok v' w1∧∃ x' κ',Ending.returned v' = .returned x'∧Ext κ w m κ' w1 m∧aW κ' w1.heap v x' :=
  ⟨hr.1,x,hx1,x,κ',rfl,l.ext k' (zxy _),hR⟩
 rcases he with rfl | rfl
 ·exact fin
 ·exact fin
theorem bCc {as:List A} {S:SS} {L:L} {ρ:Nat→V} {ks:List (List V→Prop)} (h:a5o tt [] as S=some L) (hw:L.wp p Q S.nv ρ ks):Q (pack (as.map (A.den ρ))):=by
 match as,h with
 | [],h=>simp only [a5o,zzz] at h; subst h; exact hw
 | [a],h=>simp only [a5o,zzz] at h; subst h; exact hw
 | a::b::as,h=>simp only [a5o,zzz] at h; subst h; exact hw
include hT in
theorem aOy:∀ {rs:List ResultVar} {as:List A} {S:SS} {L:L} {ρ:Nat→V} {ks:List (List V→Prop)} {gk:Nat→Option Nat} {gb:List Nat} {env:Env} {m:Hp},aH N gk gb S ρ env m→a5o tt rs as S=some L→L.wp p Q S.nv ρ ks→as.all (A.below S.nv)=true →
  ∃ vs,vT P env m.H rs=some vs∧Q (pack (as.map (A.den ρ)++vs.map V.aF))
 | [],as,S,L,ρ,ks,gk,gb,env,m,c,h,hw,hb=>⟨[],rfl,by simpa using bCc h hw⟩
 | .tmp t::r,as,S,L,ρ,ks,gk,gb,env,m,c,h,hw,hb=>by
  simp only [a5o] at h
  split at h
  ·rename_i a ha
   obtain ⟨s,h1,h2⟩:=zwz.1 ha
   obtain ⟨ht,hr,hbel⟩:=c.cE t s h1
   obtain ⟨vs,h3,h4⟩:=aOy c h hw (by rw [List.all_append,hb]; simp [zH hbel h2])
   refine ⟨env.f t::vs,?_,?_⟩
   ·simp only [vT,Env.get]
    rw [if_pos (by rw [c.n]; exact ht),h3]
   ·simp only [List.map_append,zsx,List.map_nil,zty,List.singleton_append] at h4
    rw [zsx,vY hr h2]; exact h4
  ·simp at h
 | .cell t ty::r,as,S,L,ρ,ks,gk,gb,env,m,c,h,hw,hb=>by
  simp only [a5o] at h
  split at h
  ·rename_i b off ti h1 hti
   obtain ⟨tok,htt⟩:=hT ty ti hti
   obtain ⟨ht,hr,hbel⟩:=c.cE t _ h1
   obtain ⟨l,hl,hv⟩:=hr.1 trivial
   split at h
   ·rename_i cells hbx
    obtain ⟨l',cs,e0,⟨e9,e1,_⟩,e2⟩:=c.boxes b cells hbx
    rw [hl] at e0
    simp only [zzz] at e0
    subst e0
    obtain ⟨v,m',s,S',ρ',L',gk',gb',⟨rfl,q1⟩,q2,q3,q4,q5,q6,q7,q8,q9⟩:=aKa c tok htt (g:=none) ⟨rfl,fun _ _ h=>by simp at h⟩ e2 (o:=loadT P ty (cs.drop off)) h hw (fun _=>rfl)
    simp only at q2
    split at q2
    ·rename_i a ha
     obtain ⟨vs,h3,h4⟩:=aOy q4 q2 q3 (by rw [List.all_append,uK hb q8]; simp [zH q6 ha])
     refine ⟨v::vs,?_,?_⟩
     ·simp only [vT,Env.get]
      rw [if_pos (by rw [c.n]; exact ht),h3,hv]
      simp only [vP,e1]
      have q1':loadT P ty (cs.drop off)=some v:=q1
      rw [q1']; rfl
     ·simp only [List.map_append,zsx,List.map_nil,zty,List.singleton_append,tA q7 hb] at h4
      rw [zsx,vY q5 ha]; exact h4
    ·simp at q2
   ·simp at h
  ·simp at h
theorem aUa {vs:List V} {s:St} {rs:List ResultVar} (h:vT P s.env s.m.H rs=some vs):∃ v0,aFi P rs s=some v0∧v0.aF=pack (vs.map V.aF):=by
 unfold aFi
 rw [h]
 cases vs with
 | nil=>exact ⟨.aO [],rfl,rfl⟩
 | cons a vs =>
  cases vs with
  | nil=>exact ⟨a,rfl,rfl⟩
  | cons b vs=>exact ⟨.aO (a::b::vs),rfl,by simp [pack,V.aF,cI]⟩
theorem aEg:∀ {n i t:Nat} {s:SV},assoc (a3x i n) t=some s→i≤t∧t < i+n∧s = .val (.v t)
 | 0,i,t,s,h=>by simp [a3x,assoc] at h
 | n+1,i,t,s,h=>by
  simp only [a3x,assoc] at h
  cases hb:Nat.beq i t with
  | true =>
   rw [hb] at h
   simp only [cond_true,zzz] at h
   have:=zzx hb
   subst this
   exact ⟨zxy _,by omega,h.symm⟩
  | false =>
   rw [hb] at h
   obtain ⟨h1,h2,h3⟩:=aEg (by simpa using h)
   exact ⟨by omega,by omega,h3⟩
def wA (args : List V) : Nat → V:=fun i=>match args[i]? with | some v=>v | none=>.undef
def cC (tt:TT) (p:PT) (N:Nat) (orc:List (OK×Vars)) (rs:List ResultVar) (c:Code) (args:List V) (Q:V→Prop):Prop :=
 match bJa tt N orc rs args.length c with
 | some L=>L.wp p Q args.length (wA args) []
 | none=>False
include hT hm hS hp in
theorem bD6 {f : FuncId} {fn : Func} {c : Code} (hf : P.funcs[f]? = some fn) (hb : fn.body = some c) (orc : List (OK × Vars)) {args : List V} {v : V} (hn : args.length ≤ fn.ntmps)
  (hw:cC tt p fn.ntmps orc fn.results.toList c args (fun r=>r=v)) (ha:aL args=true) (hv:v.bU=true) (m:Hp):a0j P f args m v m:=by
 unfold cC at hw
 split at hw
 ·rename_i L hL
  obtain ⟨hpl,her⟩:=pK ha
  refine b77 hf hb hn ?_ hpl (mP hv).1 m
  have c0:aH fn.ntmps (fun _=>none) [] ⟨a3x 0 args.length,[],[],[],[],args.length,0,0,0⟩ (wA args) (entry fn.ntmps args) empty:=by
   refine ⟨rfl,fun t s hs=>?_,fun b cells hb=>by simp at hb,rfl,fun b b' l h=>by simp at h,fun l h=>by simp at h,fun k k' i h=>by simp at h,fun k i h=>by simp at h,fun i n h=>by simp [assoc] at h,fun i h=>by simp at h,fun b h=>absurd h (Nat.not_lt_zero _)⟩
   obtain ⟨h1,h2,rfl⟩:=aEg hs
   rw [Nat.zero_add] at h2
   refine ⟨by omega,?_,Nat.ble_eq_true_of_le h2⟩
   show V.aF (args.getD t .undef)=wA args t
   unfold wA
   rw [zry,zyz h2]
   have:=(tG.1 ha) _ (List.getElem_mem h2)
   exact (mP this).2
  refine AW.mono ((b76 hT hm hS hp c).1 c0 hL hw) fun e s hq=>?_
  have fin:∀ {S0:SS} {env:Env} {m:Hp},Left p (fun r=>r=v) fn.ntmps (wA args) S0 [] (a5o tt fn.results.toList []) env m→∃ v0,aFi P fn.results.toList ⟨env,m⟩=some v0∧v0.aF=v:=fun hl=>by
   obtain ⟨S',ρ',L',gk',gb',pre,e1,e2,e3,e4,e5,e6⟩:=hl.out
   obtain ⟨vs,q1,q2⟩:=aOy hT e3 e1 e2 rfl
   obtain ⟨v0,q3,q4⟩:=aUa (P:=P) (s:=⟨_,_⟩) q1
   exact ⟨v0,q3,by rw [q4]; simpa using q2⟩
  cases e with
  | normal=>exact ⟨.inl rfl,fin hq⟩
  | ret=>exact ⟨.inr rfl,fin hq⟩
  | exit id=>obtain ⟨kx,h1,_⟩:=hq; simp [aJ8] at h1
  | _=>exact hq.elim
 ·exact hw.elim
end
end Go.Fbs

/- A function that is led to boxes. -/
namespace Go.Fbs
def fO:List AK→List V→Bool
 | [],[]=>true
 | .v::r,_::ws=>fO r ws
 | .b _ ks::r,.agg cs::ws=>cs.all sc && mM ks cs && fO r ws
 | _,_=>false
structure aX9 (gk:Nat→Option Nat) (gb:List Nat) (ρ:Nat→V) (T:List (Nat×Nat)) (nv:Nat) (as:List AK) (words:List V) (i b q:Nat):Prop where
 len:(kM b q as words).1.length=as.length
 hlen:(kM b q as words).2.1.length=(iB as).length
 b78:(kM b q as words).2.2.length=a7w (iB as)
 cE : ∀ t s,assoc (fW i b as) t = some s → i ≤ t ∧ t < i + as.length ∧ ∃ v,(kM b q as words).1[t - i]? = some v ∧ ((s = .val (.v t) ∧ v = ρ t) ∨ ∃ b' off,s = .ptr b' off none ∧ v = .ptr b' off ∧ b ≤ b' ∧ b' < b + (iB as).length)
 boxes : ∀ (j : Nat) cells,(pM b i q as)[j]? = some (some cells) → ∃ cs e,(kM b q as words).2.1[j]? = some (.cells e cs) ∧ STy cells e ∧ Cells ρ gk gb T nv cells cs
 lT:(pM b i q as).length=(iB as).length
 known:∀ t n,assoc (vX i as) t=some n→i≤t∧t < i+as.length∧nT n (ρ t)
theorem aKg {gk : Nat → Option Nat} {gb : List Nat} {ρ : Nat → V} {T : List (Nat × Nat)} {nv : Nat} : ∀ {as : List AK} {words : List V} {i b q : Nat},fO as words = true → a7d as = true → aL words = true → (∀ j,j < (iB as).length → gb[b + j]? = some (b + j)) → (∀ (j : Nat) w,words[j]? = some w → ρ (i + j) = w) →
  i + as.length ≤ nv → (∀ (j : Nat) x,(kM b q as words).2.2[j]? = some x → T[q + j]? = some x) → (∀ j,j < a7w (iB as) → gk (q + j) = some (q + j)) → aX9 gk gb ρ T nv as words i b q
 | [],[],i,b,q,hw,hb,hc,hgb,hρ,hn,hT,hg=>⟨rfl,rfl,rfl,fun t s h=>by simp [fW,assoc] at h,fun j cells h=>by simp [pM] at h,rfl,fun t n h=>by simp [vX,assoc] at h⟩
 | .v::r,w::ws,i,b,q,hw,hb,hc,hgb,hρ,hn,hT,hg=>by
  simp only [aL,zxz] at hc
  have ih:=aKg (gk:=gk) (gb:=gb) (ρ:=ρ) (T:=T) (nv:=nv) (as:=r) (words:=ws) (i:=i+1) (b:=b) (q:=q) hw hb hc.2 hgb (fun j w hj=>by rw [show i+1+j=i+(j+1) by omega]; exact hρ (j+1) w (by simpa using hj)) (by simp at hn; omega) hT hg
  refine ⟨by simp [kM,ih.len],ih.hlen,ih.b78,fun t s h=>?_,ih.boxes,ih.lT,fun t n h=>?_⟩
  ·simp only [fW,assoc] at h
   cases hb:Nat.beq i t with
   | true =>
    rw [hb] at h
    simp only [cond_true,zzz] at h
    have:=zzx hb
    subst this
    refine ⟨zxy _,by simp,w,by simp [kM],.inl ⟨h.symm,?_⟩⟩
    have:=hρ 0 w rfl
    simpa using this.symm
   | false =>
    rw [hb] at h
    obtain ⟨h1,h2,v,h3,h4⟩:=ih.cE t s (by simpa using h)
    refine ⟨by omega,by simp; omega,v,?_,h4⟩
    rw [show t - i=(t - (i+1))+1 by omega]
    simpa [kM] using h3
  ·obtain ⟨h1,h2,h3⟩:=ih.known t n h
   exact ⟨by omega,by simp; omega,h3⟩
 | .b off ks::r,w::ws,i,b,q,hw,hb,hc,hgb,hρ,hn,hT,hg=>by
  cases w
  case agg cs =>
    simp only [fO,zxz] at hw
    obtain ⟨⟨hsc,hsh⟩,hw⟩:=hw
    simp only [a7d,zxz] at hb
    simp only [aL,zxz,V.bU] at hc
    obtain ⟨c1,c2,c3⟩:=aBd (b:=b) (q:=q) hsh
    have hρ0:ρ i = .agg cs:=by have:=hρ 0 _ rfl; simpa using this
    have ih:=aKg (gk:=gk) (gb:=gb) (ρ:=ρ) (T:=T) (nv:=nv) (as:=r) (words:=ws) (i:=i+1) (b:=b+1) (q:=q+tX ks) hw hb.2 hc.2 (fun j hj=>by rw [show b+1+j=b+(j+1) by omega]; exact hgb (j+1) (by simp [iB]; omega)) (fun j w hj=>by rw [show i+1+j=i+(j+1) by omega]; exact hρ (j+1) w (by simpa using hj)) (by simp at hn; omega)
     (fun j x hj=>by
      have:=hT (tX ks+j) x (by
       simp only [kM]
       rw [ztx (by omega),c3,show tX ks+j - tX ks=j by omega]
       exact hj)
      rw [show q+tX ks+j=q+(tX ks+j) by omega]; exact this)
     (fun j hj=>by
      have:=hg (tX ks+j) (by simp only [iB,a7w]; omega)
      rw [show q+tX ks+j=q+(tX ks+j) by omega]; exact this)
    refine ⟨by simp only [kM,c3,zwx,ih.len],by simp only [kM,c3,zwx,ih.hlen,iB],by simp only [kM,c3,zwy,ih.b78,iB,a7w],fun t s h=>?_,fun j cells h=>?_,by simp only [pM,iB,zwx,ih.lT],fun t n h=>?_⟩
    ·simp only [fW,assoc] at h
     cases hbt:Nat.beq i t with
     | true =>
      rw [hbt] at h
      simp only [cond_true,zzz] at h
      have:=zzx hbt
      subst this
      exact ⟨zxy _,by simp,.ptr b off,by simp [kM],.inr ⟨b,off,h.symm,rfl,zxy _,by simp [iB]⟩⟩
     | false =>
      rw [hbt] at h
      obtain ⟨h1,h2,v,h3,h4⟩:=ih.cE t s (by simpa using h)
      refine ⟨by omega,by simp; omega,v,?_,?_⟩
      ·rw [show t - i=(t - (i+1))+1 by omega]
       simpa [kM,c3] using h3
      ·rcases h4 with h4 | ⟨b',off',h5,h6,h7,h8⟩
       ·exact .inl h4
       ·exact .inr ⟨b',off',h5,h6,by omega,by simp [iB]; omega⟩
    ·cases j with
     | zero =>
      simp only [pM,zux,zzz] at h
      subst h
      refine ⟨(iV b q ks cs).1,tyK ks,by simp [kM],aTx hb.1.2,by rw [uN,c1],fun j s v h1 h2=>?_⟩
      refine uT (gk:=gk) (r0:=0) (q0:=0) (b:=b) (l:=b) (by have:=hgb 0 (by simp [iB]); simpa using this) (by simp at hn; omega) (fun _=>.inr trivial) hsh (fun j w hj=>⟨?_,?_⟩) (fun j hj=>hg j (by simp only [iB,a7w]; omega)) (fun j x hj=>hT j x (by
       simp only [kM]
       rw [ztz (zzy.1 hj).1]; exact hj)) j s v h1 h2
      ·rw [hρ0,Nat.zero_add]
       simp only [aA,V.cells,zry,hj,Option.getD_some]
      ·exact (mP (tG.1 hc.1 w (zyx hj))).2
     | succ j =>
      simp only [pM,zvx] at h
      obtain ⟨cs',e',h1,h2⟩:=ih.boxes j cells h
      exact ⟨cs',e',by simpa [kM,c3] using h1,h2⟩
    ·simp only [vX,assoc] at h
     cases hbt:Nat.beq i t with
     | true =>
      rw [hbt] at h
      simp only [cond_true,zzz] at h
      have:=zzx hbt
      subst this
      refine ⟨zxy _,by simp,?_⟩
      rw [hρ0,← h]
      have hpos:0 < ks.length:=zxx hb.1.1
      refine zG hpos ?_
      unfold bF
      exact if_pos ⟨c2,hsc⟩
     | false =>
      rw [hbt] at h
      obtain ⟨h1,h2,h3⟩:=ih.known t n (by simpa using h)
      exact ⟨by omega,by simp; omega,h3⟩
  all_goals simp [fO] at hw
 | [],_::_,_,_,_,hw,_,_,_,_,_,_,_=>by simp [fO] at hw
 | .v::_,[],_,_,_,hw,_,_,_,_,_,_,_=>by simp [fO] at hw
 | .b _ _::_,[],_,_,_,hw,_,_,_,_,_,_,_=>by simp [fO] at hw
section
variable {p:PT} {Q:V→Prop} {N:Nat}
theorem aYa : ∀ {kss : List (List CK)} {b : Nat} {ids : List Nat} {as : List A} {S : SS} {ρ : Nat → V} {gk : Nat → Option Nat} {gb : List Nat} {env : Env} {m : Hp} {L : L} {ks : List (List V → Prop)},aH N gk gb S ρ env m → (∀ j,j < kss.length → gb[b + j]? = some (b + j)) →
  aTo b kss ids as S=some L→L.wp p Q S.nv ρ ks→as.all (A.below S.nv)=true→∃ outs gs,a2j m b kss=some (outs,gs)∧Q (.aO (as.map (A.den ρ)++outs))∧aCa gs∧∀ i,GA.own i ∈ gs→∃ k,k ∉ ids∧gk k=some i
 | [],b,ids,as,S,ρ,gk,gb,env,m,L,ks,c,hgb,h,hw,hab=>by
  simp only [aTo,zzz] at h
  subst h
  exact ⟨[],[],rfl,by rw [List.append_nil]; exact hw,a7y,fun i hi=>by simp at hi⟩
 | cks::kss,b,ids,as,S,ρ,gk,gb,env,m,L,ks,c,hgb,h,hw,hab=>by
  simp only [aTo] at h
  split at h
  ·rename_i cells hbx
   split at h
   ·rename_i ws is hci
    cases hc:(zE is && is.all (fun i=>!wV ids i)) with
    | false=>rw [hc] at h; simp at h
    | true =>
     rw [hc] at h
     simp only [cond_true] at h
     simp only [zxz] at hc
     obtain ⟨l,cs,e0,⟨e9,e1,e8⟩,e2⟩:=c.boxes b cells hbx
     have hb0:=hgb 0 (by simp)
     rw [Nat.add_zero,e0] at hb0
     simp only [zzz] at hb0
     subst hb0
     obtain ⟨gs1,k1,k2,k3,k4⟩:=uM c.kY e0 hci e2
     obtain ⟨y,L1,kn,bl,g1,g2,g3,g4⟩:=kN c (g:=none) h hw
     have hy:y = .agg (ws.map (A.den ρ)):=(a9c (show aG (ws.map (A.den ρ))=some y from g1)).1
     obtain ⟨outs,gs,h1,h2,h3,h4⟩:=aYa (kss:=kss) (b:=l+1) g4 (fun j hj=>by rw [show l+1+j=l+(j+1) by omega]; exact hgb (j+1) (by simp; omega)) g2 g3
      (by show (as++[A.v S.nv]).all (A.below (S.nv+1))=true; rw [List.all_append,uK hab (Nat.le_succ _)]; simp; exact mZ _)
     refine ⟨.agg (ws.map (A.den ρ))::outs,gs1++gs,by simp only [a2j,e1,aOk k1 (aJb hci e8),h1],?_,?_,fun i hi=>?_⟩
     ·have e:(as++[A.v S.nv]).map (A.den (ext ρ S.nv y))++outs=as.map (A.den ρ) ++ .agg (ws.map (A.den ρ))::outs:=by
       rw [List.map_append,tA (bZ ρ S.nv y) hab,zty]
       congr 1
       simp only [zsx,List.map_nil,List.singleton_append,List.cons.injEq,and_true]
       show ext ρ S.nv y S.nv=_
       rw [kD,hy]
      rw [← e]; exact h2
     ·refine aJa (k3 (a6s hc.1)) h3 fun n hn hm=>?_
      obtain ⟨k,q1,q2⟩:=k2 n hn
      obtain ⟨k',q3,q4⟩:=h4 n hm
      have:=c.kY k k' n q2 q4
      subst this
      exact q3 (List.mem_append_left _ q1)
     ·rcases List.mem_append.1 hi with hi | hi
      ·obtain ⟨k,q1,q2⟩:=k2 i hi
       refine ⟨k,fun hm=>?_,q2⟩
       have:=List.all_eq_true.1 hc.2 k q1
       rw [tK.2 hm] at this
       simp at this
      ·obtain ⟨k,q1,q2⟩:=h4 i hi
       exact ⟨k,fun hm=>q1 (List.mem_append_right _ hm),q2⟩
   ·simp at h
  ·simp at h
end
section
variable {P:Program} {tt:TT} (hT:∀ t ti,cU tt t=some ti→aV P ti∧ti.t=t) (hm:P.follows .mixedOrders=true)
variable {p:PT} (hS:Sound P (CE tt p)) (hp:Canon tt p) {Q:V→Prop} {N:Nat}
include hT in
theorem aKh {kss:List (List CK)} : ∀ {rs:List ResultVar} {as:List A} {S:SS} {L:L} {ρ:Nat→V} {ks:List (List V→Prop)} {gk:Nat→Option Nat} {gb:List Nat} {env:Env} {m:Hp},aH N gk gb S ρ env m→a6n tt kss rs as S=some L→L.wp p Q S.nv ρ ks→as.all (A.below S.nv)=true →
  ∃ vs outs gs,vT P env m.H rs=some vs∧vs.length=rs.length∧a2j m 0 kss=some (outs,gs)∧aCa gs∧Q (.aO (as.map (A.den ρ)++vs.map V.aF++outs))
 | [],as,S,L,ρ,ks,gk,gb,env,m,c,h,hw,hb=>by
  simp only [a6n] at h
  cases ho:Nat.beq S.own kss.length with
  | false=>rw [ho] at h; simp at h
  | true =>
   rw [ho] at h
   simp only [cond_true] at h
   have ho:=zzx ho
   obtain ⟨outs,gs,h1,h2,h3,_⟩:=aYa c (fun j hj=>by rw [Nat.zero_add]; exact c.own j (by omega)) h hw hb
   exact ⟨[],outs,gs,rfl,rfl,h1,h3,by simpa using h2⟩
 | .tmp t::r,as,S,L,ρ,ks,gk,gb,env,m,c,h,hw,hb=>by
  simp only [a6n] at h
  split at h
  ·rename_i a ha
   obtain ⟨s,h1,h2⟩:=zwz.1 ha
   obtain ⟨ht,hr,hbel⟩:=c.cE t s h1
   obtain ⟨vs,outs,gs,h3,hl,h5,h6,h4⟩:=aKh c h hw (by rw [List.all_append,hb]; simp [zH hbel h2])
   refine ⟨env.f t::vs,outs,gs,?_,by simp [hl],h5,h6,?_⟩
   ·simp only [vT,Env.get]
    rw [if_pos (by rw [c.n]; exact ht),h3]
   ·simp only [List.map_append,zsx,List.map_nil,zty,List.singleton_append] at h4 ⊢
    rw [vY hr h2]; exact h4
  ·simp at h
 | .cell t ty::r,as,S,L,ρ,ks,gk,gb,env,m,c,h,hw,hb=>by
  simp only [a6n] at h
  split at h
  ·rename_i b off ti h1 hti
   obtain ⟨tok,htt⟩:=hT ty ti hti
   obtain ⟨ht,hr,hbel⟩:=c.cE t _ h1
   obtain ⟨l,hl,hv⟩:=hr.1 trivial
   split at h
   ·rename_i cells hbx
    obtain ⟨l',cs,e0,⟨e9,e1,_⟩,e2⟩:=c.boxes b cells hbx
    rw [hl] at e0
    simp only [zzz] at e0
    subst e0
    obtain ⟨v,m',s,S',ρ',L',gk',gb',⟨rfl,q1⟩,q2,q3,q4,q5,q6,q7,q8,q9⟩:=aKa c tok htt (g:=none) ⟨rfl,fun _ _ h=>by simp at h⟩ e2 (o:=loadT P ty (cs.drop off)) h hw (fun _=>rfl)
    simp only at q2
    split at q2
    ·rename_i a ha
     obtain ⟨vs,outs,gs,h3,hl',h5,h6,h4⟩:=aKh q4 q2 q3 (by rw [List.all_append,uK hb q8]; simp [zH q6 ha])
     refine ⟨v::vs,outs,gs,?_,by simp [hl'],h5,h6,?_⟩
     ·simp only [vT,Env.get]
      rw [if_pos (by rw [c.n]; exact ht),h3,hv]
      simp only [vP,e1]
      have q1':loadT P ty (cs.drop off)=some v:=q1
      rw [q1']; rfl
     ·simp only [List.map_append,zsx,List.map_nil,zty,List.singleton_append,tA q7 hb] at h4 ⊢
      rw [vY q5 ha]; exact h4
    ·simp at q2
   ·simp at h
  ·simp at h
theorem aH9:∀ {gr:List GK} {vs:List V},aJ9 gr vs.length=true→(unA gr vs).length≤vs.length
 | [],vs,_=>zxy _
 | .one::r,vs,h=>by
  simp only [aJ9,zxz] at h
  have h0:=iC h.1
  have:=aH9 (gr:=r) (vs:=vs.drop 1) (by rw [List.length_drop]; exact h.2)
  rw [List.length_drop] at this
  simp only [unA,zwy,List.length_take]
  omega
 | .kX f n::r,vs,h=>by
  simp only [aJ9,zxz] at h
  have h0:=iC h.1.1
  have h1:=zxx h.1.2
  have:=aH9 (gr:=r) (vs:=vs.drop n) (by rw [List.length_drop]; exact h.2)
  rw [List.length_drop] at this
  simp only [unA,zwx]
  omega
theorem aF9:∀ {as:List AK} {i b:Nat},(fW i b as).length=as.length
 | [],_,_=>rfl
 | .v::r,i,b=>by simp [fW,aF9 (as:=r)]
 | .b _ _::r,i,b=>by simp [fW,aF9 (as:=r)]
theorem aKi : ∀ {as : List AK} {i b j : Nat} {s : SV},((fW i b as).map (·.2))[j]? = some s → assoc (fW i b as) (i + j) = some s
 | [],i,b,j,s,h=>by simp [fW] at h
 | .v::r,i,b,j,s,h=>by
  simp only [fW,zsx] at h
  simp only [fW,assoc]
  cases j with
  | zero =>
   simp only [zux,zzz] at h
   rw [Nat.add_zero,Nat.beq_refl]
   simp only [cond_true,h]
  | succ j =>
   simp only [zvx] at h
   have hne:Nat.beq i (i+(j+1))=false:=by
    cases hq:Nat.beq i (i+(j+1)) with
    | false=>rfl
    | true=>have:=zzx hq; omega
   rw [hne]
   have:=aKi (i:=i+1) h
   rw [show i+1+j=i+(j+1) by omega] at this
   exact this
 | .b off ks::r,i,b,j,s,h=>by
  simp only [fW,zsx] at h
  simp only [fW,assoc]
  cases j with
  | zero =>
   simp only [zux,zzz] at h
   rw [Nat.add_zero,Nat.beq_refl]
   simp only [cond_true,h]
  | succ j =>
   simp only [zvx] at h
   have hne:Nat.beq i (i+(j+1))=false:=by
    cases hq:Nat.beq i (i+(j+1)) with
    | false=>rfl
    | true=>have:=zzx hq; omega
   rw [hne]
   have:=aKi (i:=i+1) h
   rw [show i+1+j=i+(j+1) by omega] at this
   exact this
theorem aYb : ∀ {l : List SV} {i t : Nat} {s : SV},assoc (aMe i l) t = some s → i ≤ t ∧ l[t - i]? = some s
 | [],i,t,s,h=>by simp [aMe,assoc] at h
 | a::l,i,t,s,h=>by
  simp only [aMe,assoc] at h
  cases hb:Nat.beq i t with
  | true =>
   rw [hb] at h
   simp only [cond_true,zzz] at h
   have:=zzx hb
   subst this
   exact ⟨zxy _,by rw [Nat.sub_self,h]; rfl⟩
  | false =>
   rw [hb] at h
   obtain ⟨h1,h2⟩:=aYb (i:=i+1) h
   exact ⟨by omega,by rw [show t - i=(t - (i+1))+1 by omega,zvx]; exact h2⟩
section
variable {gk:Nat→Option Nat} {gb:List Nat} {ρ:Nat→V} {T:List (Nat×Nat)} {nv:Nat}
theorem aP9 : ∀ {l : List SV} {bs : List (Nat × Nat)} {vs : List V},aFt l = some bs → vs.length = l.length → (∀ (j : Nat) s,l[j]? = some s → ∃ v,vs[j]? = some v ∧ dQ ρ gk gb T s v ∧ s.below nv = true) →
  vs.length = bs.length ∧ ∀ (i : Nat) q c,bs[i]? = some q → vs[i]? = some c → ∃ a,gb[q.2]? = some a ∧ c = .ptr a 0
 | [],bs,vs,h,hl,_=>by
  simp only [aFt,zzz] at h
  subst h
  exact ⟨hl,fun i q c h=>by simp at h⟩
 | s::r,bs,[],h,hl,_=>by simp at hl
 | s::r,bs,v::vs,h,hl,hr=>by
  unfold aFt at h
  split at h
  ·rename_i h0; simp at h0
  ·rename_i b r' h0
   simp only [List.cons.injEq] at h0
   obtain ⟨rfl,rfl⟩:=h0
   obtain ⟨bs',h1,rfl⟩:=zyy.1 h
   obtain ⟨i1,i2⟩:=aP9 (vs:=vs) h1 (by simpa using hl) fun j s hs=>hr (j+1) s (by simpa using hs)
   refine ⟨by simp [i1],fun i q c hq hc=>?_⟩
   cases i with
   | zero =>
    simp only [zux,zzz] at hq hc
    subst hq; subst hc
    obtain ⟨v',h2,h3,_⟩:=hr 0 _ rfl
    simp only [zux,zzz] at h2
    subst h2
    exact h3.1 trivial
   | succ i=>exact i2 i q c (by simpa using hq) (by simpa using hc)
  ·simp at h
theorem aKj : ∀ {gr : List GK} {l l' : List SV} {vs : List V},a89 gr l = some l' → vs.length = l.length → (∀ (j : Nat) s,l[j]? = some s → ∃ v,vs[j]? = some v ∧ dQ ρ gk gb T s v ∧ s.below nv = true) →
  ∀ (t : Nat) s,l'[t]? = some s → ∃ v,(unA gr vs)[t]? = some v ∧ dQ ρ gk gb T s v ∧ s.below nv = true
 | [],l,l',vs,h,hl,hr,t,s,hs=>by
  simp only [a89,zzz] at h
  subst h
  exact hr t s hs
 | .one::gs,[],l',vs,h,hl,hr,t,s,hs=>by simp [a89] at h
 | .one::gs,x::l,l',[],h,hl,hr,t,s,hs=>by simp at hl
 | .one::gs,x::l,l',v::vs,h,hl,hr,t,s,hs=>by
  simp only [a89,zyy] at h
  obtain ⟨l0,h1,rfl⟩:=h
  have ih:=aKj (vs:=vs) h1 (by simpa using hl) fun j s hs=>hr (j+1) s (by simpa using hs)
  cases t with
  | zero =>
   simp only [zux,zzz] at hs
   subst hs
   exact hr 0 x rfl
  | succ t=>exact ih t s (by simpa using hs)
 | .kX f n::gs,l,l',vs,h,hl,hr,t,s,hs=>by
  simp only [a89] at h
  split at h
  ·rename_i bs r0 h1 h2
   cases hle:Nat.ble n l.length with
   | false=>rw [hle] at h; simp at h
   | true =>
    rw [hle] at h
    simp only [cond_true,zzz] at h
    subst h
    have hn:=zxx hle
    cases t with
    | zero =>
     simp only [zux,zzz] at hs
     subst hs
     obtain ⟨i1,i2⟩:=aP9 (nv:=nv) (vs:=vs.take n) h1 (by rw [List.length_take,List.length_take,hl]) fun j s hs=>by
      rw [List.getElem?_take] at hs
      split at hs
      ·rename_i hj
       obtain ⟨v,h3,h4⟩:=hr j s hs
       exact ⟨v,by rw [List.getElem?_take,if_pos hj]; exact h3,h4⟩
      ·simp at hs
     exact ⟨.func f (vs.take n),rfl,⟨_,rfl,i1,i2⟩,rfl⟩
    | succ t =>
     have ih:=aKj (vs:=vs.drop n) h2 (by rw [List.length_drop,List.length_drop,hl]) fun j s hs=>by
      rw [List.getElem?_drop] at hs
      obtain ⟨v,h3,h4⟩:=hr (n+j) s hs
      exact ⟨v,by rw [List.getElem?_drop]; exact h3,h4⟩
     exact ih t s (by simpa using hs)
  ·simp at h
theorem b4c {sg : iA} {as : List AK} {vs : List V} (ha : as = sg.as:=by rfl) (hl : vs.length = as.length) (hr : ∀ t s,assoc (fW 0 0 sg.as) t = some s → ∃ v,vs[t]? = some v ∧ dQ ρ gk gb T s v ∧ s.below nv = true) {t : Nat} {s : SV} (hs : assoc (aMf sg) t = some s) :
  ∃ v,(unA sg.gr vs)[t]? = some v ∧ dQ ρ gk gb T s v ∧ s.below nv = true:=by
 subst ha
 unfold aMf at hs
 split at hs
 ·rename_i hg
  rw [hg]
  exact hr t s hs
 ·split at hs
  ·rename_i l hl'
   obtain ⟨_,h1⟩:=aYb hs
   rw [Nat.sub_zero] at h1
   refine aKj hl' ?_ (fun j s hs=>?_) t s h1
   ·rw [hl,zsy,aF9]
   ·have:=aKi hs
    rw [Nat.zero_add] at this
    exact hr j s this
  ·simp [assoc] at hs
end
def bW (tt:TT) (p:PT) (N:Nat) (orc:List (OK×Vars)) (rs:List ResultVar) (sg:iA) (c:Code) (words:List V) (Q:V→Prop):Prop :=
 match bAf tt N orc rs sg c with
 | some L=>L.wp p Q sg.as.length (wA words) []
 | none=>False
theorem aAc:∀ {as:List AK} {ws:List V},fO as ws=true→ws.length=as.length
 | [],[],_=>rfl
 | .v::r,_::ws,h=>by simp [aAc (as:=r) (ws:=ws) h]
 | .b _ _::r,w::ws,h=>by
  cases w
  case agg cs =>
   simp only [fO,zxz] at h
   simp [aAc (as:=r) (ws:=ws) h.2]
  all_goals simp [fO] at h
 | [],_::_,h=>by simp [fO] at h
 | .v::_,[],h=>by simp [fO] at h
 | .b _ _::_,[],h=>by simp [fO] at h
include hT hm hS hp in
theorem bCd {f : FuncId} {fn : Func} {c : Code} (hf : P.funcs[f]? = some fn) (hb : fn.body = some c) (orc : List (OK × Vars)) {sg : iA} {words rs : List V} (hn : sg.as.length ≤ fn.ntmps) (hgr : aJ9 sg.gr sg.as.length = true) (hres : fn.results.toList.length = sg.cL)
  (hw:bW tt p fn.ntmps orc fn.results.toList sg c words (fun r=>r = .aO rs)) (hok:fO sg.as words=true) (ha:aL words=true) (hr:aL rs=true):Callee P f sg words rs:=by
 unfold bW at hw
 split at hw
 ·rename_i L hL
  unfold bAf at hL
  cases hbo:a7d sg.as with
  | false=>rw [hbo] at hL; simp at hL
  | true =>
   rw [hbo] at hL
   simp only [cond_true] at hL
   have hwl:=aAc hok
   intro κ w xs k ra
   generalize hm0:(⟨(kM 0 0 sg.as words).2.1,(kM 0 0 sg.as words).2.2⟩:Hp)=m0 at k ⊢
   have hρ : ∀ (j : Nat) w,words[j]? = some w → wA words (0 + j) = w:=fun j w hj=>by rw [Nat.zero_add]; unfold wA; rw [hj]
   have en:aX9 (fun k=>if k < a7w (iB sg.as) then some k else none) (List.range (iB sg.as).length) (wA words) m0.T sg.as.length sg.as words 0 0 0 :=
    aKg hok hbo ha (fun j hj=>by rw [Nat.zero_add,List.getElem?_range hj]) hρ (by omega) (fun j x hj=>by rw [Nat.zero_add,← hm0]; exact hj) (fun j hj=>by rw [Nat.zero_add]; exact if_pos hj)
   have range_get : ∀ {n b : Nat},b < n → (List.range n)[b]? = some b:=fun {n b} h=>by rw [List.getElem?_range h]
   have range_eq : ∀ {n b l : Nat},(List.range n)[b]? = some l → b = l ∧ b < n:=fun {n b l} h=>by
    have hlt:=(zzy.1 h).1
    simp only [List.length_range] at hlt
    rw [range_get hlt] at h
    simp only [zzz] at h
    exact ⟨h,hlt⟩
   have c0:aH fn.ntmps (fun k=>if k < a7w (iB sg.as) then some k else none) (List.range (iB sg.as).length) ⟨aMf sg,pM 0 0 0 sg.as,vX 0 sg.as,[],[],sg.as.length,a7w (iB sg.as),0,(iB sg.as).length⟩ (wA words) (entry fn.ntmps (unA sg.gr (kM 0 0 sg.as words).1)) m0:=by
    refine ⟨rfl,fun t s hs=>?_,fun b cells hb=>?_,by rw [List.length_range]; exact en.lT.symm,fun b b' l h1 h2=>by have:=(range_eq h1).1; have:=(range_eq h2).1; omega,fun l h=>?_,fun k k' i h1 h2=>?_,fun k i h=>?_,fun i n h=>?_,fun i h=>by simp at h,fun b hb=>range_get hb⟩
    ·obtain ⟨v,h1,h2,h3⟩:=b4c (gk:=fun k=>if k < a7w (iB sg.as) then some k else none) (gb:=List.range (iB sg.as).length) (ρ:=wA words) (T:=m0.T) (nv:=sg.as.length) (vs:=(kM 0 0 sg.as words).1) (sg:=sg) (hl:=en.len) (hr:=fun t s hs=>by
      obtain ⟨_,h2,v,h3,h4⟩:=en.cE t s hs
      rw [Nat.zero_add] at h2
      rw [Nat.sub_zero] at h3
      refine ⟨v,h3,?_,?_⟩
      ·rcases h4 with ⟨rfl,rfl⟩ | ⟨b',off,rfl,rfl,_,h8⟩
       ·show (wA words t).aF=wA words t
        unfold wA
        split
        ·rename_i w hw'
         exact (mP (tG.1 ha w (zyx hw'))).2
        ·rfl
       ·exact ⟨fun _=>⟨b',range_get (by omega),rfl⟩,fun h=>absurd trivial h⟩
      ·rcases h4 with ⟨rfl,_⟩ | ⟨b',off,rfl,_⟩
       ·exact Nat.ble_eq_true_of_le h2
       ·rfl) (hs:=hs)
     have hlt:t < (unA sg.gr (kM 0 0 sg.as words).1).length:=(zzy.1 h1).1
     have hle:=aH9 (gr:=sg.gr) (vs:=(kM 0 0 sg.as words).1) (by rw [en.len]; exact hgr)
     rw [en.len] at hle
     have hv:(entry fn.ntmps (unA sg.gr (kM 0 0 sg.as words).1)).f t=v:=by
      show (unA sg.gr (kM 0 0 sg.as words).1).getD t .undef=v
      rw [zry,h1]; rfl
     exact ⟨by show t < fn.ntmps; omega,by rw [hv]; exact h2,h3⟩
    ·obtain ⟨cs,e9,h1,h8,h2⟩:=en.boxes b cells hb
     have hbl:b < (iB sg.as).length:=by rw [← en.lT]; exact (zzy.1 hb).1
     exact ⟨b,cs,range_get hbl,⟨e9,by rw [← hm0]; exact h1,h8⟩,h2⟩
    ·rw [List.mem_range] at h
     rw [← hm0]
     simp only [en.hlen]; exact h
    ·split at h1 <;> split at h2 <;> simp at h1 h2 <;> omega
    ·split at h
     ·rename_i hk
      simp only [zzz] at h
      subst h
      refine ⟨hk,?_⟩
      rw [← hm0]
      simp only [en.b78]; exact hk
     ·simp at h
    ·obtain ⟨_,h2,h3⟩:=en.known i n h
     rw [Nat.zero_add] at h2
     exact ⟨h2,h3⟩
   have h0:AW P c ⟨entry fn.ntmps (unA sg.gr (kM 0 0 sg.as words).1),m0⟩ (fun e s=>(e = .normal∨e = .ret)∧∃ v0,aFi P fn.results.toList s=some v0∧v0.aF=pack (rs.take sg.cL)∧aRy s.m (gY sg.as) (rs.drop sg.cL)):=by
    refine AW.mono (aKf hT hm hS hp c c0 hL hw) fun e s hq=>?_
    have fin:∀ {S0:SS} {env:Env} {m:Hp},Left p (fun r=>r = .aO rs) fn.ntmps (wA words) S0 [] (a6n tt (gY sg.as) fn.results.toList []) env m→∃ v0,aFi P fn.results.toList ⟨env,m⟩=some v0∧v0.aF=pack (rs.take sg.cL)∧aRy m (gY sg.as) (rs.drop sg.cL):=fun hl=>by
     obtain ⟨S',ρ',L',gk',gb',pre,e1,e2,e3,e4,e5,e6⟩:=hl.out
     obtain ⟨vs,outs,gs,q1,q2,q3,q4,q5⟩:=aKh hT e3 e1 e2 rfl
     simp only [List.map_nil,List.nil_append,V.aO.injEq] at q5
     have hlen:(vs.map V.aF).length=sg.cL:=by rw [zsy,q2,hres]
     have t1:rs.take sg.cL=vs.map V.aF:=by rw [← q5,← hlen,List.take_left]
     have t2:rs.drop sg.cL=outs:=by rw [← q5,← hlen,List.drop_left]
     obtain ⟨v0,q6,q7⟩:=aUa (P:=P) (s:=⟨_,_⟩) q1
     exact ⟨v0,q6,by rw [q7,t1],⟨gs,by rw [t2]; exact q3,q4⟩⟩
    cases e with
    | normal=>exact ⟨.inl rfl,fin hq⟩
    | ret=>exact ⟨.inr rfl,fin hq⟩
    | exit id=>obtain ⟨kx,h1,_⟩:=hq; simp [aJ8] at h1
    | _=>exact hq.elim
   refine calls_of_wp hf hb (h0 κ w _ k (aI0 ra (by have:=aH9 (gr:=sg.gr) (vs:=(kM 0 0 sg.as words).1) (by rw [en.len]; exact hgr); rw [en.len] at this; omega)) _ fun e s κ1 w1 a1 hq hx hr=>?_)
   obtain ⟨he,v0,hv0,hv1,hend⟩:=hq
   obtain ⟨x,hx1,hx2⟩:=aSv hx.mem hr hv0
   have fin:a1.defers=[]∧∃ v',(results fn a1.tmps).run P w1 = .ok v' w1∧∃ x' κ' m1,Ending.returned v' = .returned x'∧Ext κ w m0 κ' w1 m1∧aW κ' w1.heap (pack (rs.take sg.cL)) x'∧aRy m1 (gY sg.as) (rs.drop sg.cL) :=
    ⟨hr.1,x,hx1,x,κ1,s.m,rfl,hx,by rw [← hv1]; exact aA4 hx2,hend⟩
   rcases he with rfl | rfl
   ·exact fin
   ·exact fin
 ·exact hw.elim
end
end Go.Fbs

/- What is said of a function,in the small language; tables of such. -/
namespace Go.Fbs
def cB (f:Func):Code :=
 match f.body with
 | some c=>c
 | none=>.skip
theorem aKk:∀ {ts:List TI} {t:TypeId} {ti:TI},aL6 ts t=some ti→ti ∈ ts∧ti.t=t
 | [],t,ti,h=>by simp [aL6] at h
 | i::r,t,ti,h=>by
  simp only [aL6] at h
  cases hb:Nat.beq i.t t with
  | true =>
   rw [hb] at h
   simp only [cond_true,zzz] at h
   subst h
   exact ⟨List.mem_cons_self,zzx hb⟩
  | false =>
   rw [hb] at h
   obtain ⟨h1,h2⟩:=aKk h
   exact ⟨List.mem_cons_of_mem _ h1,h2⟩
section
variable {P:Program}
theorem aV.nil:∀ ti ∈ ([]:List TI),aV P ti:=fun _ h=>by simp at h
theorem aV.cons {i:TI} {r:List TI} (h:aV P i) (hr:∀ ti ∈ r,aV P ti):∀ ti ∈ i::r,aV P ti:=fun ti h'=>by
 rcases List.mem_cons.1 h' with rfl | h'
 ·exact h
 ·exact hr ti h'
theorem aV.bT {tt:TT} (h:∀ ti ∈ tt.ts,aV P ti):∀ t ti,cU tt t=some ti→aV P ti∧ti.t=t:=fun _ _ h'=>⟨h _ (aKk h').1,(aKk h').2⟩
theorem aV.ofA {t:TypeId} {d:TD} {sz fL:Nat} {z:List V} {eq:Bool} (hd:aJ7 P t d) (hs:iO P t=some sz) (ha:zW P t=some true) (hb:qX P t=some fL) (hz:qF P t=some (.agg z)) (he:eq=true→P.stoodInHeld t=false∧P.eqGuardType P.depth t=false) :
  aV P ⟨t,d,sz,true,fL,some z,eq⟩:=⟨hd,hs,ha,hb,fun z' h=>by simp only [zzz] at h; subst h; exact ⟨_,hz,rfl,fun _=>rfl,fun h=>by simp at h⟩,he⟩
theorem aV.wW {t:TypeId} {d:TD} {sz fL:Nat} {z:V} {eq:Bool} (hd:aJ7 P t d) (hs:iO P t=some sz) (ha:zW P t=some false) (hb:qX P t=some fL) (hz:qF P t=some z) (hc:z.cells=[z]) (he:eq=true→P.stoodInHeld t=false∧P.eqGuardType P.depth t=false) :
  aV P ⟨t,d,sz,false,fL,some [z],eq⟩:=⟨hd,hs,ha,hb,fun z' h=>by simp only [zzz] at h; subst h; exact ⟨_,hz,hc,fun h=>by simp at h,fun _=>rfl⟩,he⟩
theorem aV.ofN {t:TypeId} {d:TD} {sz fL:Nat} {a:Bool} {eq:Bool} (hd:aJ7 P t d) (hs:iO P t=some sz) (ha:zW P t=some a) (hb:qX P t=some fL) (he:eq=true→P.stoodInHeld t=false∧P.eqGuardType P.depth t=false) :
  aV P ⟨t,d,sz,a,fL,none,eq⟩:=⟨hd,hs,ha,hb,fun z' h=>by simp at h,he⟩
theorem sK {Q:Prop} : false=true→Q:=fun h=>by simp at h
structure fS (P:Program) (f:FuncId) (F:Spec):Prop where
 enter:aL3 P f
 call:∀ args v,F args=some v→(∀ m,a0j P f args m v m)∧v.aF=v
structure fU (P:Program) (f:FuncId) (sg:iA) (F:Spec):Prop where
 enter:aL3 P f
 call:∀ words v,F words=some v→∃ rs,v = .aO rs∧sg.cL≤rs.length∧aL words=true∧aL rs=true∧iP (gY sg.as) (rs.drop sg.cL)=true∧Callee P f sg words rs
def aM (P:Program) (tt:TT) (T:List (FuncId×Spec)):Prop:=∀ f args v,bT T f args=some v →
 v.aF=v∧(Nat.blt f a06=true→aL3 P f∧∀ m,a0j P f args m v m) ∧
 ∀ g sg,a4q tt f=some (g,sg)→aL3 P g∧∃ rs,v = .aO rs∧sg.cL≤rs.length∧aL args=true∧aL rs=true∧iP (gY sg.as) (rs.drop sg.cL)=true∧Callee P g sg args rs
variable {tt:TT}
theorem aM.nil:aM P tt []:=fun f args v h=>by simp [bT] at h
theorem aM.cons {g:FuncId} {F:Spec} {r:List (FuncId×Spec)} (h:fS P g F) (hr:aM P tt r) (hg:Nat.blt g a06=true:=by rfl):aM P tt ((g,F)::r):=fun f args v hv=>by
 simp only [bT] at hv
 cases hb:Nat.beq f g with
 | true =>
  rw [hb] at hv
  have:=zzx hb
  subst this
  obtain ⟨h1,h2⟩:=h.call args v hv
  refine ⟨h2,fun _=>⟨h.enter,h1⟩,fun g' sg e=>?_⟩
  have h3:f < a06:=zxx hg
  unfold a4q at e
  cases hle:Nat.ble a06 f with
  | true=>exact absurd h3 (Nat.not_lt.2 (zxx hle))
  | false=>rw [hle] at e; simp at e
 | false=>rw [hb] at hv; exact hr f args v hv
theorem b79 {l:List V} (h:aL l=true):(V.aO l).aF = .aO l:=by
 have:=(pK h).2
 simp only [V.aF,this]
theorem aM.kU {e g:FuncId} {sg:iA} {F:Spec} {r:List (FuncId×Spec)} (h:fU P g sg F) (hr:aM P tt r) (hs:a4q tt e=some (g,sg):=by rfl):aM P tt ((e,F)::r):=fun f args v hv=>by
 simp only [bT] at hv
 cases hb:Nat.beq f e with
 | true =>
  rw [hb] at hv
  have:=zzx hb
  subst this
  obtain ⟨rs,rfl,h1,h2,h3,h4,h5⟩:=h.call args v hv
  refine ⟨b79 h3,fun hl=>?_,fun g' sg' e'=>?_⟩
  ·unfold a4q at hs
   cases hle:Nat.ble a06 f with
   | true =>
    have h6:f < a06:=zxx hl
    exact absurd h6 (Nat.not_lt.2 (zxx hle))
   | false=>rw [hle] at hs; simp at hs
  ·rw [hs] at e'
   simp only [zzz,zvy] at e'
   obtain ⟨rfl,rfl⟩:=e'
   exact ⟨h.enter,rs,rfl,h1,h2,h3,h4,h5⟩
 | false=>rw [hb] at hv; exact hr f args v hv
theorem b1e {l:List V} (h:aL l=true):(pack l).plain=true:=by
 have:(pack l).bU=true:=by
  unfold pack
  split
  ·simp only [aL,zxz] at h; exact h.1
  ·exact h
 exact (mP this).1
theorem aM.dy {T:List (FuncId×Spec)} {l:List Nat} (h:aM P tt T):aM P (tt.dy l) T:=fun f args v hv=>h f args v hv
theorem aM.canon {T:List (FuncId×Spec)} (h:aM P tt T):Canon tt (bT T):=fun f args v hv =>
 ⟨(h f args v hv).1,fun g sg e=>let ⟨_,rs,h1,h2,_,_,h3,_⟩:=(h f args v hv).2.2 g sg e; ⟨rs,h1,h2,h3⟩⟩
theorem aM.sound {T:List (FuncId×Spec)} (h:aM P tt T):Sound P (CE tt (bT T)) where
 enter:=fun f hf=>by
  rcases hf with ⟨a,v,hf⟩ | ⟨a,m,r,hf⟩
  ·cases hb:Nat.blt f a06 with
   | false=>simp [hb] at hf
   | true=>simp only [hb,cond_true] at hf; exact ((h f _ v hf).2.1 hb).1
  ·simp only [aCh] at hf
   split at hf
   ·rename_i e sg hs
    unfold aOl at hf
    split at hf
    ·split at hf
     ·split at hf
      ·rename_i rs hF
       exact ((h _ _ _ hF).2.2 f sg (a2o hs)).1
      ·simp at hf
     ·simp at hf
    ·simp at hf
   ·simp at hf
 pure:=fun f args v hf m=>by
  intro κ w xs k r
  cases hb:Nat.blt f a06 with
  | false=>simp [hb] at hf
  | true =>
   simp only [hb,cond_true] at hf
   exact ((h f _ v hf).2.1 hb).2 m κ w xs k (b7f r)
 eff:=fun f args m v m' hf=>by
  simp only [aCh] at hf
  split at hf
  ·rename_i e sg hs
   unfold aOl at hf
   split at hf
   ·rename_i words ls gs hin
    split at hf
    ·rename_i hd
     split at hf
     ·rename_i rs hF
      simp only [zzz,zvy] at hf
      obtain ⟨rfl,rfl⟩:=hf
      obtain ⟨_,rs',h1,h2,h3,h4,h5,h6⟩:=(h _ _ _ hF).2.2 f sg (a2o hs)
      simp only [V.aO.injEq] at h1
      subst h1
      have hc:aL (rs.take sg.cL)=true:=tG.2 fun v hv=>tG.1 h4 v (List.mem_of_mem_take hv)
      exact aTh hin hd.1 hd.2 h3 h4 (b1e hc) h6
     ·simp at hf
    ·simp at hf
   ·simp at hf
  ·simp at hf
variable (hT:∀ t ti,cU tt t=some ti→aV P ti∧ti.t=t) (hm:P.follows .mixedOrders=true)
include hT hm in
theorem jW {f : FuncId} {fn : Func} (hf : P.funcs[f]? = some fn) (hb : fn.body = some (cB fn)) (hname : (fn.name == "runtime.NumGoroutine") = false) {N : Nat} (hN : fn.ntmps = N) {rs : List ResultVar} (hr : fn.results.toList = rs) (n : Nat) (hn : Nat.ble n N = true) (orc : List (OK × Vars))
  {T:List (FuncId×Spec)} (h:aM P tt T) {F:Spec} (hF:∀ args v,F args=some v→args.length=n∧aL args=true∧v.bU=true∧cC tt (bT T) N orc rs (cB fn) args (fun r=>r=v)):fS P f F:=by
 refine ⟨⟨fn,_,hf,hb,hname⟩,fun args v hv=>?_⟩
 obtain ⟨h1,h2,h3,h4⟩:=hF args v hv
 refine ⟨fun m=>bD6 hT hm h.sound h.canon hf hb orc (by rw [hN,h1]; exact zxx hn) (by rw [hN,hr]; exact h4) h2 h3 m,(mP h3).2⟩
include hT hm in
theorem nU {f : FuncId} {fn : Func} (hf : P.funcs[f]? = some fn) (hb : fn.body = some (cB fn)) (hname : (fn.name == "runtime.NumGoroutine") = false) {N : Nat} (hN : fn.ntmps = N) {rs : List ResultVar} (hr : fn.results.toList = rs) (sg : iA) (hn : (Nat.ble sg.as.length N && Nat.beq rs.length sg.cL && aJ9 sg.gr sg.as.length) = true) (orc : List (OK × Vars))
  {T:List (FuncId×Spec)} (h:aM P tt T) {F:Spec} (hF:∀ words v,F words=some v→∃ ans,v = .aO ans∧fO sg.as words=true∧aL words=true∧aL ans=true∧Nat.ble sg.cL ans.length=true∧iP (gY sg.as) (ans.drop sg.cL)=true∧bW tt (bT T) N orc rs sg (cB fn) words (fun r=>r = .aO ans)):fU P f sg F:=by
 refine ⟨⟨fn,_,hf,hb,hname⟩,fun words v hv=>?_⟩
 simp only [zxz] at hn
 obtain ⟨ans,rfl,h1,h2,h3,h4,h5,h6⟩:=hF words v hv
 exact ⟨ans,rfl,zxx h4,h2,h3,h5,bCd hT hm h.sound h.canon hf hb orc (by rw [hN]; exact zxx hn.1.1) hn.2 (by rw [hr]; exact zzx hn.1.2) (by rw [hN,hr]; exact h6) h1 h2 h3⟩
end
end Go.Fbs

/- Rules for simp over the functions' formulas. -/
namespace Go.Fbs
theorem bGk (b want:Bool) (v:V):aQ (.bool b) want (some v)=some (if b=want then v else .undef):=by
 cases b <;> cases want <;> rfl
theorem nr {α:Sort _} {a b:α} (h:a=b):a=b:=h
theorem gTT (o:Option V):aQ (.bool true) true o=o:=nr rfl
theorem gFF (o:Option V):aQ (.bool false) false o=o:=nr rfl
theorem gTF (o:Option V):aQ (.bool true) false o=some .undef:=nr rfl
theorem gFT (o:Option V):aQ (.bool false) true o=some .undef:=nr rfl
theorem gU (want:Bool) (o:Option V):aQ .undef want o=some .undef:=nr rfl
theorem bGl (b:Bool) (x y:V):cH (.bool b) x y=some (if b=true then x else y):=nr rfl
theorem orN (b q:Bool) (u:V):(if b=true then V.bool true else if b=false then V.bool q else u)=V.bool (b || q):=by cases b <;> rfl
theorem bJc (b q:Bool) (u:V):(if b=true then (if b=true then V.bool q else u) else V.bool false)=V.bool (b && q):=by cases b <;> rfl
theorem orI (b q:Bool):(if b=true then V.bool true else V.bool q)=V.bool (b || q):=by cases b <;> rfl
theorem bJd (b q:Bool):(if b=true then V.bool q else V.bool false)=V.bool (b && q):=by cases b <;> rfl
@[congr] theorem bD7 {x x':V} {w:Bool} {o o':Option V} (hx:x=x') (h:x' = .bool w→o=o'):aQ x w o=aQ x' w o':=by
 subst hx
 cases x with
 | bool b =>
  simp only [aQ]
  by_cases hb:b=w
  ·subst hb; rw [h rfl]
  ·have:(b == w)=false:=by simpa using hb
   rw [this]; rfl
 | _=>rfl
theorem cK (b:Bool) (t e:Prop):bP (.bool b) t e=if b=true then t else e:=nr rfl
theorem yJ (t e:Prop):bP (.bool true) t e=t:=nr rfl
theorem zI (t e:Prop):bP (.bool false) t e=e:=nr rfl
theorem aCl (b:Bool):unV .not (.bool b)=some (.bool !b):=nr rfl
theorem b4d (b:Bool):qG (.bool b)=some (.bool b):=nr rfl
theorem b1f:qG .undef=some .undef:=nr rfl
theorem aB (v:V) (k:V→Prop):opt (some v) k=k v:=nr rfl
theorem b8a (k:List V→Prop) (b:(List V→Prop)→Prop):qI k b=b k:=nr rfl
section
variable (k:IntKind) (a b:Int) (s u:List UInt8)
theorem b1g:aD .geq (.int k a) (.int k b)=some (.bool (decide (b≤a))):=by simp [aD,fX]
theorem bJe:aD .leq (.int k a) (.int k b)=some (.bool (decide (a≤b))):=by simp [aD,fX]
theorem aAd:aD .lss (.int k a) (.int k b)=some (.bool (decide (a < b))):=by simp [aD,fX]
theorem bJf:aD .gtr (.int k a) (.int k b)=some (.bool (decide (b < a))):=by simp [aD,fX]
theorem uO:aD .eql (.int k a) (.int k b)=some (.bool (decide (a=b))):=by simp [aD,fX]; rfl
theorem b1h:aD .neq (.int k a) (.int k b)=some (.bool (!decide (a=b))):=by simp [aD,fX,bne]; rfl
theorem aKl:aD .add (.int k a) (.int k b)=some (.int k (k.wrap (a+b))):=by simp [aD,fX]
theorem bD8:aD .sub (.int k a) (.int k b)=some (.int k (k.wrap (a - b))):=by simp [aD,fX]
theorem bJg:aD .mul (.int k a) (.int k b)=some (.int k (k.wrap (a*b))):=by simp [aD,fX]
theorem bD9:aD .eql (.str s) (.str u)=some (.bool (s == u)):=nr rfl
theorem bJh:aD .neq (.str s) (.str u)=some (.bool (!(s == u))):=nr rfl
theorem bJi:aD .lss (.str s) (.str u)=some (.bool (Op.bytesLess s u)):=nr rfl
theorem bGm (h:s.length+u.length≤9223372036854775807):aD .add (.str s) (.str u)=some (.str (s++u)):=by
 simp only [aD,a2a]; rw [if_pos (by omega)]
theorem bEa (n x y:Bool):aJ4 n (.bool x) (.bool y)=some (.bool ((x == y) != n)):=nr rfl
theorem bGn:mmK false (.int k a) (.int k b)=some (.int k (if b < a then b else a)):=nr rfl
theorem bGo:mmK true (.int k a) (.int k b)=some (.int k (if b > a then b else a)):=nr rfl
theorem bCe (vs:List V) (i:Nat):aC (.aO vs) i=vs[i]?:=nr rfl
theorem b4e (cs:List V) (i:Nat):aA (.agg cs) i=cs.getD i .undef:=nr rfl
theorem b4f (k':IntKind):xU k' (.int k a)=some (.int k' (k'.wrap a)):=nr rfl
end
theorem b4g (l:List UInt8):nQ (.str l)=some (.int .i64 l.length):=nr rfl
theorem bEb (g:Tag) (l:List V):jA (.sl g l)=some (.int .i64 l.length):=nr rfl
theorem sL (a:V) (l:List V):gv (a::l) 0=a:=nr rfl
theorem tV (a:V) (l:List V) (i:Nat):gv (a::l) (i+1)=gv l i:=nr rfl
theorem bCf {n:Nat} {cs:List V} (h:cs.length=n) (hs:cs.all sc=true):bF n (.agg cs)=some (.agg cs):=by simp [bF,h,hs]
theorem bEc {v:V} (h:sc v=true):kT v=some v:=by simp [kT,h]
theorem bGp {l:List V} (h:l.all sc=true):aG l=some (.agg l):=by simp [aG,h]
theorem aCm {g : Tag} {es : List V} {k : Nat} {cs : List V} {n : Nat} (h : es[k]? = some (.agg cs)) (hl : cs.length = n) (hs : cs.all sc = true) (q : IntKind) : gX true n (.sl g es) (.int q k) = some (.agg cs):=by
 simp [gX,h,bCf hl hs]
theorem aUb {g : Tag} {es : List V} {k : Nat} {v : V} (h : es[k]? = some v) (hs : sc v = true) (n : Nat) (q : IntKind) : gX false n (.sl g es) (.int q k) = some v:=by
 simp [gX,h,bEc hs]
theorem xF {l : List UInt8} {k : Nat} {c : UInt8} (h : l[k]? = some c) (q : IntKind) : kA (.str l) (.int q k) = some (.int .u8 c.toNat):=by
 simp [kA,h]
theorem aMp {n b:Nat} {g g':Tag} {es ys:List V} (h:(es.length+ys.length)*(b+1)≤70368744177664) (h1:es.all (fun e=>e.cells.length == n)=true) (h2:ys.all (fun e=>e.cells.length == n)=true) :
  qP n b (.sl g es) (.sl g' ys)=some (.sl .ro (es++ys)):=by simp only [qP]; rw [if_pos ⟨h,h1,h2⟩]
theorem bGq {n:Nat} {l:List V} (h:l.length*n≤1000000) (h1:l.all (fun e=>e.cells.length == n && e.mB)=true):lO n l=some (.sl .ro l):=by
 unfold lO; rw [if_pos ⟨h,h1⟩]
theorem a1o {α:Type} {f:α→V} {l:List α} (h:∀ a,(f a).bU=true):aL (l.map f)=true :=
 tG.2 fun v hv=>by obtain ⟨a,_,rfl⟩:=List.mem_map.1 hv; exact h a
theorem aW9 {α:Type} {f:α→V} {l:List α} {n:Nat} (h:∀ a,(f a).cells.length=n):(l.map f).all (fun e=>e.cells.length == n)=true:=by
 simp [h]
theorem sS:((false=true)=False)∧((true=false)=False)∧(∀ (v:V) (k:V→Prop),opt (some v) k=k v)∧(∀ (b want:Bool) (v:V),aQ (V.bool b) want (some v)=some (if b=want then v else V.undef))∧(∀ (o:Option V),aQ (V.bool true) true o=o)∧(∀ (o:Option V),aQ (V.bool false) false o=o)∧(∀ (o:Option V),aQ (V.bool true) false o=some V.undef)∧(∀ (o:Option V),aQ (V.bool false) true o=some V.undef)∧(∀ (want:Bool) (o:Option V),aQ V.undef want o=some V.undef)∧(∀ (b:Bool) (x y:V),cH (V.bool b) x y=some (if b=true then x else y))∧(∀ (b q:Bool) (u:V),(if b=true then V.bool true else if b=false then V.bool q else u)=V.bool (b || q))∧(∀ (b q:Bool) (u:V),(if b=true then if b=true then V.bool q else u else V.bool false)=V.bool (b && q))∧(∀ (b q:Bool),(if b=true then V.bool true else V.bool q)=V.bool (b || q))∧(∀ (b q:Bool),(if b=true then V.bool q else V.bool false)=V.bool (b && q))∧(∀ (b b_1:Bool),(V.bool b=V.bool b_1)=(b=b_1))∧(∀ (b:Bool) (t e:Prop),bP (V.bool b) t e=if b=true then t else e)∧(∀ (t e:Prop),bP (V.bool true) t e=t)∧(∀ (t e:Prop),bP (V.bool false) t e=e)∧(∀ (b:Bool),unV UnOp.not (V.bool b)=some (V.bool !b))∧(∀ (b:Bool),qG (V.bool b)=some (V.bool b))∧(qG V.undef=some V.undef)∧(∀ (k:IntKind) (a b:Int),aD BinOp.geq (V.int k a) (V.int k b)=some (V.bool (decide (b≤a))))∧(∀ (k:IntKind) (a b:Int),aD BinOp.leq (V.int k a) (V.int k b)=some (V.bool (decide (a≤b))))∧(∀ (k:IntKind) (a b:Int),aD BinOp.lss (V.int k a) (V.int k b)=some (V.bool (decide (a < b))))∧(∀ (k:IntKind) (a b:Int),aD BinOp.gtr (V.int k a) (V.int k b)=some (V.bool (decide (b < a))))∧(∀ (k:IntKind) (a b:Int),aD BinOp.eql (V.int k a) (V.int k b)=some (V.bool (decide (a=b))))∧(∀ (k:IntKind) (a b:Int),aD BinOp.neq (V.int k a) (V.int k b)=some (V.bool !decide (a=b)))∧(∀ (k:IntKind) (a b:Int),aD BinOp.add (V.int k a) (V.int k b)=some (V.int k (k.wrap (a+b))))∧(∀ (k:IntKind) (a b:Int),aD BinOp.sub (V.int k a) (V.int k b)=some (V.int k (k.wrap (a - b))))∧(∀ (k:IntKind) (a b:Int),aD BinOp.mul (V.int k a) (V.int k b)=some (V.int k (k.wrap (a*b))))∧(∀ (s u:List UInt8),aD BinOp.eql (V.str s) (V.str u)=some (V.bool (s == u)))∧(∀ (s u:List UInt8),aD BinOp.neq (V.str s) (V.str u)=some (V.bool !s == u))∧(∀ (s u:List UInt8),aD BinOp.lss (V.str s) (V.str u)=some (V.bool (Op.bytesLess s u)))∧(∀ (n x y:Bool),aJ4 n (V.bool x) (V.bool y)=some (V.bool ((x == y) != n)))∧(∀ (k:IntKind) (a b:Int),mmK false (V.int k a) (V.int k b)=some (V.int k (if b < a then b else a)))∧(∀ (k:IntKind) (a b:Int),mmK true (V.int k a) (V.int k b)=some (V.int k (if b > a then b else a)))∧(∀ (vs:List V) (i:Nat),aC (V.aO vs) i=vs[i]?)∧(∀ (cs:List V) (i:Nat),aA (V.agg cs) i=cs.getD i V.undef)∧(∀ (k:IntKind) (a:Int) (k':IntKind),xU k' (V.int k a)=some (V.int k' (k'.wrap a)))∧(∀ (l:List UInt8),nQ (V.str l)=some (V.int IntKind.i64 ↑l.length))∧(∀ (g:Tag) (l:List V),jA (V.sl g l)=some (V.int IntKind.i64 ↑l.length))∧(∀ (a:V) (l:List V),gv (a::l) 0=a)∧(∀ (a:V) (l:List V) (i:Nat),gv (a::l) (i+1)=gv l i)∧(∀ b:Bool,(true && b)=b)∧(∀ b:Bool,(b && true)=b)∧(∀ b:Bool,(false && b)=false)∧(∀ b:Bool,(b && false)=false)∧(∀ b:Bool,(true || b)=true)∧(∀ b:Bool,(b || true)=true)∧(∀ b:Bool,(false || b)=b)∧(∀ b:Bool,(b || false)=b)∧((!true)=false)∧((!false)=true) :=
 ⟨zuy,Bool.true_eq_false,aB,bGk,gTT,gFF,gTF,gFT,gU,bGl,orN,bJc,orI,bJd,V.bool.injEq,cK,yJ,zI,aCl,b4d,b1f,b1g,bJe,aAd,bJf,uO,b1h,aKl,bD8,bJg,bD9,bJh,bJi,bEa,bGn,bGo,bCe,b4e,b4f,b4g,bEb,sL,tV,Bool.true_and,Bool.and_true,Bool.false_and,Bool.and_false,Bool.true_or,Bool.or_true,Bool.false_or,Bool.or_false,Bool.not_true,Bool.not_false⟩
end Go.Fbs

/- Values that are told of plain data,and read back. -/
namespace Go.Fbs
structure Cd (α:Type) where
 enc:α→V
 dec:V→Option α
 de:∀ a,dec (enc a)=some a
 ed:∀ v a,dec v=some a→v=enc a
 bU:∀ a,(enc a).bU=true
section
variable {α:Type} (c:Cd α)
end
end Go.Fbs
namespace Go.Fbs
theorem b4h {k:List V→Prop} {b:(List V→Prop)→Prop} (I:List V→Prop) (hk:∀ w,I w→k w) (hb:∀ r,(∀ w,I w→r w)→b r):qI k b:=hb k hk
theorem b8b {a:Int} {j:Nat} (hj:j < 63):aD .and (.int .i64 a) (.int .i64 ((2 ^ j - 1:Nat):Int))=some (.int .i64 (a % (2 ^ j:Nat))):=by
 have h2:(2:Nat) ^ j < 2 ^ 63:=Nat.pow_lt_pow_right (by omega) hj
 have h0:0 < (2:Nat) ^ j:=Nat.pow_pos (by omega)
 simp only [aD,fX]
 have e:(BitVec.ofInt IntKind.i64.bits a &&& BitVec.ofInt IntKind.i64.bits ((2 ^ j - 1:Nat):Int)).toNat=(a % ((2 ^ j:Nat):Int)).toNat:=by
  show (BitVec.ofInt 64 a &&& BitVec.ofInt 64 ((2 ^ j - 1:Nat):Int)).toNat=_
  rw [BitVec.toNat_and,BitVec.toNat_ofInt,BitVec.toNat_ofInt]
  have:((((2 ^ j - 1:Nat):Int)) % ((2 ^ 64:Nat):Int)).toNat=2 ^ j - 1:=by
   rw [Int.emod_eq_of_lt (by omega) (by omega)]; omega
  rw [this,Nat.and_two_pow_sub_one_eq_mod]
  have hd:((2 ^ j:Nat):Int)∣((2 ^ 64:Nat):Int):=by
   rw [Int.natCast_dvd_natCast]; exact Nat.pow_dvd_pow 2 (by omega)
  have h3:=Int.emod_emod_of_dvd a hd
  have h4:0≤a % ((2 ^ 64:Nat):Int):=Int.emod_nonneg _ (by omega)
  rw [← h3]
  generalize a % ((2 ^ 64:Nat):Int)=b at *
  obtain ⟨n,rfl⟩:∃ n:Nat,b=n:=⟨b.toNat,by omega⟩
  rw [Int.toNat_natCast,← Int.natCast_emod,Int.toNat_natCast]
 have h5:0≤a % ((2 ^ j:Nat):Int):=Int.emod_nonneg _ (by omega)
 have h6:a % ((2 ^ j:Nat):Int) < ((2 ^ j:Nat):Int):=Int.emod_lt_of_pos _ (by omega)
 have hw:IntKind.i64.wrap (a % ((2 ^ j:Nat):Int))=a % ((2 ^ j:Nat):Int):=by
  have:(2:Nat)^63=9223372036854775808:=by decide
  exact lN (by omega) (by omega)
 rw [e,Int.toNat_of_nonneg h5,hw]; simp
end Go.Fbs

/- From what a law is said to answer to the kit's words; arguments as values. -/
namespace Go.Fbs
open Go.RowKit
def bGr (w : World) (e : Ending) (w' : World) : Prop:=e = .returned (.bool true) ∧ aS0 w w' ∧ ∀ i,i < w.heap.size → w'.heap[i]? = w.heap[i]?
theorem aXa {P:Program} {f:FuncId} {F:Spec} (h:fS P f F) {args:List V} (hF:F args=some (.bool true)) (w:World) {xs:List Value} (hr:aJ (iU w.heap) w.heap args xs) (ht:aOa w.heap:=by exact aJw):Calls P f ⟨xs⟩ w (bGr w) :=
 ((h.call args _ hF).1 empty (iU w.heap) w xs (aB6 _ ht) hr).mono fun _ _ ⟨x,κ',he,hx,hv⟩=>⟨by rw [he,qN hv],b3i hx,fun i hi=>hx.le.same i hi a2g⟩
theorem again {H:Type} {enc:TypeId×Value→H} {P:Program} {t:TypeId} (hl:laidOutB P=true) (hr:P.readableRec t=true) (hrow:t < P.types.size) {W W':World} {v:Value} {d:DataW H} {ps:List MemPlace}
  (h : DataW.Trod enc P W 0 (fun _=>true) true t v d ps) (hb : ∀ i,i < W.heap.size → W'.heap[i]? = W.heap[i]?) {sp : Nat → Bool} (hs : ∀ p ∈ ps,sp p.block = true) : DataW.Trod enc P W' 0 sp true t v d ps:=by
 obtain ⟨n,hn⟩:=h
 have hlt:=DataW.trod_lt n _ _ _ hn
 refine WideElems.Trod_stays hl hr hrow ⟨n,hn⟩ (fun p hp=>?_) hs
 cases p with
 | cell b o=>exact World.cell?_of_block (w:=W) (hb b (hlt _ hp))
 | map b=>exact hb b (hlt _ hp)
theorem b8c {H:Type} {enc:TypeId×Value→H} {P:Program} {f:Func} {s:ChangeSpec} {apart fresh handsOn back:Bool} {W W':World} {args:Array Value} {v:Value} {ds gs:List (DataW H)} {ps pa pv:List MemPlace}
  (hW:DataW.Whole enc P f.params.toList s.vars apart W args.toList ds gs ps)
  (hr:∀ (b:Nat) (sp:Nat→Bool) (hd:Bool),DataW.TrodAll enc P W' b sp hd f.resultTypes.toList (v.resultList f.resultTypes.size) (s.fn H (ds++gs)).results [])
  (ha:∀ sp:Nat→Bool,(∀ p ∈ ps,sp p.block=true)→DataW.TrodAll enc P W' 0 sp true f.params.toList args.toList (s.fn H (ds++gs)).args pa)
  (hv:∀ sp:Nat→Bool,(∀ p ∈ ps,sp p.block=true)→DataW.TrodVars enc P W' sp s.vars (s.fn H (ds++gs)).vars pv)
  (hp:ps=pa++pv) (hg:aS0 W W')
  (ho : ∀ (j : Nat) (t : TypeId) (r : Value),f.resultTypes[j]? = some t → (v.resultList f.resultTypes.size)[j]? = some r → Value.okWide P W' .any 0 t r) :
  s.post enc P f apart fresh handsOn back W args v W':=by
 have low:∀ p ∈ ps,p.block < W.heap.size:=hW.lt
 have inB:∀ p ∈ ps,(fun b=>decide (b < W.heap.size)) p.block=true:=fun p h=>decide_eq_true (low p h)
 have same:ps=([]++pa)++pv:=by rw [List.nil_append]; exact hp
 refine ⟨ds,gs,ps,[],pa,pv,hW,hr _ _ _,ha _ inB,hv _ inB,World.keptBut_mono (fun _ h=>h.elim) hg.1,fun _=>?_⟩
 obtain ⟨_,_,_,_,_,nf,nd⟩:=hW
 refine ⟨ho,_,_,([]++pa)++pv,⟨[]++pa,pv,Go.ChangeShapes.trodAll_append (ha _ (fun _ _=>rfl)) (hr _ _ _),hv _ (fun _ _=>rfl),rfl,fun b off h=>?_,fun h=>?_⟩,fun p h _=>?_⟩
 ·rw [← same] at h
  rw [hg.2.1 ⟨b,off,none⟩ (low _ h)]
  exact nf b off h
 ·rw [← same]; exact nd h
 ·rw [← same] at h; exact h
section
variable {H:Type} {enc:TypeId×Value→H} {P:Program} {w:World} {base:Nat} {sp:Nat→Bool} {held:Bool} {r:Reach} {b0:Nat} {t:TypeId} {v:Value} {d:DataW H} {ps:List MemPlace} {κ:Ctx} {h:cJ}
theorem aXb {e:TypeId} {a:Addr} {len cap:Nat} (ht:P.underlying t=some (.slice e)) (hval:Value.okWide P w r b0 t (.slice (some a) len cap)):a.spot=none:=by
 simp only [Value.okWide,Cell.okWide,Cell.ok,ht] at hval
 exact hval.2.2.2.1
theorem aUc {b off n : Nat} {xs : List Value} (hl : xs.length = n) (hx : ∀ i,i < n → ∃ x,xs[i]? = some x ∧ x.oneCell' = true ∧ w.cell? ((⟨b,off,none⟩ : Addr).add i) = some x) : Block (iU w.heap) w.heap b off xs:=by
 intro i x hi
 have hin:i < n:=by rw [← hl]; exact (zzy.1 hi).1
 obtain ⟨x',h1,h2,h3⟩:=hx i hin
 rw [hi] at h1
 obtain rfl:=Option.some.inj h1
 rw [Go.WideShapes.add_plain,qL] at h3
 refine ⟨?_,h3,h2⟩
 unfold bD at h3
 unfold iU
 simp only
 split at h3
 ·rename_i c _ _ hb
  rw [hb]
  simp only
  exact (zsz.1 h3).1
 ·simp at h3
theorem aXc {es : List V} {xs : List Value} {b off cap : Nat} (hl : xs.length = es.length) (hu : ∀ e ∈ es,e.cells = [e]) (hr : ∀ (i : Nat) c x,es[i]? = some c → xs[i]? = some x → aW (iU w.heap) w.heap c x)
  (hc : es.length ≤ cap) (hx : ∀ i,i < xs.length → ∃ x,xs[i]? = some x ∧ x.oneCell' = true ∧ w.cell? ((⟨b,off,none⟩ : Addr).add i) = some x) : aW (iU w.heap) w.heap (.sl .ro es) (.slice (some ⟨b,off,none⟩) es.length cap):=by
 have hf:flat es=es:=by
  clear hl hr hc hx
  induction es with
  | nil=>rfl
  | cons e es ih=>rw [show flat (e::es)=e.cells++flat es from rfl,hu e (by simp),ih fun x hx=>hu x (by simp [hx])]; rfl
 exact .sl .ro es b off cap 1 xs (aUc rfl hx) (fun e he=>by rw [hu e he]; rfl) (by rw [hf,hl]) (by rw [hf]; exact hr) hc trivial
theorem aUd {e:TypeId} {k:IntKind} (ht:P.underlying t=some (.slice e)) (he:P.underlying e=some (.int k)) (hc:P.cellsOf e=1) (hval:Value.okWide P w r b0 t v) (hd:DataW.Trod enc P w base sp held t v d ps) :
  ∃ ns:List Int,aW (iU w.heap) w.heap (.sl .ro (ns.map (V.int k))) v∧(ns=[]∨∃ es sp,d = .slice es sp∧es.length=ns.length)∧∀ n ∈ ns,(Lit.int k n).wf=true:=by
 obtain ⟨a,len,cap,rfl⟩:=Go.WideShapes.okWide_slice ht hval
 obtain ⟨n,hn⟩:=hd
 rcases Go.ChangeShapes.open_ints ht he hc hn with ⟨h0,_⟩ | ⟨a',len',cap',zs,h0,_,hl,hm,hz,hx,bD,hwf⟩
 ·simp [Value.cells] at h0
  obtain ⟨rfl,rfl,rfl⟩:=h0
  exact ⟨[],.slnil .ro (by simp),.inl rfl,by simp⟩
 ·simp [Value.cells] at h0
  obtain ⟨rfl,rfl,rfl⟩:=h0
  obtain ⟨b,off,spot⟩:=a'
  obtain rfl:spot=none:=aXb ht hval
  have hlz:len≤zs.length:=by rw [hz]; split <;> omega
  refine ⟨zs.take len,?_,.inr ⟨_,_,congrArg (·.1) hx,by simp [Go.ChangeShapes.lits]⟩,fun n hn=>hwf n (List.mem_of_mem_take hn)⟩
  have hll:((zs.take len).map (V.int k)).length=len:=by simp; omega
  have:=aXc (w:=w) (es:=(zs.take len).map (V.int k)) (xs:=(zs.take len).map (Value.int k)) (b:=b) (off:=off) (cap:=cap) (by simp) (fun e he=>by obtain ⟨n,_,rfl⟩:=List.mem_map.1 he; rfl)
   (fun i c x h1 h2=>by
    simp only [zvz,zyy] at h1 h2
    obtain ⟨n1,e1,rfl⟩:=h1
    obtain ⟨n2,e2,rfl⟩:=h2
    rw [e1] at e2
    obtain rfl:=Option.some.inj e2
    exact .int _ _) (by omega)
   (fun i hi=>by
    have hi':i < len:=by simp at hi; omega
    have hiz:i < zs.length:=by omega
    refine ⟨.int k (zs.getD i 0),?_,rfl,bD i hiz⟩
    simp [List.getElem?_take,hi',List.getD,zyz hiz])
  rw [hll] at this
  exact this
end
end Go.Fbs

import Derived.Test.YtngdbicnabbplaaPQ
set_option linter.unusedSimpArgs false
set_option linter.unusedVariables false
set_option maxRecDepth 100000
namespace Go.Fbs
open Go.Proofs
attribute [local irreducible] bD bV opt
theorem bA4 (l:List Int):(rO l).length≤209:=aQ9 l 2
theorem bKh {l:List UInt8} (h:l.length≤kT):yG [.str l]=some (.aH [gQ (pK l).1,vI (pK l).2.1,vI (pK l).2.2]):=by
 simp only [yG,if_pos h]
theorem bDz {W:Nm→List Wy} {L:Nat} {o:List Nm} {ρ0:Rk} {R:Option Rk} (hn:o.Nodup) (h:uK W L o ρ0 R):∀ ρ,R=some ρ→∀ x ∈ o,ρ x≤L:=by
 induction h with
 | bad _=>intro ρ e; cases e
 | done hp=>intro ρ e; cases e; exact aO5 hp hn
 | more hp _ ih=>exact ih
theorem bD0 {l:List TM} (hg:uR l) (h0:gP l=0) {ρ:Rk} (h:a0x l=some ρ) {p:B8×RM} (hp:p ∈ dJ l):ρ (p.1,p.2.nm)≤100000:=by
 have ho:=aHw hg h0
 have h1:=bDz ho.nodup (aFi ho.nodup) ρ h (p.1,p.2.nm) (List.mem_reverse.2 (List.mem_map.2 ⟨p,hp,rfl⟩))
 have:=ho.len
 omega
theorem b63 {l:List TM} (h:qI l=0):gP l=0∧∃ ρ,a0x l=some ρ:=by
 unfold qI at h
 split at h
 ·exact absurd h (by assumption)
 ·rename_i h0
  refine ⟨by simpa using h0,?_⟩
  cases hr:a0x l with
  | none=>rw [hr] at h; cases h
  | some ρ=>exact ⟨ρ,rfl⟩
theorem aH4 {ts:List gI} (hg:uR (gG ts)) {ρ:Rk} (hc:qI (gG ts)=0) (hr:a0x (gG ts)=some ρ) {a b:B8} {r:RM} (h:cG (gG ts) a b=some r):tX [gQ ts,.str a,.str b]=some (.aH [vI ((ρ (a,b):Nat):Int),.bool true]):=by
 obtain ⟨hm,rfl⟩:=rX h
 have hs:=aB5 hg.rD hm
 rw [bEr (aB6 hg) hs.1 hs.2.1]
 unfold tP
 rw [if_neg (by simp [hc]),hr]
 dsimp only
 rw [h]; rfl
theorem bA5 {l:List TM} {typ:B8} {x:dQ} {b:Bool} {k:Nat} (h:(nI l typ x.2.1).length≤k):(rN l typ x b).length≤k+1:=by
 unfold rN
 split
 ·simp
 ·split
  ·simp only [zwx,zsy]; omega
  ·simp
theorem b0f {α β:Type} {f:α→List β} {k:Nat} : ∀ {l:List α},(∀ x ∈ l,(f x).length≤k)→(l.flatMap f).length≤l.length*k
 | [],_=>by simp
 | x::l,h=>by
  rw [List.flatMap_cons,zwy,zwx,Nat.add_mul]
  have h1:=h x (.head _)
  have h2:=b0f fun y hy=>h y (List.mem_cons_of_mem _ hy)
  omega
theorem b64 {l:List TM} (hg:uR l) (a b:B8):(nI l a b).length≤50:=by
 unfold nI
 cases h:cG l a b with
 | none=>simp
 | some r=>exact (hg.bP _ (rX h).1).aY
theorem bA6 {l:List TM} (hg:uR l) {p:B8×RM} (hp:p ∈ dJ l):(wU l p.1 p.2 (bgR p.2)).length≤1000000:=by
 have h:=hg.bP p hp
 have h1:(lL p.2.aY).length≤50:=by
  unfold lL
  have h1:=h.aY
  refine Nat.le_trans ?_ h1
  first
   | (rw [zsy]; exact List.length_filter_le _ _)
   | exact List.length_filterMap_le _ _
 unfold wU pM
 rw [zwy]
 have:=b0f (f:=fun q:dQ×Nat=>rN l p.1 q.1 (cW p.2.steps (bgR p.2) p.2.steps.length q.2)) (k:=51) (l:=p.2.steps.zipIdx) fun q _=>bA5 (b64 hg _ _)
 rw [List.length_zipIdx] at this
 have:=h.steps
 have:p.2.steps.length*51≤200*51:=Nat.mul_le_mul_right _ this
 omega
theorem bOc {D : List Dy} {j : Nat} {d : Dy} (h : D[j]? = some d) : gN true 3 (a9f D) (vI (j : Nat)) = some (dyW d):=by
 refine a6v (cs:=[.str d.1,.str d.2.1,.bool d.2.2]) ?_ rfl rfl .i64
 rw [zvz,h]; rfl
theorem bMw (D:List Dy):gX (a9f D)=some (vI D.length):=by simp [gX,a9f]
theorem bFa (a b:Nat):mmK true (vI (a:Nat)) (vI (b:Nat))=some (vI ((max a b:Nat):Int)):=by
 show some (V.int .i64 (if (b:Int) > a then (b:Int) else a))=_
 split <;> congr 2 <;> omega
theorem b0g (a b:Nat):aF .lss (vI (a:Nat)) (vI (b:Nat))=some (.bool (decide (a < b))):=by
 rw [aBd]
 have:decide ((a:Int) < b)=decide (a < b):=by rw [decide_eq_decide]; omega
 rw [this]
theorem addNat {a:Nat} (h:a≤4611686018427387904):aF .add (vI (a:Nat)) (.int .i64 1)=some (vI ((a+1:Nat):Int)):=by
 rw [aGg,jC (by omega) (by omega)]; rfl
theorem bD1 {ts : List gI} {i k : Nat} {t : gI} {r : Rel} (ht : ts[i]? = some t) (hr : t.2[k]? = some r) : (t.1,upR r) ∈ dJ (gG ts):=by
 unfold dJ
 rw [List.mem_flatMap]
 refine ⟨a64 t,List.mem_map.2 ⟨t,zyx ht,rfl⟩,?_⟩
 exact List.mem_map.2 ⟨upR r,List.mem_map.2 ⟨r,zyx hr,rfl⟩,rfl⟩
theorem bD2 {α : Type} {l : List α} {j : Nat} {x : α} (h : l[j]? = some x) {y : α} (hy : y ∈ l.take (j + 1)) : y ∈ l.take j ∨ y = x:=by
 rw [List.take_add_one,h] at hy
 simpa using hy
noncomputable def aH5:Spec
 | []=>some (.bool true)
 | _=>none
noncomputable abbrev TWr:List (FuncId×Spec):=[(tB,xV),(a1f,yG),(rT,yH),(pV,tX),(xT,xW),(n9,aH5)]
theorem b0h (l:List Int):bV aZ (aM TWr) 126 rM [.tmp 2] (cB Try.f4) [kQ l] (fun r=>r = .bool true):=by
 have c1:∀ args,aM TWr tB args=xV args:=fun _=>rfl
 have c2:∀ args,aM TWr a1f args=yG args:=fun _=>rfl
 have c3:∀ args,aM TWr rT args=yH args:=fun _=>rfl
 have c4:∀ args,aM TWr pV args=tX args:=fun _=>rfl
 have c5:∀ args,aM TWr xT args=xW args:=fun _=>rfl
 have c6:aM TWr n9 []=some (.bool true):=rfl
 refine Eq.mpr (aDy (aM _) _ (kQ l)) ?_
 obtain ⟨ts,hp,hg,h30,h3,h4⟩:=bAo l
 have hck:=aB6 hg
 rw [c1,bL8,aB,c2,bKh (by have:=bA4 l; unfold kT; omega),hp,aB,x0,aB,x1,aB,x2,aB]
 dsimp only
 rw [aKi,aB,show (!decide ((0:Int)=0))=false by decide,nM,c3,aY5 hck,aB,nM,aKi,aB,aR0,aB,aQ]
 by_cases hc:qI (gG ts)=0
 case neg =>
  rw [if_pos (by simp [hc]),uV,aB,decide_eq_true (rfl:(0:Int)=0),nM,c6,aB,a2m,aB]
 rw [if_neg (by simp [hc])]
 obtain ⟨h0,ρ,hρ⟩:=b63 hc
 have hend:=bDs hρ (aHw hg h0).nodup
 refine fX (fun vs=>∃ i:Nat,vs=[vI i]∧i≤ts.length) (fun vs=>ts.length - iG (gv vs 0)) ⟨0,rfl,Nat.zero_le _⟩ ?_
 rintro r0 _ ⟨i,rfl,hi⟩ hr0
 refine ⟨rfl,?_⟩
 simp only [jM,jW]
 rw [aK7,aB,b0g,aB,aQ]
 by_cases hlt:i < ts.length
 case neg =>
  rw [if_neg (by simpa using hlt),c6,aB]
 rw [if_pos (by simpa using hlt)]
 obtain ⟨t,ht⟩ : ∃ t,ts[i]? = some t:=⟨_,zyz hlt⟩
 have htm : t ∈ ts:=zyx ht
 have ht4:=h4 t htm
 refine fX (fun vs=>∃ k:Nat,vs=[vI k]∧k≤t.2.length) (fun vs=>t.2.length - iG (gv vs 0)) ⟨0,rfl,Nat.zero_le _⟩ ?_
 rintro r1 _ ⟨k,rfl,hk⟩ hr1
 refine ⟨rfl,?_⟩
 simp only [jM,jW]
 rw [b6w ht,aB,show aA (kJ t) 1=lW t.2 from rfl,aQz,aB,b0g,aB,aQ]
 by_cases hlk:k < t.2.length
 case neg =>
  rw [if_neg (by simpa using hlk),addNat (by omega),aB]
  exact hr0 _ ⟨i+1,rfl,hlt⟩ (by simp only [jM,jW,iG]; omega)
 rw [if_pos (by simpa using hlk)]
 obtain ⟨r,hr⟩ : ∃ r,t.2[k]? = some r:=⟨_,zyz hlk⟩
 have hpm:=bD1 ht hr
 have hrel:=a56 hg.rD hpm
 have hlaw:=bDt hg h0 hend.1 hend.2 hpm
 have hlow:=bD0 hg h0 hρ hpm
 have hDl:=bA6 hg hpm
 have his:=hlaw.is
 have hle:=hlaw.le
 have hex:=hlaw.ex
 have hFw:=bMk hg h0 hrel
 have hFr:=aH4 hg hc hρ hrel
 dsimp only at hrel hlow hDl his hle hex hFw hFr
 have hnm:(upR r).nm=r.1:=rfl
 rw [hnm] at hrel hlow hle hex hFw hFr
 generalize wU (gG ts) t.1 (upR r) (bgR (upR r))=D at hDl his hle hex hFw
 rw [aB,aB,show aA (kJ t) 1=lW t.2 from rfl,aVy hr,aB,show aA (kJ t) 0 = .str t.1 from rfl,show aA (jE r) 0 = .str r.1 from rfl,c4,hFr,aB,x0,aB,x1,aB,aB,aB,show aA (kJ t) 1=lW t.2 from rfl,aVy hr,aB,show aA (kJ t) 0 = .str t.1 from rfl,show aA (jE r) 0 = .str r.1 from rfl,c5,hFw,aB]
 refine fX (fun vs=>∃ m j:Nat,vs=[vI m,vI j]∧j≤D.length∧m≤ρ (t.1,r.1)∧∀ d ∈ D.take j,ρ (d.1,d.2.1)+bN d.2.2≤m) (fun vs=>D.length - iG (gv vs 1)) ⟨0,0,rfl,Nat.zero_le _,Nat.zero_le _,by simp⟩ ?_
 rintro r2 _ ⟨m,j,rfl,hj,hm,hall⟩ hr2
 refine ⟨rfl,?_⟩
 simp only [jM,jW]
 rw [bMw,aB,b0g,aB,aQ]
 by_cases hlj:j < D.length
 ·rw [if_pos (by simpa using hlj)]
  obtain ⟨d,hd⟩ : ∃ d,D[j]? = some d:=⟨_,zyz hlj⟩
  have hdm : d ∈ D:=zyx hd
  obtain ⟨b,hb⟩:=his d hdm
  have hdle:=hle d hdm
  have hFd:=aH4 hg hc hρ hb
  rw [bOc hd,aB,aB,show aA (dyW d) 0 = .str d.1 from rfl,show aA (dyW d) 1 = .str d.2.1 from rfl,c4,hFd,aB,x0,aB,x1,aB,gJ,aB,aQ,if_neg (by simp),aB,x7,show aA (dyW d) 2 = .bool d.2.2 from rfl,aQ]
  have next:r2 [vI ((max m (ρ (d.1,d.2.1)+bN d.2.2):Nat):Int),vI ((j+1:Nat):Int)]:=by
   refine hr2 _ ⟨_,j+1,rfl,hlj,by omega,fun e he=>?_⟩ (by simp only [jM,jW,iG]; omega)
   rcases bD2 hd he with he | rfl
   ·have:=hall e he; omega
   ·omega
  cases hd2:d.2.2 with
  | true =>
   rw [hd2] at next hdle
   unfold bN at next hdle
   rw [if_pos rfl] at next hdle
   rw [if_pos rfl,addNat (by omega),aB]
   refine ⟨rfl,?_⟩
   simp only [jM,jW]
   rw [bFa,aB,addNat (by omega),aB]
   exact next
  | false =>
   rw [hd2] at next
   unfold bN at next
   rw [if_neg (by simp),Nat.add_zero] at next
   rw [if_neg (by simp)]
   refine ⟨rfl,?_⟩
   simp only [jM,jW]
   rw [bFa,aB,addNat (by omega),aB]
   exact next
 ·have hm2:m=ρ (t.1,r.1):=by
   rw [List.take_of_length_le (by omega)] at hall
   rcases hex with h | ⟨d,hd,h⟩
   ·omega
   ·have:=hall d hd; omega
  rw [if_neg (by simpa using hlj),gJ,aB,hm2,aKi,aB,Bool.not_true,aR0,aB,aQ,if_neg (by simp),addNat (by omega),aB]
  exact hr1 _ ⟨k+1,rfl,hlk⟩ (by simp only [jM,jW,iG]; omega)
noncomputable def rP:Spec:=fG (fun q:List Int=>[kQ q]) (fun _=>True) (fun _=>.bool true)
theorem b65 (l:List Int):rP [kQ l]=some (.bool true):=cK (fun a b h=>aLg (by simpa using h)) trivial
theorem aAn (h:cU Try.prog n9 aH5):cU Try.prog x8 rP:=by
 refine aB9 (T:=TWr) (aE.cons aLk (aE.cons aVd (aE.cons aIr (aE.cons aLd (aE.cons aL1 (aE.cons h aE.nil)))))) fun args v hv=>?_
 obtain ⟨l,rfl,_,rfl⟩:=bO hv
 exact ⟨rfl,by simp [aG,aAi,V.aN],rfl,b0h l⟩
end Go.Fbs
namespace Go.Fbs
open Go.Proofs
attribute [local irreducible] bD bV opt
theorem b0i {w:List UInt8} {ts:List gI} (hp:pK w=(ts,0,0)) (n1:(ts.map (·.1)).Nodup) (n2:∀ t ∈ ts,(t.2.map (·.1)).Nodup) (few:(dJ (gG ts)).length+(gG ts).length≤100000):uR (gG ts):=by
 obtain ⟨hG,_,_⟩:=b3f w
 rw [hp] at hG
 have hall:∀ t ∈ ts,aPj t:=hG
 have hmem:∀ t ∈ ts,t.1.length≤30∧∀ r ∈ t.2,a1w (upR r)∧r.1.length≤30∧(∀ s ∈ r.2.1,s.1.length≤30∧s.2.2.length≤30)∧∀ s ∈ r.2.2,s.2.1.length≤30∧s.2.2.length≤30:=fun t ht=>by
  obtain ⟨h1,_,h3⟩:=hall t ht
  exact ⟨aHx h1.1,fun r hr=>aUu (h3 r hr)⟩
 refine ⟨⟨fun t ht=>?_,?_,fun t ht=>?_,few⟩,fun p hp'=>?_⟩
 ·obtain ⟨t',ht',rfl⟩:=List.mem_map.1 ht
  obtain ⟨h1,h2⟩:=hmem t' ht'
  refine ⟨by show t'.1.length≤1000; omega,fun r hr=>?_⟩
  obtain ⟨r',hr',rfl⟩:=List.mem_map.1 hr
  obtain ⟨h3,h4,h5,h6⟩:=h2 r' hr'
  exact ⟨by show r'.1.length≤1000; omega,⟨by have:=h3.aY; show r'.2.1.length≤1000; have e:(upR r').aY=r'.2.1:=rfl; rw [e] at this; omega,by have:=h3.steps; show r'.2.2.length≤1000; have e:(upR r').steps=r'.2.2:=rfl; rw [e] at this; omega⟩,fun s hs=>⟨by have:=(h5 s hs).1; omega,by have:=(h5 s hs).2; omega⟩,fun s hs=>⟨by have:=(h6 s hs).1; omega,by have:=(h6 s hs).2; omega⟩⟩
 ·have e:(gG ts).map (·.nm)=ts.map (·.1):=by show (ts.map a64).map _=_; rw [List.map_map]; rfl
  rw [e]; exact n1
 ·obtain ⟨t',ht',rfl⟩:=List.mem_map.1 ht
  have e:(a64 t').bP.map (·.nm)=t'.2.map (·.1):=by show (t'.2.map upR).map _=_; rw [List.map_map]; rfl
  rw [e]; exact n2 t' ht'
 ·obtain ⟨t,ht,_,hr⟩:=pL hp'
  obtain ⟨t',ht',rfl⟩:=List.mem_map.1 ht
  obtain ⟨r',hr',e⟩:=List.mem_map.1 hr
  rw [← e]
  exact ((hmem t' ht').2 r' hr').1
def aMa (W:Nm→List Wy) (L:Nat) (o:List Nm):Nat→Rk→Option (Option Rk)
 | 0,_=>none
 | f+1,ρ=>match mP W L o (ρ,false) with
  | none=>some none
  | some (ρ',false)=>some (some ρ')
  | some (ρ',true)=>aMa W L o f ρ'
theorem b3o {W:Nm→List Wy} {L:Nat} {o:List Nm} : ∀ {f:Nat} {ρ:Rk} {R:Option Rk},aMa W L o f ρ=some R→uK W L o ρ R
 | 0,_,_,h=>by cases h
 | f+1,ρ,R,h=>by
  unfold aMa at h
  split at h
  ·cases h; rename_i hp; exact .bad hp
  ·cases h; rename_i hp; exact .done hp
  ·rename_i hp; exact .more hp (b3o h)
theorem b3p {l:List TM} (hg:uR l) (h0:gP l=0) {f:Nat} {R:Option Rk} (h:aMa (iM l) (iN l).reverse.length (iN l).reverse f (fun _=>0)=some R):a0x l=R :=
 (aFi (aHw hg h0).nodup).one (b3o h)
def tsA:List gI:=[([117],[]),([97],[([114],[([117],[],[])],[]),([112],[],[(1,[114],[]),(1,[113],[]),(4,[],[])]),([113],[],[(1,[114],[])])]),([98],[([115],[([97],[],[])],[]),([120],[],[(2,[115],[112])])])]
def tsB:List gI:=[([97],[([114],[([97],[],[112])],[]),([112],[],[(1,[114],[]),(1,[112],[]),(4,[],[])])])]
theorem bOd:qJ [116,121,112,101,32,117,32,116,121,112,101,32,97,32,123,32,114,58,32,117,59,32,112,32,61,32,114,32,45,32,113,59,32,113,32,61,32,114,59,32,125,32,116,121,112,101,32,98,32,123,32,115,58,32,97,59,32,120,32,61,32,115,45,62,112,59,32,125]=some tsA:=by kernel_rfl
theorem bOe:qJ [116,121,112,101,32,97,32,123,32,114,58,32,97,35,112,59,32,112,32,61,32,114,32,45,32,112,59,32,125]=some tsB:=by kernel_rfl
theorem bOf:pK [116,121,112,101,32,117,32,116,121,112,101,32,97,32,123,32,114,58,32,117,59,32,112,32,61,32,114,32,45,32,113,59,32,113,32,61,32,114,59,32,125,32,116,121,112,101,32,98,32,123,32,115,58,32,97,59,32,120,32,61,32,115,45,62,112,59,32,125]=(tsA,0,0):=by kernel_rfl
theorem bOg:pK [116,121,112,101,32,97,32,123,32,114,58,32,97,35,112,59,32,112,32,61,32,114,32,45,32,112,59,32,125]=(tsB,0,0):=by kernel_rfl
theorem aR3:uR (gG tsA):=b0i bOf (by decide) (by decide) (by decide)
theorem bFb:uR (gG tsB):=b0i bOg (by decide) (by decide) (by decide)
theorem bKi:gP (gG tsA)=0:=by kernel_rfl
theorem bKj:gP (gG tsB)=0:=by kernel_rfl
theorem bOh:(aMa (iM (gG tsA)) (iN (gG tsA)).reverse.length (iN (gG tsA)).reverse 9 (fun _=>0)).map (fun R=>R.map fun ρ=>(ρ ([97],[112]),ρ ([98],[120])))=some (some (1,1)):=by kernel_rfl
theorem bOi:(aMa (iM (gG tsB)) (iN (gG tsB)).reverse.length (iN (gG tsB)).reverse 9 (fun _=>0)).map (fun R=>R.isSome)=some false:=by kernel_rfl
theorem bKk:∃ ρ,a0x (gG tsA)=some ρ∧ρ ([97],[112])=1∧ρ ([98],[120])=1:=by
 have h:=bOh
 cases hr:aMa (iM (gG tsA)) (iN (gG tsA)).reverse.length (iN (gG tsA)).reverse 9 (fun _=>0) with
 | none=>rw [hr] at h; cases h
 | some R =>
  rw [hr] at h
  cases R with
  | none=>cases h
  | some ρ =>
   refine ⟨ρ,b3p aR3 bKi hr,?_⟩
   simpa using h
theorem b66:qI (gG tsA)=0:=by
 obtain ⟨ρ,h,_⟩:=bKk
 unfold qI
 rw [if_neg (by rw [bKi]; simp),h]
theorem aWz:qI (gG tsB)=14:=by
 have h:=bOi
 cases hr:aMa (iM (gG tsB)) (iN (gG tsB)).reverse.length (iN (gG tsB)).reverse 9 (fun _=>0) with
 | none=>rw [hr] at h; cases h
 | some R =>
  rw [hr] at h
  cases R with
  | some ρ=>cases h
  | none =>
   unfold qI
   rw [if_neg (by rw [bKj]; simp),b3p bFb bKj hr]
theorem bMx:∃ r,cG (gG tsA) [97] [112]=some r:=Option.isSome_iff_exists.1 (by kernel_rfl)
theorem bMy:∃ r,cG (gG tsA) [98] [120]=some r:=Option.isSome_iff_exists.1 (by kernel_rfl)
theorem bMz:cG (gG tsA) [97] [122]=none:=by
 have:(cG (gG tsA) [97] [122]).isSome=false:=by kernel_rfl
 simpa using this
theorem bOj:∃ n:Nat,tX [gQ tsA,.str [97],.str [122]]=some (.aH [vI (n:Nat),.bool false]):=by
 refine ⟨(tP (gG tsA) ([97],[122])).1,?_⟩
 rw [bEr (aB6 aR3) (by decide) (by decide)]
 have:(tP (gG tsA) ([97],[122])).2=false:=by
  unfold tP
  rw [if_neg (by simp [b66])]
  dsimp only
  rw [bMz]; rfl
 rw [this]
def bD3:xO:=⟨[97],[49],[114],[117],[50],[]⟩
theorem bOk:a3x [gQ tsA,bD3.v]=some (.bool true):=by
 rw [bMt ⟨by unfold kT; decide,by unfold kT; decide⟩ (by unfold xO.short aB7 kT; decide)]
 have:aR2 tsA bD3=true:=by kernel_rfl
 rw [this]
noncomputable abbrev TAw:List (FuncId×Spec):=[(pI,wX),(rT,yH),(pV,tX),(a3l,a3x)]
theorem bD4:bV aZ (aM TAw) 64 wN [.tmp 0] (cB Try.f10) [] (fun r=>r = .bool true):=by
 have c1:∀ args,aM TAw pI args=wX args:=fun _=>rfl
 have c2:∀ args,aM TAw rT args=yH args:=fun _=>rfl
 have c3:∀ args,aM TAw pV args=tX args:=fun _=>rfl
 have c4:∀ args,aM TAw a3l args=a3x args:=fun _=>rfl
 refine Eq.mpr (aKq (aM _) _) ?_
 obtain ⟨ρ,hρ,hr1,hr2⟩:=bKk
 obtain ⟨q1,e1⟩:=bMx
 obtain ⟨q2,e2⟩:=bMy
 obtain ⟨n3,e3⟩:=bOj
 rw [c1,b3m bOd (by decide),aB,c1,b3m bOe (by decide),aB]
 rw [c3,aH4 aR3 b66 hρ e1,aB,x0,aB,x1,aB]
 rw [c3,aH4 aR3 b66 hρ e2,aB,x0,aB,x1,aB]
 rw [c3,e3,aB,x0,aB,x1,aB,hr1,hr2]
 rw [aK7,aB,uV,aB,show decide (((tsA.length:Nat):Int)=3)=true by decide]
 rw [nM,c2,aY5 (aB6 aR3),b66,aB,nM,uV,aB,show decide ((0:Int)=0)=true by decide,a2m,aB]
 rw [nM,c2,aY5 (aB6 bFb),aWz,aB,nM,uV,aB,show decide ((14:Int)=14)=true by decide,a2m,aB]
 rw [uV,aB,show decide (((1:Nat):Int)=1)=true by decide,a2m,aB,a2m,aB,ckB,aB]
 rw [aB,a2m,aB,a2m,aB,ckB,aB,gJ,aB,Bool.not_false,a2m,aB]
 rw [show aD [.str [97],.str [49]]=some (.agg [.str [97],.str [49]]) from rfl,aB,show aD [.str [117],.str [50],.str []]=some (.agg [.str [117],.str [50],.str []]) from rfl,aB]
 rw [show aD [aA (.agg [.str [97],.str [49]]) 0,aA (.agg [.str [97],.str [49]]) 1,.str [114],aA (.agg [.str [117],.str [50],.str []]) 0,aA (.agg [.str [117],.str [50],.str []]) 1,aA (.agg [.str [117],.str [50],.str []]) 2]=some bD3.v from rfl,aB]
 rw [nM,c4,bOk,aB,a2m,aB]
theorem aJd:cU Try.prog n9 aH5:=by
 refine aIy (T:=TAw) (aE.cons aJc (aE.cons aIr (aE.cons aLd (aE.cons b0e aE.nil)))) fun args v hv=>?_
 unfold aH5 at hv
 split at hv
 ·simp only [zzz] at hv
  subst hv
  exact ⟨rfl,rfl,rfl,bD4⟩
 ·cases hv
theorem a2s:cU Try.prog x8 rP:=aAn aJd
#print axioms a2s
end Go.Fbs

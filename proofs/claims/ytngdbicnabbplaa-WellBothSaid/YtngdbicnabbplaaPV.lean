import Derived.Test.YtngdbicnabbplaaPJ
import Derived.Test.YtngdbicnabbplaaPM
import Derived.Test.YtngdbicnabbplaaPU
import Derived.Test.YtngdbicnabbplaaPT
import Derived.Test.YtngdbicnabbplaaOI
set_option linter.unusedSimpArgs false
set_option linter.unusedVariables false
set_option linter.unusedSectionVars false
set_option maxRecDepth 100000
namespace Go.Fbs
open Go.Proofs
def TrS (t:Tr):Prop:=t.ok∧∀ x ∈ t.steps,x.2.1.length≤30∧x.2.2.length≤30
def a0v (f:RO):Prop:=∀ s r,f s=some r→s.o.length≤200→∃ t,TrS t∧r.o=s.o++t.steps∧r.o.length≤200∧r.l=s.l
theorem a4j {s:aY} {w:List UInt8} (h:kF s=some w):w.length≤30∧∃ tk ∈ s.l,tk.2.2=w:=by
 unfold kF at h
 split at h
 ·rename_i t e
  split at h
  ·rename_i h1
   simp only [zzz] at h
   subst h
   refine ⟨?_,t,zyx e,rfl⟩
   have:=h1.2.1
   unfold a38 at this
   simp only [zxz,decide_eq_true_eq] at this
   exact this.2.2.1
  ·cases h
 ·cases h
theorem TrS.op {k:Int} (hk:3≤k∧k≤5) {x y:Tr} (hx:TrS x) (hy:TrS y):TrS (.op k x y):=by
 refine ⟨⟨hk,hx.1,hy.1⟩,fun p hp=>?_⟩
 simp only [Tr.steps,List.mem_append,List.mem_singleton] at hp
 rcases hp with hp | hp | rfl
 ·exact hx.2 p hp
 ·exact hy.2 p hp
 ·exact ⟨by simp,by simp⟩
theorem aXm {e:RO} (he:a0v e):a0v (p8 e):=by
 intro s r h hl
 unfold p8 at h
 split at h
 ·split at h
  ·cases h
  ·obtain ⟨q,hq,h2⟩:=zwz.1 h
   split at h2
   ·simp only [zzz] at h2
    subst h2
    obtain ⟨t,h3,h4,h5,h6⟩:=he _ _ hq hl
    exact ⟨t,h3,h4,h5,h6⟩
   ·cases h2
 ·obtain ⟨a,ha,h2⟩:=zwz.1 h
  have ha:=(a4j ha).1
  split at h2
  ·obtain ⟨b,hb,h3⟩:=zwz.1 h2
   have hb:=(a4j hb).1
   obtain ⟨h4,rfl⟩:=oN h3
   have h4:s.o.length < 200:=h4
   refine ⟨.ar a b,⟨trivial,fun x hx=>?_⟩,rfl,by show (s.o++[_]).length≤200; rw [zwy]; show s.o.length+1≤200; omega,rfl⟩
   simp only [Tr.steps,List.mem_singleton] at hx
   subst hx
   exact ⟨ha,hb⟩
  ·obtain ⟨h4,rfl⟩:=oN h2
   have h4:s.o.length < 200:=h4
   refine ⟨.nm a,⟨trivial,fun x hx=>?_⟩,rfl,by show (s.o++[_]).length≤200; rw [zwy]; show s.o.length+1≤200; omega,rfl⟩
   simp only [Tr.steps,List.mem_singleton] at hx
   subst hx
   exact ⟨ha,by simp⟩
theorem aWi {k:Int} {s q u:aY} {pre:List cV} {t0 t1:Tr} (hu:a8c (k,[],[]) q=some u) (hs:s.o=pre++t0.steps) (e1:q.o=s.o++t1.steps):u.o=pre++(Tr.op k t0 t1).steps∧u.o.length≤200∧u.l=q.l:=by
 obtain ⟨h4,rfl⟩:=oN hu
 refine ⟨?_,?_,rfl⟩
 ·show q.o++[_]=_
  rw [e1,hs]
  simp [Tr.steps]
 ·show (q.o++[_]).length≤200
  rw [zwy]
  show q.o.length+1≤200
  omega
theorem aRc {fac:RO} (hf:a0v fac):∀ (k:Nat) (s r:aY) (pre:List cV) (t0:Tr),jU fac k s=some r→s.o=pre++t0.steps→TrS t0→s.o.length≤200→∃ t,TrS t∧r.o=pre++t.steps∧r.o.length≤200∧r.l=s.l
 | 0,s,r,pre,t0,h,_,_,_=>by cases h
 | k+1,s,r,pre,t0,h,hs,ht,hl=>by
  unfold jU at h
  split at h
  ·obtain ⟨q,hq,h2⟩:=zwz.1 h
   obtain ⟨u,hu,h3⟩:=zwz.1 h2
   obtain ⟨t1,ht1,e1,e2,e3⟩:=hf _ _ hq hl
   obtain ⟨g1,g2,g3⟩:=aWi (s:=s) hu hs e1
   obtain ⟨t,ht,e4,e5,e6⟩:=aRc hf k u r pre (.op 5 t0 t1) h3 g1 (TrS.op (by decide) ht ht1) g2
   exact ⟨t,ht,e4,e5,e6.trans (g3.trans e3)⟩
  ·simp only [zzz] at h
   subst h
   exact ⟨t0,ht,hs,hl,rfl⟩
theorem aRd {fac:RO} (hf:a0v fac):a0v (wZ fac):=by
 intro s r h hl
 obtain ⟨q,hq,h2⟩:=zwz.1 (show (fac s).bind _=some r from h)
 obtain ⟨t0,h0,e1,e2,e3⟩:=hf _ _ hq hl
 obtain ⟨t,ht,e4,e5,e6⟩:=aRc hf _ q r s.o t0 h2 e1 h0 e2
 exact ⟨t,ht,e4,e5,e6.trans e3⟩
theorem aRe {ter:RO} (hf:a0v ter):∀ (k:Nat) (s r:aY) (pre:List cV) (t0:Tr),lZ ter k s=some r→s.o=pre++t0.steps→TrS t0→s.o.length≤200→∃ t,TrS t∧r.o=pre++t.steps∧r.o.length≤200∧r.l=s.l
 | 0,s,r,pre,t0,h,_,_,_=>by cases h
 | k+1,s,r,pre,t0,h,hs,ht,hl=>by
  unfold lZ at h
  split at h
  ·obtain ⟨q,hq,h2⟩:=zwz.1 h
   obtain ⟨u,hu,h3⟩:=zwz.1 h2
   obtain ⟨t1,ht1,e1,e2,e3⟩:=hf _ _ hq hl
   obtain ⟨g1,g2,g3⟩:=aWi (s:=s) hu hs e1
   obtain ⟨t,ht,e4,e5,e6⟩:=aRe hf k u r pre _ h3 g1 (TrS.op (by split <;> decide) ht ht1) g2
   exact ⟨t,ht,e4,e5,e6.trans (g3.trans e3)⟩
  ·simp only [zzz] at h
   subst h
   exact ⟨t0,ht,hs,hl,rfl⟩
theorem aRf {ter:RO} (hf:a0v ter):a0v (a5i ter):=by
 intro s r h hl
 obtain ⟨q,hq,h2⟩:=zwz.1 (show (ter s).bind _=some r from h)
 obtain ⟨t0,h0,e1,e2,e3⟩:=hf _ _ hq hl
 obtain ⟨t,ht,e4,e5,e6⟩:=aRe hf _ q r s.o t0 h2 e1 h0 e2
 exact ⟨t,ht,e4,e5,e6.trans e3⟩
theorem b6s:∀ f:Nat,a0v (j4 f)
 | 0=>fun s r h _=>by cases h
 | f+1=>aXm (aRf (aRd (b6s f)))
theorem b9r:a0v kQ:=aRf (aRd (b6s 21))
def GS (L:List eP) (s:Sub):Prop:=(∃ tk ∈ L,tk.2.2=s.1)∧s.1.length≤30∧s.2.2.length≤30
theorem b9s {s:aY} {q:aY×Sub} (h:aId s=some q):q.1.l=s.l∧GS s.l q.2:=by
 obtain ⟨a,ha,h2⟩:=zwz.1 (show (kF s).bind _=some q from h)
 obtain ⟨g1,g2⟩:=a4j ha
 split at h2
 ·obtain ⟨b,hb,h3⟩:=zwz.1 h2
  simp only [zzz] at h3
  subst h3
  exact ⟨rfl,g2,g1,(a4j hb).1⟩
 ·simp only [zzz] at h2
  subst h2
  exact ⟨rfl,g2,g1,by show ([]:List UInt8).length≤30; simp⟩
theorem aRg:∀ (k:Nat) (s:aY) (l:List Sub) (q:aY×List Sub),pZ k s l=some q→l.length≤50→q.1.l=s.l∧q.2.length≤50∧q.2≠[]∧∀ x ∈ q.2,x ∈ l∨GS s.l x
 | 0,s,l,q,h,_=>by cases h
 | k+1,s,l,q,h,hl=>by
  unfold pZ at h
  split at h
  ·cases h
  rename_i h50
  obtain ⟨⟨u,sb⟩,hu,h2⟩:=zwz.1 h
  obtain ⟨g1,g2⟩:=b9s hu
  dsimp only at g1 g2 h2
  have hl2:(l++[sb]).length≤50:=by simp; omega
  split at h2
  ·obtain ⟨f1,f2,f3,f4⟩:=aRg k _ _ q h2 hl2
   refine ⟨f1.trans g1,f2,f3,fun x hx=>?_⟩
   rcases f4 x hx with h | h
   ·rcases List.mem_append.1 h with h | h
    ·exact .inl h
    ·obtain rfl:=List.mem_singleton.1 h; exact .inr g2
   ·right
    rw [← g1]; exact h
  ·split at h2
   ·simp only [zzz] at h2
    subst h2
    refine ⟨g1,hl2,by simp,fun x hx=>?_⟩
    rcases List.mem_append.1 hx with h | h
    ·exact .inl h
    ·obtain rfl:=List.mem_singleton.1 h; exact .inr g2
   ·cases h2
structure aWj (L:List eP) (r:Rel):Prop where
 nm:r.1.length≤30
 pC:a3i (upR r)
 aR:∀ s ∈ r.2.1,GS L s
 steps:∀ x ∈ r.2.2,x.2.1.length≤30∧x.2.2.length≤30
theorem bDd {s:aY} {q:aY×Rel} (h:wD s=some q):q.1.l=s.l∧aWj s.l q.2:=by
 obtain ⟨a,ha,h2⟩:=zwz.1 (show (kF s).bind _=some q from h)
 obtain ⟨g1,_⟩:=a4j ha
 split at h2
 ·obtain ⟨r,hr,h3⟩:=zwz.1 h2
  split at h3
  ·simp only [zzz] at h3
   subst h3
   obtain ⟨t,ht,e1,e2,e3⟩:=b9r _ _ hr (by simp)
   have e1:r.o=t.steps:=e1
   refine ⟨e3,g1,⟨by show 0≤50; omega,e2,.inr ⟨rfl,t,ht.1,e1.symm⟩⟩,fun s hs=>(by cases hs),?_⟩
   show ∀ x ∈ r.o,_
   rw [e1]
   exact ht.2
  ·cases h3
 ·split at h2
  ·obtain ⟨q0,hr,h3⟩:=zwz.1 h2
   simp only [zzz] at h3
   subst h3
   obtain ⟨f1,f2,f3,f4⟩:=aRg _ _ _ _ hr (by simp)
   exact ⟨f1,g1,⟨f2,by show 0≤200; omega,.inl ⟨rfl,f3⟩⟩,fun s hs=>(by rcases f4 s hs with h | h; cases h; exact h),fun x hx=>(by cases hx)⟩
  ·cases h2
theorem aWk:∀ (k:Nat) (s:aY) (l:List Rel) (q:aY×List Rel),sQ k s l=some q→q.1.l=s.l∧∀ r ∈ q.2,r ∈ l∨aWj s.l r
 | 0,s,l,q,h=>by cases h
 | k+1,s,l,q,h=>by
  unfold sQ at h
  split at h
  ·simp only [zzz] at h
   subst h
   exact ⟨rfl,fun r hr=>.inl hr⟩
  ·split at h
   ·cases h
   obtain ⟨u,hu,h2⟩:=zwz.1 h
   obtain ⟨g1,g2⟩:=bDd hu
   obtain ⟨f1,f2⟩:=aWk k _ _ q h2
   refine ⟨f1.trans g1,fun r hr=>?_⟩
   rcases f2 r hr with h | h
   ·rcases List.mem_append.1 h with h | h
    ·exact .inl h
    ·obtain rfl:=List.mem_singleton.1 h; exact .inr g2
   ·right
    rw [← g1]; exact h
theorem bDe {s:aY} {q:aY×fM} (h:a62 s=some q):q.1.l=s.l∧q.2.1.length≤30∧∀ r ∈ q.2.2,aWj s.l r:=by
 unfold a62 at h
 split at h
 ·obtain ⟨a,ha,h2⟩:=zwz.1 h
  obtain ⟨g1,_⟩:=a4j ha
  split at h2
  ·obtain ⟨u,hu,h3⟩:=zwz.1 h2
   simp only [zzz] at h3
   subst h3
   obtain ⟨f1,f2⟩:=aWk _ _ _ _ hu
   exact ⟨f1,g1,fun r hr=>(by rcases f2 r hr with h | h; cases h; exact h)⟩
  ·simp only [zzz] at h2
   subst h2
   exact ⟨rfl,g1,fun r hr=>(by cases hr)⟩
 ·cases h
theorem aRh:∀ (k:Nat) (s:aY) (ts l:List fM),rY k s ts=some l→∀ t ∈ l,t ∈ ts∨(t.1.length≤30∧∀ r ∈ t.2,aWj s.l r)
 | 0,s,ts,l,h=>by cases h
 | k+1,s,ts,l,h=>by
  unfold rY at h
  split at h
  ·split at h
   ·cases h
   obtain ⟨u,hu,h2⟩:=zwz.1 h
   obtain ⟨g1,g2⟩:=bDe hu
   intro t ht
   rcases aRh k _ _ l h2 t ht with h | h
   ·rcases List.mem_append.1 h with h | h
    ·exact .inl h
    ·obtain rfl:=List.mem_singleton.1 h; exact .inr g2
   ·right
    rw [← g1]; exact h
  ·simp only [zzz] at h
   subst h
   exact fun t ht=>.inl ht
theorem b2z {w:List UInt8} {l:List fM} (h:hO w=some l):∀ t ∈ l,t.1.length≤30∧∀ r ∈ t.2,aWj (cP w).1 r:=by
 unfold hO at h
 split at h
 ·intro t ht
  rcases aRh _ _ _ _ h t ht with h | h
  ·cases h
  ·exact h
 ·cases h
def no2 (ks:List KT):Bool:=ks.all fun k=>!k.2.contains 50
theorem kR {a b:List KT} (ha:no2 a=true) (hb:no2 b=true):no2 (a++b)=true:=by
 unfold no2 at *
 rw [List.all_append,ha,hb]; rfl
theorem zR {A:List (List UInt8)} (h:(A.all fun w=>no2 (eV w))=true) {w:List UInt8} (hw:w ∈ A):no2 (eV w)=true:=List.all_eq_true.1 h w hw
theorem n2s:(a9l.all fun w=>no2 (eV w))=true:=by kernel_rfl
theorem n2t:(ssT.all fun w=>no2 (eV w))=true:=by kernel_rfl
theorem n2n:(rD.all fun w=>no2 (eV w))=true:=by kernel_rfl
theorem n2o:(a6z.all fun w=>no2 (eV w))=true:=by kernel_rfl
theorem n2p:(a9m.all fun w=>no2 (eV w))=true:=by kernel_rfl
theorem aWl {j:Nat} (hj:no2 [(1,pqT.getD j []),(2,[61])]=true) (n:Int):no2 (a0y j n)=true:=by
 unfold a0y aKv aBi
 refine kR (kR hj (kR (kR (kR (zR n2n (jT _)) (zR n2o (aC9 _))) (zR n2n (jT _))) ?_)) (by decide)
 split
 ·refine kR (kR (zR n2p (aKu _)) (zR n2n (jT _))) ?_
  split
  ·exact kR (a:=(2,[38])::_) (kR (a:=[(2,[38])]) (by decide) (zR n2n (jT _))) (by decide)
  ·rfl
 ·rfl
theorem aZn (l:List Int) {i:Nat} (hi:i < 2):no2 (a9q l i)=true:=by
 unfold a9q aDa
 have h0:no2 [(1,[116,121,112,101]),(1,abT.getD i []),(2,[123]),(1,[114]),(2,[58])]=true:=by
  match i,hi with
  | 0,_=>exact (by decide:no2 [(1,[116,121,112,101]),(1,[97]),(2,[123]),(1,[114]),(2,[58])]=true)
  | 1,_=>exact (by decide:no2 [(1,[116,121,112,101]),(1,[98]),(2,[123]),(1,[114]),(2,[58])]=true)
 refine kR (kR (kR (kR (kR (kR (kR h0 (kR (zR n2s (a36 _)) ?_)) (by decide)) (zR n2t (aUm _))) (by decide)) (aWl (by decide) _)) (aWl (by decide) _)) (by decide)
 split
 ·exact kR (a:=[(2,[124])]) (by decide) (zR n2s (a36 _))
 ·rfl
theorem b9t (l:List Int):no2 (aM1 l)=true:=kR (kR (by decide) (aZn l (by decide))) (aZn l (by decide))
theorem b9u (l:List Int):∀ tk ∈ (cP (wC l)).1,(50:UInt8) ∉ tk.2.2:=by
 intro tk htk
 have hlen:(wC l).length≤100000:=by have:=aGt l 2; unfold wC; omega
 have hm:=aYs l
 have e:=aG7 hlen
 rw [hm.ok 0] at e
 rw [e] at htk
 dsimp only at htk
 have h1:kt tk ∈ aM1 l:=by rw [← hm.kd 0]; exact List.mem_map.2 ⟨tk,htk,rfl⟩
 have h2:=List.all_eq_true.1 (b9t l) _ h1
 have h3:(kt tk).2=tk.2.2:=rfl
 rw [h3] at h2
 simpa using h2
structure aSf (ts:List fM):Prop where
 names:ts.map (·.1)=[[117],[97],[98]]
 aS:∀ t ∈ ts,(t.2.map (·.1)=[]∨t.2.map (·.1)=[[114],[115],[112],[113]])
 pC:∀ t ∈ ts,∀ r ∈ t.2,a3i (upR r)∧(∀ s ∈ r.2.1,(50:UInt8) ∉ s.1∧s.1.length≤30∧s.2.2.length≤30)∧∀ x ∈ r.2.2,x.2.1.length≤30∧x.2.2.length≤30
theorem b6t (l:List Int):∃ ts,hO (wC l)=some ts∧aSf ts:=by
 obtain ⟨x,y,z,h,x1,x2,y1,y2,z1,z2⟩:=b1x l
 have hs:=b2z h
 refine ⟨_,h,?_,fun t ht=>?_,fun t ht r hr=>?_⟩
 ·show [x.1,y.1,z.1]=_
  rw [x1,y1,z1]
 ·simp only [List.mem_cons,List.not_mem_nil,or_false] at ht
  rcases ht with rfl | rfl | rfl
  ·left; rw [x2]; rfl
  ·exact .inr y2
  ·exact .inr z2
 ·have hr:=(hs t ht).2 r hr
  refine ⟨hr.pC,fun s hs=>?_,hr.steps⟩
  obtain ⟨⟨tk,h1,h2⟩,h3,h4⟩:=hr.aR s hs
  exact ⟨by rw [← h2]; exact b9u l tk h1,h3,h4⟩
end Go.Fbs

namespace Go.Fbs
open Go.Proofs
def a3l (s:Sub):Sub:=(s.1++[50],s.2)
def z6 (r:RM):RM:={ r with aR:=r.aR.map a3l }
def rP (t:TM):TM:={ t with nm:=t.nm++[50],aS:=t.aS.map z6 }
structure aLg (l:List TM):Prop where
 names:(l.map (·.nm)).Nodup
 short:∀ t ∈ l,t.nm.length≤31
 three:l.length=3
 aS:∀ t ∈ l,(t.aS.map (·.nm)).Nodup∧t.aS.length≤4
 pC:∀ t ∈ l,∀ r ∈ t.aS,r.nm.length≤30∧a3i r∧(∀ s ∈ r.aR,s.1.length≤31∧s.2.2.length≤30)∧∀ x ∈ r.steps,x.2.1.length≤30∧x.2.2.length≤30
theorem aN7:∀ {l:List TM},(∀ t ∈ l,t.aS.length≤4)→(bO l).length≤l.length*4
 | [],_=>by simp [bO]
 | t::l,h=>by
  have h1:=h t (.head _)
  have h2:=aN7 fun u hu=>h u (List.mem_cons_of_mem _ hu)
  have e:bO (t::l)=qB t++bO l:=rfl
  rw [e,zwy,zwx]
  have e2:(qB t).length=t.aS.length:=by unfold qB; rw [zsy]
  omega
theorem aLg.len {l:List TM} (h:aLg l):(bO l).length+l.length≤15:=by
 have:=aN7 fun t ht=>(h.aS t ht).2
 have:=h.three
 omega
theorem aLg.a90 {l:List TM} (h:aLg l):jS l:=by
 refine ⟨⟨fun t ht=>⟨by have:=h.short t ht; omega,fun r hr=>?_⟩,h.names,fun t ht=>(h.aS t ht).1,by have:=h.len; omega⟩,fun p hp=>?_⟩
 ·obtain ⟨h1,h2,h3,h4⟩:=h.pC t ht r hr
  have:=h2.aR
  have:=h2.steps
  exact ⟨by omega,⟨by omega,by omega⟩,fun s hs=>⟨by have:=(h3 s hs).1; omega,by have:=(h3 s hs).2; omega⟩,fun x hx=>⟨by have:=(h4 x hx).1; omega,by have:=(h4 x hx).2; omega⟩⟩
 ·obtain ⟨t,ht,_,hr⟩:=jF hp
  exact (h.pC t ht _ hr).2.1
def No2 (l:List TM):Prop:=∀ t ∈ l,(50:UInt8) ∉ t.nm∧t.nm.length≤30∧∀ r ∈ t.aS,∀ s ∈ r.aR,(50:UInt8) ∉ s.1∧s.1.length≤30
theorem aRi {l:List TM} (h:aSf (l.map dnT)):aLg l∧No2 l:=by
 have hnm:l.map (·.nm)=[[117],[97],[98]]:=by
  have:=h.names
  rw [List.map_map] at this
  exact this
 have hn:∀ t ∈ l,t.nm=[117]∨t.nm=[97]∨t.nm=[98]:=fun t ht=>by
  have:t.nm ∈ l.map (·.nm):=List.mem_map.2 ⟨t,ht,rfl⟩
  rw [hnm] at this
  simpa using this
 have h3:l.length=3:=by rw [← zsy (f:=(·.nm)),hnm]; rfl
 have hrels:∀ t ∈ l,t.aS.map (·.nm)=[]∨t.aS.map (·.nm)=[[114],[115],[112],[113]]:=fun t ht=>by
  have:=h.aS (dnT t) (List.mem_map.2 ⟨t,ht,rfl⟩)
  have e:(dnT t).2.map (·.1)=t.aS.map (·.nm):=by show (t.aS.map dnR).map _=_; rw [List.map_map]; rfl
  rw [e] at this
  exact this
 have hgood:∀ t ∈ l,∀ r ∈ t.aS,a3i r∧(∀ s ∈ r.aR,(50:UInt8) ∉ s.1∧s.1.length≤30∧s.2.2.length≤30)∧∀ x ∈ r.steps,x.2.1.length≤30∧x.2.2.length≤30:=fun t ht r hr=>by
  obtain ⟨g1,g2,g3⟩:=h.pC (dnT t) (List.mem_map.2 ⟨t,ht,rfl⟩) (dnR r) (List.mem_map.2 ⟨r,hr,rfl⟩)
  exact ⟨⟨g1.aR,g1.steps,g1.tree⟩,g2,g3⟩
 refine ⟨⟨by rw [hnm]; decide,fun t ht=>by rcases hn t ht with e | e | e <;> rw [e] <;> decide,h3,fun t ht=>?_,fun t ht r hr=>?_⟩,fun t ht=>⟨by rcases hn t ht with e | e | e <;> rw [e] <;> decide,by rcases hn t ht with e | e | e <;> rw [e] <;> decide,fun r hr s hs=>⟨((hgood t ht r hr).2.1 s hs).1,((hgood t ht r hr).2.1 s hs).2.1⟩⟩⟩
 ·rcases hrels t ht with e | e
  ·exact ⟨by rw [e]; decide,by rw [← zsy (f:=(·.nm)),e]; decide⟩
  ·exact ⟨by rw [e]; decide,by rw [← zsy (f:=(·.nm)),e]; decide⟩
 ·obtain ⟨g1,g2,g3⟩:=hgood t ht r hr
  refine ⟨?_,g1,fun s hs=>⟨by have:=(g2 s hs).2.1; omega,(g2 s hs).2.2⟩,g3⟩
  have hm:r.nm ∈ t.aS.map (·.nm):=List.mem_map.2 ⟨r,hr,rfl⟩
  rcases hrels t ht with e | e
  ·rw [e] at hm; cases hm
  ·rw [e] at hm
   simp only [List.mem_cons,List.not_mem_nil,or_false] at hm
   rcases hm with e | e | e | e <;> rw [e] <;> decide
theorem bIm {a b:List UInt8} (h:a++[50]=b++[50]):a=b:=List.append_cancel_right h
theorem b9v {l:List TM} (h:aLg l) (h2:No2 l):aLg (l.map rP):=by
 refine ⟨?_,fun t ht=>?_,by rw [zsy]; exact h.three,fun t ht=>?_,fun t ht r hr=>?_⟩
 ·have:=h.names
  rw [List.Nodup,List.pairwise_map] at this
  rw [List.map_map,List.Nodup,List.pairwise_map]
  exact this.imp fun hne e=>hne (bIm e)
 ·obtain ⟨t0,h0,rfl⟩:=List.mem_map.1 ht
  show (t0.nm++[50]).length≤31
  rw [zwy]
  have:=(h2 t0 h0).2.1
  show t0.nm.length+1≤31
  omega
 ·obtain ⟨t0,h0,rfl⟩:=List.mem_map.1 ht
  have e:(rP t0).aS.map (·.nm)=t0.aS.map (·.nm):=by show (t0.aS.map z6).map _=_; rw [List.map_map]; rfl
  exact ⟨by rw [e]; exact (h.aS t0 h0).1,by show (t0.aS.map z6).length≤4; rw [zsy]; exact (h.aS t0 h0).2⟩
 ·obtain ⟨t0,h0,rfl⟩:=List.mem_map.1 ht
  obtain ⟨r0,h1,rfl⟩:=List.mem_map.1 (show r ∈ t0.aS.map z6 from hr)
  obtain ⟨g1,g2,g3,g4⟩:=h.pC t0 h0 r0 h1
  refine ⟨g1,⟨by show (r0.aR.map a3l).length≤50; rw [zsy]; exact g2.aR,g2.steps,?_⟩,fun s hs=>?_,g4⟩
  ·rcases g2.tree with ⟨e1,e2⟩ | ⟨e1,e2⟩
   ·exact .inl ⟨e1,fun e=>e2 (List.map_eq_nil_iff.1 e)⟩
   ·exact .inr ⟨by show r0.aR.map a3l=[]; rw [e1]; rfl,e2⟩
  ·obtain ⟨s0,hs0,rfl⟩:=List.mem_map.1 (show s ∈ r0.aR.map a3l from hs)
   refine ⟨?_,(g3 s0 hs0).2⟩
   show (s0.1++[50]).length≤31
   rw [zwy]
   have:=((h2 t0 h0).2.2 r0 h1 s0 hs0).2
   show s0.1.length+1≤31
   omega
theorem b20 {a b:List UInt8} (h:(50:UInt8) ∉ a):b++[50]≠a:=fun e=>h (by rw [← e]; simp)
theorem b21 {l m:List TM} (h:No2 l):Apt l (m.map rP):=by
 refine ⟨fun t ht u hu=>?_,fun p hp s hs u hu=>?_⟩
 ·obtain ⟨u0,_,rfl⟩:=List.mem_map.1 hu
  exact b20 (h t ht).1
 ·obtain ⟨u0,_,rfl⟩:=List.mem_map.1 hu
  obtain ⟨t,ht,_,hr⟩:=jF hp
  exact b20 ((h t ht).2.2 _ hr s hs).1
theorem bA9 {l m:List TM} (h:No2 l):Apt (m.map rP) l:=by
 refine ⟨fun t ht u hu e=>?_,fun p hp s hs u hu e=>?_⟩
 ·obtain ⟨t0,_,rfl⟩:=List.mem_map.1 ht
  exact b20 (h u hu).1 (show t0.nm++[50]=u.nm from e.symm)
 ·obtain ⟨t,ht,_,hr⟩:=jF hp
  obtain ⟨t0,_,rfl⟩:=List.mem_map.1 ht
  obtain ⟨r0,_,e0⟩:=List.mem_map.1 (show p.2 ∈ t0.aS.map z6 from hr)
  rw [← e0] at hs
  obtain ⟨s0,_,rfl⟩:=List.mem_map.1 (show s ∈ r0.aR.map a3l from hs)
  exact b20 (h u hu).1 (show s0.1++[50]=u.nm from e.symm)
theorem b9w {l m:List TM} (hl:aSf (l.map dnT)) (hm:aSf (m.map dnT)) :
  jS l∧jS (m.map rP)∧jS (l++m.map rP)∧l.length=3∧m.length=3∧(gM (l++m.map rP)=0↔gM l=0∧gM (m.map rP)=0) ∧
  (gM (l++m.map rP)=0→∀ t ∈ l,∀ r ∈ t.aS,mH (l++m.map rP) (t.nm,r.nm)=mH l (t.nm,r.nm)∧(mH l (t.nm,r.nm)).2=true) ∧
  (∀ t ∈ l,t.nm.length≤1000∧∀ r ∈ t.aS,r.nm.length≤1000)∧(∀ t ∈ l,t.nm≠[97,50])∧(∀ t ∈ l,t.aS.length≤4)∧∀ t ∈ m,t.nm.length≤31∧t.aS.length≤4∧∀ r ∈ t.aS,r.aR.length≤50∧∀ s ∈ r.aR,s.1.length≤31:=by
 obtain ⟨s1,n1⟩:=aRi hl
 obtain ⟨s2,n2⟩:=aRi hm
 have s3:=b9v s2 n2
 have gb:jS (l++m.map rP):=b9q s1.a90 s3.a90 (b21 n1) (by have:=s1.len; have:=s3.len; omega)
 refine ⟨s1.a90,s3.a90,gb,s1.three,s2.three,aN6 s1.a90 s3.a90 gb (b21 n1) (bA9 n1),fun h t ht r hr=>b6r s1.a90 s3.a90 gb (b21 n1) (bA9 n1) h (aQy ht hr),fun t ht=>⟨by have:=s1.short t ht; omega,fun r hr=>by have:=(s1.pC t ht r hr).1; omega⟩,fun t ht e=>(n1 t ht).1 (by rw [e]; simp),fun t ht=>(s1.aS t ht).2,fun t ht=>⟨s2.short t ht,(s2.aS t ht).2,fun r hr=>⟨(s2.pC t ht r hr).2.1.aR,fun s hs=>((s2.pC t ht r hr).2.2.1 s hs).1⟩⟩⟩
end Go.Fbs

namespace Go.Fbs
open Go.Proofs Go.RowKit Go.Maps
attribute [local irreducible] bW cC opt kQ
theorem aJv {wd:List UInt8} {ts:List fM} (hw:wd.length≤100000) (hts:hO wd=some ts) (w:World) :
  Calls Try.prog 5 #[.string ⟨⟨wd⟩⟩] w fun e w'=>∃ κ' ρ a c tl,e = .returned (.slice a tl.length c)∧tl.map dnT=ts∧cD w.heap.size aHe w κ' w'∧kW w.heap.size κ' w' ρ a c tl:=by
 go_enter Try.func5,Try.ntmps5
 go_wp2_with (go_at_call 13; refine (aVr hw hts w).mono ?_; rintro e w1 ⟨κ1,ρ,a,c,tl,rfl,h1,h2,h3⟩)
 go_ret
 exact ⟨κ1,ρ,a,c,tl,rfl,h1,h2,h3⟩
variable {w w' w2:World} {n i k g c:Nat} {κ κ' κ2:Ctx} {m m':Hp} {ρ:Nat→Nat×Nat} {a:Option Addr} {L:List TM} {t:TM} {r:RM}
theorem aWm {α : Type} {f : α → List Value} {sz : Nat} (hf : ∀ x,(f x).length = sz) : ∀ (l : List α) (i : Nat) (x x' : α) (o : Nat) (u : Value),l[i]? = some x → f x' = (f x).set o u → o < sz → (l.flatMap f).set (i * sz + o) u = (l.set i x').flatMap f
 | y::l,0,x,x',o,u,h,he,ho=>by
  simp only [zux,zzz] at h
  subst h
  rw [List.flatMap_cons,List.set_cons_zero,List.flatMap_cons,he,Nat.zero_mul,Nat.zero_add,List.set_append_left _ _ (by rw [hf]; exact ho)]
 | y::l,i+1,x,x',o,u,h,he,ho=>by
  rw [zvx] at h
  rw [List.flatMap_cons,List.set_cons_succ,List.flatMap_cons,List.set_append_right _ _ (by rw [hf,Nat.succ_mul]; omega),hf,← aWm hf l i x x' o u h he ho]
  congr 2
  rw [Nat.succ_mul]; omega
theorem aPn {α : Type} {f : α → List Value} : ∀ (l : List α) (i : Nat) (x x' : α),l[i]? = some x → f x' = f x → (l.set i x').flatMap f = l.flatMap f
 | y::l,0,x,x',h,he=>by
  simp only [zux,zzz] at h
  subst h
  rw [List.set_cons_zero,List.flatMap_cons,List.flatMap_cons,he]
 | y::l,i+1,x,x',h,he=>by
  rw [zvx] at h
  rw [List.set_cons_succ,List.flatMap_cons,List.flatMap_cons,aPn l i x x' h he]
theorem aN8 {α : Type} {f : α → List Value} {sz : Nat} (hf : ∀ x,(f x).length = sz) : ∀ {l : List α} {i : Nat} {x : α} {o : Nat},l[i]? = some x → o < sz → (l.flatMap f)[i * sz + o]? = (f x)[o]?
 | y::l,0,x,o,h,ho=>by
  simp only [zux,zzz] at h
  subst h
  rw [List.flatMap_cons,Nat.zero_mul,Nat.zero_add,ztz (by rw [hf]; exact ho)]
 | y::l,i+1,x,o,h,ho=>by
  rw [zvx] at h
  rw [List.flatMap_cons,ztx (by rw [hf,Nat.succ_mul]; omega),hf,← aN8 hf h ho]
  congr 1
  rw [Nat.succ_mul]; omega
theorem aWn {α : Type} {l : List α} {i j : Nat} {x y : α} (h : (l.set i x)[j]? = some y) : (i = j ∧ y = x ∧ i < l.length) ∨ (i ≠ j ∧ l[j]? = some y):=by
 rw [List.getElem?_set] at h
 split at h
 ·rename_i e
  split at h
  ·rename_i h2
   simp only [zzz] at h
   exact .inl ⟨e,h.symm,h2⟩
  ·cases h
 ·rename_i e
  exact .inr ⟨e,h⟩
theorem kW.setName (h : kW n κ w ρ (some ⟨g,0,none⟩) c L) (hi : L[i]? = some t) (v : B8) : kW n κ (w.setCell ⟨g,i * 2,none⟩ (.string ⟨⟨v⟩⟩)) ρ (some ⟨g,0,none⟩) c (L.set i { t with nm:=v }):=by
 have hf:lQ κ g:=h.f g rfl
 have s:=kK.grown (κ:=κ) (uX (w:=w) g (i*2) (.string ⟨⟨v⟩⟩)) fun b e=>by cases e; exact hf.1
 have hx : ∀ b,some g = some b → ∃ c,w.heap[b]? = some (.cells c 28 (0,0)):=fun b e=>by cases e; exact a0r h.o rfl
 have hrels:∀ {i:Nat} {q:TM},pQ n κ w ρ i q.ra q.rc q.aS→pQ n κ (w.setCell ⟨g,i*0+_,none⟩ _) ρ i q.ra q.rc q.aS:=fun {i q} hq=>by
  rw [Nat.mul_zero,Nat.zero_add]
  exact hq.same s hx
 have hst:=(World.ownsRow.stored h.o (i*2) (.string ⟨⟨v⟩⟩)).1
 refine ⟨?_,fun b hb=>(by cases hb; exact hf),fun j q hq=>?_⟩
 ·rw [List.length_set]
  have e:=aWm (f:=qW) (sz:=2) (fun _=>rfl) L i t { t with nm:=v } 0 (.string ⟨⟨v⟩⟩) hi rfl (by decide)
  rw [Nat.add_zero] at e
  show World.ownsRow _ n 28 2 _ _ ((L.set i { t with nm:=v }).flatMap qW)
  rw [← e]
  exact hst
 ·rcases aWn hq with ⟨rfl,rfl,_⟩ | ⟨_,hq⟩
  ·exact (h.all i t hi).same s hx
  ·exact (h.all j q hq).same s hx
theorem kW.bF4 {sb j : Nat} {s : Sub} (h : kW n κ w ρ a c L) (hi : L[i]? = some t) (hk : t.aS[k]? = some r) (hs : r.sa = some ⟨sb,0,none⟩) (hj : r.aR[j]? = some s) (v : B8) :
  kW n κ (w.setCell ⟨sb,j*3,none⟩ (.string ⟨⟨v⟩⟩)) ρ a c (L.set i { t with aS:=t.aS.set k { r with aR:=r.aR.set j (v,s.2) } }):=by
 obtain ⟨hr,hρ⟩:=(h.all i t hi).all k r hk
 have hob:(Value.slice r.sa r.aR.length r.sc).ownBlock=some sb:=by rw [hs]; rfl
 have hf:lQ κ sb:=hr.f sb hob
 have st:=kK.grown (κ:=κ) (uX (w:=w) sb (j*3) (.string ⟨⟨v⟩⟩)) fun b e=>by cases e; exact hf.1
 obtain ⟨c34,h34⟩:=a0r hr.s hob
 have kept:∀ {base n':Nat} {e:TypeId} {sz:Nat} {u:Value} {xs:List Value},w.ownsRow base e sz u n' xs→e≠34→(w.setCell ⟨sb,j*3,none⟩ (.string ⟨⟨v⟩⟩)).ownsRow base e sz u n' xs:=fun ho he=>pE ho fun b hb=>eN _ _ fun e2=>by
  obtain ⟨c',h'⟩:=a0r ho hb
  rw [e2,h34] at h'
  simp only [zzz,Obj.cells.injEq] at h'
  exact he h'.2.1.symm
 have other:∀ {i' k':Nat} {q:RM},yX n κ w q→(∀ b,(Value.slice q.sa q.aR.length q.sc).ownBlock=some b→ρ b=(i',k'))→(i',k')≠(i,k)→yX n κ (w.setCell ⟨sb,j*3,none⟩ (.string ⟨⟨v⟩⟩)) q:=fun hq hq2 hne=>hq.step st fun b hb e=>by
  cases e
  exact hne ((hq2 sb hb).symm.trans (hρ sb hob))
 refine ⟨?_,fun b hb=>h.f b (by rw [List.length_set] at hb; exact hb),fun i' q hq=>?_⟩
 ·rw [List.length_set]
  show World.ownsRow _ n 28 2 _ _ (List.flatMap qW _)
  rw [aPn (f:=qW) L i t _ hi (by unfold qW; simp only [List.length_set])]
  exact kept h.o (by decide)
 ·rcases aWn hq with ⟨rfl,rfl,_⟩ | ⟨hne,hq⟩
  ·have ht:=h.all i t hi
   refine ⟨?_,fun b hb=>ht.f b (by simp only [List.length_set] at hb; exact hb),fun k' q hq=>?_⟩
   ·simp only [List.length_set]
    show World.ownsRow _ n 32 3 _ _ (List.flatMap yT _)
    rw [aPn (f:=yT) t.aS k r _ hk (by unfold yT; simp only [List.length_set])]
    exact kept ht.o (by decide)
   ·rcases aWn hq with ⟨rfl,rfl,_⟩ | ⟨hne,hq⟩
    ·refine ⟨⟨?_,fun b hb=>hr.f b (by simp only [List.length_set] at hb; exact hb),hr.x.step st⟩,fun b hb=>hρ b (by simp only [List.length_set] at hb; exact hb)⟩
     have hrs:=hr.s
     rw [hs] at hrs ⊢
     have hst:=(World.ownsRow.stored hrs (j*3) (.string ⟨⟨v⟩⟩)).1
     simp only [List.length_set]
     have e:=aWm (f:=a0d) (sz:=3) (fun _=>rfl) r.aR j s (v,s.2) 0 (.string ⟨⟨v⟩⟩) hj rfl (by decide)
     rw [Nat.add_zero] at e
     show World.ownsRow _ n 34 3 _ _ (List.flatMap a0d _)
     rw [← e]
     exact hst
    ·exact ⟨other (ht.all k' q hq).1 (ht.all k' q hq).2 (fun e=>hne (congrArg Prod.snd e).symm),(ht.all k' q hq).2⟩
  ·have hq':=h.all i' q hq
   exact ⟨kept hq'.o (by decide),hq'.f,fun k' p hp=>⟨other (hq'.all k' p hp).1 (hq'.all k' p hp).2 (fun e=>hne (congrArg Prod.fst e).symm),(hq'.all k' p hp).2⟩⟩
theorem a7i {base e sz nn:Nat} {ad:Option Addr} {cp:Nat} {rows:List (List Value)} (hl:∀ x ∈ rows,x.length=sz) (h:w.ownsRow base e sz (.slice ad nn cp) nn rows.flatten) (hn:nn=rows.length):nW w.heap.size w ad sz rows:=by
 rcases h.2 with ⟨h1,h0⟩ | ⟨g,cap,cur,h1,_,h4,_⟩
 ·refine ⟨0,0,fun hne=>?_,fun i x hx=>?_⟩
  ·exact absurd (List.length_eq_zero_iff.1 (by omega)) hne
  ·have:rows=[]:=List.length_eq_zero_iff.1 (by omega)
   rw [this] at hx; cases hx
 ·cases h1
  refine ⟨g,0,fun _=>⟨rfl,(zsz.1 h4).1⟩,fun i x hx j y hy=>?_⟩
  have hj : j < sz:=by rw [← hl x (zyx hx)]; exact (zzy.1 hy).1
  have hi:i < rows.length:=(zzy.1 hx).1
  have hlt:i*sz+j < nn*sz:=by
   have:(i+1)*sz≤nn*sz:=Nat.mul_le_mul_right _ (by omega)
   rw [Nat.succ_mul] at this
   omega
  rw [Nat.zero_add,World.ownsRow.cellAt h (i*sz+j) hlt]
  have : ∀ {rows : List (List Value)} {i : Nat},(∀ x ∈ rows,x.length = sz) → rows[i]? = some x → rows.flatten[i * sz + j]? = x[j]?:=fun {rows}=>by
   induction rows with
   | nil=>intro i _ h; cases h
   | cons z rows ih =>
    intro i hl h
    have hz:=hl z (.head _)
    cases i with
    | zero =>
     simp only [zux,zzz] at h
     subst h
     rw [List.flatten_cons,Nat.zero_mul,Nat.zero_add,ztz (by omega)]
    | succ i =>
     rw [zvx] at h
     rw [List.flatten_cons,ztx (by rw [hz,Nat.succ_mul]; omega),hz,← ih (fun x hx=>hl x (.tail _ hx)) h]
     congr 1
     rw [Nat.succ_mul]; omega
  rw [this hl hx]
  exact hy
theorem a7j {α:Type} (f:α→List Value) (l:List α):l.flatMap f=(l.map f).flatten:=by rw [List.flatMap_def]
theorem a3g.row {xs:List cV} (h:a3g κ w.heap a xs):nW w.heap.size w a 3 (xs.map aK3):=by
 obtain ⟨b,off,h1,h2⟩:=h
 refine ⟨b,off,fun hne=>?_,fun i x hx j y hy=>aDw (h2 i x hx j y hy).2⟩
 have hne':xs≠[]:=fun e=>hne (by rw [e]; rfl)
 refine ⟨h1 hne',?_⟩
 obtain ⟨x,xs,rfl⟩:=List.exists_cons_of_ne_nil hne'
 exact tT (h2 0 _ rfl 0 _ rfl).2
theorem kW.read (h:kW n κ w ρ a c L):rN w.heap.size w a L:=by
 refine ⟨a7i (e:=28) (fun x hx=>?_) (by rw [← a7j]; exact h.o) (by rw [zsy]),fun t ht=>?_⟩
 ·obtain ⟨t,_,rfl⟩:=List.mem_map.1 hx; rfl
 ·obtain ⟨i,hi⟩:=List.getElem?_of_mem ht
  have hr:=h.all i t hi
  refine ⟨a7i (e:=32) (fun x hx=>?_) (by rw [← a7j]; exact hr.o) (by rw [zsy]),fun r hr2=>?_⟩
  ·obtain ⟨t,_,rfl⟩:=List.mem_map.1 hx; rfl
  ·obtain ⟨k,hk⟩:=List.getElem?_of_mem hr2
   have hl:=(hr.all k r hk).1
   refine ⟨a7i (e:=34) (fun x hx=>?_) (by rw [← a7j]; exact hl.s) (by rw [zsy]),hl.x.row⟩
   obtain ⟨t,_,rfl⟩:=List.mem_map.1 hx; rfl
def upto {α:Type} (f:α→α) (i:Nat) (l:List α):List α:=(l.take i).map f++l.drop i
theorem b6u {α:Type} (f:α→α) (l:List α):upto f 0 l=l:=rfl
theorem aLh {α:Type} (f:α→α) (l:List α):upto f l.length l=l.map f:=by unfold upto; rw [List.take_length,List.drop_length,List.append_nil]
theorem a8m {α:Type} (f:α→α) (i:Nat) (l:List α):(upto f i l).length=l.length:=by unfold upto; simp; omega
theorem aLi {α : Type} {f : α → α} {i : Nat} {l : List α} {x : α} (h : l[i]? = some x) : (upto f i l)[i]? = some x:=by
 have hi:=(zzy.1 h).1
 unfold upto
 rw [ztx (by simp; omega),drop_cons h]
 simp [Nat.min_eq_left (Nat.le_of_lt hi)]
theorem aLj {α : Type} {f : α → α} {i : Nat} {l : List α} {x : α} (h : l[i]? = some x) : (upto f i l).set i (f x) = upto f (i + 1) l:=by
 have hi:=(zzy.1 h).1
 unfold upto
 rw [List.set_append_right _ _ (by simp; omega),drop_cons h,kG h,List.map_append]
 simp [Nat.min_eq_left (Nat.le_of_lt hi)]
end Go.Fbs

namespace Go.Fbs
open Go.Proofs Go.RowKit Go.Maps
attribute [local irreducible] bW cC opt kQ
variable {w w':World}
set_option maxHeartbeats 1600000 in
theorem bDf {l:List TM} {a:Option Addr} {cp B:Nat} {t rel:B8} (hl:rN B w a l) (hB:B≤w.heap.size) (h3:l.length≤100000) (hn:∀ ty ∈ l,ty.nm≠t) :
  Calls Try.prog 20 #[.slice a l.length cp,.string ⟨⟨t⟩⟩,.string ⟨⟨rel⟩⟩] w fun e w'=>e = .returned (.tuple #[.int .i64 (-1),.int .i64 (-1)])∧w'=w:=by
 go_enter Try.func20,Try.ntmps20
 go_wp2
 go_loopw [8] (fun v wr=>∃ j:Nat,j≤l.length∧v = .int .i64 j∧wr=w) (fun v _=>l.length - (iG v).toNat)
 case atStart=>exact ⟨0,Nat.zero_le _,rfl,rfl⟩
 case round =>
  obtain ⟨j,hj,rfl,hw⟩:=hrel
  subst hw
  have hj0:(0:Int)≤(j:Int):=zrz _
  by_cases hjl:j < l.length
  ·have hj1:(j:Int) < (l.length:Int):=by omega
   obtain ⟨tj,htj⟩:=hU hjl
   obtain ⟨b,off,rfl,hb,c0,c1⟩:=hl.r.b10 (nE htj)
   have hbr:b < wr.heap.size:=by omega
   have hne : tj.nm ≠ t:=hn tj (zyx htj)
   have hneb:(tj.nm == t)=false:=by simpa using hne
   go_wp2
   exact ⟨⟨j+1,by omega,by simp,by simp⟩,by simp [iG]; omega⟩
  ·have hj1:¬ (j:Int) < (l.length:Int):=by omega
   go_wp2
   go_ret2
   exact ⟨rfl,rfl⟩
set_option maxHeartbeats 1600000 in
theorem aLk {l:List TM} {a:Option Addr} {cp B:Nat} {t rel:B8} (hl:rN B w a l) (hB:B≤w.heap.size) (h3:l.length≤100000) (hn:∀ ty ∈ l,ty.nm≠t) :
  Calls Try.prog 9 #[.slice a l.length cp,.string ⟨⟨t⟩⟩,.string ⟨⟨rel⟩⟩] w fun e w'=>e = .returned (.tuple #[.agg #[.string ⟨⟨[]⟩⟩,.slice none 0 0,.slice none 0 0],.bool false])∧dU w w':=by
 have hs1:=aK w (.cells #[.string ⟨#[]⟩,.slice none 0 0,.slice none 0 0] 32)
 have hcall:=bDf (rel:=rel) (cp:=cp) (hl.fV (hs1.fV hB)) (by have:=hs1.size; omega) h3 hn
 go_enter Try.func9,Try.ntmps9
 go_wp2_with (go_at_call 20; refine hcall.mono ?_; rintro e w5 ⟨rfl,rfl⟩)
 obtain ⟨X,hX⟩:∃ X,X=w.alloc (.cells #[.string ⟨⟨[]⟩⟩,.slice none 0 0,.slice none 0 0] 32):=⟨_,rfl⟩
 have hs:dU w X:=by rw [hX]; exact aK _ _
 have y0 : X.cell? ⟨w.heap.size,0,none⟩ = some (.string ⟨⟨[]⟩⟩):=by rw [hX]; go_simp
 have y1 : X.cell? ⟨w.heap.size,1,none⟩ = some (.slice none 0 0):=by rw [hX]; go_simp
 have y2 : X.cell? ⟨w.heap.size,2,none⟩ = some (.slice none 0 0):=by rw [hX]; go_simp
 rw [← hX]
 clear hX hcall
 have hld:Sem.run Try.prog (loadCellsFrom ⟨w.heap.size,0,none⟩ 0 3 #[]) X = .ok #[.string ⟨⟨[]⟩⟩,.slice none 0 0,.slice none 0 0] X :=
  run_loadCellsFrom_list _ X _ [.string ⟨⟨[]⟩⟩,.slice none 0 0,.slice none 0 0] 3 rfl (fun j v hj=>by
   match j,hj with
   | 0,hj=>cases hj; exact y0
   | 1,hj=>cases hj; exact y1
   | 2,hj=>cases hj; exact y2)
 have hres:∀ tmps:Array Value,tmps.getD 6 undef = .pointer (some ⟨w.heap.size,0,none⟩)→tmps.getD 7 undef = .bool false→Sem.run Try.prog (results Try.f9 tmps) X = .ok (.tuple #[.agg #[.string ⟨⟨[]⟩⟩,.slice none 0 0,.slice none 0 0],.bool false]) X:=fun tmps e e2=>by
  rw [results_cell_tmp (p:=6) (u:=7) (ty:=32) rfl tmps Try.prog X,e,e2]
  simp [asAddr,loadVar,Try.isAgg32,Try.sizeOf32,loadCells,hld,Result.andThen]
 exact ⟨rfl,_,hres _ rfl rfl,rfl,hs⟩
def a0w (w:World) (x:Value) (l:List Int):Prop:=aW (iU w.heap) w.heap (gZ l) x
theorem aRj {h:cJ} {b i:Nat} {y:Value} (e:bD h b i=some y):i < (iU h).hw b:=by
 obtain ⟨c,E,fr,h1,h2⟩:=b2d e
 show i < match h[b]? with | some (.cells c _ _)=>c.size | _=>0
 rw [h1]; exact h2
theorem a0w.of {κ:Ctx} {x:Value} {l:List Int} (r:aW κ w.heap (gZ l) x):a0w w x l:=aHc (fun b i y _ h2=>⟨aRj h2,h2⟩) r (mP (a2y l)).1
theorem a0w.fV {x:Value} {l:List Int} (h:a0w w x l) (hb:fH w.heap.size w w'):a0w w' x l:=aHc (fun b i y _ h2=>by
 have h3:bD w'.heap b i=some y:=by
  have hlt:=tT h2
  unfold bD at h2 ⊢
  rw [hb.block b hlt]; exact h2
 exact ⟨aRj h3,h3⟩) h (mP (a2y l)).1
theorem aN9 {x:Value} {l:List Int} (h:a0w w x l):Calls Try.prog 6 #[x] w fun e w'=>e = .returned (.string ⟨⟨wC l⟩⟩)∧fH w.heap.size w w':=by
 refine ((aGu.call _ _ (bHs l)).1 empty (iU w.heap) w [x] (aB6 _) (aJ.cons h aJ.nil)).mono ?_
 rintro e w' ⟨y,κ',rfl,hx,hv⟩
 exact ⟨by rw [gN hv],hx.os,hx.out.output,hx.out.size,fun i hi=>hx.le.same i hi a2g⟩
theorem aAr (w:World):Calls Try.prog 10 #[] w fun e w'=>e = .returned (.bool true)∧fH w.heap.size w w':=by
 refine ((aE7.call [] _ rfl).1 empty (iU w.heap) w [] (aB6 _) aJ.nil).mono ?_
 rintro e w' ⟨y,κ',rfl,hx,hv⟩
 exact ⟨by cases hv; rfl,hx.os,hx.out.output,hx.out.size,fun i hi=>hx.le.same i hi a2g⟩
theorem aRk {n:Nat} {κ':Ctx} (h:cD n aHe w κ' w'):fH n w w':=⟨h.os,h.output,h.size,fun k hk=>(h.free k hk (bH6 k)).2⟩
end Go.Fbs

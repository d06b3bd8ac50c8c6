import Derived.Test.YtngdbicnabbplaaPE
set_option linter.unusedSimpArgs false
set_option linter.unusedVariables false
set_option linter.unusedSectionVars false
set_option maxRecDepth 100000
namespace Go.Fbs
open Go.Proofs Go.RowKit Go.Maps
variable {n k:Nat} {l:List TM} {mk:Lit→Option Nat} {w w':World}
def eS (l:List TM) (q:Nm):List Wy:=match cA l q.1 q.2 with | none=>[] | some r=>wG l q.1 r
structure aDp (l:List TM) (o:List Nm):Prop where
 short:∀ q ∈ o,q.1.length≤1000∧q.2.length≤1000
 rel:∀ q ∈ o,∃ r,cA l q.1 q.2=some r∧a7g l q.1 r.steps
 ways:∀ q ∈ o,(eS l q).length≤2000000∧∀ v ∈ eS l q,v.1.length≤1000∧v.2.1.length≤1000∧v.2.2≤1
 len:o.length≤100000
 nodup:o.Nodup
structure aO9 (bw:Nat) (w:World) (l:List TM) (o:List Nm) (i:Nat) (mw:Mp):Prop where
 m:jH Try.prog 100 w bw i mw
 r:∀ q ∈ o.take i,∃ v,mw (dY q.1 q.2)=some v∧jN (bw+1) w v (eS l q)
theorem aO9.step {bw : Nat} {w w4 : World} {l : List TM} {o : List Nm} {j : Nat} {mw : Mp} {q : Nm} {v3 : Value} (hok : aDp l o) (hq : o[j]? = some q) (h : aO9 bw w l o j mw) {w3 : World} (hs : dU w w3) (hb : bw < w3.heap.size)
  (hr:jN (bw+1) w3 v3 (eS l q)) (hM:jH Try.prog 100 w4 bw (j+1) (kJ mw (dY q.1 q.2) v3)) (hG:w3.grownBy w4 (some bw)):aO9 bw w4 l o (j+1) (kJ mw (dY q.1 q.2) v3):=by
 have kept:∀ {u:Value} {ws:List Wy},jN (bw+1) w3 u ws→jN (bw+1) w4 u ws:=fun {u ws} h=>by
  refine World.ownsRow.kept h hG ?_
  cases hu:u.ownBlock with
  | none=>exact .inl rfl
  | some t =>
   refine .inr fun e=>?_
   have:=(World.ownsRow.lt h t hu).1
   cases e
   omega
 refine ⟨hM,fun p hp=>?_⟩
 rw [kG hq,List.mem_append,List.mem_singleton] at hp
 by_cases e:p=q
 ·subst e
  exact ⟨v3,by unfold kJ; rw [if_pos rfl],kept hr⟩
 ·have hp:p ∈ o.take j:=by
   rcases hp with hp | hp
   ·exact hp
   ·exact absurd hp e
  obtain ⟨u,hu,hru⟩:=h.r p hp
  refine ⟨u,?_,kept (j6 hru hs)⟩
  unfold kJ
  rw [if_neg fun hk=>e ?_]
  ·exact hu
  ·have h1:=hok.short p (List.mem_of_mem_take hp)
   have h2:=hok.short q (zyx hq)
   have:=aDk (by unfold maxLen; omega) (by unfold maxLen; omega) (by unfold maxLen; omega) (by unfold maxLen; omega) hk
   exact Prod.ext this.1 this.2
theorem aVg:Try.prog.underlying 122=some (.map 100 123):=Try.underlying122
theorem pB.b8w {W:Nm→List Wy} {L:Nat} {o:List Nm} {ρ:Rk} {R:Option Rk} (h:pB W L o ρ R) (hp:iX W L o (ρ,false)=none):R=none:=h.one (.bad hp)
theorem pB.b5o {W:Nm→List Wy} {L:Nat} {o:List Nm} {ρ ρ':Rk} {R:Option Rk} (h:pB W L o ρ R) (hp:iX W L o (ρ,false)=some (ρ',false)):R=some ρ':=h.one (.done hp)
theorem pB.b8x {W:Nm→List Wy} {L:Nat} {o:List Nm} {ρ ρ':Rk} {R:Option Rk} (h:pB W L o ρ R) (hp:iX W L o (ρ,false)=some (ρ',true)):pB W L o ρ' R:=by
 cases h with
 | bad h2=>rw [hp] at h2; cases h2
 | done h2=>rw [hp] at h2; cases h2
 | more h2 h3=>rw [hp] at h2; cases h2; exact h3
theorem drop_cons {α : Type} {l : List α} {j : Nat} {x : α} (h : l[j]? = some x) : l.drop j = x :: l.drop (j + 1):=by
 obtain ⟨hj,rfl⟩:=zzy.1 h
 exact List.drop_eq_getElem_cons hj
structure a4d (n k:Nat) (l:List TM) (o:List Nm) (W1 w:World) (ρ:Rk) (mk:Lit→Option Nat):Prop where
 gk:GKw n W1 w
 ex:∃ k',k'≤k+aAm mk o∧gL w n k' (a1c l) (a0e (bO l)) mk
 at_:aK7 mk ρ
theorem a4d.put {n k:Nat} {l:List TM} {o:List Nm} {W1 w:World} {ρ:Rk} {mk:Lit→Option Nat} (h:a4d n k l o W1 w ρ mk) {q:Nm} (hq:q ∈ o) (h1:q.1.length≤1000) (h2:q.2.length≤1000) (hk:k+o.length < maxLen) (v:Nat) :
  ∃ v0 st w1 w2,(Instr.mapEntry 94 (.map (some (n+2))) (.agg #[.string ⟨⟨q.1⟩⟩,.string ⟨⟨q.2⟩⟩])).run Try.prog w = .ok (.tuple #[v0,.int .i64 st]) w1 ∧
   (Instr.entryStore 94 (.map (some (n+2))) (.int .i64 st) (.int .i64 (v:Int))).run Try.prog w1 = .ok () w2∧a4d n k l o W1 w2 (wI ρ q v) (kJ mk (dY q.1 q.2) v)∧w.grownBy w2 (some (n+2)):=by
 obtain ⟨hg,⟨k',hk',hs⟩,ha⟩:=h
 have:=bCx mk o
 obtain ⟨v0,st,w1,w2,e1,e2,e3,e4⟩:=hs.bCw (by omega) (a:=q.1) (b:=q.2) (by unfold maxLen; omega) (by unfold maxLen; omega) v
 have hc:=b8v (mk:=mk) hq v
 refine ⟨v0,st,w1,w2,e1,e2,⟨hg.grown e4,⟨_,?_,e3⟩,ha.put h1 h2 v⟩,e4⟩
 split
 ·rename_i hh; rw [if_pos hh] at hc; omega
 ·rename_i hh; rw [if_neg hh] at hc; omega
theorem a4d.look {n k:Nat} {l:List TM} {o:List Nm} {W1 w:World} {ρ:Rk} {mk:Lit→Option Nat} (h:a4d n k l o W1 w ρ mk) {a b:B8} (h1:a.length≤1000) (h2:b.length≤1000) :
  (Instr.lookup 94 (.map (some (n+2))) (.agg #[.string ⟨⟨a⟩⟩,.string ⟨⟨b⟩⟩]) false).run Try.prog w = .ok (.int .i64 (ρ (a,b):Int)) w:=by
 obtain ⟨hg,⟨k',hk',hs⟩,ha⟩:=h
 have:=hs.aO5 (a:=a) (b:=b) (by unfold maxLen; omega) (by unfold maxLen; omega)
 rw [ha (a,b) h1 h2] at this
 exact this
theorem a4d.jI {n k:Nat} {l:List TM} {o:List Nm} {W1 w w':World} {ρ:Rk} {mk:Lit→Option Nat} (h:a4d n k l o W1 w ρ mk) (hs:dU w w'):a4d n k l o W1 w' ρ mk:=by
 obtain ⟨h1,⟨k',h2,h3⟩,h4⟩:=h
 exact ⟨h1.jI hs,⟨k',h2,h3.jI hs⟩,h4⟩
def aVh (n k:Nat) (l:List TM) (o:List Nm) (W1:World) (R:Option Rk) (v:Value) (w:World) (m:Nat):Prop :=
 ∃ (ρ:Rk) (b:Bool) (mk:Lit→Option Nat),v = .bool b∧a4d n k l o W1 w ρ mk∧(∀ x,ρ x≤o.length)∧(b=true→pB (eS l) o.length o ρ R)∧(b=false→R=some ρ)∧m=a9u o.length o ρ+(if b then 1 else 0)
set_option maxHeartbeats 6400000 in
theorem b5p {o:List Nm} {B:Nat} {v:Value} {R:Option Rk} (h:rO n l k mk w) (ho:w.ownsRow B 100 2 v o.length (qK o)) (hB:n+3 < B) (hok:aDp l o) (hk:k≤1000000) (hm0:∀ q:Nm,mk (dY q.1 q.2)=none)
  (hR:pB (eS l) o.length o (fun _=>0) R) :
  Calls Try.prog 34 #[.pointer (some ⟨n+3,0,none⟩),v] w fun e w'=>e = .returned (.bool R.isSome)∧GKw n w w'∧∀ ρ,R=some ρ→∃ k' mk',gL w' n k' (a1c l) (a0e (bO l)) mk'∧aK7 mk' ρ:=by
 have hmm:=@run_makeMap Try.prog
 obtain ⟨so,sc,rfl⟩:=yV ho
 have hn:=h.lt
 have hol:=hok.len
 go_enter Try.func34,Try.ntmps34
 go_wp2
 obtain ⟨bw,hbw⟩:∃ bw,bw=w.heap.size:=⟨_,rfl⟩
 obtain ⟨W1,hW1⟩:∃ W,W=w.alloc (.map #[] 0):=⟨_,rfl⟩
 have hs1:dU w W1:=by rw [hW1]; exact aK _ _
 have hg1:aO9 bw W1 l o 0 (fun _=>none):=⟨by rw [hW1,hbw]; exact jH.made w,fun q hq=>by cases hq⟩
 have hsz1:bw < W1.heap.size:=by rw [hW1,hbw]; simp
 rw [← hW1,← hbw]
 have hbwn:n+3 < bw:=by omega
 have hbwB:w.heap.size≤bw:=by omega
 clear hW1 hbw hmm
 go_loopw [17] (fun i wr=>∃ j:Nat,j≤o.length∧i = .int .i64 j∧dU w wr∧bw < wr.heap.size∧∃ mw,aO9 bw wr l o j mw) (fun i _=>o.length - (iG i).toNat)
 case atStart=>exact ⟨0,Nat.zero_le _,rfl,hs1,hsz1,_,hg1⟩
 case round =>
  clear hg1 hs1 hsz1
  obtain ⟨j,hj,rfl,hsr,hszr,mw,hgot⟩:=hrel
  have hj0:(0:Int)≤(j:Int):=zrz _
  by_cases hjn:j < o.length
  ·have hj1:(j:Int) < (o.length:Int):=by omega
   obtain ⟨q,hq⟩:=hU hjn
   have hqm:=zyx hq
   obtain ⟨r,hr,hst⟩:=hok.rel q hqm
   have hqs:=hok.short q hqm
   have how:=j6 ho hsr
   obtain ⟨g,cp',e,hg1,hg2,hg3⟩:=sR how (by omega)
   obtain ⟨rfl,rfl⟩:so=some ⟨g,0,none⟩∧sc=cp':=by simpa using e
   have c0 : wr.cell? ⟨g,j * 2,none⟩ = some (.string ⟨⟨q.1⟩⟩):=by rw [World.ownsRow.cellAt how _ (by omega)]; exact (wH hq).1
   have c1 : wr.cell? ⟨g,j * 2 + 1,none⟩ = some (.string ⟨⟨q.2⟩⟩):=by rw [World.ownsRow.cellAt how _ (by omega)]; exact (wH hq).2
   obtain ⟨y,hy⟩:∃ y,y=wr.heap.size:=⟨_,rfl⟩
   obtain ⟨X,hX⟩:∃ X,X=wr.alloc (.cells #[.string ⟨⟨q.1⟩⟩,.string ⟨⟨q.2⟩⟩] 100):=⟨_,rfl⟩
   have hXB : X.heap[y]? = some (.cells #[.string ⟨⟨q.1⟩⟩,.string ⟨⟨q.2⟩⟩] 100 (0,0)):=by rw [hX,hy]; exact heap_alloc_new _ _
   have x0 : X.cell? ⟨y,0,none⟩ = some (.string ⟨⟨q.1⟩⟩):=Lib.cell_of_heap hXB ..
   have x1 : X.cell? ⟨y,1,none⟩ = some (.string ⟨⟨q.2⟩⟩):=Lib.cell_of_heap hXB ..
   have hsX:dU wr X:=by rw [hX]; exact aK _ _
   have hyX:y < X.heap.size:=(zsz.1 hXB).1
   go_wp2
   rw [← hX,← hy]
   clear hX hy c0 c1
   have hwl:eS l q=wG l q.1 r:=by unfold eS; rw [hr]
   have hcall:=b5j ((h.jI (hsr.trans hsX)).jI (eZ X)) hqs.1 hqs.2 hr hst
   rw [← hwl] at hcall
   have hkey:=a3d (a:=q.1) (b:=q.2) (by unfold maxLen; omega) (by unfold maxLen; omega)
   go_region_law (first
    | (go_simp; go_at_call 55; refine hcall.mono ?_; rintro e w3 ⟨hs3,v3,rfl,hr3⟩; have hs3':dU X w3:=(eZ X).trans hs3; have y0:=hs3'.cell x0; have y1:=hs3'.cell x1; obtain ⟨w4,hP,hM4,hG4⟩:=(hgot.m.same ((hsX.trans hs3').same bw hszr)).put aIf aVg (by unfold maxLen; omega) hkey trivial (val:=v3); unfold aG8 at hP))
   all_goals
    go_wp2
    refine ⟨⟨j+1,by omega,by simp,wE (hsr.trans (hsX.trans hs3')) hG4 (fun t e=>by cases e; exact hbwB),?_,_,aO9.step hok hq hgot (hsX.trans hs3') ?_ (zL hr3 ?_) hM4 hG4⟩,by simp [iG]; omega⟩
    ·have:=hG4.size; have:=hs3'.size; have:=hsX.size; omega
    ·have:=hs3'.size; have:=hsX.size; omega
    ·show bw+1≤X.heap.size; have:=hsX.size; omega
  ·have hj1:¬ (j:Int) < (o.length:Int):=by omega
   have htk:o.take j=o:=List.take_of_length_le (by omega)
   have hgm:=hgot.m
   have hgr:=hgot.r
   rw [htk] at hgr
   clear hgot
   go_wp2
   have h1:=h.jI hsr
   have hgk0:GKw n w wr:=(GKw.refl n w).jI hsr
   have hin:a4d n k l o wr wr (fun _=>0) mk:=⟨GKw.refl n wr,⟨k,by omega,h1.sch⟩,fun q _ _=>by rw [hm0]; rfl⟩
   have ho1:=j6 ho hsr
   have hBs:w.heap.size≤wr.heap.size:=hsr.size
   obtain ⟨W1,hW1⟩:∃ W1,W1=wr:=⟨_,rfl⟩
   rw [← hW1] at h1 hgk0 hin ho1 hBs hgm hgr hszr ⊢
   clear hW1 hsr ho hj0 hj1 hjn hj htk
   have hlt1:=h1.lt
   go_loopw [8] (fun v wr=>∃ m,aVh n k l o W1 R v wr m) (fun v wr=>least (aVh n k l o W1 R v wr))
   case atStart=>exact ⟨_,fun _=>0,true,mk,rfl,hin,fun _=>Nat.zero_le _,fun _=>hR,(by intro e; cases e),rfl⟩
   case round =>
    clear hin hR hm0
    have hsp:=aDo hrel
    clear hrel
    obtain ⟨ρ0,b0,mk0,rfl,hin,hlow,hRt,hRf,hMe⟩:=hsp
    cases b0 with
    | false =>
     obtain rfl:=hRf rfl
     obtain ⟨hgk,⟨k',hk',hsch⟩,hat⟩:=hin
     go_wp2
     go_ret
     refine ⟨rfl,⟨hgk.os.trans hgk0.os,hgk.output.trans hgk0.output,Nat.le_trans hgk0.size hgk.size,fun b hb hne=>(hgk.block b (zuz hb hgk0.size) hne).trans (hgk0.block b hb hne)⟩,k',mk0,hsch,hat⟩
    | true =>
     have hR:=hRt rfl
     clear hRt hRf
     have hMe:least (aVh n k l o W1 R (.bool true) wr)=a9u o.length o ρ0+1:=hMe
     obtain ⟨P,hP⟩:∃ P,iX (eS l) o.length o (ρ0,false)=P:=⟨_,rfl⟩
     go_wp2
     obtain ⟨wo,hwo⟩:∃ wo,wo=wr:=⟨_,rfl⟩
     subst hwo
     go_loopw [8,30] (fun v i wr=>∃ (j:Nat) (ρ:Rk) (b:Bool) (mk:Lit→Option Nat),j≤o.length∧i = .int .i64 j∧v = .bool b∧a4d n k l o W1 wr ρ mk∧(∀ x,ρ x≤o.length)∧iX (eS l) o.length (o.drop j) (ρ,b)=P) (fun _ i _=>o.length - (iG i).toNat)
     case atStart=>exact ⟨0,ρ0,false,mk0,Nat.zero_le _,rfl,rfl,hin,hlow,hP⟩
     case round =>
      clear hin hlow
      obtain ⟨i,ρ,b,mk',hi,rfl,rfl,hin,hlow,hPi⟩:=hrel
      have hi0:(0:Int)≤(i:Int):=zrz _
      by_cases hin':i < o.length
      ·have hi1:(i:Int) < (o.length:Int):=by omega
       obtain ⟨q,hq⟩:=hU hin'
       have hqm:=zyx hq
       have hqs:=hok.short q hqm
       obtain ⟨hwl,hws⟩:=hok.ways q hqm
       rw [drop_cons hq] at hPi
       obtain ⟨hgk,⟨k',hk',hsch⟩,hat⟩:=id hin
       have how:=b5n ho1 hgk (by omega)
       obtain ⟨g,cp',e,hg1,hg2,hg3⟩:=sR how (by omega)
       obtain ⟨rfl,rfl⟩:so=some ⟨g,0,none⟩∧sc=cp':=by simpa using e
       have c0 : wr.cell? ⟨g,i * 2,none⟩ = some (.string ⟨⟨q.1⟩⟩):=by rw [World.ownsRow.cellAt how _ (by omega)]; exact (wH hq).1
       have c1 : wr.cell? ⟨g,i * 2 + 1,none⟩ = some (.string ⟨⟨q.2⟩⟩):=by rw [World.ownsRow.cellAt how _ (by omega)]; exact (wH hq).2
       obtain ⟨vq,hvq,hrq⟩:=hgr q hqm
       obtain ⟨aq,cq,rfl⟩:=yV hrq
       have hmw:jH Try.prog 100 wr bw _ mw:=hgm.same (hgk.block bw hszr (by omega))
       have hlkw:=(hmw.same ((aK wr (.cells #[.string ⟨⟨q.1⟩⟩,.string ⟨⟨q.2⟩⟩] 100)).same bw (by have:=hgk.size; omega))).look aIf aVg (bCr _) (a3d (a:=q.1) (b:=q.2) (by unfold maxLen; omega) (by unfold maxLen; omega)) trivial
       rw [hvq] at hlkw
       unfold aG8 at hlkw
       replace hlkw:(Instr.lookup 122 (.map (some bw)) (.agg #[.string ⟨⟨q.1⟩⟩,.string ⟨⟨q.2⟩⟩]) false).run Try.prog (wr.alloc (.cells #[.string ⟨⟨q.1⟩⟩,.string ⟨⟨q.2⟩⟩] 100)) = .ok (.slice aq (eS l q).length cq) (wr.alloc (.cells #[.string ⟨⟨q.1⟩⟩,.string ⟨⟨q.2⟩⟩] 100)):=hlkw
       obtain ⟨y,hy⟩:∃ y,y=wr.heap.size:=⟨_,rfl⟩
       obtain ⟨X,hX⟩:∃ X,X=wr.alloc (.cells #[.string ⟨⟨q.1⟩⟩,.string ⟨⟨q.2⟩⟩] 100):=⟨_,rfl⟩
       have hXB : X.heap[y]? = some (.cells #[.string ⟨⟨q.1⟩⟩,.string ⟨⟨q.2⟩⟩] 100 (0,0)):=by rw [hX,hy]; exact heap_alloc_new _ _
       have hyX:y < X.heap.size:=(zsz.1 hXB).1
       have hinX:a4d n k l o W1 X ρ mk':=by rw [hX]; exact hin.jI (aK _ _)
       have hyn:n+3 < y:=by have:=hgk.size; omega
       go_wp2
       rw [← hX,← hy]
       clear hX hy c0 c1 hlkw hmw hin hat hsch how
       obtain ⟨T,hT⟩:∃ T,a9t (eS l) (ρ,b) q=T:=⟨_,rfl⟩
       have hPT:(if o.length < T.1 q then none else iX (eS l) o.length (o.drop (i+1)) T)=P:=by rw [← hT]; exact hPi
       clear hPi
       obtain ⟨wi,hwi⟩:∃ wi,wi=wr:=⟨_,rfl⟩
       subst hwi
       go_loopw [8,38] (fun v i wr=>∃ (j : Nat) (ρ : Rk) (b : Bool) (mk : Lit → Option Nat),j ≤ (eS l q).length ∧ i = .int .i64 j ∧ v = .bool b ∧ a4d n k l o W1 wr ρ mk ∧ y < wr.heap.size ∧ wr.heap[y]? = some (.cells #[.string ⟨⟨q.1⟩⟩,.string ⟨⟨q.2⟩⟩] 100 (0,0)) ∧ (∀ x,x ≠ q → ρ x ≤ o.length) ∧ ρ q ≤ o.length + j ∧ ((eS l q).drop j).foldl (iN q) (ρ,b) = T) (fun _ i _=>(eS l q).length - (iG i).toNat)
       case atStart=>exact ⟨0,ρ,b,mk',Nat.zero_le _,rfl,rfl,hinX,hyX,hXB,fun x _=>hlow x,hlow q,hT⟩
       case round =>
        clear hinX hyX hXB hlow hT
        obtain ⟨j,ρ,b,mk',hj,rfl,rfl,hin,hyr,hyB,hlow,hlq,hTj⟩:=hrel
        have hj0:(0:Int)≤(j:Int):=zrz _
        have y0 : wr.cell? ⟨y,0,none⟩ = some (.string ⟨⟨q.1⟩⟩):=Lib.cell_of_heap hyB ..
        have y1 : wr.cell? ⟨y,1,none⟩ = some (.string ⟨⟨q.2⟩⟩):=Lib.cell_of_heap hyB ..
        by_cases hjn:j < (eS l q).length
        ·have hj1:(j:Int) < ((eS l q).length:Int):=by omega
         obtain ⟨⟨va,vb,vt⟩,hv⟩:=hU hjn
         obtain ⟨hva,hvb,hvt⟩:=hws _ (zyx hv)
         dsimp only at hva hvb hvt
         rw [drop_cons hv,List.foldl_cons] at hTj
         have hrw:=b5n hrq hin.gk (by omega)
         obtain ⟨gq,cpq,e,hgq1,hgq2,hgq3⟩:=sR hrw (by omega)
         obtain ⟨rfl,rfl⟩:aq=some ⟨gq,0,none⟩∧cq=cpq:=by simpa using e
         have d0 : wr.cell? ⟨gq,j * 3,none⟩ = some (.string ⟨⟨va⟩⟩):=by rw [World.ownsRow.cellAt hrw _ (by omega)]; exact (a8e hv).1
         have d1 : wr.cell? ⟨gq,j * 3 + 1,none⟩ = some (.string ⟨⟨vb⟩⟩):=by rw [World.ownsRow.cellAt hrw _ (by omega)]; exact (a8e hv).2.1
         have d2 : wr.cell? ⟨gq,j * 3 + 2,none⟩ = some (.int .i64 (vt : Int)):=by rw [World.ownsRow.cellAt hrw _ (by omega)]; exact (a8e hv).2.2
         obtain ⟨z,hz⟩:∃ z,z=wr.heap.size:=⟨_,rfl⟩
         obtain ⟨Z,hZ⟩:∃ Z,Z=wr.alloc (.cells #[.string ⟨⟨va⟩⟩,.string ⟨⟨vb⟩⟩,.int .i64 (vt:Int)] 126):=⟨_,rfl⟩
         have hZB : Z.heap[z]? = some (.cells #[.string ⟨⟨va⟩⟩,.string ⟨⟨vb⟩⟩,.int .i64 (vt : Int)] 126 (0,0)):=by rw [hZ,hz]; exact heap_alloc_new _ _
         have hzZ:z < Z.heap.size:=(zsz.1 hZB).1
         have hsZ:dU wr Z:=by rw [hZ]; exact aK _ _
         have z0 : Z.cell? ⟨z,0,none⟩ = some (.string ⟨⟨va⟩⟩):=Lib.cell_of_heap hZB ..
         have z1 : Z.cell? ⟨z,1,none⟩ = some (.string ⟨⟨vb⟩⟩):=Lib.cell_of_heap hZB ..
         have z2 : Z.cell? ⟨z,2,none⟩ = some (.int .i64 (vt : Int)):=Lib.cell_of_heap hZB ..
         have yZ : Z.heap[y]? = some (.cells #[.string ⟨⟨q.1⟩⟩,.string ⟨⟨q.2⟩⟩] 100 (0,0)):=(hsZ.same y hyr).trans hyB
         have hyZ:y < Z.heap.size:=by have:=hsZ.size; omega
         have y0':=hsZ.cell y0
         have y1':=hsZ.cell y1
         have hinZ:=hin.jI hsZ
         have hlk1:=(hinZ.jI (eZ Z)).look hva hvb
         have hlk2:=(hinZ.jI ((eZ Z).trans (eZ _))).look hqs.1 hqs.2
         obtain ⟨_,⟨_,_,hschZ⟩,_⟩:=id hinZ
         have hC2:=hschZ.c2
         have hnZ:n+3 < Z.heap.size:=hschZ.lt
         have hto:ρ (va,vb)≤o.length+j:=by
          by_cases e:(va,vb)=q
          ·rw [e]; exact hlq
          ·have:=hlow _ e; omega
         have hsum:(ρ (va,vb):Int)+(vt:Int)≤9223372036854775807:=by omega
         have hsum0:(0:Int)≤(ρ (va,vb):Int)+(vt:Int):=by omega
         have hstep:iN q (ρ,b) (va,vb,vt)=if ρ (va,vb)+vt > ρ q then (wI ρ q (ρ (va,vb)+vt),true) else (ρ,b):=rfl
         go_wp2
         rw [← hZ,← hz]
         clear hZ hz d0 d1 d2 hyB y0 y1 hschZ
         by_cases hc:ρ (va,vb)+vt > ρ q
         ·rw [hstep,if_pos hc] at hTj
          have hc1:(ρ (q.1,q.2):Int) < (ρ (va,vb):Int)+(vt:Int):=by show (ρ q:Int) < _; omega
          obtain ⟨v0,st,w1,w2,hE1,hE2,hin2,hG⟩:=(hinZ.jI (((eZ Z).trans (eZ _)).trans (eZ _))).put hqm hqs.1 hqs.2 (by unfold maxLen; omega) (ρ (va,vb)+vt)
          rw [Int.natCast_add] at hE2
          go_region
          go_wp2
          go_region
          go_wp2
          go_region
          all_goals
           go_wp2
           refine ⟨⟨j+1,_,true,_,by omega,by simp,rfl,hin2,?_,(hG.block y hyZ (fun e=>by cases e; omega)).trans yZ,fun x hx=>?_,?_,hTj⟩,by simp [iG]; omega⟩
           ·have:=hG.size
            have e:Z.drew.drew.drew.heap.size=Z.heap.size:=rfl
            omega
           ·unfold wI
            rw [if_neg hx]
            exact hlow x hx
           ·unfold wI
            rw [if_pos rfl]
            omega
         ·rw [hstep,if_neg hc] at hTj
          have hc1:¬ (ρ (q.1,q.2):Int) < (ρ (va,vb):Int)+(vt:Int):=by show ¬ (ρ q:Int) < _; omega
          go_region
          go_wp2
          go_region
          all_goals
           go_wp2
           exact ⟨⟨j+1,ρ,b,mk',by omega,by simp,rfl,hinZ.jI ((eZ Z).trans (eZ _)),hyZ,yZ,hlow,by omega,hTj⟩,by simp [iG]; omega⟩
        ·have hj1:¬ (j:Int) < ((eS l q).length:Int):=by omega
         rw [List.drop_eq_nil_of_le (by omega)] at hTj
         have hTe:(ρ,b)=T:=hTj
         subst hTe
         dsimp only at hPT
         have hlk:=(hin.jI (eZ wr)).look hqs.1 hqs.2
         obtain ⟨hgk,⟨k',hk',hsch⟩,hat⟩:=id hin
         have hC2:=hsch.c2
         have hnr:n+3 < wr.heap.size:=hsch.lt
         by_cases hc:o.length < ρ q
         ·have hc1:(o.length:Int) < (ρ (q.1,q.2):Int):=by show _ < (ρ q:Int); omega
          rw [if_pos hc] at hPT
          have hRn:=hR.b8w (hP.trans hPT.symm)
          clear hR hP hPT hMe
          subst hRn
          go_wp2
          go_region
          all_goals
           go_wp2
           go_ret
           refine ⟨rfl,⟨hgk.os.trans hgk0.os,hgk.output.trans hgk0.output,Nat.le_trans hgk0.size hgk.size,fun b hb hne=>(hgk.block b (zuz hb hgk0.size) hne).trans (hgk0.block b hb hne)⟩,?_⟩
           intro ρ e
           cases e
         ·have hc1:¬ (o.length:Int) < (ρ (q.1,q.2):Int):=by show ¬ _ < (ρ q:Int); omega
          rw [if_neg hc] at hPT
          go_wp2
          go_region
          all_goals
           go_wp2
           refine ⟨⟨i+1,ρ,b,mk',by omega,by simp,rfl,hin.jI (eZ wr),fun x=>?_,hPT⟩,by simp [iG]; omega⟩
           by_cases e:x=q
           ·subst e; omega
           ·exact hlow x e
      ·have hi1:¬ (i:Int) < (o.length:Int):=by omega
       rw [List.drop_eq_nil_of_le (by omega)] at hPi
       have hPe:iX (eS l) o.length o (ρ0,false)=some (ρ,b):=hP.trans hPi.symm
       go_wp2
       have hΦ : aVh n k l o W1 R (.bool b) wr (a9u o.length o ρ+(if b then 1 else 0)):=⟨ρ,b,mk',rfl,hin,hlow,fun e=>by subst e; exact hR.b8x hPe,fun e=>by subst e; exact hR.b5o hPe,rfl⟩
       refine ⟨⟨_,hΦ⟩,Nat.lt_of_le_of_lt (least_le hΦ) ?_⟩
       show _ < least (aVh n k l o W1 R (.bool true) wo)
       rw [hMe]
       cases b with
       | true=>have:=aO8 hok.nodup hPe; simp only [if_true]; omega
       | false =>
        have:a9u o.length o ρ≤a9u o.length o ρ0:=b5m fun x _=>by have:=aIg x hPe; dsimp only at this; omega
        simp only [zuy,if_false]
        omega
end Go.Fbs

namespace Go.Fbs
open Go.Proofs Go.RowKit Go.Maps
variable {w w':World}
def tB (l:List TM):List (B8×RM)→Int
 | []=>0
 | p::r=>if kH l p.1 p.2=0 then tB l r else kH l p.1 p.2
def fA (l:List TM):Int:=tB l (bO l)
def dZ (l:List TM):List Nm:=(bO l).map fun p=>(p.1,p.2.nm)
theorem aNf {l:List TM} : ∀ {xs ys:List (B8×RM)} {p:B8×RM},(∀ y ∈ xs,kH l y.1 y.2=0)→kH l p.1 p.2≠0→tB l (xs++p::ys)=kH l p.1 p.2
 | [],ys,p,_,h=>by unfold tB; rw [List.nil_append]; simp only [if_neg h]
 | x::xs,ys,p,hx,h=>by
  rw [List.cons_append]
  unfold tB
  rw [if_pos (hx x (.head _))]
  exact aNf (fun y hy=>hx y (.tail _ hy)) h
theorem yW {l:List TM} : ∀ {xs:List (B8×RM)},(∀ y ∈ xs,kH l y.1 y.2=0)→tB l xs=0
 | [],_=>rfl
 | x::xs,hx=>by
  unfold tB
  rw [if_pos (hx x (.head _))]
  exact yW fun y hy=>hx y (.tail _ hy)
theorem aJn {l:List TM} : ∀ {xs:List (B8×RM)},tB l xs=0→∀ y ∈ xs,kH l y.1 y.2=0
 | x::xs,h,y,hy=>by
  unfold tB at h
  split at h
  ·rename_i h0
   rcases List.mem_cons.1 hy with rfl | hy
   ·exact h0
   ·exact aJn h y hy
  ·rename_i h0; exact absurd h h0
theorem b5q (w : World) (a b : ByteArray) : ∀ j u,[Value.string a,.string b][j]? = some u → (w.alloc (.cells #[.string a,.string b] 100)).cell? ((⟨w.heap.size,0,none⟩ : Addr).add j) = some u :=
 World.news_of_block (cs:=#[.string a,.string b]) (heap_alloc_new w _)
theorem Try.bCy : (Try.prog.info? 100).map (fun i=>(i.zero,i.size,i.bytes)) = some (some (.agg #[.string ⟨#[]⟩,.string ⟨#[]⟩]),2,32):=by kernel_rfl
structure bFq (l:List TM) (R:Option Rk) (n:Nat) (w:World) (e:Ending) (w':World):Prop where
 fV:fH n w w'
 bad:fA l≠0→e = .returned (.tuple #[.pointer none,.int .i64 (fA l)])
 loop:fA l=0→R=none→e = .returned (.tuple #[.pointer none,.int .i64 14])
 pC:fA l=0→∀ ρ,R=some ρ→e = .returned (.tuple #[xA n,.int .i64 0])∧∃ k' mk',gL w' n k' (a1c l) (a0e (bO l)) mk'∧aK7 mk' ρ
theorem aQy {l:List TM} {t:TM} {r:RM} (ht:t ∈ l) (hr:r ∈ t.aS):(t.nm,r) ∈ bO l:=List.mem_flatMap.2 ⟨t,ht,List.mem_map.2 ⟨r,hr,rfl⟩⟩
theorem b8y {l : List TM} {k j : Nat} {t : TM} {r : RM} (ht : l[k]? = some t) (hr : t.aS[j]? = some r) : ∃ ys,bO l = (bO (l.take k) ++ (t.aS.take j).map fun r=>(t.nm,r)) ++ (t.nm,r) :: ys:=by
 have h1:l=l.take k++t::l.drop (k+1):=by
  conv=>lhs; rw [← List.take_append_drop k l,drop_cons ht]
 have h2:t.aS=t.aS.take j++r::t.aS.drop (j+1):=by
  conv=>lhs; rw [← List.take_append_drop j t.aS,drop_cons hr]
 refine ⟨(t.aS.drop (j+1)).map (fun r=>(t.nm,r))++bO (l.drop (k+1)),?_⟩
 have h3:bO (t::l.drop (k+1))=qB t++bO (l.drop (k+1)):=rfl
 have h4:qB t=(t.aS.take j).map (fun r=>(t.nm,r))++(t.nm,r)::(t.aS.drop (j+1)).map (fun r=>(t.nm,r)):=by
  unfold qB
  conv=>lhs; rw [h2]
  rw [List.map_append,zsx]
 conv=>lhs; rw [h1]
 rw [show bO (l.take k++t::l.drop (k+1))=bO (l.take k)++bO (t::l.drop (k+1)) from by simp [bO],h3,h4]
 simp
theorem b2a {base y : Nat} {e e' : TypeId} {size n : Nat} {v : Value} {xs : List Value} {cs : Array Value} {fr : Nat × Nat} (hy : w.heap[y]? = some (.cells cs e' fr)) (ho : w.ownsRow base e size v n xs) (hne : e' ≠ e) (hg : w.grownBy w' v.ownBlock) : w'.heap[y]? = some (.cells cs e' fr):=by
 refine (hg.block y (zsz.1 hy).1 fun h=>?_).trans hy
 obtain ⟨_,cur,hc⟩:=aK4 ho h.symm
 rw [hy] at hc
 simp only [zzz,Obj.cells.injEq] at hc
 exact hne hc.2.1
theorem b5r {l : List TM} {k : Nat} {t : TM} (ht : l[k]? = some t) : dZ (l.take (k + 1)) = dZ (l.take k) ++ t.aS.map fun r=>(t.nm,r.nm):=by
 unfold dZ
 rw [kG ht,a63,List.map_append]
 unfold qB
 rw [List.map_map]
 rfl
set_option maxHeartbeats 3200000 in
theorem aY4 {l:List TM} {a:Option Addr} {cp n:Nat} {R:Option Rk} (hn:n=w.heap.size) (hf:a3e l) (hl:rN n w a l)
  (hok:fA l=0→aDp l (dZ l).reverse) (hR:fA l=0→pB (eS l) (dZ l).reverse.length (dZ l).reverse (fun _=>0) R) :
  Calls Try.prog 17 #[.slice a l.length cp] w fun e w'=>bFq l R n w e w':=by
 have hmm:=@run_makeMap Try.prog
 obtain ⟨i0,hi,hz0,hz1,hz2⟩:=info_parts Try.bCy
 have hfew:=hf.few
 have hW4:gL ((((w.alloc (.map #[] 0)).alloc (.map #[] 0)).alloc (.map #[] 0)).alloc (.cells #[.map (some w.heap.size),.map (some (w.heap.size+1)),.map (some (w.heap.size+1+1))] 96)) n 0 (fun _=>none) (fun _=>none) (fun _=>none):=by
  subst hn
  have s1:(w.alloc (.map #[] 0)).heap.size=w.heap.size+1:=by simp
  have s2:((w.alloc (.map #[] 0)).alloc (.map #[] 0)).heap.size=w.heap.size+2:=by simp
  have s3:(((w.alloc (.map #[] 0)).alloc (.map #[] 0)).alloc (.map #[] 0)).heap.size=w.heap.size+3:=by simp
  refine ⟨by rw [← s3]; exact heap_alloc_new _ _,?_,?_,?_⟩
  ·exact (jH.made (P:=Try.prog) (K:=9) w).same ((heap_alloc_old _ _ (by rw [s3]; omega)).trans ((heap_alloc_old _ _ (by rw [s2]; omega)).trans (heap_alloc_old _ _ (by rw [s1]; omega))))
  ·have:=jH.made (P:=Try.prog) (K:=100) (w.alloc (.map #[] 0))
   rw [s1] at this
   exact this.same ((heap_alloc_old _ _ (by rw [s3]; omega)).trans (heap_alloc_old _ _ (by rw [s2]; omega)))
  ·have:=jH.made (P:=Try.prog) (K:=100) ((w.alloc (.map #[] 0)).alloc (.map #[] 0))
   rw [s2] at this
   exact this.same (heap_alloc_old _ _ (by rw [s3]; omega))
 have hs4:dU w ((((w.alloc (.map #[] 0)).alloc (.map #[] 0)).alloc (.map #[] 0)).alloc (.cells #[.map (some w.heap.size),.map (some (w.heap.size+1)),.map (some (w.heap.size+1+1))] 96)):=(((aK _ _).trans (aK _ _)).trans (aK _ _)).trans (aK _ _)
 have hl4:=hl.fV (hs4.fV (by omega))
 have hcol:=aU3 (cp:=cp) hf hl4 hW4
 go_enter Try.func17,Try.ntmps17
 go_wp2_with (go_at_call 31; refine (show Calls Try.prog 31 #[.pointer (some ⟨w.heap.size+1+1+1,0,none⟩),.slice a l.length cp] _ _ from by rw [show w.heap.size+1+1+1=n+3 by omega]; exact hcol).mono ?_; rintro e w5 ⟨rfl,hb5,k5,hk5,hs5⟩)
 have hb5':fH n w w5:=(hs4.fV (by omega)).trans hb5
 have hl5:=hl.fV hb5'
 have henv:rO n l k5 (fun _=>none) w5:=⟨hf,hs5,fun p hp=>by
  obtain ⟨t,ht,_,hr⟩:=jF hp
  exact (hl5.all t ht).all _ hr⟩
 rw [show w.heap.size+1+1+1=n+3 by omega]
 have hn5:=hs5.lt
 clear hcol hl4 hs4 hW4 hb5 hmm hn
 go_loopw [6,25] (fun v i wr=>∃ k:Nat,k≤l.length∧i = .int .i64 k∧dU w5 wr∧(∃ ad c,v = .slice ad (dZ (l.take k)).length c)∧wr.ownsRow w5.heap.size 100 2 v (dZ (l.take k)).length (qK (dZ (l.take k)))∧∀ p ∈ bO (l.take k),kH l p.1 p.2=0) (fun _ i _=>l.length - (iG i).toNat)
 case atStart=>exact ⟨0,Nat.zero_le _,rfl,dU.refl _,⟨none,0,rfl⟩,World.ownsRow_nil _ _ _ _,fun p hp=>by cases hp⟩
 case round =>
  obtain ⟨k,hk,rfl,hsr,⟨ad,c,rfl⟩,hown,hnm⟩:=hrel
  have hk0:(0:Int)≤(k:Int):=zrz _
  by_cases hkn:k < l.length
  ·have hk1:(k:Int) < (l.length:Int):=by omega
   obtain ⟨t,ht⟩:=hU hkn
   have htm:=zyx ht
   have hrl:t.aS.length≤100000:=by have:=b5f htm; omega
   obtain ⟨hts,htr⟩:=hf.short t htm
   obtain ⟨b,off,rfl,hb,c0,c1⟩:=(hl5.fV (hsr.fV (by omega))).r.b10 (nE ht)
   have hbr:b < wr.heap.size:=by have:=hsr.size; omega
   have hrows:=(hl5.all t htm)
   have hpa:=fun (j : Nat) (r : RM) (hr : t.aS[j]? = some r)=>b8y ht hr
   obtain ⟨y,hy⟩:∃ y,y=wr.heap.size:=⟨_,rfl⟩
   obtain ⟨tn,aS,ra,rc⟩:=t
   dsimp only at c0 c1 hts htr hrl hpa
   obtain ⟨X,hX⟩:∃ X,X=wr.alloc (.cells #[.string ⟨⟨tn⟩⟩,.slice ra aS.length rc] 28):=⟨_,rfl⟩
   have hXB : X.heap[y]? = some (.cells #[.string ⟨⟨tn⟩⟩,.slice ra aS.length rc] 28 (0,0)):=by rw [hX,hy]; exact heap_alloc_new _ _
   have hyX:y < X.heap.size:=(zsz.1 hXB).1
   have hsX:dU wr X:=by rw [hX]; exact aK _ _
   have x0 : X.cell? ⟨y,0,none⟩ = some (.string ⟨⟨tn⟩⟩):=Lib.cell_of_heap hXB ..
   have x1 : X.cell? ⟨y,1,none⟩ = some (.slice ra aS.length rc):=Lib.cell_of_heap hXB ..
   have hownX:=j6 hown hsX
   go_wp2
   rw [← hX,← hy]
   have hsW:dU w5 X:=hsr.trans hsX
   clear hX hy c0 c1 hown hsr hsX
   obtain ⟨wo,hwo⟩:∃ wo,wo=wr:=⟨_,rfl⟩
   subst hwo
   go_loopw [6,32] (fun v i wr=>∃ j : Nat,j ≤ aS.length ∧ i = .int .i64 j ∧ dU w5 wr ∧ y < wr.heap.size ∧ wr.heap[y]? = some (.cells #[.string ⟨⟨tn⟩⟩,.slice ra aS.length rc] 28 (0,0)) ∧ (∃ ad c,v = .slice ad (dZ (l.take k) ++ (aS.take j).map fun r=>(tn,r.nm)).length c) ∧ wr.ownsRow w5.heap.size 100 2 v (dZ (l.take k) ++ (aS.take j).map fun r=>(tn,r.nm)).length (qK (dZ (l.take k) ++ (aS.take j).map fun r=>(tn,r.nm))) ∧ ∀ r ∈ aS.take j,kH l tn r = 0) (fun _ i _=>aS.length - (iG i).toNat)
   case atStart=>exact ⟨0,Nat.zero_le _,rfl,hsW,hyX,hXB,⟨ad,c,by simp⟩,by simpa using hownX,fun r hr=>by cases hr⟩
   case round =>
    clear hownX hsW hyX hXB x0 x1
    obtain ⟨j,hj,rfl,hsr,hyr,hyB,⟨ad,c,rfl⟩,hown,hnr⟩:=hrel
    have hj0:(0:Int)≤(j:Int):=zrz _
    by_cases hjn:j < aS.length
    ·have hj1:(j:Int) < (aS.length:Int):=by omega
     obtain ⟨r,hr⟩:=hU hjn
     have hrm:=zyx hr
     obtain ⟨hrs1,hrs2,hrs3,hrs4⟩:=htr r hrm
     have hsb:fH n w5 wr:=hsr.fV (by omega)
     obtain ⟨b2,off2,rfl,hb2,d0,d1,d2⟩:=(hrows.fV hsb).r.aDl (nE hr)
     have hb2r:b2 < wr.heap.size:=by have:=hsr.size; omega
     have y0 : wr.cell? ⟨y,0,none⟩ = some (.string ⟨⟨tn⟩⟩):=Lib.cell_of_heap hyB ..
     have hpe:=hpa j r hr
     have hS:(dZ (l.take k)++(aS.take (j+1)).map fun r=>(tn,r.nm))=(dZ (l.take k)++(aS.take j).map fun r=>(tn,r.nm))++[(tn,r.nm)]:=by rw [kG hr,List.map_append,zty]; rfl
     have hSl:(dZ (l.take k)++(aS.take j).map fun r=>(tn,r.nm)).length≤200000:=by
      have h1:=aNb l k
      rw [zwy,zsy,List.length_take]
      unfold dZ
      rw [zsy]
      omega
     generalize (dZ (l.take k)++(aS.take j).map fun r=>((tn,r.nm):Nm))=S at hown hS hSl
     have hZs:=aK wr (.cells #[.string ⟨⟨r.nm⟩⟩,.slice r.sa r.aR.length r.sc,.slice r.xa r.steps.length r.xc] 32)
     have hcall:=b13 (typ:=tn) (r:=r) ((henv.jI hsr).jI hZs) hts ((henv.all _ (aQy htm hrm)).fV ((hsr.trans hZs).fV (by omega))) hrs2 hrs3 hrs4
     obtain ⟨z,hz⟩:∃ z,z=wr.heap.size:=⟨_,rfl⟩
     obtain ⟨Z,hZ⟩:∃ Z,Z=wr.alloc (.cells #[.string ⟨⟨r.nm⟩⟩,.slice r.sa r.aR.length r.sc,.slice r.xa r.steps.length r.xc] 32):=⟨_,rfl⟩
     have hZB : Z.heap[z]? = some (.cells #[.string ⟨⟨r.nm⟩⟩,.slice r.sa r.aR.length r.sc,.slice r.xa r.steps.length r.xc] 32 (0,0)):=by rw [hZ,hz]; exact heap_alloc_new _ _
     have z0 : Z.cell? ⟨z,0,none⟩ = some (.string ⟨⟨r.nm⟩⟩):=Lib.cell_of_heap hZB ..
     have hyz:y < z:=by omega
     have hZs':dU wr Z:=by rw [hZ]; exact hZs
     have hyZ : Z.heap[y]? = some (.cells #[.string ⟨⟨tn⟩⟩,.slice (some ⟨b2,off2,none⟩) aS.length rc] 28 (0,0)):=(hZs'.same y hyr).trans hyB
     have hw7:=hZs'.size
     have hw8:=hsr.size
     have hzZ:z < Z.heap.size:=pN z0
     have yz0:=hZs'.cell y0
     by_cases he:kH l tn r=0
     ·rw [he] at hcall
      go_wp2_with (first
       | (go_at_call 32; refine hcall.mono ?_; rintro e w6 ⟨rfl,hs6⟩; rw [← hZ] at hs6; have a0:=hs6.cell z0; rw [hz] at a0; have a1:=hs6.cell yz0; have hw6:=hs6.size; have hz6:wr.heap.size < w6.heap.size:=by omega
          have hy6:y < w6.heap.size:=by omega
          have hown6:=j6 hown (hZs'.trans hs6))
       | (at_builtin; refine wpList_append_lies _ rfl _ _ 97 rfl w5.heap.size 100 i0 _ 2 32 Try.underlying97 hi hz0 hz1 hz2 rfl (by decide) _ _ _ rfl (hown6.alloc _) ⟨w6.heap.size,0,none⟩ 1 1 [.string ⟨⟨tn⟩⟩,.string ⟨⟨r.nm⟩⟩] rfl rfl (b5q w6 _ _) (by intro u hu; simp at hu; rcases hu with rfl | rfl <;> rfl) (by decide) (by unfold maxLen; omega) (by omega) (by simp; omega) (w6.heap.size+1) (by simp) ?_; intro g cp' w7 hown' hgrow hat hlt)
       | go_in)
      have hgr:(w6.alloc (.cells #[.string ⟨⟨tn⟩⟩,.string ⟨⟨r.nm⟩⟩] 100)).grownBy w7 (Value.slice ad S.length c).ownBlock:=hgrow
      have hoA:=hown6.alloc (.cells #[.string ⟨⟨tn⟩⟩,.string ⟨⟨r.nm⟩⟩] 100)
      have hsA:dU w5 (w6.alloc (.cells #[.string ⟨⟨tn⟩⟩,.string ⟨⟨r.nm⟩⟩] 100)):=hsr.trans (hZs'.trans (hs6.trans (aK _ _)))
      have hs7:dU w5 w7:=wE hsA hgr fun q hq=>(hoA.lt q hq).1
      have hyA : (w6.alloc (.cells #[.string ⟨⟨tn⟩⟩,.string ⟨⟨r.nm⟩⟩] 100)).heap[y]? = some (.cells #[.string ⟨⟨tn⟩⟩,.slice (some ⟨b2,off2,none⟩) aS.length rc] 28 (0,0)):=((aK w6 _).same y hy6).trans ((hs6.same y (by omega)).trans hyZ)
      have hy7:=b2a hyA hoA (by decide) hgr
      refine ⟨⟨j+1,by omega,by simp,hs7,(zsz.1 hy7).1,hy7,⟨_,cp',by rw [hS,zwy]; rfl⟩,?_,fun r' hr'=>?_⟩,by simp [iG]; omega⟩
      ·rw [hS,zwy,b5k]
       exact hown'
      ·rw [kG hr,List.mem_append,List.mem_singleton] at hr'
       rcases hr' with hr' | rfl
       ·exact hnr r' hr'
       ·exact he
     ·have heb:(kH l tn r == 0)=false:=by simpa using he
      have hna:fA l=kH l tn r:=by
       obtain ⟨ys,hys⟩:=hpe
       unfold fA
       rw [hys]
       refine aNf (p:=(tn,r)) (fun p hp=>?_) he
       rcases List.mem_append.1 hp with hp | hp
       ·exact hnm p hp
       ·obtain ⟨r',hr',rfl⟩:=List.mem_map.1 hp
        exact hnr r' hr'
      go_wp2_with (go_at_call 32; refine hcall.mono ?_; rintro e w6 ⟨rfl,hs6⟩)
      go_ret2
      rw [← hZ] at hs6
      exact ⟨hb5'.trans ((hsr.trans (hZs'.trans hs6)).fV (by omega)),fun _=>by rw [hna]; rfl,fun h=>absurd (hna.symm.trans h) he,fun h=>absurd (hna.symm.trans h) he⟩
    ·have hj1:¬ (j:Int) < (aS.length:Int):=by omega
     obtain rfl:j=aS.length:=by omega
     have hS:=b5r ht
     dsimp only at hS
     rw [List.take_length] at hnr hown
     go_wp2
     refine ⟨⟨k+1,by omega,by simp,hsr,⟨ad,c,by rw [hS,List.take_length]⟩,by rw [hS,List.take_length]; exact hown,fun p hp=>?_⟩,by simp [iG]; omega⟩
     rw [kG ht,a63,List.mem_append] at hp
     rcases hp with hp | hp
     ·exact hnm p hp
     ·obtain ⟨r',hr',rfl⟩:=List.mem_map.1 hp
      exact hnr r' hr'
  ·have hk1:¬ (k:Int) < (l.length:Int):=by omega
   have htk:l.take k=l:=List.take_of_length_le (by omega)
   rw [htk] at hown hnm ⊢
   have h0:fA l=0:=yW hnm
   have hol:(dZ l).length≤1000000:=by unfold dZ; rw [zsy]; omega
   have hrev:=aVd hown hol
   have hrev':∀ X,X.ownsRow w5.heap.size 100 2 (.slice ad (dZ l).length c) (dZ l).length (qK (dZ l).reverse)→dU w5 X→Calls Try.prog 34 #[.pointer (some ⟨n+3,0,none⟩),.slice ad (dZ l).length c] X fun e w'=>e = .returned (.bool R.isSome)∧GKw n X w'∧∀ ρ,R=some ρ→∃ k' mk',gL w' n k' (a1c l) (a0e (bO l)) mk'∧aK7 mk' ρ:=fun X hX hsX =>
    b5p (henv.jI hsX) (o:=(dZ l).reverse) (by rw [List.length_reverse]; exact hX) hn5 (hok h0) (by omega) (fun _=>rfl) (hR h0)
   cases R with
   | none =>
    go_wp2_with (first
     | (go_at_call 33; refine hrev.mono ?_; rintro e w6 ⟨rfl,ho6,hg6⟩; have hs6:dU w5 w6:=wE hsr hg6 fun q hq=>(hown.lt q hq).1)
     | (go_at_call 34; refine (hrev' _ ho6 hs6).mono ?_; rintro e w7 ⟨rfl,hg7,_⟩))
    go_ret2
    refine ⟨hb5'.trans ((hs6.fV (by omega)).trans ⟨hg7.os,hg7.output,hg7.size,fun b hb=>hg7.block b (by have:=hs6.size; omega) (by omega)⟩),fun h=>absurd h0 h,fun _ _=>rfl,fun _ ρ e=>(by cases e)⟩
   | some ρ =>
    go_wp2_with (first
     | (go_at_call 33; refine hrev.mono ?_; rintro e w6 ⟨rfl,ho6,hg6⟩; have hs6:dU w5 w6:=wE hsr hg6 fun q hq=>(hown.lt q hq).1)
     | (go_at_call 34; refine (hrev' _ ho6 hs6).mono ?_; rintro e w7 ⟨rfl,hg7,hh7⟩))
    go_ret2
    refine ⟨hb5'.trans ((hs6.fV (by omega)).trans ⟨hg7.os,hg7.output,hg7.size,fun b hb=>hg7.block b (by have:=hs6.size; omega) (by omega)⟩),fun h=>absurd h0 h,fun _ e=>(by cases e),fun _ ρ' e=>?_⟩
    cases e
    exact ⟨rfl,hh7 ρ rfl⟩
end Go.Fbs

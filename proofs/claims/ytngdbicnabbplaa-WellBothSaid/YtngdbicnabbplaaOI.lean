/- The document's Parse, walked: each row in a block of its own. -/
import Derived.Test.YtngdbicnabbplaaPT
set_option linter.unusedSimpArgs false
set_option linter.unusedVariables false
set_option linter.unusedSectionVars false
set_option maxRecDepth 100000
namespace Go.Fbs
open Go.Proofs Go.RowKit Go.Maps
attribute [local irreducible] bW cC opt kQ
theorem Try.b52 : (Try.prog.info? 28).map (fun i=>(i.zero,i.size,i.bytes)) = some (some (.agg #[.string ⟨#[]⟩,.slice none 0 0]),2,40):=by kernel_rfl
theorem Try.bFt : (Try.prog.info? 32).map (fun i=>(i.zero,i.size,i.bytes)) = some (some (.agg #[.string ⟨#[]⟩,.slice none 0 0,.slice none 0 0]),3,64):=by kernel_rfl
structure OI (w:World) (B:Nat) (ta:Option Addr) (l:List eP) (wr:World) (κr:Ctx) (mr:Hp) (t:aY) (tl:List TM) (ρ:Nat→Nat×Nat) (ao:Option Addr) (co:Nat):Prop where
 rd:iQ wr B κr mr t
 since:cD w.heap.size aHe w κr wr
 iE:aDv κr wr.heap ta l
 lay:kW w.heap.size κr wr ρ ao co tl
def aLa (w:World) (B:Nat) (ta:Option Addr) (l:List eP) (ts:List fM) (v:Value) (wr:World) (k:Nat):Prop :=
 ∃ κr mr t tl ρ ao co,v = .slice ao tl.length co∧OI w B ta l wr κr mr t tl ρ ao co∧fK t∧t.d≤20∧t.l=l∧tl.length≤200∧rY k t (tl.map dnT)=some ts
def aPd (n1:Nat) (κr:Ctx) (wr:World) (B t10:Nat) (a:List UInt8) (ta:Option Addr) (l:List eP) (i:Nat) (ρ:Nat→Nat×Nat) (q:aY×List Rel) (wv:World) (k:Nat):Prop :=
 ∃ κv mv v rl ρ' ra rc,II n1 κr wr B t10 a ta l i ρ wv κv mv v rl ρ' ra rc∧fK v∧v.d≤20∧rl.length≤200∧sQ k v (rl.map dnR)=some q
variable {w w2 wr we:World} {B t10:Nat} {κr κe:Ctx} {mr me:Hp} {t u:aY} {tl:List TM} {ρ ρ':Nat→Nat×Nat} {ao ra:Option Addr} {co rc:Nat} {a:List UInt8} {ta:Option Addr} {l:List eP} {rl:List RM}
theorem OI.push {g cp' H:Nat} (O:OI w B ta l wr κr mr t tl ρ ao co) (I:II wr.heap.size κr wr B t10 a ta l tl.length ρ we κe me u rl ρ' ra rc) (hH:we.heap.size=H) {o:Obj} (hg:(we.alloc o).grownBy w2 (Value.slice ao tl.length co).ownBlock)
  (hown:w2.ownsRow w.heap.size 28 2 (.slice (some ⟨g,0,none⟩) (tl.length+1) cp') (tl.length+1) (iR tl++qW ⟨a,rl,ra,rc⟩)) (hat:(Value.slice ao tl.length co).ownBlock=some g∨g=H+1) :
  OI w B ta l w2 κe me u (tl++[⟨a,rl,ra,rc⟩]) ρ' (some ⟨g,0,none⟩) cp':=by
 have hs:=O.since.size
 have l1:kW w.heap.size κe we ρ' ao co tl:=O.lay.aSc (kK.of I.since (zxy _)) I.old
 have l2:=l1.aSc (ρ':=ρ') (uY o) fun _ _=>rfl
 have l3:=l2.push (I.rd.alloc o).mem (t:=⟨a,rl,ra,rc⟩) ((I.lay.low hs).step (uY o) (E:=28) (by decide) (fun b e=>by cases e) (fun b _=>by simp) fun _ _=>rfl) hg hown (hat.imp id fun e=>by rw [e]; exact Nat.le_of_eq (pF hH _))
 have r2:=(I.rd.alloc o).grown hg fun b e=>l2.f b e
 have s2:=(O.since.trans ((I.since.low hs).trans (cD.alloc (Nat.le_trans hs I.since.size) o)))
 exact ⟨r2,s2.trans (cD.grown hg s2.size fun b e=>⟨(l2.o.lt b e).1,(l2.f b e).1⟩),(I.iE.step (uY o)).step (kK.grown hg fun b e=>(l2.f b e).1),l3⟩
theorem aBr.bFu {q:aY×Rel} {κ':Ctx} {m':Hp} {w':World} {sa xa:Option Addr} {sc:Nat} (h:aBr w.drew.heap.size B κr w.drew q κ' m' w' sa sc xa):aBr w.heap.size B κr w q κ' m' w' sa sc xa :=
 ⟨h.st,⟨h.since.os,h.since.output,h.since.size,h.since.free,h.since.hw,h.since.mK⟩,h.aR,h.free,h.steps⟩
theorem aVq {p:Nat→Prop} (h:∃ n,p n):∃ k,k=least p∧p k:=⟨_,rfl,aDo h⟩
theorem aZa {n:Nat} {κ:Ctx} {W X:World} (h:kW n κ W ρ ao co tl) {κ2:Ctx} (s:kK none κ W κ2 X):X.ownsRow n 28 2 (.slice ao tl.length co) tl.length (iR tl):=(h.aSc (ρ':=ρ) s fun _ _=>rfl).o
set_option maxHeartbeats 6400000 in
theorem aVr {wd:List UInt8} {ts:List fM} (hw:wd.length≤100000) (hts:hO wd=some ts) (w:World) :
  Calls Try.prog 13 #[.string ⟨⟨wd⟩⟩] w fun e w'=>∃ κ' ρ a c tl,e = .returned (.tuple #[.slice a tl.length c,.int .i64 0,.int .i64 0])∧tl.map dnT=ts∧cD w.heap.size aHe w κ' w'∧kW w.heap.size κ' w' ρ a c tl:=by
 obtain ⟨i0,hi,hz0,hz1,hz2⟩:=info_parts Try.b52
 obtain ⟨j0,hj,hy0,hy1,hy2⟩:=info_parts Try.bFt
 unfold hO at hts
 split at hts
 case isFalse=>cases hts
 rename_i he
 have hlen:=aJj wd
 have hct:=b2g hw w
 rw [he] at hct
 generalize (cP wd).1=l at hct hts hlen
 generalize (cP wd).2.1=at0 at hct
 go_enter Try.func13,Try.ntmps13
 go_wp2_with (first
  | (go_at_call 25; refine hct.mono ?_; rintro e w1 ⟨κ1,ta,tc,rfl,k1,hrep,hrow,hs1⟩))
 obtain ⟨κ2,m2,r2,s2,p2⟩:=b9c (nn:=wd.length) k1 hrep rfl
 have O2:OI w w1.heap.size ta l (w1.alloc (.cells #[.slice ta l.length tc,.int .i64 0,.int .i64 (wd.length:Nat),.int .i64 0,.int .i64 0,.int .i64 0,.slice none 0 0,.int .i64 0] 84)) κ2 m2 ⟨l,0,wd.length,0,[]⟩ [] (fun _=>(0,0)) none 0 :=
  ⟨r2,hs1.trans (s2.low hs1.size),hrow.step p2,⟨World.ownsRow_nil _ _ _ _,fun b e=>(by cases e),fun i t h=>(by cases h)⟩⟩
 clear r2 s2 p2
 obtain ⟨B,hB⟩:∃ B,B=w1.heap.size:=⟨_,rfl⟩
 rw [← hB] at O2 ⊢
 obtain ⟨W,hW⟩:∃ W,W=w1.alloc (.cells #[.slice ta l.length tc,.int .i64 0,.int .i64 (wd.length:Nat),.int .i64 0,.int .i64 0,.int .i64 0,.slice none 0 0,.int .i64 0] 84):=⟨_,rfl⟩
 rw [← hW] at O2
 try rw [← hW]
 clear hW hB hs1 hrow hrep k1 hct
 go_loopw [9] (fun v wr=>∃ k,aLa w B ta l ts v wr k) (fun v wr=>least (aLa w B ta l ts v wr))
 case atStart=>exact ⟨_,κ2,m2,_,[],_,none,0,rfl,O2,⟨Nat.zero_le _,by show l.length≤500000; omega⟩,by show 0≤20; omega,rfl,by simp,hts⟩
 case round =>
  obtain ⟨k0,hk0,hsp⟩:=aVq hrel
  obtain ⟨κr,mr,t,tl,ρ,ao,co,rfl,O,hwt,hdt,htl,h200,ht⟩:=hsp
  cases k0 with
  | zero=>cases ht
  | succ k =>
  have hdec:∀ v' wr',aLa w B ta l ts v' wr' k→least (aLa w B ta l ts v' wr') < least (aLa w B ta l ts (.slice ao tl.length co) wr):=fun v' wr' h=>Nat.lt_of_le_of_lt (least_le h) (by rw [← hk0]; exact Nat.lt_succ_self k)
  clear hk0 hrel O2
  unfold rY at ht
  obtain ⟨d1,d3,df⟩:=O.rd.cell
  have hi0:(0:Int)≤(t.i:Int):=zrz _
  split at ht
  case isFalse =>
   rename_i hlt
   rw [htl] at hlt
   have hc:¬ ((t.i:Int) < (l.length:Int)):=by omega
   simp only [zzz] at ht
   go_wp2
   go_ret3
   exact ⟨κr,ρ,ao,co,tl,rfl,ht,O.since,O.lay⟩
  rename_i hlt
  split at ht
  ·cases ht
  rename_i hne
  obtain ⟨⟨u,ty⟩,hty,h4⟩:=zwz.1 ht
  simp only at h4
  unfold a62 at hty
  split at hty
  case isFalse=>cases hty
  rename_i hword
  obtain ⟨a,ha,h5⟩:=zwz.1 hty
  have hl1:t.i+1 < t.l.length:=lY ha
  have hwl:=hwt.2
  obtain ⟨tk,htk⟩ : ∃ tk,t.l[t.i]? = some tk:=⟨_,zyz hlt⟩
  have hk:tk.1=1∧tk.2.2=[116,121,112,101]:=by
   unfold aM6 at hword
   rw [htk] at hword
   simpa using hword
  have hne200:((tl.length:Int) == 200)=false:=by
   rw [zsy] at hne
   simp; omega
  have hlen200:tl.length+1≤200:=by rw [zsy] at hne; omega
  have hltI:(t.i:Int) < (l.length:Int):=by rw [← htl]; omega
  obtain ⟨tb,toff,hta,q0,q2⟩:=O.iE.get (i:=t.i) (t:=tk) (by rw [← htl]; exact htk)
  subst hta
  rw [hk.1] at q0
  rw [hk.2] at q2
  have hi2:(t.i:Int)+1≤9223372036854775807:=by omega
  obtain ⟨mA,rA,_⟩:=O.rd.next
  have p27:=rA.name ha (by show t.i+1 < 1000000; omega)
  have sA:cD wr.heap.size κr wr κr (wr.setCell ⟨B,1,none⟩ (.int .i64 ((t.i:Int)+1))):=cD.aPc O.rd 1 _
  have tkA:=O.iE.step (aK9 O.rd 1 (.int .i64 ((t.i:Int)+1)))
  have hj0:(0:Int)≤((aE (aE t)).i:Int):=zrz _
  have hj2:((aE (aE t)).i:Int)+1≤9223372036854775807:=by show ((t.i+1+1:Nat):Int)+1≤_; omega
  by_cases h123:fC [123] (aE (aE t))=true
  ·rw [if_pos h123] at h5
   have hl2:t.i+1+1 < t.l.length:=fR h123
   obtain ⟨q,hq,h6⟩:=zwz.1 h5
   simp only [zzz,zvy] at h6
   obtain ⟨rfl,rfl⟩:=h6
   have gq:=aGz _ (aE (aE (aE t))) [] q ⟨hl2,hwt.2⟩ hq
   go_wp2_with (first
    | (go_at_call 28; refine q28.mono ?_; rintro e w4 ⟨κ4,m4,rfl,x4,r4⟩
       have I4:=I3.ext x4 r4
       obtain ⟨f1,f3,ff⟩:=r4.cell
       obtain ⟨m5,I5⟩:=I4.next)
    | (go_at_call 27; refine p27.mono ?_; rintro e w2 ⟨κ2,m2,rfl,x2,r2⟩
       have s2:=sA.trans (cD.ext x2 (by rw [lI]; exact zxy _))
       have I3:II wr.heap.size κr wr B w2.heap.size a (some ⟨tb,toff,none⟩) l tl.length ρ (w2.alloc (.cells #[.string ⟨⟨a⟩⟩,.slice none 0 0] 28)) κ2 m2 (aE (aE t)) [] ρ none 0 :=
        ⟨r2.alloc _,s2.trans (cD.alloc s2.size _),(tkA.step (kK.ext x2)).step (uY _),heap_alloc_new _ _,pD r2.mem (zxy _),s2.size,zxy _,⟨World.ownsRow_nil _ _ _ _,(fun b e=>by cases e),fun k r h=>by cases h⟩,fun _ _=>rfl⟩
       obtain ⟨c1,c3,cf⟩:=I3.rd.cell
       have q28:=I3.rd.is [123]
       rw [h123] at q28)
    | go_in)
   obtain ⟨t10,ht10⟩:∃ t10,t10=w2.heap.size:=⟨_,rfl⟩
   rw [← ht10] at I5 ⊢
   clear I3 I4 q28 p27 c1 c3 cf f1 f3 ff x2 x4 s2 r2 r4 ht10
   obtain ⟨wo,hwo⟩:∃ wo,wo=wr:=⟨_,rfl⟩
   subst hwo
   go_loopw [] (fun wv=>∃ k,aPd wo.heap.size κr wo B t10 a (some ⟨tb,toff,none⟩) l tl.length ρ q wv k) (fun wv=>least (aPd wo.heap.size κr wo B t10 a (some ⟨tb,toff,none⟩) l tl.length ρ q wv))
   case atStart=>exact ⟨_,κ4,m5,_,[],ρ,none,0,I5,⟨hl2,hwt.2⟩,hdt,by simp,hq⟩
   case round =>
    obtain ⟨k2,hk2,hsp⟩:=aVq hrel
    obtain ⟨κv,mv,v,rl,ρv,ra,rc,I,hwv,hdv,hrl,hv⟩:=hsp
    cases k2 with
    | zero=>cases hv
    | succ k2 =>
    have hdec2:∀ wv',aPd wo.heap.size κr wo B t10 a (some ⟨tb,toff,none⟩) l tl.length ρ q wv' k2→least (aPd wo.heap.size κr wo B t10 a (some ⟨tb,toff,none⟩) l tl.length ρ q wv') < least (aPd wo.heap.size κr wo B t10 a (some ⟨tb,toff,none⟩) l tl.length ρ q wr):=fun wv' h=>Nat.lt_of_le_of_lt (least_le h) (by rw [← hk2]; exact Nat.lt_succ_self k2)
    clear hk2 hrel I5
    unfold sQ at hv
    have hv2:=hwv.2
    obtain ⟨g1,g3,gf⟩:=I.rd.cell
    obtain ⟨e0,e1,ef⟩:=I.c
    have p28:=I.rd.is [125]
    by_cases h125:fC [125] v=true
    ·rw [if_pos h125] at hv
     rw [h125] at p28
     have hl3:=fR h125
     simp only [zzz] at hv
     subst hv
     go_wp2_with (first
      | (go_at_call 30; refine q30.mono ?_; rintro e w5 ⟨κ5,m5',rfl,x5,r5⟩
         have I5:=I4.ext x5 r5
         obtain ⟨y0,y1,yf⟩:=I5.c
         have ownE:=aZa O.lay (kK.of I5.since (zxy _)))
      | (go_at_call 28; refine p28.mono ?_; rintro e w4 ⟨κ4',m4',rfl,x4,r4⟩
         have I4:=I.ext x4 r4
         have q30:=r4.want h125 (by omega))
      | (at_builtin; (refine wpList_append_lies _ rfl _ _ 23 rfl w.heap.size 28 i0 _ 2 40 Try.underlying23 hi hz0 hz1 hz2 rfl (by decide) (.slice ao tl.length co) tl.length (iR tl) (by rfl) (ownE.alloc _) ⟨w5.heap.size,0,none⟩ 1 1 (qW ⟨a,rl,ra,rc⟩) (by rfl) (by rfl) (aHf rfl (qW ⟨a,rl,ra,rc⟩) 28) (aDx _) (by decide) (by unfold maxLen; omega) (by omega) (Nat.le_trans O.since.size (Nat.le_trans I5.since.size (by simp))) (w5.heap.size+1) (pF rfl _) ?_; intro g cp' w8 hown' hgrow hat hlt8; have O9:=O.push I5 rfl hgrow hown' hat))
      | go_in)
     have hΦ : aLa w B (some ⟨tb,toff,none⟩) l ts (.slice (some ⟨g,0,none⟩) (tl.length+1) cp') w8 k:=⟨κ5,m5',aE v,tl++[⟨a,rl,ra,rc⟩],ρv,some ⟨g,0,none⟩,cp',by simp,O9,gq.1,Nat.le_trans (Nat.le_of_eq gq.2.1) hdt,gq.2.2.1.trans htl,by simp; omega,by rw [List.map_append]; exact h4⟩
     exact ⟨⟨k,hΦ⟩,hdec _ _ hΦ⟩
    ·have h125:fC [125] v=false:=by simpa using h125
     rw [if_neg (by rw [h125]; simp)] at hv
     rw [h125] at p28
     split at hv
     ·cases hv
     rename_i hn2
     obtain ⟨⟨x,rel⟩,hrl2,h7⟩:=zwz.1 hv
     simp only at h7
     have gr:=aKx hwv hrl2
     have hn200:((rl.length:Int) == 200)=false:=by
      rw [zsy] at hn2
      simp; omega
     have hrl3:rl.length+1≤200:=by rw [zsy] at hn2; omega
     go_wp2_with (first
      | (go_at_call 28; refine p28.mono ?_; rintro e w4 ⟨κ4',m4',rfl,x4,r4⟩
         have I4:=I.ext x4 r4
         obtain ⟨y0,y1,yf⟩:=I4.c
         obtain ⟨f1,f3,ff⟩:=r4.cell
         have c29:=b89 (w:=w4.drew) (show iQ w4.drew B κ4' m4' v from ⟨r4.mem,r4.box,r4.H⟩) hwv hdv hrl2)
      | go_in)
     go_region_law (first
      | (refine step_append_lies _ (by rfl) _ _ _ (by rfl) wo.heap.size 32 j0 _ 3 64 Try.underlying26 hj hy0 hy1 hy2 rfl (by decide) (.slice ra rl.length rc) rl.length (a0s rl) (by rfl) (I6.lay.o.alloc _) ⟨w6.heap.size,0,none⟩ 1 1 (yT ⟨rel.1,rel.2.1,rel.2.2,sa,sc,xa,xc⟩) (by rfl) (by rfl) (aHf rfl (yT ⟨rel.1,rel.2.1,rel.2.2,sa,sc,xa,xc⟩) 32) (b9d _) (by decide) (by unfold maxLen; omega) (by omega) (Nat.le_trans I6.since.size (by simp)) (w6.heap.size+1) (pF rfl _) ?_; intro g cp' w8 hown' hgrow hat hlt8; obtain ⟨s1,sf⟩:=(I6.alloc (.cells ⟨yT ⟨rel.1,rel.2.1,rel.2.2,sa,sc,xa,xc⟩⟩ 32)).bJy hgrow; have I9:=I6.aIh hr6 hρ6 rfl hgrow hown' hat)
      | (go_simp; go_at_call 29; refine c29.mono ?_; rintro e w6 ⟨κ6,m6,sa,sc,xa,xc,rfl,hend⟩; obtain ⟨ρ2,I6,hr6,hρ6⟩:=I4.rel (xc:=xc) hend.bFu; obtain ⟨z0,z1,zf⟩:=I6.c; obtain ⟨v0,v1,vf⟩:=(I6.alloc (.cells #[.string ⟨⟨rel.1⟩⟩,.slice sa rel.2.1.length sc,.slice xa rel.2.2.length xc] 32)).c))
     all_goals
      go_wp2
      have hΦ : aPd wo.heap.size κr wo B t10 a (some ⟨tb,toff,none⟩) l tl.length ρ q _ k2:=⟨κ6,m6,x,rl++[⟨rel.1,rel.2.1,rel.2.2,sa,sc,xa,xc⟩],ρ2,_,_,I9,gr.1,Nat.le_trans (Nat.le_of_eq gr.2.1) hdv,by simp; omega,by rw [List.map_append]; exact h7⟩
      exact ⟨⟨k2,hΦ⟩,hdec2 _ hΦ⟩
  ·rw [if_neg h123] at h5
   have h123:fC [123] (aE (aE t))=false:=by simpa using h123
   simp only [zzz,zvy] at h5
   obtain ⟨rfl,rfl⟩:=h5
   go_wp2_with (first
    | (go_at_call 28; refine q28.mono ?_; rintro e w4 ⟨κ4,m4,rfl,x4,r4⟩
       have I4:=I3.ext x4 r4
       obtain ⟨y0,y1,yf⟩:=I4.c
       have ownE:=aZa O.lay (kK.of I4.since (zxy _)))
    | (go_at_call 27; refine p27.mono ?_; rintro e w2 ⟨κ2,m2,rfl,x2,r2⟩
       have s2:=sA.trans (cD.ext x2 (by rw [lI]; exact zxy _))
       have I3:II wr.heap.size κr wr B w2.heap.size a (some ⟨tb,toff,none⟩) l tl.length ρ (w2.alloc (.cells #[.string ⟨⟨a⟩⟩,.slice none 0 0] 28)) κ2 m2 (aE (aE t)) [] ρ none 0 :=
        ⟨r2.alloc _,s2.trans (cD.alloc s2.size _),(tkA.step (kK.ext x2)).step (uY _),heap_alloc_new _ _,pD r2.mem (zxy _),s2.size,zxy _,⟨World.ownsRow_nil _ _ _ _,(fun b e=>by cases e),fun k r h=>by cases h⟩,fun _ _=>rfl⟩
       obtain ⟨c1,c3,cf⟩:=I3.rd.cell
       have q28:=I3.rd.is [123]
       rw [h123] at q28)
    | (at_builtin; (refine wpList_append_lies _ rfl _ _ 23 rfl w.heap.size 28 i0 _ 2 40 Try.underlying23 hi hz0 hz1 hz2 rfl (by decide) (.slice ao tl.length co) tl.length (iR tl) (by rfl) (ownE.alloc _) ⟨w4.heap.size,0,none⟩ 1 1 (qW ⟨a,[],none,0⟩) (by rfl) (by rfl) (aHf rfl (qW ⟨a,[],none,0⟩) 28) (aDx _) (by decide) (by unfold maxLen; omega) (by omega) (Nat.le_trans O.since.size (Nat.le_trans I4.since.size (by simp))) (w4.heap.size+1) (pF rfl _) ?_; intro g cp' w8 hown' hgrow hat hlt8; have O9:=O.push I4 rfl hgrow hown' hat))
    | go_in)
   have hΦ : aLa w B (some ⟨tb,toff,none⟩) l ts (.slice (some ⟨g,0,none⟩) (tl.length+1) cp') w8 k:=⟨κ4,m4,aE (aE t),tl++[⟨a,[],none,0⟩],ρ,some ⟨g,0,none⟩,cp',by simp,O9,⟨hl1,hwt.2⟩,hdt,htl,by simp; omega,by rw [List.map_append]; exact h4⟩
   exact ⟨⟨k,hΦ⟩,hdec _ _ hΦ⟩
end Go.Fbs

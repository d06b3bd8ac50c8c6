import Derived.Test.YthakklikgmcgdaaGreatDoorWG
import Derived.Test.YthakklikgmcgdaaGreatDoorWQ
set_option linter.unusedSimpArgs false
set_option linter.unusedVariables false
set_option linter.unusedSectionVars false
set_option maxRecDepth 100000
namespace Go.Fbs
open Go.Proofs Go.RowKit
def Good (e:V):Prop:=∃ k t ks ls,e=jn k t ks ls∧(jn k t ks ls).bR=true
theorem aH6 {A:Type} {one:A→aE→Option (A×aE)} {c:UInt8} (hc:c≠0) (G:A→Prop) (hone:∀ acc p acc' p',aZ p→G acc→one acc p=some (acc',p')→aZ p'∧p'.d=p.d∧p'.s=p.s∧G acc') :
  ∀ {n:Nat} {acc:A} {p:aE} {r:A×aE},aZ p→G acc→tV one c n acc p=some r→aZ r.2∧r.2.d=p.d∧r.2.s=p.s∧G r.1
 | 0,_,_,_,_,_,h=>by cases h
 | n+1,acc,p,r,hd,hG,h=>by
  rw [tV] at h
  split at h
  ·cases h; exact ⟨hd,rfl,rfl,hG⟩
  ·split at h
   ·cases h
   ·rename_i acc' p2 ho
    obtain ⟨k1,k2,k3,k4⟩:=hone _ _ _ _ (iY hd) hG ho
    have k5:=iY k1
    split at h
    ·cases h; exact ⟨k5,k2,k3,k4⟩
    ·split at h
     ·cases h
      exact ⟨a0j k5 c hc,(kN k5 c hc).d.trans k2,(kN k5 c hc).s.trans k3,k4⟩
     ·rename_i hh
      have hlt:=qO k5 (by intro e; rw [e] at hh; exact hh (by decide))
      have k6:aZ { aF p2 with a:=(aF p2).a+1 }:=⟨k5.1,by show 0≤(aF p2).a+1; have:=k5.2.1; omega,by show (aF p2).a+1≤((aF p2).s.length:Int); omega⟩
      obtain ⟨m1,m2,m3,m4⟩:=aH6 hc G hone k6 k4 h
      exact ⟨m1,m2.trans k2,m3.trans k3,m4⟩
theorem aFh {A:Type} {one:A→aE→Option (A×aE)} {c:UInt8} (hc:c≠0) (G:A→Prop) (hone:∀ acc p acc' p',aZ p→G acc→one acc p=some (acc',p')→aZ p'∧p'.d=p.d∧p'.s=p.s∧G acc')
  {n:Nat} {acc:A} {p:aE} {r:A×aE} (hd:aZ p) (ha:p.a < p.s.length) (hG:G acc) (h:jW one c n acc p=some r):aZ r.2∧r.2.d=p.d∧r.2.s=p.s∧G r.1:=by
 unfold jW at h
 split at h
 ·cases h
  refine ⟨x8 hd _ _,?_,?_,hG⟩
  ·show (aU p p.a 10).d=p.d; unfold aU; split <;> rfl
  ·show (aU p p.a 10).s=p.s; unfold aU; split <;> rfl
 ·have hd1:aZ { p with d:=p.d+1,a:=p.a+1 }:=⟨hd.1,by show 0≤p.a+1; have:=hd.2.1; omega,by show p.a+1≤(p.s.length:Int); omega⟩
  have hd2:=iY hd1
  dsimp only at h
  split at h
  ·rename_i hh
   have hlt:=qO hd2 (by rw [hh]; exact hc)
   cases h
   refine ⟨⟨hd2.1,?_,?_⟩,?_,rfl,hG⟩
   ·show 0≤(aF { p with d:=p.d+1,a:=p.a+1 }).a+1
    have:=hd2.2.1; omega
   ·show (aF { p with d:=p.d+1,a:=p.a+1 }).a+1≤((aF { p with d:=p.d+1,a:=p.a+1 }).s.length:Int)
    omega
   ·show p.d+1 - 1=p.d; omega
  ·split at h
   ·cases h
   ·rename_i acc' p2 hm
    cases h
    obtain ⟨m1,m2,m3,m4⟩:=aH6 hc G hone hd2 hG hm
    refine ⟨m1,?_,m3,m4⟩
    show p2.d - 1=p.d
    have:p2.d=p.d+1:=m2
    omega
theorem aLh {aT:aE→Option (V×aE)} (hv:p9 aT) {n:Nat} {p:aE} {r:List V×aE} (hd:aZ p) (ha:p.a < p.s.length) (h:jW (yS aT) 93 n [] p=some r):aZ r.2∧r.2.d=p.d∧r.2.s=p.s∧∀ e ∈ r.1,Good e:=by
 refine aFh (by decide) (fun acc:List V=>∀ e ∈ acc,Good e) (fun acc q acc' q' hq hG ho=>?_) hd ha (fun e h=>by cases h) h
 obtain ⟨_,v,h1,rfl⟩:=a4y ho
 obtain ⟨k1,k2,k3⟩:=hv.aO q v q' hq h1
 refine ⟨k1,k2,k3,fun e he=>?_⟩
 rcases List.mem_append.1 he with h' | h'
 ·exact hG e h'
 ·rw [List.mem_singleton.1 h']; exact hv.shape q v q' hq h1
end Go.Fbs

namespace Go.Fbs
open Go.Proofs Go.RowKit
def tL (M:aE→Option (V×aE)):Spec
 | [.agg [.str s,.int .i64 a,.int .i64 d,.int .i64 e,.int .i64 b]]=>if s.length≤jS∧0≤a∧a≤s.length then (M ⟨s,a,d,e,b⟩).map fun r=>.tup [r.1,.agg (pW r.2)] else none
 | _=>none
theorem a6x {M:aE→Option (V×aE)} {p:aE} {v:V} {q:aE} (h:aZ p) (hM:M p=some (v,q)):tL M [.agg (pW p)]=some (.tup [v,.agg (pW q)]):=by
 unfold tL pW
 refine (if_pos h).trans ?_
 rw [show (⟨p.s,p.a,p.d,p.e,p.b⟩:aE)=p from rfl,hM]
 rfl
theorem aDy {M:aE→Option (V×aE)} {words:List V} {v:V} (h:tL M words=some v):∃ p w q,words=[.agg (pW p)]∧aZ p∧M p=some (w,q)∧v = .tup [w,.agg (pW q)]:=by
 unfold tL at h
 split at h <;> simp only [Option.ite_none_right_eq_some,Option.map_eq_some_iff,reduceCtorEq] at h
 rename_i s a d e b
 obtain ⟨hd,⟨w,q⟩,h1,rfl⟩:=h
 exact ⟨⟨s,a,d,e,b⟩,w,q,rfl,hd,h1,rfl⟩
theorem iZ {v:V} (h:Good v):v.bR=true:=by obtain ⟨k,t,ks,ls,rfl,h⟩:=h; exact h
theorem a0k (p:aE):aJ (pW p)=true:=rfl
theorem aH7 {f:FuncId} {M:aE→Option (V×aE)} (he:a4d Tryz.prog f) (hM:∀ p v p',aZ p→M p=some (v,p')→aFc f p p' v∧Good v):dX Tryz.prog f mS (tL M) where
 enter:=he
 call:=fun words v hv=>by
  obtain ⟨p,w,q,rfl,hd,h1,rfl⟩:=aDy hv
  obtain ⟨hr,hg⟩:=hM p w q hd h1
  have hc:=iZ hg
  refine ⟨[w,.agg (pW q)],rfl,Nat.le_succ 1,?_,?_,rfl,?_⟩
  ·simp [aJ,V.bR,a0k]
  ·simp [aJ,V.bR,a0k,hc]
  ·refine aZx (p:=p) (p':=q) (args:=[]) (rs:=[w]) rfl rfl rfl rfl rfl (iN hc).1 fun κ w B xs hw hx=>?_
   rw [hx.inv_nil]
   exact hr w B hw
def a00 (aT:aE→Option (V×aE)) (p:aE):Option (V×aE) :=
 if hI p=91∧0≤p.d∧p.d≤20 then (jW (yS aT) 93 (p.s.length+2) [] p).map fun r=>(jn 6 [] [] r.1,r.2) else none
theorem aH8 {aT:aE→Option (V×aE)} {p q:aE} {v:V} (h:a00 aT p=some (v,q)):hI p=91∧(0≤p.d∧p.d≤20)∧∃ ls,jW (yS aT) 93 (p.s.length+2) [] p=some (ls,q)∧v=jn 6 [] [] ls:=by
 unfold a00 at h
 split at h
 ·rename_i hc
  obtain ⟨⟨ls,q'⟩,h1,h2⟩:=Option.map_eq_some_iff.1 h
  cases h2
  exact ⟨hc.1,hc.2,ls,h1,rfl⟩
 ·cases h
theorem a45 {p:aE} (h:aZ p) (h0:hI p≠0):p.a < p.s.length:=qO h (fun e=>h0 (by unfold hI; rw [e]; rfl))
theorem aQs {ls:List V} (h:∀ e ∈ ls,Good e) (k:Int):Good (jn k [] [] ls):=by
 refine ⟨k,[],[],ls,rfl,?_⟩
 have:aJ ls=true:=jF.2 fun e he=>iZ (h e he)
 simp [jn,V.bR,aJ,this]
theorem b30:a4d Tryz.prog 32:=⟨_,_,Tryz.func32,rfl,by kernel_rfl⟩
theorem a5v {aT:aE→Option (V×aE)} (hv:p9 aT):∀ p v p',aZ p→a00 aT p=some (v,p')→aFc 32 p p' v∧Good v:=by
 intro p v q hd h
 obtain ⟨h91,hdd,ls,h1,rfl⟩:=aH8 h
 have ha:=a45 hd (by rw [h91]; decide)
 exact ⟨aQo hv h1 hd ha hdd,aQs (aLh hv hd ha h1).2.2.2 6⟩
theorem aNd {aT:aE→Option (V×aE)} (hv:p9 aT):∀ p v p',aZ p→a00 aT p=some (v,p')→aZ p'∧p'.d=p.d∧p'.s=p.s:=by
 intro p v q hd h
 obtain ⟨h91,hdd,ls,h1,rfl⟩:=aH8 h
 have:=aLh hv hd (a45 hd (by rw [h91]; decide)) h1
 exact ⟨this.1,this.2.1,this.2.2.1⟩
theorem aWe (aT:aE→Option (V×aE)) (hv:p9 aT):dX Tryz.prog aAm mS (tL (a00 aT)):=aH7 b30 (a5v hv)
end Go.Fbs

namespace Go.Fbs
open Go.Proofs Go.RowKit
abbrev RM:=aE→Option (V×aE)
structure aBy (bH:RM→RM):Prop where
 reads:∀ aT,p9 aT→∀ p v p',aZ p→bH aT p=some (v,p')→aFc 31 p p' v∧Good v
 keeps:∀ aT,p9 aT→∀ p v p',aZ p→bH aT p=some (v,p')→aZ p'∧p'.d=p.d∧p'.s=p.s
def aT (bH:RM→RM):Nat→RM
 | 0,_=>none
 | n+1,p =>
  if hI p=123 then bH (aT bH n) p
  else if hI p=91 then a00 (aT bH n) p
  else if hI p=34 then (mW p).map fun r=>(jn 5 r.1 [] [],r.2)
  else if hI p=110 then some (jn 1 [] [] [],gD [110,117,108,108] p)
  else if hI p=102 then some (jn 2 [] [] [],gD [102,97,108,115,101] p)
  else if hI p=116 then some (jn 3 [] [] [],gD [116,114,117,101] p)
  else some (jn 4 (x9 p) [] [],gN p)
theorem nD (k:Int) (t:List UInt8):Good (jn k t [] []):=⟨k,t,[],[],rfl,rfl⟩
theorem yU {bH:RM→RM} (ho:aBy bH) {n:Nat} (hv:p9 (aT bH n)):∀ p v p',aZ p→aT bH (n+1) p=some (v,p')→(aZ p'∧p'.d=p.d∧p'.s=p.s)∧Good v:=by
 intro p v q hd h
 rw [aT] at h
 split at h
 ·exact ⟨ho.keeps _ hv p v q hd h,(ho.reads _ hv p v q hd h).2⟩
 ·split at h
  ·exact ⟨aNd hv p v q hd h,(a5v hv p v q hd h).2⟩
  ·split at h
   ·obtain ⟨r,h1,h2⟩:=Option.map_eq_some_iff.1 h
    cases h2
    have k:=kO hd h1
    exact ⟨⟨k.aO,k.d,k.s⟩,nD _ _⟩
   ·split at h
    ·cases h
     have k:=sD (t:=[110,117,108,108]) hd (by decide)
     exact ⟨⟨k.aO,k.d,k.s⟩,nD _ _⟩
    ·split at h
     ·cases h
      have k:=sD (t:=[102,97,108,115,101]) hd (by decide)
      exact ⟨⟨k.aO,k.d,k.s⟩,nD _ _⟩
     ·split at h
      ·cases h
       have k:=sD (t:=[116,114,117,101]) hd (by decide)
       exact ⟨⟨k.aO,k.d,k.s⟩,nD _ _⟩
      ·cases h
       have k:=yT hd
       exact ⟨⟨k.aO,k.d,k.s⟩,nD _ _⟩
theorem aH9 {p:aE} (h:aZ p) {r:List UInt8×aE} (hr:mW p=some r):a23 [.agg (pW p)]=some (.tup [.str r.1,.agg (pW r.2)]):=by
 unfold a23 pW
 refine (if_pos h).trans ?_
 rw [show (⟨p.s,p.a,p.d,p.e,p.b⟩:aE)=p from rfl,hr]
 rfl
theorem aNe {p:aE} (h:aZ p):xL [.agg (pW p)]=some (.tup [jn 4 (x9 p) [] [],.agg (pW (gN p))]):=by
 unfold xL pW
 exact if_pos h
theorem aA3 {p:aE} (h:aZ p) (t:List UInt8) (k:Int) (h1:t.length≤10) (h2:∀ c ∈ t,c≠0):a22 [.agg (pW p),.str t,.int .i64 k]=some (.tup [jn k [] [] [],.agg (pW (gD t p))]):=by
 unfold a22 pW
 exact if_pos ⟨h,h1,h2⟩
theorem ck4 (k:Int) (t:List UInt8) (ks ls:List V):aP 4 (jn k t ks ls)=some (jn k t ks ls):=rfl
theorem ckS (t:List UInt8):iI (.str t)=some (.str t):=rfl
theorem agJ (t:List UInt8):aD [.int .i64 5,.str t,.sl .ro [],.sl .ro []]=some (.agg [.int .i64 5,.str t,.sl .ro [],.sl .ro []]):=rfl
noncomputable abbrev TLv (bH:RM→RM) (n:Nat):List (FuncId×Spec):=[(bL,bU),(rQ,tL (bH (aT bH n))),(uG,tL (a00 (aT bH n))),(uH,a23),(lU,a22),(rP,xL)]
theorem b31:a4d Tryz.prog 31:=⟨_,_,Tryz.func31,rfl,by kernel_rfl⟩
theorem a6y {bH:RM→RM} (ho:aBy bH) {n:Nat} (hv:p9 (aT bH n)):dX Tryz.prog tE dP (tL (aT bH (n+1))):=by
 refine a5q (T:=TLv bH n) (aH.fD kK (aH.fD (sg:=mS) (g:=31) (aH7 b31 (ho.reads _ hv)) (aH.fD (aWe _ hv) (aH.fD aH5 (aH.fD aS6 (aH.fD aNb aH.nil)))))) fun words v hv'=>?_
 obtain ⟨p,w,q,rfl,hd,h1,rfl⟩:=aDy hv'
 have hg:=iZ (yU ho hv p w q hd h1).2
 have c1:∀ args,bD (TLv bH n) bL args=bU args:=fun _=>rfl
 have c2:∀ args,bD (TLv bH n) rQ args=tL (bH (aT bH n)) args:=fun _=>rfl
 have c3:∀ args,bD (TLv bH n) uG args=tL (a00 (aT bH n)) args:=fun _=>rfl
 have c4:∀ args,bD (TLv bH n) uH args=a23 args:=fun _=>rfl
 have c5:∀ args,bD (TLv bH n) lU args=a22 args:=fun _=>rfl
 have c6:∀ args,bD (TLv bH n) rP args=xL args:=fun _=>rfl
 refine ⟨_,rfl,rfl,rfl,by simp [aJ,V.bR,a0k,hg],rfl,rfl,?_⟩
 refine Eq.mpr (a6m _ _ (.str p.s) (.int .i64 p.a) (.int .i64 p.d) (.int .i64 p.e) (.int .i64 p.b)) ?_
 simp only [cU,c1,r7 hd,wK,wL,r8,r9,rA,rB,rC,dS,sS,if_true,if_false,reduceCtorEq]
 rw [aT] at h1
 by_cases h:hI p=123
 ·rw [if_pos h] at h1
  rw [decide_eq_true h,if_pos rfl]
  obtain ⟨k,t,ks,ls,rfl,_⟩:=(ho.reads _ hv p w q hd h1).2
  simp only [c2,a6x hd h1,wK,wL,r8,r9,rA,rB,rC,dS,ck4,cU,sS,if_true,if_false,reduceCtorEq]
 rw [if_neg h] at h1
 rw [decide_eq_false h,if_neg (by decide)]
 clear h
 by_cases h:hI p=91
 ·rw [if_pos h] at h1
  rw [decide_eq_true h,if_pos rfl]
  obtain ⟨k,t,ks,ls,rfl,_⟩:=(a5v hv p w q hd h1).2
  simp only [c3,a6x hd h1,wK,wL,r8,r9,rA,rB,rC,dS,ck4,cU,sS,if_true,if_false,reduceCtorEq]
 rw [if_neg h] at h1
 rw [decide_eq_false h,if_neg (by decide)]
 clear h
 by_cases h:hI p=34
 ·rw [if_pos h] at h1
  rw [decide_eq_true h,if_pos rfl]
  obtain ⟨r,h2,h3⟩:=Option.map_eq_some_iff.1 h1
  cases h3
  simp only [c4,aH9 hd h2,wK,wL,r8,r9,rA,rB,rC,dS,ckS,agJ,cq0,cq1,cU,jn,sS,if_true,if_false,reduceCtorEq]
 rw [if_neg h] at h1
 rw [decide_eq_false h,if_neg (by decide)]
 clear h
 by_cases h:hI p=110
 ·rw [if_pos h] at h1
  rw [decide_eq_true h,if_pos rfl]
  cases h1
  simp only [c5,aA3 hd [110,117,108,108] 1 (by decide) (by decide),wK,wL,r8,r9,rA,rB,rC,dS,ck4,cU,sS,if_true,if_false,reduceCtorEq]
 rw [if_neg h] at h1
 rw [decide_eq_false h,if_neg (by decide)]
 clear h
 by_cases h:hI p=102
 ·rw [if_pos h] at h1
  rw [decide_eq_true h,if_pos rfl]
  cases h1
  simp only [c5,aA3 hd [102,97,108,115,101] 2 (by decide) (by decide),wK,wL,r8,r9,rA,rB,rC,dS,ck4,cU,sS,if_true,if_false,reduceCtorEq]
 rw [if_neg h] at h1
 rw [decide_eq_false h,if_neg (by decide)]
 clear h
 by_cases h:hI p=116
 ·rw [if_pos h] at h1
  rw [decide_eq_true h,if_pos rfl]
  cases h1
  simp only [c5,aA3 hd [116,114,117,101] 3 (by decide) (by decide),wK,wL,r8,r9,rA,rB,rC,dS,ck4,cU,sS,if_true,if_false,reduceCtorEq]
 rw [if_neg h] at h1
 rw [decide_eq_false h,if_neg (by decide)]
 cases h1
 simp only [c6,aNe hd,wK,wL,r8,r9,rA,rB,rC,dS,ck4,cU,sS,if_true,if_false,reduceCtorEq]
end Go.Fbs

namespace Go.Fbs
open Go.Proofs Go.RowKit
theorem aFi {bH:RM→RM} (ho:aBy bH):∀ n,p9 (aT bH n)
 | 0=>⟨fun _ _ _ _ h=>(by cases h),fun _ _ _ _ h=>(by cases h),fun _ _ _ _ h=>(by cases h)⟩
 | n+1=>by
  have hv:=aFi ho n
  refine ⟨fun p v q hd h=>(yU ho hv p v q hd h).1,fun p v q hd h=>(yU ho hv p v q hd h).2,fun p v q hd h=>?_⟩
  intro w B hw
  have hg:=(iN (iZ (yU ho hv p v q hd h).2)).1
  exact vN (a6y ho hv) (p:=p) (p':=q) (args:=[]) (rs:=[v]) (a6x hd h) rfl rfl rfl rfl rfl hg w B [] hw (fun _ _=>Reps.nil)
theorem aS9 {bH:RM→RM} (ho:aBy bH) (n:Nat):dX Tryz.prog tE dP (tL (aT bH (n+1))):=a6y ho (aFi ho n)
end Go.Fbs

namespace Go.Fbs
open Go.Proofs Go.RowKit
def wC (s:List UInt8) (q:aE):aE:=if q.e=0 then (if (aF q).a < s.length then aU (aF q) (aF q).a 9 else aF q) else q
def a1h (bH:RM→RM) (n:Nat) (s:List UInt8):Option (V×Int×Int) :=
 if 200000 < s.length then some (jn 0 [] [] [],0,8) else
  match aT bH n (aF ⟨s,0,0,0,0⟩) with
  | none=>none
  | some (v,q) =>
   if (wC s q).e=0 then some (v,0,0) else some (jn 0 [] [] [],(wC s q).b,(wC s q).e)
def jL (bH:RM→RM) (n:Nat):Spec
 | [.str s]=>(a1h bH (n+1) s).map fun r=>.tup [r.1,.int .i64 r.2.1,.int .i64 r.2.2]
 | _=>none
theorem nA {p:aE} (h:aZ p):cE [.agg (pW p)]=some (.tup [.agg (pW (aF p))]):=by
 unfold cE pW
 exact if_pos h
theorem agZ:aD [.int .i64 0,.str [],.sl .ro [],.sl .ro []]=some (.agg [.int .i64 0,.str [],.sl .ro [],.sl .ro []]):=rfl
theorem agN (s:List UInt8):aD [.str s,.int .i64 0,.int .i64 0,.int .i64 0,.int .i64 0]=some (.agg (pW ⟨s,0,0,0,0⟩)):=rfl
noncomputable abbrev TLp (bH:RM→RM) (n:Nat):List (FuncId×Spec):=[(p5,cE),(tF,tL (aT bH (n+1))),(cS,aL)]
theorem aWf {bH:RM→RM} (ho:aBy bH) (n:Nat):cZ Tryz.prog iW (jL bH n):=by
 refine aIw (T:=TLp bH n) (aH.fD yQ (aH.fD (aS9 ho n) (aH.fD kL aH.nil))) fun args v hv=>?_
 unfold jL at hv
 split at hv <;> simp only [Option.map_eq_some_iff,reduceCtorEq] at hv
 rename_i s
 obtain ⟨res,h1,rfl⟩:=hv
 have c1:∀ args,bD (TLp bH n) p5 args=cE args:=fun _=>rfl
 have c2:∀ args,bD (TLp bH n) tF args=tL (aT bH (n+1)) args:=fun _=>rfl
 have c3:∀ args,bD (TLp bH n) cS args=aL args:=fun _=>rfl
 have hg:Good res.1:=by
  unfold a1h at h1
  split at h1
  ·cases h1; exact nD 0 []
  ·rename_i hlen
   have hd:aZ ⟨s,0,0,0,0⟩:=⟨by show s.length≤jS; unfold jS; omega,Int.le_refl 0,by show (0:Int)≤s.length; omega⟩
   split at h1
   ·cases h1
   ·rename_i v q hvq
    have hgv:=(aFi ho (n+1)).shape _ _ _ (iY hd) hvq
    split at h1 <;> cases h1 <;> first | exact nD 0 [] | exact hgv
 refine ⟨rfl,rfl,by simp [aJ,V.bR,iZ hg],?_⟩
 clear hg
 rw [aLa]
 unfold a1h at h1
 simp only [sS,if_true,if_false,reduceCtorEq]
 by_cases hlen:200000 < s.length
 ·rw [if_pos hlen] at h1
  cases h1
  rw [decide_eq_true (by omega),if_pos rfl]
  simp only [agZ,cq0,cq1,jn,sS,if_true,if_false,reduceCtorEq]
 rw [if_neg hlen] at h1
 rw [decide_eq_false (by omega),if_neg (by decide)]
 have hd:aZ ⟨s,0,0,0,0⟩:=⟨by show s.length≤jS; unfold jS; omega,Int.le_refl 0,by show (0:Int)≤s.length; omega⟩
 have hd1:=iY hd
 split at h1
 ·cases h1
 rename_i v q hvq
 obtain ⟨⟨hdq,_,hsq⟩,hgv⟩:=yU ho (aFi ho n) _ _ _ hd1 hvq
 replace hsq:q.s=s:=hsq
 obtain ⟨k,t,ks,ls,rfl,_⟩:=hgv
 simp only [ckS,agN,cU,c1,nA hd,c2,a6x hd1 hvq,wK,wL,gz2,iM,r8,r9,rA,rB,rC,dS,ck4,sS,if_true,if_false,reduceCtorEq]
 refine fJ (fun w=>w=pW (wC s q)) (fun w hw=>?_) fun r hr=>?_
 ·subst hw
  refine ⟨rfl,?_⟩
  simp only [gp3,gp4,sS,if_true,if_false,reduceCtorEq]
  by_cases he:(wC s q).e=0
  ·rw [if_pos he] at h1
   cases h1
   rw [decide_eq_true he,if_neg (by decide)]
  ·rw [if_neg he] at h1
   cases h1
   rw [decide_eq_false he,if_pos (by decide)]
   simp only [agZ,cq0,cq1,jn,sS,if_true,if_false,reduceCtorEq]
 ·by_cases he:q.e=0
  ·rw [decide_eq_true he,if_pos rfl]
   simp only [nA hdq,gz2,iM,r8,r9,rA,rB,rC,dS,sS,if_true,if_false,reduceCtorEq]
   have hE:wC s q=if (aF q).a < s.length then aU (aF q) (aF q).a 9 else aF q:=if_pos he
   by_cases hl:(aF q).a < s.length
   ·rw [decide_eq_true hl,if_pos rfl]
    rw [if_pos hl] at hE
    simp only [cU,c3,mE,gz2,iM,r8,r9,rA,rB,rC,dS,sS,if_true,if_false,reduceCtorEq]
    exact hr _ (by rw [hE]; rfl)
   ·rw [decide_eq_false hl,if_neg (by decide)]
    rw [if_neg hl] at hE
    exact hr _ (by rw [hE]; rfl)
  ·rw [decide_eq_false he,if_neg (by decide)]
   have hE:wC s q=q:=if_neg he
   exact hr _ (by rw [hE]; rfl)
end Go.Fbs

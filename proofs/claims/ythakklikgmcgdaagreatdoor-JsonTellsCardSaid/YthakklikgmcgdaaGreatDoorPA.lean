import Derived.Test.YthakklikgmcgdaaGreatDoorWC
set_option linter.unusedSimpArgs false
set_option linter.unusedVariables false
set_option linter.unusedSectionVars false
set_option maxRecDepth 100000
namespace Go.Fbs
open Go.Proofs Go.RowKit
def runM (p:aE):aE:=if lE p.s p.a eY=p.a then aU p p.a 9 else { p with a:=lE p.s p.a eY }
def wJ:Spec
 | [.agg [.str s,.int .i64 a,.int .i64 d,.int .i64 e,.int .i64 b]]=>if s.length≤jS∧0≤a∧a≤s.length then some (.tup [.agg (pW (runM ⟨s,a,d,e,b⟩))]) else none
 | _=>none
noncomputable abbrev TLr:List (FuncId×Spec):=[(iA,gI),(cS,aL)]
theorem aV4:dX Tryz.prog a1u fC wJ:=by
 refine a8b (T:=TLr) (aH.cons zM (aH.fD kL aH.nil)) fun words v hv=>?_
 have c1:∀ args,bD TLr iA args=gI args:=fun _=>rfl
 have c2:∀ args,bD TLr cS args=aL args:=fun _=>rfl
 unfold wJ at hv
 split at hv <;> simp only [Option.ite_none_right_eq_some,Option.some.injEq,reduceCtorEq] at hv
 rename_i s a d e b
 obtain ⟨⟨hl,ha,has⟩,rfl⟩:=hv
 have hr:=vO eY ha has
 unfold jS at hl
 obtain ⟨a,rfl⟩:∃ n:Nat,a=n:=⟨a.toNat,by omega⟩
 refine ⟨_,rfl,rfl,rfl,rfl,rfl,rfl,?_⟩
 rw [a9g]
 have hk:a≤s.length:=by omega
 have hF:∀ l,gI [.str l,.str [48,49,50,51,52,53,54,55,56,57]]=some (.str (p8 l eY)):=fun l=>rfl
 have hw:∀ (x:Int),0≤x→x≤s.length→IntKind.i64.wrap x=x:=fun x h1 h2=>dN (by omega) (by omega)
 have hE:lE s a eY=(s.length:Int) - ((p8 (s.drop a) eY).length:Int):=by unfold lE; rw [Int.toNat_natCast]
 rw [hE] at hr
 simp only [sS,if_true,if_false,reduceCtorEq,a5g hk,c1,hF]
 rw [hw ((s.length:Int) - (a:Int)) (by omega) (by omega),hw _ (by omega) (by omega),hw _ (by omega) (by omega)]
 have hx:(a:Int)+((s.length:Int) - (a:Int) - ((p8 (s.drop a) eY).length:Int))=(s.length:Int) - ((p8 (s.drop a) eY).length:Int):=by omega
 rw [hx]
 by_cases hz:(s.length:Int) - (a:Int) - ((p8 (s.drop a) eY).length:Int)=0
 ·have h2:(s.length:Int) - ((p8 (s.drop a) eY).length:Int)=a:=by omega
  have hM:runM ⟨s,a,d,e,b⟩=aU ⟨s,a,d,e,b⟩ a 9:=by unfold runM; rw [hE,if_pos h2]
  rw [hz,h2,hM,decide_eq_true rfl]
  unfold aU
  by_cases he:e=0
  ·subst he
   simp [sS,if_true,if_false,reduceCtorEq,c2,aL,vP,aD,aP,iI,sc,pW]
   exact trivial
  ·simp [sS,if_true,if_false,reduceCtorEq,c2,aL,vP,aD,aP,iI,sc,pW,he]
   exact trivial
 ·have hM:runM ⟨s,a,d,e,b⟩=⟨s,lE s a eY,d,e,b⟩:=by unfold runM; rw [if_neg (by show ¬ lE s a eY=a; rw [hE]; omega)]
  rw [hM,hE,decide_eq_false hz]
  simp only [sS,if_true,if_false,reduceCtorEq]
  rfl
theorem aZy {p:aE} (h:aZ p):aZ (runM p):=by
 have:=vO eY h.2.1 h.2.2
 unfold runM
 split
 ·exact x8 h _ _
 ·exact ⟨h.1,by show 0≤lE p.s p.a eY; have:=h.2.1; omega,this.2⟩
end Go.Fbs

namespace Go.Fbs
open Go.Proofs Go.RowKit
def hI (p:aE):Int:=((dU p).toNat:Int)
def fI (p:aE):aE:={ p with a:=p.a+1 }
def nM (p:aE):aE:=if hI p=45 then fI p else p
def rZ (p:aE):aE:=if hI p=48 then fI p else runM p
def lG (p:aE):aE:=if p.e=0∧hI p=46 then runM (fI p) else p
def mU (p:aE):aE:=if hI p=43∨hI p=45 then fI p else p
def jO (p:aE):aE:=if p.e=0∧(hI p=101∨hI p=69) then runM (mU (fI p)) else p
def gN (p:aE):aE:=jO (lG (rZ (nM p)))
def x9 (p:aE):List UInt8:=(p.s.take (gN p).a.toNat).drop p.a.toNat
structure eZ (p q:aE):Prop where
 aO:aZ q
 s:q.s=p.s
 d:q.d=p.d
 a:p.a≤q.a
theorem eZ.trans {p q r:aE} (h:eZ p q) (k:eZ q r):eZ p r:=⟨k.aO,k.s.trans h.s,k.d.trans h.d,Int.le_trans h.a k.a⟩
theorem fM {p:aE} (h:aZ p) (h0:hI p≠0):eZ p (fI p):=by
 have hlt:=qO h (fun e=>h0 (by unfold hI; rw [e]; rfl))
 exact ⟨⟨h.1,by show 0≤p.a+1; have:=h.2.1; omega,by show p.a+1≤(p.s.length:Int); omega⟩,rfl,rfl,by show p.a≤p.a+1; omega⟩
theorem aA0 {p:aE} (h:aZ p):eZ p (runM p):=by
 have:=vO eY h.2.1 h.2.2
 refine ⟨aZy h,?_,?_,?_⟩ <;> unfold runM <;> split
 ·unfold aU; split <;> rfl
 ·rfl
 ·unfold aU; split <;> rfl
 ·rfl
 ·unfold aU; split <;> exact Int.le_refl _
 ·exact this.1
theorem mV {p:aE} (h:aZ p):eZ p p:=⟨h,rfl,rfl,Int.le_refl _⟩
theorem a8k {p:aE} (h:aZ p):eZ p (nM p):=by
 unfold nM; split
 ·rename_i e; exact fM h (by rw [e]; decide)
 ·exact mV h
theorem a8l {p:aE} (h:aZ p):eZ p (rZ p):=by
 unfold rZ; split
 ·rename_i e; exact fM h (by rw [e]; decide)
 ·exact aA0 h
theorem a8m {p:aE} (h:aZ p):eZ p (lG p):=by
 unfold lG; split
 ·rename_i e
  have k:=fM h (by rw [e.2]; decide)
  exact k.trans (aA0 k.aO)
 ·exact mV h
theorem a2o {p:aE} (h:aZ p):eZ p (mU p):=by
 unfold mU; split
 ·rename_i e
  exact fM h (by rcases e with e | e <;> rw [e] <;> decide)
 ·exact mV h
theorem aFd {p:aE} (h:aZ p):eZ p (jO p):=by
 unfold jO; split
 ·rename_i e
  have k:=fM h (by rcases e.2 with e | e <;> rw [e] <;> decide)
  have k2:=a2o k.aO
  exact (k.trans k2).trans (aA0 k2.aO)
 ·exact mV h
theorem yT {p:aE} (h:aZ p):eZ p (gN p):=by
 have h1:=a8k h
 have h2:=a8l h1.aO
 have h3:=a8m h2.aO
 exact ((h1.trans h2).trans h3).trans (aFd h3.aO)
theorem r7 {p:aE} (h:aZ p):bU [.agg (pW p)]=some (.tup [.int .u8 (hI p),.agg (pW p)]):=by
 unfold bU pW
 exact if_pos ⟨h.1,h.2.1⟩
theorem pL {p:aE} (h:aZ p):wJ [.agg (pW p)]=some (.tup [.agg (pW (runM p))]):=by
 unfold wJ pW
 exact if_pos h
end Go.Fbs

namespace Go.Fbs
open Go.Proofs Go.RowKit
def xL:Spec
 | [.agg [.str s,.int .i64 a,.int .i64 d,.int .i64 e,.int .i64 b]]=>if s.length≤jS∧0≤a∧a≤s.length then some (.tup [.agg [.int .i64 4,.str (x9 ⟨s,a,d,e,b⟩),.sl .ro [],.sl .ro []],.agg (pW (gN ⟨s,a,d,e,b⟩))]) else none
 | _=>none
noncomputable abbrev TLu:List (FuncId×Spec):=[(bL,bU),(iK,wJ)]
theorem cU (q:aE):aD [.str q.s,.int .i64 q.a,.int .i64 q.d,.int .i64 q.e,.int .i64 q.b]=some (.agg (pW q)):=rfl
theorem agA (q:aE):aD [.str q.s,.int .i64 (q.a+1),.int .i64 q.d,.int .i64 q.e,.int .i64 q.b]=some (.agg (pW (fI q))):=rfl
theorem dS (q:aE):aP 5 (.agg (pW q))=some (.agg (pW q)):=rfl
theorem fP (q:aE):aA (.agg (pW q)) 0 = .str q.s:=rfl
theorem fF (q:aE):aA (.agg (pW q)) 1 = .int .i64 q.a:=rfl
theorem fQ (q:aE):aA (.agg (pW q)) 2 = .int .i64 q.d:=rfl
theorem fR (q:aE):aA (.agg (pW q)) 3 = .int .i64 q.e:=rfl
theorem fS (q:aE):aA (.agg (pW q)) 4 = .int .i64 q.b:=rfl
theorem nN (x y:V):extractV (.tup [x,y]) 0=some x:=rfl
theorem nO (x y:V):extractV (.tup [x,y]) 1=some y:=rfl
theorem pT (x:V):extractV (.tup [x]) 0=some x:=rfl
theorem wK (x y : V) : [x,y][0]? = some x:=rfl
theorem wL (x y : V) : [x,y][1]? = some y:=rfl
theorem gz2 (x : V) : [x][0]? = some x:=rfl
theorem r8 (q:aE):(pW q).getD 0 V.undef = .str q.s:=rfl
theorem r9 (q:aE):(pW q).getD 1 V.undef = .int .i64 q.a:=rfl
theorem rA (q:aE):(pW q).getD 2 V.undef = .int .i64 q.d:=rfl
theorem rB (q:aE):(pW q).getD 3 V.undef = .int .i64 q.e:=rfl
theorem rC (q:aE):(pW q).getD 4 V.undef = .int .i64 q.b:=rfl
theorem gp0 (q:aE):gv (pW q) 0 = .str q.s:=rfl
theorem gp1 (q:aE):gv (pW q) 1 = .int .i64 q.a:=rfl
theorem gp2 (q:aE):gv (pW q) 2 = .int .i64 q.d:=rfl
theorem gp3 (q:aE):gv (pW q) 3 = .int .i64 q.e:=rfl
theorem gp4 (q:aE):gv (pW q) 4 = .int .i64 q.b:=rfl
theorem gq2 (x y:V) (q:aE):gv (x::y::pW q) 2 = .str q.s:=rfl
theorem gq3 (x y:V) (q:aE):gv (x::y::pW q) 3 = .int .i64 q.a:=rfl
theorem gq4 (x y:V) (q:aE):gv (x::y::pW q) 4 = .int .i64 q.d:=rfl
theorem gq5 (x y:V) (q:aE):gv (x::y::pW q) 5 = .int .i64 q.e:=rfl
theorem gq6 (x y:V) (q:aE):gv (x::y::pW q) 6 = .int .i64 q.b:=rfl
theorem cq0 (x y z u:V):[x,y,z,u].getD 0 V.undef=x:=rfl
theorem cq1 (x y z u:V):[x,y,z,u].getD 1 V.undef=y:=rfl
theorem agT (t:List UInt8):aD [.int .i64 4,.str t,.sl .ro [],.sl .ro []]=some (.agg [.int .i64 4,.str t,.sl .ro [],.sl .ro []]):=rfl
theorem aOa (p:aE):aD [.str p.s,.int .i64 (nM p).a,.int .i64 p.d,.int .i64 p.e,.int .i64 p.b]=some (.agg (pW (nM p))):=by
 unfold nM; split <;> rfl
theorem iM (x:V):fA 0 (.tup [x])=some (.tup []):=rfl
theorem uL {p:aE} (h:aZ p):IntKind.i64.wrap (p.a+1)=p.a+1:=dN (by have:=h.2.1; omega) (by have:=h.1; have:=h.2.2; unfold jS at *; omega)
theorem aNb:dX Tryz.prog yI dT xL:=by
 refine a3z (T:=TLu) (aH.fD kK (aH.fD aV4 aH.nil)) fun words v hv=>?_
 have c1:∀ args,bD TLu bL args=bU args:=fun _=>rfl
 have c2:∀ args,bD TLu iK args=wJ args:=fun _=>rfl
 unfold xL at hv
 split at hv <;> simp only [Option.ite_none_right_eq_some,Option.some.injEq,reduceCtorEq] at hv
 rename_i s a d e b
 obtain ⟨hd,rfl⟩:=hv
 refine ⟨_,rfl,rfl,rfl,rfl,rfl,rfl,?_⟩
 rw [a5s]
 replace hd:aZ ⟨s,a,d,e,b⟩:=hd
 obtain ⟨p,hp⟩:∃ p:aE,p=⟨s,a,d,e,b⟩:=⟨_,rfl⟩
 have e1:s=p.s:=by rw [hp]
 have e2:a=p.a:=by rw [hp]
 have e3:d=p.d:=by rw [hp]
 have e4:e=p.e:=by rw [hp]
 have e5:b=p.b:=by rw [hp]
 rw [← hp] at hd ⊢
 rw [e1,e2,e3,e4,e5]
 clear hp e1 e2 e3 e4 e5 s a d e b
 have h1:=a8k hd
 simp only [cU,c1,r7 hd,wK,wL,r8,r9,rA,rB,rC,dS,sS,if_true,if_false,reduceCtorEq]
 refine fJ (fun w=>w=[.int .i64 (nM p).a]) (fun w hw=>?_) fun r hr=>?_
 rotate_left
 ·by_cases h:hI p=45
  ·rw [decide_eq_true h,if_pos rfl]
   have e:nM p=fI p:=if_pos h
   rw [uL hd]
   exact hr _ (by rw [e]; rfl)
  ·rw [decide_eq_false h,if_neg (by decide)]
   have e:nM p=p:=if_neg h
   exact hr _ (by rw [e])
 subst hw
 refine ⟨rfl,?_⟩
 simp only [b08,aOa,sS,if_true,if_false,reduceCtorEq]
 generalize hp1:nM p=p1 at h1
 have hd1:=h1.aO
 have h2:=h1.trans (a8l hd1)
 simp only [c1,r7 hd1,wK,wL,r8,r9,rA,rB,rC,dS,sS,if_true,if_false,reduceCtorEq]
 refine fJ (fun w=>w=pW (rZ p1)) (fun w hw=>?_) fun r hr=>?_
 rotate_left
 ·by_cases h:hI p1=48
  ·rw [decide_eq_true h,if_pos rfl]
   have e:rZ p1=fI p1:=if_pos h
   rw [uL hd1]
   exact hr _ (by rw [e]; rfl)
  ·rw [decide_eq_false h,if_neg (by decide)]
   have e:rZ p1=runM p1:=if_neg h
   simp only [cU,c2,pL hd1,gz2,iM,r8,r9,rA,rB,rC,dS,sS,if_true,if_false,reduceCtorEq]
   exact hr _ (by rw [e]; rfl)
 subst hw
 refine ⟨rfl,?_⟩
 generalize hp2:rZ p1=p2 at h2
 have hd2:=h2.aO
 have h3:=h2.trans (a8m hd2)
 simp only [gp0,gp1,gp2,gp3,gp4,cU,c1,r7 hd2,wK,wL,r8,r9,rA,rB,rC,dS,sS,if_true,if_false,reduceCtorEq]
 have h4:=h3.trans (aFd h3.aO)
 have hnum:gN p=jO (lG p2):=by unfold gN; rw [hp1,hp2]
 have hsl:cO (.str (jO (lG p2)).s) (some (.int .i64 p.a)) (some (.int .i64 (jO (lG p2)).a))=some (.str (x9 p)):=by
  obtain ⟨m1,hm1⟩:∃ n:Nat,p.a=n:=⟨p.a.toNat,by have:=hd.2.1; omega⟩
  obtain ⟨m2,hm2⟩:∃ n:Nat,(jO (lG p2)).a=n:=⟨(jO (lG p2)).a.toNat,by have:=h4.aO.2.1; omega⟩
  have hle:=h4.aO.2.2
  have hge:=h4.a
  rw [h4.s,hm1,hm2,aMp (by rw [h4.s] at hle; omega) (by omega)]
  unfold x9
  rw [hnum,hm1,hm2]
  rfl
 rw [hnum]
 by_cases he:p2.e=0
 ·rw [decide_eq_true he,if_pos rfl]
  refine fJ (fun w=>w=pW (lG p2)) (fun w hw=>?_) fun r hr=>?_
  rotate_left
  ·by_cases h:hI p2=46
   ·rw [decide_eq_true h,if_pos rfl]
    have e:lG p2=runM (fI p2):=if_pos ⟨he,h⟩
    have hda:=(fM hd2 (by rw [h]; decide)).aO
    rw [uL hd2]
    simp only [agA,c2,pL hda,gz2,iM,r8,r9,rA,rB,rC,dS,sS,if_true,if_false,reduceCtorEq]
    exact hr _ (by rw [e]; rfl)
   ·rw [decide_eq_false h,if_neg (by decide)]
    have e:lG p2=p2:=if_neg fun x=>h x.2
    exact hr _ (by rw [e]; rfl)
  subst hw
  refine ⟨rfl,?_⟩
  generalize lG p2=p3 at h3 h4 hsl
  have hd3:=h3.aO
  simp only [gp0,gp1,gp2,gp3,gp4,cU,c1,r7 hd3,wK,wL,r8,r9,rA,rB,rC,dS,sS,if_true,if_false,reduceCtorEq]
  by_cases e3:p3.e=0
  ·simp only [decide_eq_true e3,if_true,sS,if_true,if_false,reduceCtorEq]
   refine fJ (fun w=>∃ x y,w=x::y::pW (jO p3)) (fun w hw=>?_) fun r hr=>?_
   rotate_left
   ·by_cases hc:hI p3=101∨hI p3=69
    ·have hb:(decide (hI p3=101) || decide (hI p3=69))=true:=by simpa using hc
     have hda:=(fM hd3 (by rcases hc with h | h <;> rw [h] <;> decide)).aO
     have hd5:=(a2o hda).aO
     have e4:jO p3=runM (mU (fI p3)):=if_pos ⟨e3,hc⟩
     rw [hb,if_pos rfl,uL hd3]
     simp only [agA,c1,r7 hda,wK,wL,r8,r9,rA,rB,rC,dS,sS,if_true,if_false,reduceCtorEq]
     by_cases hs:hI (fI p3)=43∨hI (fI p3)=45
     ·have hb2:(decide (hI (fI p3)=43) || decide (hI (fI p3)=45))=true:=by simpa using hs
      have e5:mU (fI p3)=fI (fI p3):=if_pos hs
      rw [e5] at hd5 e4
      rw [hb2,if_pos rfl,uL hda]
      simp only [agA,c2,pL hd5,gz2,iM,r8,r9,rA,rB,rC,dS,sS,if_true,if_false,reduceCtorEq]
      exact hr _ ⟨_,_,by rw [e4]; rfl⟩
     ·have hb2:(decide (hI (fI p3)=43) || decide (hI (fI p3)=45))=false:=by simpa using hs
      have e5:mU (fI p3)=fI p3:=if_neg hs
      rw [e5] at hd5 e4
      rw [hb2,if_neg (by decide)]
      simp only [cU,c2,pL hd5,gz2,iM,r8,r9,rA,rB,rC,dS,sS,if_true,if_false,reduceCtorEq]
      exact hr _ ⟨_,_,by rw [e4]; rfl⟩
    ·have hb:(decide (hI p3=101) || decide (hI p3=69))=false:=by simpa using hc
     have e4:jO p3=p3:=if_neg fun x=>hc x.2
     rw [hb,if_neg (by decide)]
     exact hr _ ⟨_,_,by rw [e4]; rfl⟩
   obtain ⟨x,y,rfl⟩:=hw
   refine ⟨rfl,?_⟩
   simp only [gp0,gp1,gp2,gp3,gp4,gq2,gq3,gq4,gq5,gq6,hsl,cU,agT,cq0,cq1,sS,if_true,if_false,reduceCtorEq]
  ·simp only [decide_eq_false e3,if_false,sS,if_true,if_false,reduceCtorEq]
   have e4:jO p3=p3:=if_neg fun x=>e3 x.1
   refine fJ (fun w=>∃ x y,w=x::y::pW (jO p3)) (fun w hw=>?_) fun r hr=>?_
   rotate_left
   ·exact hr _ ⟨_,_,by rw [e4]; rfl⟩
   obtain ⟨x,y,rfl⟩:=hw
   refine ⟨rfl,?_⟩
   simp only [gp0,gp1,gp2,gp3,gp4,gq2,gq3,gq4,gq5,gq6,hsl,cU,agT,cq0,cq1,sS,if_true,if_false,reduceCtorEq]
 ·rw [decide_eq_false he,if_neg (by decide)]
  have e3:lG p2=p2:=if_neg fun x=>he x.1
  rw [e3] at hsl ⊢
  have hn4:jO p2=p2:=if_neg fun x=>he x.1
  simp only [gp0,gp1,gp2,gp3,gp4,cU,c1,r7 hd2,wK,wL,r8,r9,rA,rB,rC,dS,decide_eq_false he,sS,if_true,if_false,reduceCtorEq]
  refine fJ (fun w=>∃ x y,w=x::y::pW (jO p2)) (fun w hw=>?_) fun r hr=>?_
  rotate_left
  ·exact hr _ ⟨_,_,by rw [hn4]; rfl⟩
  obtain ⟨x,y,rfl⟩:=hw
  refine ⟨rfl,?_⟩
  simp only [gp0,gp1,gp2,gp3,gp4,gq2,gq3,gq4,gq5,gq6,hsl,cU,agT,cq0,cq1,sS,if_true,if_false,reduceCtorEq]
end Go.Fbs

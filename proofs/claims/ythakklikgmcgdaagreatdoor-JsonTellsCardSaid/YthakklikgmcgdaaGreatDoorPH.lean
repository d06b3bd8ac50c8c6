import Derived.Test.YthakklikgmcgdaaGreatDoorPG
import Derived.Test.YthakklikgmcgdaaGreatDoorPF
set_option linter.unusedSimpArgs false
set_option linter.unusedVariables false
set_option linter.unusedSectionVars false
set_option maxRecDepth 100000
namespace Go.Fbs
open Go.Proofs Go.RowKit
structure RB (p:aE):Prop where
 aO:aZ p
 s:p.s.length≤1000000000
 d0:0≤p.d
 d1:p.d≤20
theorem RB.ahead {p q:aE} (h:RB p) (k:eZ p q):RB q:=⟨k.aO,by rw [k.s]; exact h.s,by rw [k.d]; exact h.d0,by rw [k.d]; exact h.d1⟩
def a5b (o:Bool) (ks:List (List UInt8)) (p:aE):Option (List (List UInt8)×aE) :=
 if o=true then (mW p).map fun r=>(ks++[r.1],aF (gD [58] (aF (if r.1 ∈ ks then aU r.2 p.a 11 else r.2)))) else some (ks,p)
abbrev pP:=List (List UInt8)×List V
def qB (R:RM) (o:Bool) (acc:pP) (p:aE):Option (pP×aE) :=
 if acc.1.length≤100000∧acc.2.length≤100000 then
  match a5b o acc.1 p with
  | none=>none
  | some (ks,p1)=>if p1.e=0 then (R p1).map fun r=>((ks,acc.2++[r.1]),r.2) else some ((ks,acc.2),p1)
 else none
def aQ7 (p:aE):aE:={ p with a:=p.a+1,d:=p.d - 1 }
def qT (p:aE):aE:={ p with a:=p.a+1,d:=p.d+1 }
def wP (one:pP→aE→Option (pP×aE)) (c:UInt8):Nat→pP→aE→Option (Option pP×aE)
 | 0,_,_=>none
 | n+1,acc,p=>if p.e≠0 then some (none,p) else
  match one acc p with
  | none=>none
  | some (acc',p2)=>if (aF p2).e=0∧dU (aF p2)=c then some (some acc',aQ7 (aF p2)) else wP one c n acc' (aF (gD [44] (aF p2)))
def xD (o:Bool):UInt8:=if o=true then 125 else 93
def aQ8 (o:Bool):Int:=if o=true then 7 else 6
def rvalue (o:Bool):Option pP→V
 | some acc=>jn (aQ8 o) [] (acc.1.map V.str) acc.2
 | none=>jn 0 [] [] []
def z7 (R:RM) (o:Bool) (p:aE):Option (V×aE) :=
 if p.d=20 then some (jn 0 [] [] [],aU p p.a 10)
 else if dU (aF (qT p))=xD o then some (jn (aQ8 o) [] [] [],aQ7 (aF (qT p)))
 else (wP (qB R o) (xD o) (p.s.length+3) ([],[]) (aF (qT p))).map fun r=>(rvalue o r.1,r.2)
def iC:Nat→RM
 | 0,_=>none
 | n+1,p =>
  if hI p=110 then some (jn 1 [] [] [],gD [110,117,108,108] p)
  else if hI p=102 then some (jn 2 [] [] [],gD [102,97,108,115,101] p)
  else if hI p=116 then some (jn 3 [] [] [],gD [116,114,117,101] p)
  else if hI p=34 then (mW p).map fun r=>(jn 5 r.1 [] [],r.2)
  else if hI p=91 then z7 (iC n) false p
  else if hI p=123 then z7 (iC n) true p
  else some (sL p,gN p)
def aF0 (R:RM):Prop:=∀ p v q,RB p→p.e=0→R p=some (v,q)→RB q∧q.s=p.s∧Good v∧(q.e=0→q.d=p.d)
theorem wQ {p:aE} (h:aZ p) {c:UInt8} (hc:c≠0):eZ p (gD [c] p):=sD h fun x hx=>by rw [List.mem_singleton.1 hx]; exact hc
theorem aF1 {o:Bool} {ks ks':List (List UInt8)} {p p1:aE} (h:aZ p) (hm:a5b o ks p=some (ks',p1)):eZ p p1:=by
 unfold a5b at hm
 split at hm
 ·obtain ⟨r,hr,he⟩:=Option.map_eq_some_iff.1 hm
  cases he
  have k1:=kO h hr
  have k2:eZ p (if r.1 ∈ ks then aU r.2 p.a 11 else r.2):=by
   split
   ·exact k1.trans (pA k1.aO _ _)
   ·exact k1
  have k3:=k2.trans (k9 k2.aO)
  have k4:=k3.trans (wQ (c:=58) k3.aO (by decide))
  exact k4.trans (k9 k4.aO)
 ·cases hm; exact mV h
theorem aIo {R:RM} (hk:aF0 R) {o:Bool} {acc acc':pP} {p q:aE} (h:RB p) (hg:∀ e ∈ acc.2,Good e) (ho:qB R o acc p=some (acc',q)):RB q∧q.s=p.s∧(∀ e ∈ acc'.2,Good e)∧(q.e=0→q.d=p.d):=by
 unfold qB at ho
 split at ho
 case isFalse=>cases ho
 split at ho
 ·cases ho
 ·rename_i ks p1 hm
  have k1:=aF1 h.aO hm
  have h1:=h.ahead k1
  split at ho
  ·rename_i he
   obtain ⟨r,hr,he2⟩:=Option.map_eq_some_iff.1 ho
   cases he2
   obtain ⟨q1,q2,q3,q4⟩:=hk p1 r.1 r.2 h1 he hr
   refine ⟨q1,q2.trans k1.s,fun e hm=>?_,fun hz=>(q4 hz).trans k1.d⟩
   rcases List.mem_append.1 hm with hm | hm
   ·exact hg e hm
   ·rw [List.mem_singleton.1 hm]; exact q3
  ·cases ho
   exact ⟨h1,k1.s,hg,fun _=>k1.d⟩
theorem aMd {p:aE} (h:RB p) (hlt:p.a < p.s.length) (hd:1≤p.d):RB (aQ7 p):=⟨⟨h.aO.1,by show 0≤p.a+1; have:=h.aO.2.1; omega,by show p.a+1≤(p.s.length:Int); omega⟩,h.s,by show 0≤p.d - 1; omega,by show p.d - 1≤20; have:=h.d1; omega⟩
theorem aQ9 {p:aE} (h:RB p) {c:UInt8} (hc:c≠0):RB (aF (gD [c] p)):=by
 have k1:=wQ h.aO hc
 exact h.ahead (k1.trans (k9 k1.aO))
theorem aF2 {R:RM} (hk:aF0 R) {o:Bool} {dd:Int} (hdd:0≤dd):∀ (n:Nat) (acc:pP) (p:aE) (r:Option pP×aE),RB p→(p.e=0→p.d=dd+1)→(∀ e ∈ acc.2,Good e)→wP (qB R o) (xD o) n acc p=some r→RB r.2∧r.2.s=p.s∧(∀ a,r.1=some a→∀ e ∈ a.2,Good e)∧(r.2.e=0→r.2.d=dd)
 | 0,_,_,_,_,_,_,h=>by cases h
 | n+1,acc,p,r,hp,hd,hg,h=>by
  rw [wP] at h
  split at h
  ·rename_i he
   cases h
   exact ⟨hp,rfl,fun a ha=>(by cases ha),fun hz=>absurd hz he⟩
  ·rename_i he
   have he0:p.e=0:=Decidable.byContradiction he
   split at h
   ·cases h
   ·rename_i acc' p2 ho
    obtain ⟨k1,k2,k3,k4⟩:=aIo hk hp hg ho
    have k5:=k9 k1.aO
    have h5:=k1.ahead k5
    split at h
    ·rename_i hc
     cases h
     have hlt:(aF p2).a < (aF p2).s.length:=qO h5.aO (by rw [hc.2]; unfold xD; split <;> decide)
     have hd2:(aF p2).d=dd+1:=by rw [k5.d,k4 hc.1,hd he0]
     refine ⟨aMd h5 hlt (by omega),k5.s.trans k2,fun a ha=>by cases ha; exact k3,fun _=>by show (aF p2).d - 1=dd; omega⟩
    ·have k6:=wQ (c:=44) h5.aO (by decide)
     have k7:=k6.trans (k9 k6.aO)
     obtain ⟨m1,m2,m3,m4⟩:=aF2 hk hdd n acc' _ r (h5.ahead k7) (fun hz=>by
      rw [k7.d,k5.d]
      have h44:(aF p2).e=0:=by
       have hz':(gD [44] (aF p2)).e=0:=hz
       refine Decidable.byContradiction fun hne=>?_
       rw [aG7 hne] at hz'
       exact hne hz'
      rw [k4 h44,hd he0]) k3 h
     exact ⟨m1,m2.trans (k7.s.trans (k5.s.trans k2)),m3,m4⟩
theorem aOp {k:Int} {ks:List (List UInt8)} {ls:List V} (h:∀ e ∈ ls,Good e):Good (jn k [] (ks.map V.str) ls):=by
 refine ⟨_,_,_,_,rfl,?_⟩
 have h1:aJ ls=true:=jF.2 fun e he=>iZ (h e he)
 simp [jn,V.bR,aJ,h1,uN]
theorem aMe {p:aE} (h:RB p) (h0:hI p≠0) (hd:p.d≠20):RB (qT p):=by
 have hlt:=a45 h.aO h0
 exact ⟨⟨h.aO.1,by show 0≤p.a+1; have:=h.aO.2.1; omega,by show p.a+1≤(p.s.length:Int); omega⟩,h.s,by show 0≤p.d+1; have:=h.d0; omega,by show p.d+1≤20; have:=h.d1; omega⟩
theorem a83 {R:RM} (hk:aF0 R) {o:Bool} {p q:aE} {v:V} (h:RB p) (h0:hI p≠0) (hl:z7 R o p=some (v,q)):RB q∧q.s=p.s∧Good v∧(q.e=0→q.d=p.d):=by
 unfold z7 at hl
 split at hl
 ·cases hl
  have k:=pA h.aO p.a 10
  exact ⟨h.ahead k,k.s,nD 0 [],fun _=>k.d⟩
 ·rename_i hd
  have h1:=aMe h h0 hd
  have k1:=k9 h1.aO
  have h2:=h1.ahead k1
  have hd2:(aF (qT p)).d=p.d+1:=k1.d
  have hs2:(aF (qT p)).s=p.s:=k1.s
  split at hl
  ·rename_i hc
   cases hl
   have hlt:(aF (qT p)).a < (aF (qT p)).s.length:=qO h2.aO (by rw [hc]; unfold xD; split <;> decide)
   have:=h.d0
   exact ⟨aMd h2 hlt (by omega),hs2,aOp (ks:=[]) (fun e he=>by cases he),fun _=>by show (aF (qT p)).d - 1=p.d; omega⟩
  ·obtain ⟨r,hr,he⟩:=Option.map_eq_some_iff.1 hl
   cases he
   obtain ⟨m1,m2,m3,m4⟩:=aF2 hk h.d0 _ _ _ r h2 (fun _=>hd2) (fun e he=>by cases he) hr
   refine ⟨m1,m2.trans hs2,?_,m4⟩
   unfold rvalue
   split
   ·rename_i acc ha
    exact aOp (m3 acc ha)
   ·exact nD 0 []
theorem a5c:∀ n,aF0 (iC n)
 | 0=>fun p v q _ _ h=>by cases h
 | n+1=>fun p v q h he hv=>by
  have hk:=a5c n
  have W:∀ (t:List UInt8) (k:Int),(∀ c ∈ t,c≠0)→some (jn k [] [] [],gD t p)=some (v,q)→RB q∧q.s=p.s∧Good v∧(q.e=0→q.d=p.d):=fun t k ht hv=>by
   cases hv
   have k:=sD h.aO ht
   exact ⟨h.ahead k,k.s,nD _ [],fun _=>k.d⟩
  rw [iC] at hv
  split at hv
  ·exact W _ _ (by decide) hv
  split at hv
  ·exact W _ _ (by decide) hv
  split at hv
  ·exact W _ _ (by decide) hv
  split at hv
  ·obtain ⟨r,hr,e⟩:=Option.map_eq_some_iff.1 hv
   cases e
   have k:=kO h.aO hr
   exact ⟨h.ahead k,k.s,nD 5 _,fun _=>k.d⟩
  split at hv
  ·rename_i h91
   exact a83 hk h (by omega) hv
  split at hv
  ·rename_i h123
   exact a83 hk h (by omega) hv
  ·cases hv
   have k:=yT h.aO
   refine ⟨h.ahead k,k.s,?_,fun _=>k.d⟩
   unfold sL
   split <;> exact nD _ _
end Go.Fbs

namespace Go.Fbs
open Go.Proofs Go.RowKit
def a01 (R:RM):Spec
 | [.agg [.str s,.int .i64 a,.int .i64 d,.int .i64 e,.int .i64 b]]=>if (s.length≤1000000000∧0≤a∧a≤s.length)∧(0≤d∧d≤20)∧e=0 then (R ⟨s,a,d,e,b⟩).map fun r=>.tup [r.1,.agg (pW r.2)] else none
 | _=>none
theorem aMf {R:RM} {p q:aE} {v:V} (h:RB p) (he:p.e=0) (hR:R p=some (v,q)):a01 R [.agg (pW p)]=some (.tup [v,.agg (pW q)]):=by
 unfold a01 pW
 refine (if_pos ⟨⟨h.s,h.aO.2.1,h.aO.2.2⟩,⟨h.d0,h.d1⟩,he⟩).trans ?_
 rw [show (⟨p.s,p.a,p.d,p.e,p.b⟩:aE)=p from rfl,hR]; rfl
def a29 (R:RM):Spec
 | [.agg [.str s,.int .i64 a,.int .i64 d,.int .i64 e,.int .i64 b],.bool o]=>if (s.length≤1000000000∧0≤a∧a≤s.length)∧(0≤d∧d≤20)∧e=0∧hI ⟨s,a,d,e,b⟩≠0 then (z7 R o ⟨s,a,d,e,b⟩).map fun r=>.tup [r.1,.agg (pW r.2)] else none
 | _=>none
theorem aF3 {R:RM} {o:Bool} {p q:aE} {v:V} (h:RB p) (he:p.e=0) (h0:hI p≠0) (hR:z7 R o p=some (v,q)):a29 R [.agg (pW p),.bool o]=some (.tup [v,.agg (pW q)]):=by
 unfold a29 pW
 refine (if_pos ⟨⟨h.s,h.aO.2.1,h.aO.2.2⟩,⟨h.d0,h.d1⟩,he,h0⟩).trans ?_
 rw [show (⟨p.s,p.a,p.d,p.e,p.b⟩:aE)=p from rfl,hR]; rfl
theorem aF4 {p:aE} (h:RB p) (he:p.e=0) {r:List UInt8×aE} (hr:mW p=some r):xM [.agg (pW p)]=some (.tup [.str r.1,.agg (pW r.2)]):=by
 unfold xM pW
 refine (if_pos ⟨⟨h.s,h.aO.2.1,h.aO.2.2⟩,he⟩).trans ?_
 rw [show (⟨p.s,p.a,p.d,p.e,p.b⟩:aE)=p from rfl,hr]; rfl
theorem b0a {ls:List V} {v:V} (hl:ls.length≤100000) (h:∀ e ∈ ls,Good e) (hv:Good v):appK 4 72 (.sl .ro ls) (.sl .ro [v])=some (.sl .ro (ls++[v])):=by
 refine aQi (by simp; omega) (List.all_eq_true.2 fun e he=>?_) ?_
 ·obtain ⟨k,t,ks,l,rfl,_⟩:=h e he; rfl
 ·obtain ⟨k,t,ks,l,rfl,_⟩:=hv; rfl
def lw (q:aE) (x y:V):List V:=[.str q.s,.int .i64 q.a,.int .i64 q.d,.int .i64 q.e,.int .i64 q.b,x,y]
def mw (x y:V) (q:aE):List V:=[x,y,.str q.s,.int .i64 q.a,.int .i64 q.d,.int .i64 q.e,.int .i64 q.b]
def kw (x y z:V) (q:aE):List V:=[x,y,z,.str q.s,.int .i64 q.a,.int .i64 q.d,.int .i64 q.e,.int .i64 q.b]
theorem lg (q:aE) (x y:V):gv (lw q x y) 0 = .str q.s∧gv (lw q x y) 1 = .int .i64 q.a∧gv (lw q x y) 2 = .int .i64 q.d∧gv (lw q x y) 3 = .int .i64 q.e∧gv (lw q x y) 4 = .int .i64 q.b∧gv (lw q x y) 5=x∧gv (lw q x y) 6=y:=⟨rfl,rfl,rfl,rfl,rfl,rfl,rfl⟩
theorem mg (q:aE) (x y:V):gv (mw x y q) 0=x∧gv (mw x y q) 1=y∧gv (mw x y q) 2 = .str q.s∧gv (mw x y q) 3 = .int .i64 q.a∧gv (mw x y q) 4 = .int .i64 q.d∧gv (mw x y q) 5 = .int .i64 q.e∧gv (mw x y q) 6 = .int .i64 q.b:=⟨rfl,rfl,rfl,rfl,rfl,rfl,rfl⟩
theorem kg (q:aE) (x y z:V):gv (kw x y z q) 0=x∧gv (kw x y z q) 1=y∧gv (kw x y z q) 2=z∧gv (kw x y z q) 3 = .str q.s∧gv (kw x y z q) 4 = .int .i64 q.a∧gv (kw x y z q) 5 = .int .i64 q.d∧gv (kw x y z q) 6 = .int .i64 q.e∧gv (kw x y z q) 7 = .int .i64 q.b:=⟨rfl,rfl,rfl,rfl,rfl,rfl,rfl,rfl⟩
theorem aT8 (p:aE) (x y:Int):aU (aU p x y) x y=aU p x y:=by
 unfold aU
 by_cases h:p.e=0
 ·rw [if_pos h]
  split
  ·rfl
  ·rfl
 ·rw [if_neg h,if_neg h]
theorem b2c {d:Int} (h0:0≤d) (h1:d≤20):aC .sub (.int .i64 d) (.int .i64 1)=some (.int .i64 (d - 1)):=by
 show some (V.int .i64 (IntKind.i64.wrap (d - 1)))=_
 rw [dN (by omega) (by omega)]
theorem b4d {d:Int} (h0:0≤d) (h1:d≤20):aC .add (.int .i64 d) (.int .i64 1)=some (.int .i64 (d+1)):=by
 show some (V.int .i64 (IntKind.i64.wrap (d+1)))=_
 rw [dN (by omega) (by omega)]
theorem agO (q:aE):aD [.str q.s,.int .i64 (q.a+1),.int .i64 (q.d+1),.int .i64 q.e,.int .i64 q.b]=some (.agg (pW (qT q))):=rfl
theorem agC (q:aE):aD [.str q.s,.int .i64 (q.a+1),.int .i64 (q.d - 1),.int .i64 q.e,.int .i64 q.b]=some (.agg (pW (aQ7 q))):=rfl
theorem z8 (k:Int) (t:List UInt8) (a b:List V):aD [.int .i64 k,.str t,.sl .ro a,.sl .ro b]=some (jn k t a b):=rfl
theorem aB7 (o:Bool) (q:aE):hI q=((xD o).toNat:Int)↔dU q=xD o:=⟨fun h=>toNat_inj h,fun h=>by unfold hI; rw [h]⟩
theorem aB8 (o:Bool):0 < ((xD o).toNat:Int)∧((xD o).toNat:Int) < 256:=by cases o <;> decide
noncomputable abbrev TRl (R:RM):List (FuncId×Spec):=[(bO,cE),(aG,tW),(aQ,aL),(cQ,a0p),(gM,xM),(gG,a01 R)]
attribute [local irreducible] bK aX in
theorem aT9 {R:RM} (hk:aF0 R) (hR:dX Tryz.prog mK bQ (a01 R)):dX Tryz.prog tU cJ (a29 R):=by
 refine a0i (T:=TRl R) (aH.fD aFz (aH.fD a68 (aH.fD a1n (aH.fD aIj (aH.fD aIm (aH.fD hR aH.nil)))))) fun words v hv=>?_
 have c1:∀ args,bD (TRl R) bO args=cE args:=fun _=>rfl
 have c2:∀ args,bD (TRl R) aG args=tW args:=fun _=>rfl
 have c3:∀ args,bD (TRl R) aQ args=aL args:=fun _=>rfl
 have c4:∀ args,bD (TRl R) cQ args=a0p args:=fun _=>rfl
 have c5:∀ args,bD (TRl R) gM args=xM args:=fun _=>rfl
 have c6:∀ args,bD (TRl R) gG args=a01 R args:=fun _=>rfl
 unfold a29 at hv
 split at hv <;> simp only [Option.ite_none_right_eq_some,Option.map_eq_some_iff,reduceCtorEq] at hv
 rename_i s a d e b o
 obtain ⟨⟨⟨hs,h2,h3⟩,hdd,he,h0⟩,res,hres,rfl⟩:=hv
 have hp:RB ⟨s,a,d,e,b⟩:=⟨⟨by show s.length≤jS; unfold jS; omega,h2,h3⟩,hs,hdd.1,hdd.2⟩
 have hgood:=(a83 hk hp h0 hres).2.2.1
 refine ⟨_,rfl,rfl,rfl,by simp [aJ,V.bR,a0k,iZ hgood],rfl,rfl,?_⟩
 refine Eq.mpr (a1f _ _ (.str s) (.int .i64 a) (.int .i64 d) (.int .i64 e) (.int .i64 b) (.bool o)) ?_
 clear hs h2 h3 hdd
 replace he:(⟨s,a,d,e,b⟩:aE).e=0:=he
 obtain ⟨p,hpe⟩:∃ p:aE,p=⟨s,a,d,e,b⟩:=⟨_,rfl⟩
 have e1:s=p.s:=by rw [hpe]
 have e2:a=p.a:=by rw [hpe]
 have e3:d=p.d:=by rw [hpe]
 have e4:e=p.e:=by rw [hpe]
 have e5:b=p.b:=by rw [hpe]
 rw [← hpe] at hp h0 hres he
 rw [e1,e2,e3,e4,e5]
 clear hpe e1 e2 e3 e4 e5 s a d e b
 have w20:∀ x y:V,gv [x,y] 0=x:=fun _ _=>rfl
 have w21:∀ x y:V,gv [x,y] 1=y:=fun _ _=>rfl
 rw [z8,aB]
 refine fJ (fun w=>w=[.int .u8 (xD o).toNat,.int .i64 (aQ8 o)]) (fun w hw=>?_) fun r hr=>?_
 case refine_2 =>
  cases o
  ·rw [cF]; exact hr _ rfl
  ·rw [dW]; exact hr _ rfl
 subst hw
 refine ⟨rfl,?_⟩
 rw [w20,w21,yZ,aB,zO]
 unfold z7 at hres
 by_cases hd20:p.d=20
 ·rw [if_pos hd20] at hres
  cases hres
  rw [decide_eq_true hd20,dW,cU,aB,c3,mE,aB,iM,aB,pT,aB,dS,aB,z8,aB,cJ0,zO,z8,aB,fP,fF,fQ,fR,fS,cU,aB]
 rw [if_neg hd20] at hres
 have ho:=aMe hp h0 hd20
 have k1:=k9 ho.aO
 have h1:=ho.ahead k1
 have he1:(aF (qT p)).e=0:=he
 have hd1:(aF (qT p)).d=p.d+1:=k1.d
 rw [decide_eq_false hd20,cF,b4d hp.d0 hp.d1,aB,wD hp.aO,aB,agO,aB,c1,nA ho.aO,aB,iM,aB,pT,aB,dS,aB,fP,fF,fQ,fR,fS,cU,aB,c2,kP h1.aO (aB8 o).1 (aB8 o).2,aB,nN,aB,nO,aB,dS,aB,fP,fF,fQ,fR,fS]
 generalize aF (qT p)=p1 at *
 by_cases hend:dU p1=xD o
 ·rw [if_pos hend] at hres
  cases hres
  rw [decide_eq_true ((aB7 o p1).2 hend),dW,wD h1.aO,aB,b2c h1.d0 h1.d1,aB,z8,aB,agC,aB]
 rw [if_neg hend] at hres
 obtain ⟨rr,hrr,rfl⟩:=Option.map_eq_some_iff.1 hres
 rw [decide_eq_false fun h=>hend ((aB7 o p1).1 h),cF]
 clear hres hend hgood
 refine a8q (fun n vs=>∃ (acc:pP) (q:aE),vs=lw q (.sl .ro (acc.1.map V.str)) (.sl .ro acc.2)∧wP (qB R o) (xD o) n acc q=some rr∧RB q∧(∀ e ∈ acc.2,Good e)) (p.s.length+3) ⟨([],[]),p1,rfl,hrr,h1,fun e he=>by cases he⟩ (fun vs h=>by obtain ⟨_,_,_,h,_⟩:=h; cases h) ?_
 clear hrr h1 he1 hd1 k1
 rintro n r0 vs ⟨acc,q,rfl,hq,hqb,hgl⟩ hnext
 refine ⟨rfl,?_⟩
 obtain ⟨l0,l1,l2,l3,l4,l5,l6⟩:=lg q (.sl .ro (acc.1.map V.str)) (.sl .ro acc.2)
 simp only [l0,l1,l2,l3,l4,l5,l6]
 rw [wP] at hq
 rw [yZ,aB]
 by_cases hqe:q.e=0
 case neg =>
  rw [if_pos hqe] at hq
  cases hq
  rw [decide_eq_false hqe,cF,z8,aB,cJ0,zO,z8,aB,cU,aB]; rfl
 rw [if_neg (fun h=>h hqe)] at hq
 rw [decide_eq_true hqe,dW]
 cases hone:qB R o acc q with
 | none=>rw [hone] at hq; cases hq
 | some res1 =>
 obtain ⟨acc',p2⟩:=res1
 rw [hone] at hq
 dsimp only at hq
 obtain ⟨g1,g2,g3,g4⟩:=aIo hk hqb hgl hone
 unfold qB at hone
 by_cases hlen:acc.1.length≤100000∧acc.2.length≤100000
 case neg=>rw [if_neg hlen] at hone; cases hone
 rw [if_pos hlen] at hone
 cases hmid:a5b o acc.1 q with
 | none=>rw [hmid] at hone; cases hone
 | some mid =>
 obtain ⟨ks,m1⟩:=mid
 rw [hmid] at hone
 dsimp only at hone
 have km:=aF1 hqb.aO hmid
 have hm1:=hqb.ahead km
 refine fJ (fun w=>w=mw (.sl .ro (ks.map V.str)) (.sl .ro acc.2) m1) (fun w hw=>?_) fun r hr=>?_
 case refine_2 =>
  unfold a5b at hmid
  cases o with
  | false =>
   rw [if_neg Bool.false_ne_true] at hmid
   cases hmid
   rw [cF]; exact hr _ rfl
  | true =>
   rw [if_pos rfl] at hmid
   obtain ⟨t,ht,e⟩:=Option.map_eq_some_iff.1 hmid
   cases e
   have kt:=kO hqb.aO ht
   rw [dW,cU,aB,c5,aF4 hqb hqe ht,aB,nN,aB,nO,aB,dS,aB,fP,fF,fQ,fR,fS]
   refine gP (fun vs=>∃ i:Nat,vs=kw (.sl .ro (acc.1.map V.str)) (.sl .ro acc.2) (.int .i64 i) (if t.1 ∈ acc.1.take i then aU t.2 q.a 11 else t.2)∧i≤acc.1.length) (fun vs=>acc.1.length - nQ (gv vs 2)) ⟨0,by rw [List.take_zero,if_neg (by simp)]; rfl,Nat.zero_le _⟩ ?_
   rintro r2 vs ⟨i,rfl,hi⟩ hn2
   refine ⟨rfl,?_⟩
   obtain ⟨y0,y1,y2,y3,y4,y5,y6,y7⟩:=kg (if t.1 ∈ acc.1.take i then aU t.2 q.a 11 else t.2) (.sl .ro (acc.1.map V.str)) (.sl .ro acc.2) (.int .i64 i)
   simp only [y0,y1,y2,y3,y4,y5,y6,y7]
   rw [a2s,aB,a0o,aB,List.length_map]
   by_cases hlt:i < acc.1.length
   ·have hg:=List.getElem?_eq_getElem hlt
    have htk:acc.1.take (i+1)=acc.1.take i++[acc.1[i]]:=by rw [List.take_add_one,hg]; rfl
    have hes:∀ x y:List UInt8,aC .eql (.str x) (.str y)=some (.bool (decide (x=y))):=fun x y=>by rw [b04]; try (congr 2; by_cases e:x=y <;> simp [e])
    rw [decide_eq_true (by omega),dW,a8t hg,aB,hes,aB]
    by_cases heq:acc.1[i]=t.1
    ·have hin:t.1 ∈ acc.1.take (i+1):=by rw [htk,heq]; simp
     have hff:aU (if t.1 ∈ acc.1.take i then aU t.2 q.a 11 else t.2) q.a 11=aU t.2 q.a 11:=by
      split
      ·exact aT8 _ _ _
      ·rfl
     rw [decide_eq_true heq,dW,cU,aB,c3,mE,aB,iM,aB,pT,aB,dS,aB,aBf (by omega),aB,hff,fP,fF,fQ,fR,fS]
     exact hn2 _ ⟨i+1,by rw [if_pos hin]; rfl,hlt⟩ (by show acc.1.length - (i+1) < acc.1.length - i; omega)
    ·have hin:t.1 ∈ acc.1.take (i+1)↔t.1 ∈ acc.1.take i:=by rw [htk,List.mem_append,List.mem_singleton]; exact ⟨fun h=>h.elim id fun h=>absurd h.symm heq,.inl⟩
     rw [decide_eq_false heq,cF,aBf (by omega),aB]
     exact hn2 _ ⟨i+1,by simp only [hin]; rfl,hlt⟩ (by show acc.1.length - (i+1) < acc.1.length - i; omega)
   ·have hie:i=acc.1.length:=by omega
    subst hie
    rw [List.take_length]
    have ktw:eZ q (if t.1 ∈ acc.1 then aU t.2 q.a 11 else t.2):=by
     split
     ·exact kt.trans (pA kt.aO _ _)
     ·exact kt
    have ks1:=ktw.trans (k9 ktw.aO)
    have kw1:=ks1.trans (wQ (c:=58) ks1.aO (by decide))
    generalize (if t.1 ∈ acc.1 then aU t.2 q.a 11 else t.2)=tw at *
    rw [decide_eq_false (by omega),cF,show kV 1 [V.str t.1]=some (.sl .ro [.str t.1]) from rfl,aB,a8y (by omega),aB,cU,aB,c1,nA ktw.aO,aB,iM,aB,pT,aB,dS,aB,fP,fF,fQ,fR,fS,cU,aB,c4,vR ks1.aO (by decide) (by decide),aB,iM,aB,pT,aB,dS,aB,fP,fF,fQ,fR,fS,cU,aB,c1,nA kw1.aO,aB,iM,aB,pT,aB,dS,aB,fP,fF,fQ,fR,fS]
    exact hr _ rfl
 subst hw
 refine ⟨rfl,?_⟩
 obtain ⟨n0,n1,n2,n3,n4,n5,n6⟩:=mg m1 (.sl .ro (ks.map V.str)) (.sl .ro acc.2)
 simp only [n0,n1,n2,n3,n4,n5,n6]
 rw [yZ,aB]
 refine fJ (fun w=>w=mw (.sl .ro (acc'.1.map V.str)) (.sl .ro acc'.2) p2) (fun w hw=>?_) fun r hr=>?_
 case refine_2 =>
  by_cases hme:m1.e=0
  ·rw [if_pos hme] at hone
   obtain ⟨vr,hvr,e⟩:=Option.map_eq_some_iff.1 hone
   obtain ⟨vv,vq⟩:=vr
   cases e
   have hgv:=(hk m1 vv vq hm1 hme hvr).2.2.1
   rw [decide_eq_true hme,dW,cU,aB,c6,aMf hm1 hme hvr,aB,nN,aB,nO,aB,dS,aB,aYe hgv,aB,b0a hlen.2 hgl hgv,aB,fP,fF,fQ,fR,fS]
   exact hr _ rfl
  ·rw [if_neg hme] at hone
   cases hone
   rw [decide_eq_false hme,cF]
   exact hr _ rfl
 subst hw
 refine ⟨rfl,?_⟩
 obtain ⟨n0,n1,n2,n3,n4,n5,n6⟩:=mg p2 (.sl .ro (acc'.1.map V.str)) (.sl .ro acc'.2)
 simp only [n0,n1,n2,n3,n4,n5,n6]
 have k3:=k9 g1.aO
 have hb3:=g1.ahead k3
 rw [cU,aB,c1,nA g1.aO,aB,iM,aB,pT,aB,dS,aB,fP,fF,fQ,fR,fS,yZ,aB]
 generalize aF p2=p3 at *
 have hcont:¬ (p3.e=0∧dU p3=xD o)→r0 (lw (aF (gD [44] p3)) (.sl .ro (acc'.1.map V.str)) (.sl .ro acc'.2)):=fun hn=>by
  rw [if_neg hn] at hq
  exact hnext _ ⟨acc',_,rfl,hq,aQ9 hb3 (by decide),g3⟩
 have kw3:=wQ (c:=44) hb3.aO (by decide)
 by_cases he3:p3.e=0
 ·rw [decide_eq_true he3,dW,cU,aB,c2,kP hb3.aO (aB8 o).1 (aB8 o).2,aB,nN,aB,nO,aB,dS,aB,fP,fF,fQ,fR,fS]
  by_cases hend:dU p3=xD o
  ·rw [if_pos ⟨he3,hend⟩] at hq
   cases hq
   rw [decide_eq_true ((aB7 o p3).2 hend),dW,wD hb3.aO,aB,b2c hb3.d0 hb3.d1,aB,z8,aB,agC,aB]; rfl
  ·rw [decide_eq_false fun h=>hend ((aB7 o p3).1 h),cF,cU,aB,c4,vR hb3.aO (by decide) (by decide),aB,iM,aB,pT,aB,dS,aB,fP,fF,fQ,fR,fS,cU,aB,c1,nA kw3.aO,aB,iM,aB,pT,aB,dS,aB,fP,fF,fQ,fR,fS]
   exact hcont fun h=>hend h.2
 ·rw [decide_eq_false he3,cF,cU,aB,c4,vR hb3.aO (by decide) (by decide),aB,iM,aB,pT,aB,dS,aB,fP,fF,fQ,fR,fS,cU,aB,c1,nA kw3.aO,aB,iM,aB,pT,aB,dS,aB,fP,fF,fQ,fR,fS]
  exact hcont fun h=>he3 h.1
end Go.Fbs

namespace Go.Fbs
open Go.Proofs Go.RowKit
noncomputable abbrev TRv (R:RM):List (FuncId×Spec):=[(aG,tW),(cQ,a0p),(gM,xM),(jZ,a29 R),(jH,tL fun p=>some (sL p,gN p))]
attribute [local irreducible] bK aX in
theorem aF5:∀ n,dX Tryz.prog mK bQ (a01 (iC n))
 | 0=>by
  refine pS (T:=[]) aH.nil fun words v hv=>?_
  unfold a01 at hv
  split at hv
  ·simp only [Option.ite_none_right_eq_some,Option.map_eq_some_iff] at hv
   obtain ⟨_,_,h,_⟩:=hv
   cases h
  ·cases hv
 | n+1=>by
  have hl:=aT9 (a5c n) (aF5 n)
  refine pS (T:=TRv (iC n)) (aH.fD a68 (aH.fD aIj (aH.fD aIm (aH.fD hl (aH.fD aNi aH.nil))))) fun words v hv=>?_
  have c1:∀ args,bD (TRv (iC n)) aG args=tW args:=fun _=>rfl
  have c2:∀ args,bD (TRv (iC n)) cQ args=a0p args:=fun _=>rfl
  have c3:∀ args,bD (TRv (iC n)) gM args=xM args:=fun _=>rfl
  have c4:∀ args,bD (TRv (iC n)) jZ args=a29 (iC n) args:=fun _=>rfl
  have c5:∀ args,bD (TRv (iC n)) jH args=tL (fun p=>some (sL p,gN p)) args:=fun _=>rfl
  unfold a01 at hv
  split at hv <;> simp only [Option.ite_none_right_eq_some,Option.map_eq_some_iff,reduceCtorEq] at hv
  rename_i s a d e b
  obtain ⟨⟨⟨hs,h2,h3⟩,hdd,he⟩,res,hres,rfl⟩:=hv
  have hp:RB ⟨s,a,d,e,b⟩:=⟨⟨by show s.length≤jS; unfold jS; omega,h2,h3⟩,hs,hdd.1,hdd.2⟩
  have hgood:=(a5c (n+1) _ _ _ hp he hres).2.2.1
  refine ⟨_,rfl,rfl,rfl,by simp [aJ,V.bR,a0k,iZ hgood],rfl,rfl,?_⟩
  refine Eq.mpr (a0e _ _ (.str s) (.int .i64 a) (.int .i64 d) (.int .i64 e) (.int .i64 b)) ?_
  clear hs h2 h3 hdd
  replace he:(⟨s,a,d,e,b⟩:aE).e=0:=he
  obtain ⟨p,hpe⟩:∃ p:aE,p=⟨s,a,d,e,b⟩:=⟨_,rfl⟩
  have e1:s=p.s:=by rw [hpe]
  have e2:a=p.a:=by rw [hpe]
  have e3:d=p.d:=by rw [hpe]
  have e4:e=p.e:=by rw [hpe]
  have e5:b=p.b:=by rw [hpe]
  rw [← hpe] at hp hres he
  rw [e1,e2,e3,e4,e5]
  clear hpe e1 e2 e3 e4 e5 s a d e b
  have hneq:∀ x y:Int,aC .neq (.int .i64 x) (.int .i64 y)=some (.bool (!decide (x=y))):=fun x y=>aK6 .i64 x y
  have hris:∀ c:Int,0 < c→c < 256→tW [.agg (pW p),.int .u8 c]=some (.tup [.bool (decide (hI p=c)),.agg (pW p)]):=fun c h0 h1=>kP hp.aO h0 h1
  rw [iC] at hres
  rw [hneq,aB,decide_eq_true he,show (!true)=false from rfl,cF,cU,aB,c1,hris 110 (by decide) (by decide),aB,nN,aB,nO,aB,dS,aB,fP,fF,fQ,fR,fS]
  by_cases q1:hI p=110
  ·rw [if_pos q1] at hres
   cases hres
   rw [decide_eq_true q1,dW,cU,aB,c2,vR hp.aO (by decide) (by decide),aB,iM,aB,pT,aB,dS,aB,z8,aB,cJ0,zO,z8,aB,fP,fF,fQ,fR,fS,cU,aB]
  rw [if_neg q1] at hres
  rw [decide_eq_false q1,cF,cU,aB,c1,hris 102 (by decide) (by decide),aB,nN,aB,nO,aB,dS,aB,fP,fF,fQ,fR,fS]
  by_cases q2:hI p=102
  ·rw [if_pos q2] at hres
   cases hres
   rw [decide_eq_true q2,dW,cU,aB,c2,vR hp.aO (by decide) (by decide),aB,iM,aB,pT,aB,dS,aB,z8,aB,cJ0,zO,z8,aB,fP,fF,fQ,fR,fS,cU,aB]
  rw [if_neg q2] at hres
  rw [decide_eq_false q2,cF,cU,aB,c1,hris 116 (by decide) (by decide),aB,nN,aB,nO,aB,dS,aB,fP,fF,fQ,fR,fS]
  by_cases q3:hI p=116
  ·rw [if_pos q3] at hres
   cases hres
   rw [decide_eq_true q3,dW,cU,aB,c2,vR hp.aO (by decide) (by decide),aB,iM,aB,pT,aB,dS,aB,z8,aB,cJ0,zO,z8,aB,fP,fF,fQ,fR,fS,cU,aB]
  rw [if_neg q3] at hres
  rw [decide_eq_false q3,cF,cU,aB,c1,hris 34 (by decide) (by decide),aB,nN,aB,nO,aB,dS,aB,fP,fF,fQ,fR,fS]
  by_cases q4:hI p=34
  ·rw [if_pos q4] at hres
   obtain ⟨t,ht,e⟩:=Option.map_eq_some_iff.1 hres
   cases e
   rw [decide_eq_true q4,dW,cU,aB,c3,aF4 hp he ht,aB,nN,aB,nO,aB,dS,aB,show iI (.str t.1)=some (.str t.1) from rfl,aB,z8,aB,cJ0,zO,z8,aB,fP,fF,fQ,fR,fS,cU,aB]
  rw [if_neg q4] at hres
  rw [decide_eq_false q4,cF,cU,aB,c1,hris 91 (by decide) (by decide),aB,nN,aB,nO,aB,dS,aB,fP,fF,fQ,fR,fS]
  obtain ⟨rv,rq⟩:=res
  by_cases q5:hI p=91
  ·rw [if_pos q5] at hres
   rw [decide_eq_true q5,dW,cU,aB,c4,aF3 hp he (by omega) hres,aB,nN,aB,nO,aB,dS,aB,aBc hgood,aB,fP,fF,fQ,fR,fS,cU,aB]
  rw [if_neg q5] at hres
  rw [decide_eq_false q5,cF,cU,aB,c1,hris 123 (by decide) (by decide),aB,nN,aB,nO,aB,dS,aB,fP,fF,fQ,fR,fS]
  by_cases q6:hI p=123
  ·rw [if_pos q6] at hres
   rw [decide_eq_true q6,dW,cU,aB,c4,aF3 hp he (by omega) hres,aB,nN,aB,nO,aB,dS,aB,aBc hgood,aB,fP,fF,fQ,fR,fS,cU,aB]
  rw [if_neg q6] at hres
  have hN:tL (fun p=>some (sL p,gN p)) [.agg (pW p)]=some (.tup [sL p,.agg (pW (gN p))]):=a6x hp.aO rfl
  cases hres
  rw [decide_eq_false q6,cF,cU,aB,c5,hN,aB,nN,aB,nO,aB,dS,aB,aBc hgood,aB,fP,fF,fQ,fR,fS,cU,aB]
def wS (s:List UInt8) (q:aE):aE:=if (aF q).a < s.length then aU (aF q) (aF q).a 9 else aF q
def aB9 (n:Nat) (s:List UInt8):Option (V×Int×Int) :=
 if 200000 < s.length then some (jn 0 [] [] [],0,8) else
  (iC n (aF ⟨s,0,0,0,0⟩)).map fun r=>if (wS s r.2).e=0 then (r.1,0,0) else (jn 0 [] [] [],(wS s r.2).b,(wS s r.2).e)
def a0q (n:Nat):Spec
 | [.str s]=>(aB9 n s).map fun r=>.tup [r.1,.int .i64 r.2.1,.int .i64 r.2.2]
 | _=>none
noncomputable abbrev TRp (n:Nat):List (FuncId×Spec):=[(bO,cE),(gG,a01 (iC n)),(aQ,aL)]
attribute [local irreducible] bK aX in
theorem aUa (n:Nat):cZ Tryz.prog l7 (a0q n):=by
 refine a8e (T:=TRp n) (aH.fD aFz (aH.fD (aF5 n) (aH.fD a1n aH.nil))) fun args v hv=>?_
 have c1:∀ args,bD (TRp n) bO args=cE args:=fun _=>rfl
 have c2:∀ args,bD (TRp n) gG args=a01 (iC n) args:=fun _=>rfl
 have c3:∀ args,bD (TRp n) aQ args=aL args:=fun _=>rfl
 unfold a0q at hv
 split at hv <;> simp only [Option.map_eq_some_iff,reduceCtorEq] at hv
 rename_i s
 obtain ⟨res,h1,rfl⟩:=hv
 unfold aB9 at h1
 by_cases hlen:200000 < s.length
 ·rw [if_pos hlen] at h1
  cases h1
  refine ⟨rfl,rfl,rfl,?_⟩
  refine Eq.mpr (zL _ _ (.str s)) ?_
  rw [show fG (.str s)=some (.int .i64 s.length) from rfl,aB,aMa,aB,decide_eq_true (by omega),dW,z8,aB,cJ0,zO,z8,aB]
 rw [if_neg hlen] at h1
 obtain ⟨vq,hvq,e⟩:=Option.map_eq_some_iff.1 h1
 obtain ⟨v,q⟩:=vq
 have hb:RB ⟨s,0,0,0,0⟩:=⟨⟨by show s.length≤jS; unfold jS; omega,Int.le_refl 0,by show (0:Int)≤s.length; omega⟩,by show s.length≤_; omega,Int.le_refl 0,by show (0:Int)≤20; decide⟩
 have k1:=k9 hb.aO
 have hb1:=hb.ahead k1
 obtain ⟨hq1,hq2,hq3,_⟩:=a5c n _ _ _ hb1 rfl hvq
 have hcr:res.1.bR=true:=by
  rw [← e]
  dsimp only
  split
  ·exact iZ hq3
  ·rfl
 refine ⟨rfl,rfl,by simp [aJ,V.bR,hcr],?_⟩
 refine Eq.mpr (zL _ _ (.str s)) ?_
 have hg0:aD [.str s,.int .i64 0,.int .i64 0,.int .i64 0,.int .i64 0]=some (.agg (pW ⟨s,0,0,0,0⟩)):=rfl
 have hneq:∀ x y:Int,aC .neq (.int .i64 x) (.int .i64 y)=some (.bool (!decide (x=y))):=fun x y=>aK6 .i64 x y
 rw [show fG (.str s)=some (.int .i64 s.length) from rfl,aB,aMa,aB,decide_eq_false (by omega),cF,show iI (.str s)=some (.str s) from rfl,aB,hg0,aB,fP,fF,fQ,fR,fS,cU,aB,c1,nA hb.aO,aB,iM,aB,pT,aB,dS,aB,fP,fF,fQ,fR,fS,cU,aB,c2,aMf hb1 rfl hvq,aB,nN,aB,nO,aB,dS,aB,aBc hq3,aB,fP,fF,fQ,fR,fS,cU,aB,c1,nA hq1.aO,aB,iM,aB,pT,aB,dS,aB,aB,fP,fF,fQ,fR,fS,a0o,aB]
 have w5:∀ x:aE,gv (pW x) 3 = .int .i64 x.e∧gv (pW x) 4 = .int .i64 x.b:=fun _=>⟨rfl,rfl⟩
 refine fJ (fun w=>w=pW (wS s q)) (fun w hw=>?_) fun r hr=>?_
 case refine_2 =>
  by_cases hl:(aF q).a < s.length
  ·have hE:wS s q=aU (aF q) (aF q).a 9:=if_pos hl
   rw [decide_eq_true hl,dW,cU,aB,c3,mE,aB,iM,aB,pT,aB,dS,aB,fP,fF,fQ,fR,fS]
   exact hr _ (by rw [hE]; rfl)
  ·have hE:wS s q=aF q:=if_neg hl
   rw [decide_eq_false hl,cF]
   exact hr _ (by rw [hE]; rfl)
 subst hw
 refine ⟨rfl,?_⟩
 rw [(w5 _).1,(w5 _).2,hneq,aB]
 dsimp only at e
 by_cases he:(wS s q).e=0
 ·rw [if_pos he] at e
  cases e
  rw [decide_eq_true he,show (!true)=false from rfl,cF]
 ·rw [if_neg he] at e
  cases e
  rw [decide_eq_false he,show (!false)=true from rfl,dW,z8,aB,cJ0,zO,z8,aB]
end Go.Fbs

namespace Go.Fbs
open Go.Proofs Go.RowKit
def Rl (v:V) (q:aE) (v':V) (q':aE):Prop:=q'.e=q.e∧q'.b=q.b∧(q.e=0→v'=v∧q'=q)
theorem aUb {p:aE} (h:aZ p) (he:p.e=0):aF (aF p)=aF p:=by
 have hs:=kD.of h he
 obtain ⟨x,h1,h2,h3⟩:=yY (fun b=>kJ.contains b) (p.s.drop p.a.toNat)
 rw [h1] at hs
 have e1:aF p=mv p x.length:=hs.skip h2 h3
 rw [e1]
 exact hs.go.b23 h3
theorem aD5 {p:aE} (c:UInt8):gD [c] p=(aV p c).2:=by
 rw [gD]
 split
 ·rfl
 ·rfl
def aJe {A:Type} (one:A→aE→Option (A×aE)) (rone:pP→aE→Option (pP×aE)) (n:Nat) (Z:A→Int→Prop) (T:A→pP→Prop):Prop :=
 ∀ acc racc p,Plc n p→p.s.length≤100000→Z acc p.a→T acc racc→∃ acc' q racc' q',one acc p=some (acc',q)∧rone racc p=some (racc',q')∧eZ p q∧q'.e=q.e∧q'.b=q.b∧(q.e=0→q'=q∧T acc' racc'∧Z acc' q.a)
theorem aOr {A:Type} {one:A→aE→Option (A×aE)} {rone:pP→aE→Option (pP×aE)} {n:Nat} {Z:A→Int→Prop} {T:A→pP→Prop} {c:UInt8} (hc:c≠0) (hc44:c≠44) (hZ:Rng Z) (ho:aJe one rone n Z T):∀ (f:Nat) (acc:A) (racc:pP) (p:aE),Plc n p→p.s.length≤100000→Z acc p.a→T acc racc→(p.s.length:Int) - p.a < f →
  ∃ acc' q r,tV one c f acc p=some (acc',q)∧wP rone c (f+1) racc (aF p)=some r∧(q.e=0→∃ racc',r=(some racc',{ q with d:=q.d - 1 })∧T acc' racc')∧(q.e≠0→r.1=none∧r.2.e=q.e∧r.2.b=q.b)
 | 0,_,_,p,h,_,_,_,hf=>absurd hf (by have:=h.aO.2.2; omega)
 | f+1,acc,racc,p,h,hs,hz,ht,hf=>by
  have k1:=k9 h.aO
  have h1:=h.ahead k1 (show (aF p).e=0 from h.e)
  obtain ⟨acc',q1,racc',q1',o1,o2,o3,o4,o5,o6⟩:=ho acc racc (aF p) h1 (by rw [k1.s]; exact hs) (hZ _ _ _ hz k1.a) ht
  have k3:=k9 o3.aO
  have k13:=(k1.trans o3).trans k3
  have heS:(aF p).e=0:=h.e
  rw [tV,if_neg (by simp [h.e]),o1]
  rw [wP,if_neg (by simp [heS]),o2]
  dsimp only
  by_cases he:q1.e=0
  ·obtain ⟨rfl,t2,z2⟩:=o6 he
   have he3:(aF q1').e=0:=he
   rw [if_neg (by simp [he3])]
   by_cases hh:dU (aF q1')=44
   ·rw [if_neg (by simp [hh]),if_neg (fun hx=>hc44 (hx.2.symm.trans hh))]
    have hn:aV (aF q1') 44=(true,fI (aF q1')):=by unfold aV; rw [if_neg (by simp [he3,hh])]; rfl
    have k4:=fM k3.aO (by unfold hI; rw [hh]; decide)
    have hpa:(fI (aF q1')).a=(aF q1').a+1:=rfl
    have b1:=k1.a
    have b2:=o3.a
    have b3:=k3.a
    have hss:(fI (aF q1')).s.length=p.s.length:=by rw [(k13.trans k4).s]
    rw [aD5,hn]
    exact aOr hc hc44 hZ ho f acc' racc' (fI (aF q1')) (h.ahead (k13.trans k4) he) (by rw [hss]; exact hs) (hZ _ _ _ z2 (by rw [hpa]; omega)) t2 (by rw [hss,hpa]; omega)
   ·rw [if_pos hh]
    by_cases hcc:dU (aF q1')=c
    ·have hn:aV (aF q1') c=(true,fI (aF q1')):=by unfold aV; rw [if_neg (by simp [he3,hcc])]; rfl
     rw [if_pos ⟨he3,hcc⟩,hn]
     exact ⟨_,_,_,rfl,rfl,fun _=>⟨racc',rfl,t2⟩,fun hne=>absurd he3 hne⟩
    ·have hn:aV (aF q1') c=(false,aU (aF q1') (aF q1').a 9):=by unfold aV; rw [if_pos (.inr hcc)]
     have hn2:aV (aF q1') 44=(false,aU (aF q1') (aF q1').a 9):=by unfold aV; rw [if_pos (.inr hh)]
     have hfe:(aU (aF q1') (aF q1').a 9).e≠0:=wN (by decide)
     have hfe2:(aF (aU (aF q1') (aF q1').a 9)).e≠0:=hfe
     rw [if_neg (fun hx=>hcc hx.2),hn,aD5,hn2,wP,if_pos hfe2]
     exact ⟨_,_,_,rfl,rfl,fun h0=>absurd h0 hfe,fun _=>⟨rfl,rfl,rfl⟩⟩
  ·have he3:(aF q1).e≠0:=he
   have he3':(aF q1').e≠0:=by show q1'.e≠0; rw [o4]; exact he
   have hfe2:(aF (aF q1')).e≠0:=he3'
   rw [if_pos he3,if_neg (fun hx=>he3' hx.1),aG7 he3',wP,if_pos hfe2]
   exact ⟨_,_,_,rfl,rfl,fun h0=>absurd h0 he3,fun _=>⟨rfl,o4,o5⟩⟩
theorem aMh {A:Type} {one:A→aE→Option (A×aE)} {R:RM} {o:Bool} {n:Nat} {Z:A→Int→Prop} {T:A→pP→Prop} {c:UInt8} (hc:c=xD o) (hZ:Rng Z) (ho:∀ m,n=m+1→aJe one (qB R o) m Z T) {acc:A} {p:aE} (h:Plc n p) (hs:p.s.length≤100000) (hh:hI p≠0) (hz:Z acc p.a) (ht:T acc ([],[])) :
  ∃ acc' q v' q',jW one c (p.s.length+2) acc p=some (acc',q)∧z7 R o p=some (v',q')∧q'.e=q.e∧q'.b=q.b∧(q.e=0→q'=q∧∃ racc,T acc' racc∧v'=rvalue o (some racc)):=by
 have hc0:c≠0:=by rw [hc]; cases o <;> decide
 have hc44:c≠44:=by rw [hc]; cases o <;> decide
 unfold jW z7
 by_cases hd:p.d=20
 ·rw [if_pos hd,if_pos hd]
  exact ⟨_,_,_,_,rfl,rfl,rfl,rfl,fun h0=>absurd h0 (wN (by decide))⟩
 ·have hnd:=h.d
  obtain ⟨m,hm⟩:∃ m,n=m+1:=⟨n - 1,by omega⟩
  have hlt:=a45 h.aO hh
  have d0:aZ (qT p):=⟨h.aO.1,by show 0≤p.a+1; have:=h.aO.2.1; omega,by show p.a+1≤(p.s.length:Int); omega⟩
  have a0:Plc m (qT p):=⟨d0,h.s,h.e,by show 0≤p.d+1; have:=h.d0; omega,by show p.d+1+(m:Int)=20; omega⟩
  have k1:=k9 d0
  have a1:=a0.ahead k1 h.e
  have hid:=aUb d0 (show (qT p).e=0 from h.e)
  have b1:p.a+1≤(aF (qT p)).a:=k1.a
  have s1:(aF (qT p)).s=p.s:=k1.s
  rw [if_neg hd,if_neg hd,show ({ p with d:=p.d+1,a:=p.a+1 } : aE)=qT p from rfl]
  generalize aF (qT p)=p1 at *
  dsimp only
  by_cases hcc:dU p1=c
  ·rw [if_pos hcc,if_pos (hcc.trans hc)]
   exact ⟨_,_,_,_,rfl,rfl,rfl,rfl,fun _=>⟨rfl,([],[]),ht,rfl⟩⟩
  ·rw [if_neg hcc,if_neg (fun hx=>hcc (hx.trans hc.symm))]
   obtain ⟨acc',q,r,m1,m2,m3,m4⟩:=aOr hc0 hc44 hZ (ho m hm) (p.s.length+2) acc ([],[]) p1 a1 (by rw [s1]; exact hs) (hZ _ _ _ hz (by omega)) ht (by rw [s1]; have:=a1.aO.2.1; omega)
   rw [hid] at m2
   rw [m1,← hc,m2]
   dsimp only [Option.map_some]
   by_cases he:q.e=0
   ·obtain ⟨racc,rfl,t⟩:=m3 he
    exact ⟨_,_,_,_,rfl,rfl,rfl,rfl,fun _=>⟨rfl,racc,t,rfl⟩⟩
   ·obtain ⟨r1,r2,r3⟩:=m4 he
    exact ⟨_,_,_,_,rfl,rfl,r2,r3,fun h0=>absurd h0 he⟩
def aJf (M R:RM) (n:Nat):Prop:=∀ p,Plc n p→p.s.length≤100000→∃ v q v' q',M p=some (v,q)∧R p=some (v',q')∧eZ p q∧Rl v q v' q'
def TL (a:List V) (r:pP):Prop:=r=([],a)
def TO (a:qR) (r:pP):Prop:=r=(a.keys,a.ls)∧∀ k,k ∈ a.seen↔k ∈ a.keys
theorem b0b {M R:RM} {n:Nat} (h:aJf M R n) (hM:Tot M n):aJe (yS M) (qB R false) n ZL TL:=by
 intro acc racc p hp hs hz ht
 unfold TL at ht
 subst ht
 obtain ⟨acc1,q1,o1,o2,o3⟩:=aL0 hM acc p hp hz
 obtain ⟨v,q,v',q',e1,e2,e3,r1,r2,r3⟩:=h p hp hs
 have hl:acc.length≤100000:=by unfold ZL at hz; have:=hp.aO.2.2; omega
 have ho:yS M acc p=some (acc++[v],q):=by unfold yS; rw [if_pos (by omega),e1]; rfl
 have hr:qB R false ([],acc) p=some (([],acc++[v']),q'):=by
  unfold qB a5b
  rw [if_pos ⟨Nat.zero_le _,hl⟩,if_neg Bool.false_ne_true]
  dsimp only
  rw [if_pos hp.e,e2]; rfl
 rw [ho] at o1
 obtain ⟨rfl,rfl⟩:=Prod.mk.inj (Option.some.inj o1)
 refine ⟨_,_,_,_,ho,hr,e3,r1,r2,fun h0=>?_⟩
 obtain ⟨rfl,rfl⟩:=r3 h0
 exact ⟨rfl,rfl,(o3 h0).2.1⟩
theorem aW9 {seen ks:List (List UInt8)} (h:∀ k,k ∈ seen↔k ∈ ks) (p p1:aE) (key:List UInt8):gO seen p p1 key=if key ∈ ks then aU p1 p.a 11 else p1:=by
 unfold gO
 by_cases hk:key ∈ ks
 ·rw [if_pos hk]
  by_cases he:p1.e=0
  ·rw [if_pos ⟨he,(h key).2 hk⟩]
  ·rw [if_neg fun hx=>he hx.1]
   unfold aU; rw [if_neg he]
 ·rw [if_neg hk,if_neg fun hx=>hk ((h key).1 hx.2)]
theorem b0c {M R:RM} {n:Nat} (h:aJf M R n) (hM:Tot M n):aJe (qS M) (qB R true) n ZO TO:=by
 intro acc racc p hp hs hz ht
 obtain ⟨rfl,hseen⟩:=ht
 obtain ⟨acc1,q1,o1,o2,o3⟩:=aL1 hM acc p hp hz
 obtain ⟨z1,z2,z3⟩:=hz
 have hal:=hp.aO.2.2
 obtain ⟨key,p1,t1,t2,t0,t3⟩:=a48 hp.aO hp.s
 have k2:=aTr acc.seen key t2
 have htw:=aW9 hseen p p1 key
 have k3:=k2.trans (k9 k2.aO)
 have k4:=k3.trans (kN k3.aO 58 (by decide))
 have hkl:key.length≤1000000000:=by
  have h1:=t2.aO.2.2
  have h2:p1.s.length=p.s.length:=by rw [t2.s]
  omega
 have hmid:a5b true acc.keys p=some (acc.keys++[key],aF (aV (aF (gO acc.seen p p1 key)) 58).2):=by
  unfold a5b
  rw [if_pos rfl,t1,htw,← aD5]; rfl
 by_cases hn:(aV (aF (gO acc.seen p p1 key)) 58).1=true
 ·obtain ⟨_,n2,n3⟩:=a3v hn
  have k5:=k4.trans (k9 k4.aO)
  have he5:(aF (aV (aF (gO acc.seen p p1 key)) 58).2).e=0:=by rw [n3]; exact n2
  obtain ⟨v,q,v',q',e1,e2,e3,r1,r2,r3⟩:=h _ (hp.ahead k5 he5) (by rw [k5.s]; exact hs)
  have ho:qS M acc p=some (⟨acc.keys++[key],acc.ls++[v],key::acc.seen⟩,q):=by
   unfold qS
   rw [t1]
   dsimp only
   rw [if_pos ⟨hkl,by omega,by omega,by omega⟩,if_pos hn,e1]; rfl
  have hr:qB R true (acc.keys,acc.ls) p=some ((acc.keys++[key],acc.ls++[v']),q'):=by
   unfold qB
   rw [if_pos ⟨show acc.keys.length≤100000 by omega,show acc.ls.length≤100000 by omega⟩,hmid]
   dsimp only
   rw [if_pos he5,e2]; rfl
  rw [ho] at o1
  obtain ⟨rfl,rfl⟩:=Prod.mk.inj (Option.some.inj o1)
  refine ⟨_,_,_,_,ho,hr,k5.trans e3,r1,r2,fun h0=>?_⟩
  obtain ⟨rfl,rfl⟩:=r3 h0
  refine ⟨rfl,⟨rfl,fun k=>?_⟩,(o3 h0).2.1⟩
  show k ∈ key::acc.seen↔k ∈ acc.keys++[key]
  rw [List.mem_cons,List.mem_append,List.mem_singleton,hseen k]
  exact Or.comm
 ·have he5:=a3w hn
  have he6:(aF (aV (aF (gO acc.seen p p1 key)) 58).2).e≠0:=he5
  have ho:qS M acc p=some (⟨acc.keys,acc.ls,key::acc.seen⟩,(aV (aF (gO acc.seen p p1 key)) 58).2):=by
   unfold qS
   rw [t1]
   dsimp only
   rw [if_pos ⟨hkl,by omega,by omega,by omega⟩,if_neg hn]
  have hr:qB R true (acc.keys,acc.ls) p=some ((acc.keys++[key],acc.ls),aF (aV (aF (gO acc.seen p p1 key)) 58).2):=by
   unfold qB
   rw [if_pos ⟨show acc.keys.length≤100000 by omega,show acc.ls.length≤100000 by omega⟩,hmid]
   dsimp only
   rw [if_neg he6]
  exact ⟨_,_,_,_,ho,hr,k4,rfl,rfl,fun h0=>absurd h0 he5⟩
theorem aUc:∀ (f n:Nat),n < f→aJf (aT bH f) (iC f) n
 | 0,_,h=>absurd h (Nat.not_lt_zero _)
 | f+1,n,hf=>by
  intro p h hs
  have hd20:p.d≤20:=by have:=h.d; omega
  have hrec:∀ m,n=m+1→aJf (aT bH f) (iC f) m:=fun m hm=>aUc f m (by omega)
  have htot:∀ m,n=m+1→Tot (aT bH f) m:=fun m hm=>aB5 f m (by omega)
  obtain ⟨v0,q0,t1,t2,_⟩:=aB5 (f+1) n hf p h
  have fin:∀ v q v' q',aT bH (f+1) p=some (v,q)→iC (f+1) p=some (v',q')→Rl v q v' q'→∃ v q v' q',aT bH (f+1) p=some (v,q)∧iC (f+1) p=some (v',q')∧eZ p q∧Rl v q v' q':=fun v q v' q' e1 e2 r=>by
   rw [e1] at t1
   obtain ⟨rfl,rfl⟩:=Prod.mk.inj (Option.some.inj t1)
   exact ⟨_,_,_,_,e1,e2,t2,r⟩
  have same:∀ v q,aT bH (f+1) p=some (v,q)→iC (f+1) p=some (v,q)→∃ v q v' q',aT bH (f+1) p=some (v,q)∧iC (f+1) p=some (v',q')∧eZ p q∧Rl v q v' q':=fun v q e1 e2=>fin v q v q e1 e2 ⟨rfl,rfl,fun _=>⟨rfl,rfl⟩⟩
  by_cases h1:hI p=123
  ·obtain ⟨acc,q,v',q',i1,i2,i3,i4,i5⟩:=aMh (R:=iC f) (o:=true) (c:=125) (Z:=ZO) (T:=TO) (acc:=⟨[],[],[]⟩) rfl (fun a i j hz hij=>⟨Int.le_trans hz.1 hij,Int.le_trans hz.2.1 hij,Int.le_trans hz.2.2 hij⟩) (fun m hm=>b0c (hrec m hm) (htot m hm)) h hs (by omega) ⟨h.aO.2.1,h.aO.2.1,h.aO.2.1⟩ ⟨rfl,fun k=>Iff.rfl⟩
   have ho:bH (aT bH f) p=(jW (qS (aT bH f)) 125 (p.s.length+2) ⟨[],[],[]⟩ p).map fun r=>(jn 7 [] (r.1.keys.map V.str) r.1.ls,r.2):=if_pos ⟨h1,h.d0,hd20⟩
   refine fin (jn 7 [] (acc.keys.map V.str) acc.ls) q v' q' (by rw [aT,if_pos h1,ho,i1]; rfl) (by rw [iC,if_neg (by omega),if_neg (by omega),if_neg (by omega),if_neg (by omega),if_neg (by omega),if_pos h1]; exact i2) ⟨i3,i4,fun h0=>?_⟩
   obtain ⟨rfl,racc,⟨rfl,_⟩,rfl⟩:=i5 h0
   exact ⟨rfl,rfl⟩
  by_cases h2:hI p=91
  ·obtain ⟨acc,q,v',q',i1,i2,i3,i4,i5⟩:=aMh (R:=iC f) (o:=false) (c:=93) (Z:=ZL) (T:=TL) (acc:=[]) rfl (fun a i j hz hij=>Int.le_trans hz hij) (fun m hm=>b0b (hrec m hm) (htot m hm)) h hs (by omega) h.aO.2.1 rfl
   have ho:a00 (aT bH f) p=(jW (yS (aT bH f)) 93 (p.s.length+2) [] p).map fun r=>(jn 6 [] [] r.1,r.2):=if_pos ⟨h2,h.d0,hd20⟩
   refine fin (jn 6 [] [] acc) q v' q' (by rw [aT,if_neg h1,if_pos h2,ho,i1]; rfl) (by rw [iC,if_neg (by omega),if_neg (by omega),if_neg (by omega),if_neg (by omega),if_pos h2]; exact i2) ⟨i3,i4,fun h0=>?_⟩
   obtain ⟨rfl,racc,rfl,rfl⟩:=i5 h0
   exact ⟨rfl,rfl⟩
  by_cases h3:hI p=34
  ·obtain ⟨t,q,e,_⟩:=a48 h.aO h.s
   exact same (jn 5 t [] []) q (by rw [aT,if_neg h1,if_neg h2,if_pos h3,e]; rfl) (by rw [iC,if_neg (by omega),if_neg (by omega),if_neg (by omega),if_pos h3,e]; rfl)
  by_cases h4:hI p=110
  ·exact same _ _ (by rw [aT,if_neg h1,if_neg h2,if_neg h3,if_pos h4]) (by rw [iC,if_pos h4])
  by_cases h5:hI p=102
  ·exact same _ _ (by rw [aT,if_neg h1,if_neg h2,if_neg h3,if_neg h4,if_pos h5]) (by rw [iC,if_neg h4,if_pos h5])
  by_cases h6:hI p=116
  ·exact same _ _ (by rw [aT,if_neg h1,if_neg h2,if_neg h3,if_neg h4,if_neg h5,if_pos h6]) (by rw [iC,if_neg h4,if_neg h5,if_pos h6])
  refine fin (jn 4 (x9 p) [] []) (gN p) (sL p) (gN p) (by rw [aT,if_neg h1,if_neg h2,if_neg h3,if_neg h4,if_neg h5,if_neg h6]) (by rw [iC,if_neg h4,if_neg h5,if_neg h6,if_neg h3,if_neg h2,if_neg h1]) ⟨rfl,rfl,fun h0=>⟨?_,rfl⟩⟩
  unfold sL
  rw [if_pos h0]
theorem aUd {N:Nat} (hN:20≤N) {s:List UInt8} (hs:s.length≤30000):a0q (N+1) [.str s]=jL bH N [.str s]:=by
 have d0:aZ ⟨s,0,0,0,0⟩:=⟨by show s.length≤jS; unfold jS; omega,Int.le_refl 0,Int.natCast_nonneg _⟩
 have h0:Plc 20 ⟨s,0,0,0,0⟩:=⟨d0,by show s.length≤_; omega,rfl,Int.le_refl 0,rfl⟩
 have k1:=k9 d0
 obtain ⟨v,q,v',q',e1,e2,_,r1,r2,r3⟩:=aUc (N+1) 20 (by omega) _ (h0.ahead k1 rfl) (by show s.length≤_; omega)
 show (aB9 (N+1) s).map _=(a1h bH (N+1) s).map _
 congr 1
 unfold aB9 a1h
 rw [if_neg (by omega),if_neg (by omega),e1,e2]
 dsimp only [Option.map_some]
 by_cases he:q.e=0
 ·obtain ⟨rfl,rfl⟩:=r3 he
  have hE:wC s q'=wS s q':=by unfold wC wS; rw [if_pos he]
  rw [hE]
  split <;> rfl
 ·have hE:wC s q=q:=by unfold wC; rw [if_neg he]
  have hq':(aF q').e≠0:=by show q'.e≠0; rw [r1]; exact he
  have hR:(wS s q').e=q.e∧(wS s q').b=q.b:=by
   unfold wS aU
   rw [if_neg hq']
   split <;> exact ⟨r1,r2⟩
  rw [hE,hR.1,hR.2,if_neg he,if_neg he]
end Go.Fbs

namespace Go.Fbs
open Go.Proofs Go.RowKit
theorem aUe {s:List UInt8} (hs:s.length≤1000000) (n b:Int):∃ s',uU 65535 127 (.str s) (.int .i64 n) (.int .u8 b)=some (.str s')∧s'.length=s.length:=by
 by_cases hn:s=[]
 ·subst hn
  exact ⟨[],aHt,rfl⟩
 ·have hpos:0 < s.length:=List.length_pos_iff.2 hn
  have h1:intBin .and .i64 n ((65535:Nat):Int)=some (.int .i64 (n % ((65536:Nat):Int))):=by
   have:=aK7 (a:=n) (j:=16) (by omega)
   exact this
  have hq0:=Int.emod_nonneg n (show ((65536:Nat):Int)≠0 by omega)
  have h2:intBin .rem .i64 (n % ((65536:Nat):Int)) (s.length:Int)=some (.int .i64 ((n % ((65536:Nat):Int)).tmod s.length)):=by
   simp only [intBin]
   rw [if_neg (by omega)]
  have hr:∃ r:Nat,(n % ((65536:Nat):Int)).tmod (s.length:Int)=r∧r < s.length:=by
   obtain ⟨q,hq⟩:∃ q:Nat,n % ((65536:Nat):Int)=q:=⟨_,(Int.toNat_of_nonneg hq0).symm⟩
   rw [hq]
   exact ⟨q % s.length,by rw [Int.ofNat_tmod],Nat.mod_lt _ hpos⟩
  obtain ⟨r,hr1,hr2⟩:=hr
  rw [hr1] at h2
  obtain ⟨x,hx⟩ : ∃ x,s[r]? = some x:=⟨_,List.getElem?_eq_getElem hr2⟩
  obtain ⟨d,hd⟩:∃ d,intBin .and .u8 b ((127:Nat):Int)=some (.int .u8 d):=⟨_,rfl⟩
  obtain ⟨e,he⟩:∃ e,intBin .xor .u8 (x.toNat:Int) d=some (.int .u8 e):=⟨_,rfl⟩
  refine ⟨s.set r (UInt8.ofNat e.toNat),?_,by simp⟩
  unfold uU
  simp only
  rw [if_pos (by omega),if_neg hn]
  unfold aPg
  rw [h1]
  simp only
  rw [h2]
  simp only [Int.toNat_natCast]
  rw [hx,hd]
  simp only
  rw [he]
  simp
def nX:Spec
 | [.str _,.sl .ro es,.int .i64 _,.int .u8 _]=>if es.all sY=true then some (.bool true) else none
 | _=>none
noncomputable abbrev TLz:List (FuncId×Spec):=[(jJ,aGz),(fK,wO 4),(iW,jL bH 25),(l7,a0q 26),(hO,nE 6),(cL,dY 25),(lT,aBe)]
attribute [local irreducible] bK aX in
theorem a3x:cZ Tryz.prog vS nX:=by
 refine a3q (T:=TLz) (aH.cons aWp (aH.cons (aOl 4 (by omega)) (aH.cons (aA4 25) (aH.cons (aUa 26) (aH.cons (aL6 6) (aH.cons (aDa 25) (aH.cons aZ8 aH.nil))))))) fun args v hv=>?_
 unfold nX at hv
 split at hv <;> simp only [Option.ite_none_right_eq_some,Option.some.injEq,reduceCtorEq] at hv
 rename_i s es at' by'
 obtain ⟨h1,rfl⟩:=hv
 refine ⟨rfl,by simp [aJ,V.bR,a1m h1],rfl,?_⟩
 have c0:bD TLz jJ []=some (.bool true):=rfl
 have c1:∀ args,bD TLz fK args=wO 4 args:=fun _=>rfl
 have c3:∀ args,bD TLz iW args=jL bH 25 args:=fun _=>rfl
 have c2:∀ args,bD TLz l7 args=a0q 26 args:=fun _=>rfl
 have c4:∀ args,bD TLz hO args=nE 6 args:=fun _=>rfl
 have c5:∀ args,bD TLz cL args=dY 25 args:=fun _=>rfl
 have c7:∀ args,bD TLz lT args=aBe args:=fun _=>rfl
 have t0:∀ x y z:V,extractV (.tup [x,y,z]) 0=some x:=fun _ _ _=>rfl
 have t1:∀ x y z:V,extractV (.tup [x,y,z]) 1=some y:=fun _ _ _=>rfl
 have t2:∀ x y z:V,extractV (.tup [x,y,z]) 2=some z:=fun _ _ _=>rfl
 have nT:unV .not (.bool true)=some (.bool false):=rfl
 refine Eq.mpr (a30 _ _ (.str s) (.sl .ro es) (.int .i64 at') (.int .u8 by')) ?_
 rw [show fG (.str s)=some (.int .i64 s.length) from rfl,aB,aMa,aB]
 by_cases hs:s.length > 1000
 ·rw [decide_eq_true (by omega),dW,c0,aB]
 rw [decide_eq_false (by omega),cF]
 refine gP (fun vs=>∃ (i:Nat) (s:List UInt8),vs=[.str s,.int .i64 i]∧i≤4∧s.length≤20000) (fun vs=>4 - nQ (gv vs 1)) ⟨0,s,rfl,Nat.zero_le _,by omega⟩ ?_
 clear hs s
 rintro r2 vs ⟨i,s,rfl,hi,hsl⟩ hnext
 refine ⟨rfl,?_⟩
 have g0:∀ x y:V,gv [x,y] 0=x:=fun _ _=>rfl
 have g1:∀ x y:V,gv [x,y] 1=y:=fun _ _=>rfl
 rw [g1,a0o,aB,g0]
 by_cases hi4:i < 4
 case neg=>rw [decide_eq_false (by omega),cF,c0,aB]
 obtain ⟨a,b,e,hp,hr⟩:=aTt (N:=25) (by omega) (s:=s) (by omega)
 have hrp:a0q 26 [.str s]=some (.tup [a,.int .i64 b,.int .i64 e]):=(aUd (N:=25) (by omega) (by omega)).trans hp
 have hga:Good a∧Deep 25 a:=by
  rcases hr with ⟨rfl,_⟩ | ⟨_,y,y1,y2⟩
  ·exact ⟨nD 0 [],aA8 0 [] 24⟩
  ·exact ⟨a0n y1 (by omega),(aB3 20 a y y1 (by omega)).mono (by omega)⟩
 have hSa:=a47 hga.2
 have hend:∀ s':List UInt8,s'.length≤20000→r2 [.str s',.int .i64 ((i+1:Nat):Int)]:=fun s' h=>hnext _ ⟨i+1,s',rfl,hi4,h⟩ (by show 4 - (i+1) < 4 - i; omega)
 rw [decide_eq_true (by omega),dW,c3,hp,aB,t0,aB,t1,aB,t2,aB,aBc hga.1,aB,c2,hrp,aB,t0,aB,t1,aB,t2,aB,aBc hga.1,aB,c5,hSa,aB,nT,aB,b14,aB,poF,aB,b14,aB,poF,aB,cF,yZ,aB]
 by_cases i0:i=0
 ·have htame:aBe [.str s]=some (.str (aJd s)):=if_pos (by omega)
  rw [decide_eq_true (by omega),dW,c7,htame,aB,aBf (by omega),aB]
  exact hend _ (Nat.le_trans (aW1 s) (by decide))
 rw [decide_eq_false (by omega),cF,yZ,aB]
 by_cases i1:i=1
 ·obtain ⟨⟨x,hx,hxl⟩,_⟩:=a27 4 es h1
  have hLB:LB 4≤20000:=by decide
  have hmade:wO 4 [.sl .ro es,.int .i64 4]=some (.tup [(gV 4 es).1,.sl .ro (gV 4 es).2]):=aIg h1 (Nat.le_refl _)
  have hR:nE 6 [(gV 4 es).1]=some (.str x):=a8x hx (by omega) (by omega)
  rw [decide_eq_true (by omega),dW,c1,hmade,aB,nN,aB,nO,aB,aBc (a0n hx (by omega)),aB,c4,hR,aB,aBf (by omega),aB]
  exact hend _ (by omega)
 rw [decide_eq_false (by omega),cF,yZ,aB]
 by_cases i2:i=2
 ·obtain ⟨s',hf,hfl⟩:=aUe (s:=s) (by omega) at' by'
  rw [decide_eq_true (by omega),dW,hf,aB,aBf (by omega),aB]
  exact hend _ (by omega)
 ·rw [decide_eq_false (by omega),cF,aBf (by omega),aB]
  exact hend _ hsl
end Go.Fbs

namespace Go.Fbs
open Go.Proofs Go.RowKit
theorem aG8 {W:World} (h:laidMetH Tryz.prog Go.Proofs.YthakklikgmcgdaaGreatDoor.Rows.jsonTellsRow.laid W):tD W.heap:=by
 have h2:laidMet Tryz.prog Go.Proofs.YthakklikgmcgdaaGreatDoor.Rows.jsonTellsRow.laid W:=by rw [MakeChecks.laidMetH_plain _ _ _ (by kernel_rfl)] at h; exact h
 have r1 : Lib.VarReads Tryz.prog W "unicode/utf8.first" Lib.firstData := by
  rw [← aT2]
  exact Lib.laidMet.reads h2 (.tail _ (.tail _ (.tail _ (.tail _ (.tail _ (.tail _ (.tail _ (.head _))))))))
 have r2 : Lib.VarReads Tryz.prog W "unicode/utf8.acceptRanges" Lib.acceptData := by
  rw [← aQ4]
  exact Lib.laidMet.reads h2 (.tail _ (.tail _ (.tail _ (.head _))))
 have r3 : Lib.VarReads Tryz.prog W "unicode.CaseRanges" Lib.caseData := by
  rw [← aW2]
  exact Lib.laidMet.reads h2 (.tail _ (.tail _ (.tail _ (.tail _ (.tail _ (.tail _ (.head _)))))))
 exact aT3 (caseVar_of_reads aW4 (by kernel_rfl) b27 r3) (utf8Tabs_of_reads aW3 u8B r1 r2)
end Go.Fbs

/- Schemas read: the parser's small functions. -/
import Derived.Test.YtnmcilaebamncaaCC
import Derived.Test.YtnmcilaebamncaaS2
set_option linter.unusedVariables false
set_option linter.unusedSimpArgs false
set_option linter.unusedSectionVars false
set_option maxRecDepth 100000
namespace Go.Fbs
open Go.Proofs
open Classical in
noncomputable def jJ {α:Type} (c:α→List V) (ok:α→Prop) (r:α→V):Spec:=fun words=>if h:∃ a,words=c a∧ok a then some (r (Classical.choose h)) else none
theorem hO {α:Type} {c:α→List V} {ok:α→Prop} {r:α→V} (inj:∀ a b,c a=c b→a=b) {a:α} (h:ok a):jJ c ok r (c a)=some (r a):=by
 have hex:∃ b,c a=c b∧ok b:=⟨a,rfl,h⟩
 unfold jJ
 rw [dif_pos hex,← inj _ _ (Classical.choose_spec hex).1]
theorem fA {α:Type} {c:α→List V} {ok:α→Prop} {r:α→V} {words:List V} {v:V} (h:jJ c ok r words=some v):∃ a,words=c a∧ok a∧v=r a:=by
 unfold jJ at h
 split at h
 ·rename_i hex
  simp only [Option.some.injEq] at h
  exact ⟨_,(Classical.choose_spec hex).1,(Classical.choose_spec hex).2,h.symm⟩
 ·simp at h
abbrev jT:=Int×Nat×List UInt8
abbrev yM:=Int×List UInt8×List UInt8
def a4k (t:jT):Prop:=t.1=1→t.2.2≠[]
structure bG where
 l:List jT
 w:∀ t ∈ l,a4k t
 n:Nat
 at_:Nat
 e:Int
 d:Nat
 x:List yM
def lQ (s:yM):V:=.agg [vI s.1,.str s.2.1,.str s.2.2]
def eJ (l:List yM):V:=.sl .ro (l.map lQ)
def b7 (s:bG):V:=.agg [bM s.l,vI s.n,vI s.at_,vI s.e,vI s.d,eJ s.x]
theorem aNo {a b:jT} (h:qC a=qC b):a=b:=by
 obtain ⟨k,n,x⟩:=a
 obtain ⟨k',n',x'⟩:=b
 simp only [qC,a90,V.agg.injEq,List.cons.injEq,V.int.injEq,V.str.injEq,and_true,true_and] at h
 obtain ⟨h1,h2,h3⟩:=h
 rw [h1,h3,Int.ofNat_inj.1 h2]
theorem aGq {a b:yM} (h:lQ a=lQ b):a=b:=by
 obtain ⟨k,n,x⟩:=a
 obtain ⟨k',n',x'⟩:=b
 simp only [lQ,V.agg.injEq,List.cons.injEq,V.int.injEq,V.str.injEq,and_true,true_and] at h
 obtain ⟨h1,h2,h3⟩:=h
 rw [h1,h2,h3]
theorem zL {α:Type} {f:α→V} (hf:∀ a b,f a=f b→a=b):∀ {l m:List α},l.map f=m.map f→l=m
 | [],[],_=>rfl
 | [],_::_,h=>by simp at h
 | _::_,[],h=>by simp at h
 | a::l,b::m,h=>by
  simp only [List.map_cons,List.cons.injEq] at h
  rw [hf a b h.1,zL hf h.2]
theorem qX {s t:bG} (h:b7 s=b7 t):s=t:=by
 obtain ⟨l,w,n,a,e,d,x⟩:=s
 obtain ⟨l',w',n',a',e',d',x'⟩:=t
 simp only [b7,bM,eJ,V.agg.injEq,List.cons.injEq,V.int.injEq,V.sl.injEq,and_true,true_and] at h
 obtain ⟨h1,h2,h3,h4,h5,h6⟩:=h
 obtain rfl:=zL (fun _ _=>aNo) h1
 obtain rfl:=zL (fun _ _=>aGq) h6
 obtain rfl:=Int.ofNat_inj.1 h2
 obtain rfl:=Int.ofNat_inj.1 h3
 obtain rfl:=Int.ofNat_inj.1 h5
 subst h4
 rfl
theorem cU (s:bG):(b7 s).aV=true:=by
 simp only [b7,bM,eJ,V.aV,aN,Bool.and_eq_true,and_true,true_and]
 exact ⟨tQ fun _=>rfl,tQ fun _=>rfl⟩
theorem aXx (t:jT):(qC t).aV=true:=rfl
def cI (s:bG):jT:=s.l.headD (0,s.n,[])
def bW (s:bG):bG:={ s with l:=s.l.tail,w:=fun t h=>s.w t (List.mem_of_mem_tail h) }
def wI (e:Int) (s:bG):bG:=if s.e=0 then { s with e:=e,at_:=(cI s).2.1 } else s
def nD (g:List UInt8) (s:bG):Bool:=decide ((cI s).1=2) && ((cI s).2.2 == g)
def a4l (s:bG):Bool:=decide ((cI s).1=1) && ((cI s).2.2 == [116,121,112,101])
def oK (t : jT) : Bool:=decide (t.1 = 1) && (decide (t.2.2.length ≤ 30) && ((t.2.2.head? != some 95) && (t.2.2 != [116,121,112,101])))
def dL (n most:Int) (s:bG):Bool×bG:=if n < most then (true,s) else (false,wI 8 s)
def aW (s:bG):Bool×bG×Option (List UInt8):=if oK (cI s) then (true,bW s,some (cI s).2.2) else (false,wI 9 s,none)
def lK (g:List UInt8) (s:bG):Bool×bG:=if nD g s then (true,bW s) else (false,wI 9 s)
def cJ (g:List UInt8) (s:bG):Bool×bG:=if nD g s then (true,bW s) else (false,s)
def tC (p:yM) (a:Nat) (s:bG):Bool×bG:=if 200≤s.x.length then (false,{ s with e:=8,at_:=a }) else (true,{ s with x:=s.x++[p] })
theorem aMr {g:List UInt8} {s:bG} (h:nD g s=true):s.l≠[]:=by
 intro e
 simp [nD,cI,e] at h
theorem a1z {s:bG} (h:oK (cI s)=true):s.l≠[]:=by
 intro e
 simp [oK,cI,e] at h
theorem b0r {s:bG} (h:s.l≠[]):cI s ∈ s.l:=by
 unfold cI
 cases hl:s.l with
 | nil=>exact absurd hl h
 | cons a r=>exact List.mem_cons_self
theorem zM (s:bG):aE [bM s.l,vI s.n,vI s.at_,vI s.e,vI s.d,eJ s.x]=some (b7 s):=nr rfl
theorem jZ (s:bG):aE [a7 (b7 s) 0,a7 (b7 s) 1,a7 (b7 s) 2,a7 (b7 s) 3,a7 (b7 s) 4,a7 (b7 s) 5]=some (b7 s):=nr rfl
theorem jK (s:bG):bP 6 (b7 s)=some (b7 s):=nr rfl
theorem chT (t:jT):bP 3 (qC t)=some (qC t):=nr rfl
theorem cT0 (t:jT):a7 (qC t) 0=vI t.1:=nr rfl
theorem cT2 (t:jT):a7 (qC t) 2 = .str t.2.2:=nr rfl
theorem pT1 (t:jT):rD false 1 1 (qC t)=some (vI t.2.1):=nr rfl
theorem pT2 (t:jT):rD false 1 2 (qC t)=some (.str t.2.2):=nr rfl
theorem x0 (a:V) (r:List V):aA (.aG (a::r)) 0=some a:=nr rfl
theorem x1 (a b:V) (r:List V):aA (.aG (a::b::r)) 1=some b:=nr rfl
theorem x2 (a b c:V) (r:List V):aA (.aG (a::b::c::r)) 2=some c:=nr rfl
theorem x3 (a b c d:V) (r:List V):aA (.aG (a::b::c::d::r)) 3=some d:=nr rfl
theorem b8p (s:bG) (a:Nat) (e:Int):aE [a7 (b7 s) 0,a7 (b7 s) 1,vI a,vI e,a7 (b7 s) 4,a7 (b7 s) 5]=some (b7 { s with e:=e,at_:=a }):=nr rfl
theorem aSt (l:List jT):(l.map qC).all (fun e=>e.cells.length == 3)=true:=by simp [qC,a90,V.cells]
theorem b8q {l:List jT} (h:l≠[]):a00 3 (bM l) (some (.int .i64 1)) none=some (bM l.tail):=by
 cases l with
 | nil=>exact absurd rfl h
 | cons a r =>
  have h1:(1:Int)≤(r.length:Int)+1:=by omega
  have:=aSt (a::r)
  simp only [List.map_cons] at this
  simp [a00,bM,lR,h1,this,aSt,List.take_of_length_le]
theorem sl0 {s:bG} (h:s.l≠[]):a00 3 (a7 (b7 s) 0) (some (.int .i64 1)) none=some (bM (bW s).l):=b8q h
theorem a5s (s:bG):aE [bM (bW s).l,a7 (b7 s) 1,a7 (b7 s) 2,a7 (b7 s) 3,a7 (b7 s) 4,a7 (b7 s) 5]=some (b7 (bW s)):=nr rfl
theorem b8r (n:Int):rB (vI n)=some (vI n):=nr rfl
theorem ckB (b:Bool):a01 (.bool b)=some (.bool b):=nr rfl
noncomputable def bH:Spec:=jJ (fun s:bG=>[b7 s]) (fun _=>True) (fun s=>.aG [qC (cI s),b7 s])
theorem aNq:∀ a b:bG,[b7 a]=[b7 b]→a=b:=fun a b h=>qX (by simpa using h)
theorem xQ (s:bG):bH [b7 s]=some (.aG [qC (cI s),b7 s]):=hO aNq trivial
theorem fO:eY Try.prog a3i gV bH:=by
 refine a84 (T:=[]) aK.nil fun words v hv=>?_
 obtain ⟨s,rfl,_,rfl⟩:=fA hv
 refine ⟨_,rfl,rfl,by simp [aN,cU],by simp [aN,cU,aXx],rfl,rfl,?_⟩
 refine Eq.mpr (aAc (bO _) _ (bM s.l) (vI s.n) (vI s.at_) (vI s.e) (vI s.d) (eJ s.x)) ?_
 have hlen:gD (bM s.l)=some (.int .i64 s.l.length):=by simp [gD,bM]
 simp only [hlen,if_true,if_false,Bool.false_eq_true,Bool.true_eq_false,reduceCtorEq,aC,eG,jN,jO,jP,jQ,gU,dW,jR,gN,jB,fU,V.bool.injEq,Bool.true_and,Bool.and_true,Bool.false_and,Bool.and_false,Bool.true_or,Bool.or_true,Bool.false_or,Bool.or_false,Bool.not_true,Bool.not_false,aH,bF,aX,aR,bI,aY,gO,gP,fX,gH,fL,gI,fY,gJ,gQ,gR,gS,gT,cM,eH,eI,aO,bJ,bK,cK,cN,cX,dF,zM]
 cases hl:s.l with
 | nil =>
  have hd:decide ((([]:List jT).length:Int)=0)=true:=rfl
  have ha:aE [.int .i64 0,vI s.n,.str []]=some (qC (cI s)):=by simp only [cI,hl,List.headD_nil]; rfl
  simp only [hd,if_true,ha,aC]
 | cons a r =>
  have hd:decide (((a::r).length:Int)=0)=false:=by simp; omega
  have hi:nB true 3 (bM (a::r)) (.int .i64 0)=some (qC (cI s)):=by
   simp only [cI,hl,List.headD_cons]
   exact aNr (g:=.ro) (es:=(a::r).map qC) (k:=0) (cs:=[vI a.1,vI a.2.1,.str a.2.2]) (n:=3) rfl rfl rfl .i64
  simp only [hd,Bool.false_eq_true,if_false,hi,aC]
noncomputable def cE:Spec:=jJ (fun q:bG×Int=>[b7 q.1,vI q.2]) (fun _=>True) (fun q=>.aG [.bool false,b7 (wI q.2 q.1)])
theorem b3v:∀ a b:bG×Int,[b7 a.1,vI a.2]=[b7 b.1,vI b.2]→a=b:=fun a b h=>by
 simp only [List.cons.injEq,V.int.injEq,and_true,true_and] at h
 exact Prod.ext (qX h.1) h.2
theorem a4m (s:bG) (e:Int):cE [b7 s,vI e]=some (.aG [.bool false,b7 (wI e s)]):=hO (a:=(s,e)) b3v trivial
theorem iM:eY Try.prog a3h gW cE:=by
 refine a83 (T:=[(aM,bH)]) (aK.eK fO aK.nil) fun words v hv=>?_
 have c1:∀ args,bO [(aM,bH)] aM args=bH args:=fun _=>rfl
 obtain ⟨⟨s,e⟩,rfl,_,rfl⟩:=fA hv
 refine ⟨_,rfl,rfl,by simp [aN,cU,V.aV],by simp [aN,cU,V.aV],rfl,rfl,?_⟩
 refine Eq.mpr (a99 (bO _) _ (bM s.l) (vI s.n) (vI s.at_) (vI s.e) (vI s.d) (eJ s.x) (vI e)) ?_
 simp only [if_true,if_false,Bool.false_eq_true,Bool.true_eq_false,reduceCtorEq,aC,eG,jN,jO,jP,jQ,gU,dW,jR,gN,jB,fU,V.bool.injEq,Bool.true_and,Bool.and_true,Bool.false_and,Bool.and_false,Bool.true_or,Bool.or_true,Bool.false_or,Bool.or_false,Bool.not_true,Bool.not_false,aH,bF,aX,aR,bI,aY,gO,gP,fX,gH,fL,gI,fY,gJ,gQ,gR,gS,gT,cM,eH,eI,aO,bJ,bK,cK,cN,cX,dF,zM,c1,xQ,List.getElem?_cons_zero,List.getElem?_cons_succ,jK,pT1,b8r,b8p]
 by_cases he:s.e=0
 ·simp only [he,decide_true,if_true,wI]
 ·simp only [he,decide_false,Bool.false_eq_true,if_false,wI]
end Go.Fbs

/- Schemas read: the parser's small functions. -/
import Derived.Test.YtnmcilaebamncaaCC
import Derived.Test.YtnmcilaebamncaaS2
set_option maxRecDepth 100000
namespace Go.Fbs
open Go.Proofs
open Classical in
noncomputable def iA {α:Type} (c:α→List V) (ok:α→Prop) (r:α→V):Spec:=fun words=>if h:∃ a,words=c a∧ok a then some (r (Classical.choose h)) else none
theorem gV {α:Type} {c:α→List V} {ok:α→Prop} {r:α→V} (inj:∀ a b,c a=c b→a=b) {a:α} (h:ok a):iA c ok r (c a)=some (r a):=by
 have hex:∃ b,c a=c b∧ok b:=⟨a,rfl,h⟩
 unfold iA
 rw [dif_pos hex,← inj _ _ (Classical.choose_spec hex).1]
theorem eR {α:Type} {c:α→List V} {ok:α→Prop} {r:α→V} {words:List V} {v:V} (h:iA c ok r words=some v):∃ a,words=c a∧ok a∧v=r a:=by
 unfold iA at h
 split at h
 ·rename_i hex
  simp only [zzz] at h
  exact ⟨_,(Classical.choose_spec hex).1,(Classical.choose_spec hex).2,h.symm⟩
 ·simp at h
abbrev iH:=Int×Nat×List UInt8
abbrev zV:=Int×List UInt8×List UInt8
def bEx (t:iH):Prop:=t.1=1→t.2.2≠[]
structure gP where
 l:List iH
 w:∀ t ∈ l,bEx t
 n:Nat
 at_:Nat
 e:Int
 d:Nat
 x:List zV
def tW (s:zV):V:=.agg [vI s.1,.str s.2.1,.str s.2.2]
def fY (l:List zV):V:=.sl .ro (l.map tW)
def vSt (s:gP):V:=.agg [cQ s.l,vI s.n,vI s.at_,vI s.e,vI s.d,fY s.x]
theorem b5u {a b:iH} (h:uP a=uP b):a=b:=by
 obtain ⟨k,n,x⟩:=a
 obtain ⟨k',n',x'⟩:=b
 simp only [uP,b5p,V.agg.injEq,List.cons.injEq,V.int.injEq,V.str.injEq,and_true,true_and] at h
 obtain ⟨h1,h2,h3⟩:=h
 rw [h1,h3,Int.ofNat_inj.1 h2]
theorem aIt {a b:zV} (h:tW a=tW b):a=b:=by
 obtain ⟨k,n,x⟩:=a
 obtain ⟨k',n',x'⟩:=b
 simp only [tW,V.agg.injEq,List.cons.injEq,V.int.injEq,V.str.injEq,and_true,true_and] at h
 obtain ⟨h1,h2,h3⟩:=h
 rw [h1,h2,h3]
theorem rR {α:Type} {f:α→V} (hf:∀ a b,f a=f b→a=b):∀ {l m:List α},l.map f=m.map f→l=m
 | [],[],_=>rfl
 | [],_::_,h=>by simp at h
 | _::_,[],h=>by simp at h
 | a::l,b::m,h=>by
  simp only [List.map_cons,List.cons.injEq] at h
  rw [hf a b h.1,rR hf h.2]
def mM (s:gP):iH:=s.l.headD (0,s.n,[])
def rS (s:gP):gP:={ s with l:=s.l.tail,w:=fun t h=>s.w t (List.mem_of_mem_tail h) }
def aGa (e:Int) (s:gP):gP:=if s.e=0 then { s with e:=e,at_:=(mM s).2.1 } else s
def isM (g:List UInt8) (s:gP):Bool:=decide ((mM s).1=2) && ((mM s).2.2 == g)
def bEy (s:gP):Bool:=decide ((mM s).1=1) && ((mM s).2.2 == [116,121,112,101])
def a9b (t : iH) : Bool:=decide (t.1 = 1) && (decide (t.2.2.length ≤ 30) && ((t.2.2.head? != some 95) && (t.2.2 != [116,121,112,101])))
def aZl (n most:Int) (s:gP):Bool×gP:=if n < most then (true,s) else (false,aGa 8 s)
def a4y (s:gP):Bool×gP×Option (List UInt8):=if a9b (mM s) then (true,rS s,some (mM s).2.2) else (false,aGa 9 s,none)
def aGb (g:List UInt8) (s:gP):Bool×gP:=if isM g s then (true,rS s) else (false,aGa 9 s)
def a39 (g:List UInt8) (s:gP):Bool×gP:=if isM g s then (true,rS s) else (false,s)
def aMn (p:zV) (a:Nat) (s:gP):Bool×gP:=if 200≤s.x.length then (false,{ s with e:=8,at_:=a }) else (true,{ s with x:=s.x++[p] })
theorem pT2 (t:iH):qL false 1 2 (uP t)=some (.str t.2.2):=nr rfl
theorem x0 (a:V) (r:List V):aD (.aM (a::r)) 0=some a:=nr rfl
theorem x1 (a b:V) (r:List V):aD (.aM (a::b::r)) 1=some b:=nr rfl
theorem x2 (a b c:V) (r:List V):aD (.aM (a::b::c::r)) 2=some c:=nr rfl
theorem x3 (a b c d:V) (r:List V):aD (.aM (a::b::c::d::r)) 3=some d:=nr rfl
theorem ckB (b:Bool):iT (.bool b)=some (.bool b):=nr rfl
noncomputable def aA5:Spec:=iA (fun s:gP=>[vSt s]) (fun _=>True) (fun s=>.aM [uP (mM s),vSt s])
noncomputable def aA6:Spec:=iA (fun q:gP×Int=>[vSt q.1,vI q.2]) (fun _=>True) (fun q=>.aM [.bool false,vSt (aGa q.2 q.1)])
end Go.Fbs

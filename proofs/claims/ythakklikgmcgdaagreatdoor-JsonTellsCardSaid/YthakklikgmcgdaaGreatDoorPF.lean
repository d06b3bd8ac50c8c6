import Derived.Test.YthakklikgmcgdaaGreatDoorPD
import Derived.Test.YthakklikgmcgdaaGreatDoorRows
import Derived.Lib.LaidCase
import Derived.SizedLaws
import Derived.LaidMore
import Derived.Lay
set_option linter.unusedSimpArgs false
set_option linter.unusedVariables false
set_option linter.unusedSectionVars false
set_option maxRecDepth 100000
namespace Go.Fbs
open Go.Proofs Go.RowKit
theorem dW (A B:Prop):aM (.bool true) A B=A:=by simp only [sS,if_true,if_false,reduceCtorEq]
theorem cF (A B:Prop):aM (.bool false) A B=B:=by simp only [sS,if_true,if_false,reduceCtorEq]
theorem aTt {N:Nat} (hN:20≤N) {s:List UInt8} (hs:s.length≤30000):∃ v a e,jL bH N [.str s]=some (.tup [v,.int .i64 a,.int .i64 e])∧((v=jn 0 [] [] []∧e≠0)∨(e=0∧∃ x,Wf 20 v x∧x.length≤6*s.length)):=by
 have d0:aZ ⟨s,0,0,0,0⟩:=⟨by show s.length≤jS; unfold jS; omega,Int.le_refl 0,Int.natCast_nonneg _⟩
 have h0:Plc 20 ⟨s,0,0,0,0⟩:=⟨d0,by show s.length≤_; omega,rfl,Int.le_refl 0,rfl⟩
 have k1:=k9 d0
 obtain ⟨v,q,h1,h2,h3⟩:=aB5 (N+1) 20 (by omega) _ (h0.ahead k1 rfl)
 have hp:a1h bH (N+1) s=if (wC s q).e=0 then some (v,0,0) else some (jn 0 [] [] [],(wC s q).b,(wC s q).e):=by
  unfold a1h
  rw [if_neg (by omega),h1]
 have hF:jL bH N [.str s]=(a1h bH (N+1) s).map fun r=>.tup [r.1,.int .i64 r.2.1,.int .i64 r.2.2]:=rfl
 rw [hF,hp]
 by_cases he:(wC s q).e=0
 ·rw [if_pos he]
  have hq:q.e=0:=by
   unfold wC at he
   split at he
   ·assumption
   ·exact he
  obtain ⟨_,x,x1,x2⟩:=h3 hq
  have b1:(0:Int)≤(aF ⟨s,0,0,0,0⟩).a:=k1.a
  have b2:q.a≤q.s.length:=h2.aO.2.2
  have b3:q.s=s:=h2.s
  rw [b3] at b2
  exact ⟨v,0,0,rfl,.inr ⟨rfl,x,x1,by omega⟩⟩
 ·rw [if_neg he]
  exact ⟨_,_,_,rfl,.inl ⟨rfl,he⟩⟩
def pO:Spec
 | [.sl .ro ks,.sl .ro ls]=>match sX ks,sX ls with
  | some k,some l=>if k=l∧k.length≤1000000000 then some (.bool true) else none
  | _,_=>none
 | _=>none
theorem aG1 {ks:List (List UInt8)} (h:ks.length≤1000000000):pO [.sl .ro (ks.map V.str),.sl .ro (ks.map V.str)]=some (.bool true):=by
 show (match sX (ks.map V.str),sX (ks.map V.str) with | some k,some l=>_ | _,_=>none)=_
 rw [a8u]
 exact if_pos ⟨rfl,h⟩
attribute [local irreducible] bK aX in
theorem aL2:cZ Tryz.prog gL pO:=by
 refine a34 (T:=[]) aH.nil fun args v hv=>?_
 unfold pO at hv
 split at hv
 case h_2=>cases hv
 rename_i ks0 ls0
 split at hv
 case h_2=>cases hv
 rename_i ks l hks hls
 simp only [Option.ite_none_right_eq_some,Option.some.injEq] at hv
 obtain ⟨⟨rfl,h1⟩,rfl⟩:=hv
 obtain rfl:=yW hks
 obtain rfl:=yW hls
 refine ⟨rfl,by simp [aJ,V.bR,uN],rfl,?_⟩
 refine Eq.mpr (a5u _ _ (.sl .ro (ks.map V.str)) (.sl .ro (ks.map V.str))) ?_
 simp only [a2s,sS,if_true,if_false,reduceCtorEq]
 rw [if_neg (by simp)]
 refine gP (fun vs=>∃ i:Nat,vs=[.int .i64 i]∧i≤ks.length) (fun vs=>ks.length - nQ (gv vs 0)) ⟨0,rfl,Nat.zero_le _⟩ ?_
 rintro r1 vs ⟨i,rfl,hi⟩ hnext
 refine ⟨rfl,?_⟩
 have g0:∀ x:V,gv [x] 0=x:=fun _=>rfl
 by_cases hk:i < ks.length
 ·have hlt:(i:Int) < ((ks.map V.str).length:Int):=by rw [List.length_map]; omega
  have hx:=a8t (List.getElem?_eq_getElem hk)
  have hw:IntKind.i64.wrap ((i:Int)+1)=((i+1:Nat):Int):=dN (by omega) (by omega)
  simp only [g0,decide_eq_true hlt,hx,hw,sS,if_true,if_false,reduceCtorEq]
  rw [if_neg (by simp)]
  refine hnext _ ⟨i+1,rfl,hk⟩ ?_
  show ks.length - (i+1) < ks.length - i
  omega
 ·have hlt:¬ (i:Int) < ((ks.map V.str).length:Int):=by rw [List.length_map]; omega
  simp only [g0,decide_eq_false hlt,sS,if_true,if_false,reduceCtorEq]
attribute [local irreducible] bK aX in
theorem aD3 {n:Nat} (h:cZ Tryz.prog cL (dY n)):cZ Tryz.prog cL (dY (n+1)):=by
 refine vU (T:=[(cL,dY n),(gL,pO)]) (aH.cons h (aH.cons aL2 aH.nil)) fun args v hv=>?_
 obtain ⟨a,rfl,hd,rfl⟩:=aFo hv
 have hca:=hd.bR
 refine ⟨rfl,by simp [aJ,hca],rfl,?_⟩
 have c1:∀ args,bD [(cL,dY n),(gL,pO)] cL args=dY n args:=fun _=>rfl
 have c2:∀ args,bD [(cL,dY n),(gL,pO)] gL args=pO args:=fun _=>rfl
 obtain ⟨k,t,ks,ls,rfl,h1,h2,h4⟩:=hd
 have f2:=aG1 h1
 refine Eq.mpr (a5t _ _ (jn k t (ks.map V.str) ls) (jn k t (ks.map V.str) ls)) ?_
 have eI:aC .neq (.int .i64 k) (.int .i64 k)=some (.bool false):=by simp only [sS,if_true,if_false,reduceCtorEq]; simp
 have eS:aC .neq (.str t) (.str t)=some (.bool false):=by simp only [sS,if_true,if_false,reduceCtorEq]; simp
 have eL:aC .neq (.int .i64 ls.length) (.int .i64 ls.length)=some (.bool false):=by simp only [sS,if_true,if_false,reduceCtorEq]; simp
 have pF:∀ x y:V,pickV (.bool false) x y=some y:=fun _ _=>rfl
 have gF:∀ o:Option V,b7 (.bool false) false o=o:=fun _=>rfl
 have nT:unV .not (.bool true)=some (.bool false):=rfl
 rw [ckJ,aB,aB]
 simp only [cJ0,zO,cJ2,cJ3,eI,eS,pF,gF,c2,f2,nT,a2s,eL,aB,cF]
 refine gP (fun vs=>∃ i:Nat,vs=[.int .i64 i]∧i≤ls.length) (fun vs=>ls.length - nQ (gv vs 0)) ⟨0,rfl,Nat.zero_le _⟩ ?_
 rintro r2 vs ⟨m,rfl,hm⟩ hnext2
 refine ⟨rfl,?_⟩
 have g0:∀ x:V,gv [x] 0=x:=fun _=>rfl
 by_cases hk2:m < ls.length
 ·have hlt2:(m:Int) < (ls.length:Int):=by omega
  have hg:=List.getElem?_eq_getElem hk2
  have hde:=h4 _ (List.mem_of_getElem? hg)
  have hje:∃ k' t' ks' ls',ls[m]=jn k' t' ks' ls':=by
   cases n with
   | zero=>exact hde.elim
   | succ n=>obtain ⟨k',t',ks',ls',e,_⟩:=hde; exact ⟨_,_,_,_,e⟩
  obtain ⟨k',t',ks',ls',ej⟩:=hje
  rw [ej] at hg hde
  have hx:=aQy hg
  have hw:IntKind.i64.wrap ((m:Int)+1)=((m+1:Nat):Int):=dN (by omega) (by omega)
  simp only [g0,decide_eq_true hlt2,hx,hw,c1,a47 hde,sS,if_true,if_false,reduceCtorEq]
  refine hnext2 _ ⟨m+1,rfl,hk2⟩ ?_
  show ls.length - (m+1) < ls.length - m
  omega
 ·have hlt2:¬ (m:Int) < (ls.length:Int):=by omega
  simp only [g0,decide_eq_false hlt2,sS,if_true,if_false,reduceCtorEq]
theorem aDa:∀ n:Nat,cZ Tryz.prog cL (dY n)
 | 0=>by
  have h0:∀ args,dY 0 args=none:=fun args=>if_neg (fun ⟨a,_,h⟩=>h.elim)
  refine vU (T:=[]) aH.nil fun args v hv=>?_
  rw [h0] at hv; cases hv
 | n+1=>aD3 (aDa n)
end Go.Fbs

namespace Go.Fbs
open Go.Proofs Go.RowKit
theorem aD4:∀ {ys:List (List UInt8)} (y:List UInt8),ys≠[]→cW (ys++[y])=cW ys++[44]++y
 | [],_,h=>absurd rfl h
 | [x],y,_=>by simp [cW]
 | x::z::r,y,_=>by
  have:=aD4 (ys:=z::r) y (by simp)
  simp only [List.cons_append,cW] at this ⊢
  rw [this]; simp
theorem aL3 (ys:List (List UInt8)):∀ i,(cW (ys.take i)).length≤(cW ys).length:=by
 intro i
 conv=>rhs; rw [← List.take_append_drop i ys]
 generalize ys.take i=a
 generalize ys.drop i=b
 induction b generalizing a with
 | nil=>simp
 | cons y b ih =>
  have h:=ih (a++[y])
  rw [List.append_assoc] at h
  refine Nat.le_trans ?_ h
  by_cases ha:a=[]
  ·subst ha; simp [cW]
  ·rw [aD4 y ha]; simp only [List.length_append]; omega
def a63:Spec
 | [.sl .ro ks,.str s]=>match sX ks with
  | some l=>if s=[44]∧l.length≤400000∧(cW l).length≤400000 then some (.str (cW l)) else none
  | none=>none
 | _=>none
theorem aTu {l:List (List UInt8)} (h1:l.length≤400000) (h2:(cW l).length≤400000):a63 [.sl .ro (l.map V.str),.str [44]]=some (.str (cW l)):=by
 show (match sX (l.map V.str) with | some l=>_ | none=>_)=_
 rw [a8u]
 exact if_pos ⟨rfl,h1,h2⟩
attribute [local irreducible] bK aX in
theorem aZ7:cZ Tryz.prog kR a63:=by
 refine aAt (T:=[]) aH.nil fun args v hv=>?_
 unfold a63 at hv
 split at hv
 case h_2=>cases hv
 rename_i ks0 s
 split at hv
 case h_2=>cases hv
 rename_i ks hks
 simp only [Option.ite_none_right_eq_some,Option.some.injEq] at hv
 obtain ⟨⟨rfl,h1,h2⟩,rfl⟩:=hv
 obtain rfl:=yW hks
 refine ⟨rfl,by simp [aJ,V.bR,uN],rfl,?_⟩
 refine Eq.mpr (aCd _ _ (.sl .ro (ks.map V.str)) (.str [44])) ?_
 refine gP (fun vs=>∃ i:Nat,vs=[.str (cW (ks.take i)),.int .i64 i]∧i≤ks.length) (fun vs=>ks.length - nQ (gv vs 1)) ⟨0,rfl,Nat.zero_le _⟩ ?_
 rintro r1 vs ⟨i,rfl,hi⟩ hnext
 refine ⟨rfl,?_⟩
 have g0:∀ x y:V,gv [x,y] 0=x:=fun _ _=>rfl
 have g1:∀ x y:V,gv [x,y] 1=y:=fun _ _=>rfl
 have gs:∀ x:V,gv [x] 0=x:=fun _=>rfl
 have hp1:=aL3 ks i
 by_cases hk:i < ks.length
 ·have hlt:(i:Int) < ((ks.map V.str).length:Int):=by rw [List.length_map]; omega
  have hg:=List.getElem?_eq_getElem hk
  have hx:=a8t hg
  have hw:IntKind.i64.wrap ((i:Int)+1)=((i+1:Nat):Int):=dN (by omega) (by omega)
  have hp2:=aL3 ks (i+1)
  have ht:ks.take (i+1)=ks.take i++[ks[i]]:=by rw [List.take_add_one,hg]; rfl
  simp only [g0,g1,a2s,decide_eq_true hlt,sS,if_true,if_false,reduceCtorEq]
  by_cases h0:i=0
  ·subst h0
   have hj:cW (ks.take 1)=ks[0]:=by rw [ht]; rfl
   rw [aDx,if_neg (by simp)]
   refine ⟨rfl,?_⟩
   rw [gs,hx,aB,show cW (ks.take 0)=[] from rfl,tM (by rw [hj] at hp2; simp; omega),aB]
   refine hnext _ ⟨1,by rw [hj]; rfl,hk⟩ ?_
   show ks.length - 1 < ks.length - 0
   omega
  ·have hne:ks.take i≠[]:=by intro e; have:=congrArg List.length e; rw [List.length_take,Nat.min_eq_left hi] at this; exact h0 this
   have hj:cW (ks.take (i+1))=cW (ks.take i)++[44]++ks[i]:=by rw [ht,aD4 _ hne]
   rw [hj] at hp2
   simp only [List.length_append,List.length_cons,List.length_nil] at hp2
   rw [aDx,if_pos (by simp; omega),tM (by simp only [List.length_cons,List.length_nil]; omega),aB]
   refine ⟨rfl,?_⟩
   rw [gs,hx,aB,tM (by simp only [List.length_append,List.length_cons,List.length_nil]; omega),aB,hw]
   refine hnext _ ⟨i+1,by rw [hj],hk⟩ ?_
   show ks.length - (i+1) < ks.length - i
   omega
 ·have hlt:¬ (i:Int) < ((ks.map V.str).length:Int):=by rw [List.length_map]; omega
  have hie:i=ks.length:=by omega
  simp only [g0,g1,a2s,decide_eq_false hlt,sS,if_true,if_false,reduceCtorEq]
  rw [hie,List.take_length]
theorem aWx {s : List UInt8} {i : Nat} {c : UInt8} (h : s[i]? = some c) : cO (.str s) (some (.int .i64 (i : Nat))) (some (.int .i64 ((i + 1 : Nat) : Int))) = some (.str [c]):=by
 obtain ⟨hi,hc⟩:=List.getElem?_eq_some_iff.1 h
 have e1:((i+1:Nat):Int).toNat=i+1:=by omega
 have e2:(s.take (i+1)).drop i=[c]:=by
  rw [List.take_add_one,h,List.drop_append]
  simp
  rw [Nat.min_eq_left (by omega),Nat.sub_self]; rfl
 unfold cO iE
 dsimp only
 rw [if_pos ⟨by omega,by omega⟩]
 dsimp only
 rw [e1,if_pos ⟨by omega,by omega⟩]
 dsimp only
 rw [Int.toNat_natCast,e2]
theorem aTv:∀ q:_root_.Fin 16,cO (.str [48,49,50,51,52,53,54,55,56,57,97,98,99,100,101,102]) (some (.int .u8 (q.val:Int))) (some (.int .u8 ((q.val:Int)+1)))=some (.str [sJ q.val]):=by
 intro q
 match q with
 | ⟨0,_⟩=>rfl | ⟨1,_⟩=>rfl | ⟨2,_⟩=>rfl | ⟨3,_⟩=>rfl | ⟨4,_⟩=>rfl | ⟨5,_⟩=>rfl | ⟨6,_⟩=>rfl | ⟨7,_⟩=>rfl | ⟨8,_⟩=>rfl | ⟨9,_⟩=>rfl | ⟨10,_⟩=>rfl | ⟨11,_⟩=>rfl | ⟨12,_⟩=>rfl | ⟨13,_⟩=>rfl | ⟨14,_⟩=>rfl | ⟨15,_⟩=>rfl | ⟨n+16,h⟩=>exact absurd h (by omega)
def a65:Spec
 | [.str t]=>if t.length≤100000 then some (.str (iQ t)) else none
 | _=>none
def aBb:Option V→Int→Bool
 | some (.int .u8 k),n=>k == n
 | _,_=>false
theorem a0m {o:Option V} {n:Int} (h:aBb o n=true):o=some (.int .u8 n):=by
 unfold aBb at h
 split at h
 ·rw [beq_iff_eq.1 h]
 ·cases h
theorem b39:∀ c:UInt8,aC .shr (.int .u8 (c.toNat:Int)) (.int .u64 4)=some (.int .u8 ((c.toNat / 16:Nat):Int)):=by
 have h:∀ q:_root_.Fin 256,aBb (aC .shr (.int .u8 (q.val:Int)) (.int .u64 4)) ((q.val / 16:Nat):Int)=true:=by decide +kernel
 intro c
 exact a0m (h ⟨c.toNat,c.toNat_lt⟩)
theorem b24:∀ c:UInt8,aC .and (.int .u8 (c.toNat:Int)) (.int .u8 15)=some (.int .u8 ((c.toNat % 16:Nat):Int)):=by
 have h:∀ q:_root_.Fin 256,aBb (aC .and (.int .u8 (q.val:Int)) (.int .u8 15)) ((q.val % 16:Nat):Int)=true:=by decide +kernel
 intro c
 exact a0m (h ⟨c.toNat,c.toNat_lt⟩)
theorem b1u {n:Nat} (h:n < 16):aC .add (.int .u8 (n:Int)) (.int .u8 1)=some (.int .u8 ((n:Int)+1)):=by
 have h2:∀ q:_root_.Fin 16,aBb (aC .add (.int .u8 (q.val:Int)) (.int .u8 1)) ((q.val:Int)+1)=true:=by decide +kernel
 exact a0m (h2 ⟨n,h⟩)
attribute [local irreducible] bK aX in
theorem aWy:cZ Tryz.prog jK a65:=by
 refine a8d (T:=[]) aH.nil fun args v hv=>?_
 unfold a65 at hv
 split at hv <;> simp only [Option.ite_none_right_eq_some,Option.some.injEq,reduceCtorEq] at hv
 rename_i t
 obtain ⟨h1,rfl⟩:=hv
 refine ⟨rfl,rfl,rfl,?_⟩
 refine Eq.mpr (a9k _ _ (.str t)) ?_
 refine gP (fun vs=>∃ i:Nat,vs=[.str ([34]++(t.take i).flatMap jR),.int .i64 i]∧i≤t.length) (fun vs=>t.length - nQ (gv vs 1)) ⟨0,rfl,Nat.zero_le _⟩ ?_
 rintro r1 vs ⟨i,rfl,hi⟩ hnext
 refine ⟨rfl,?_⟩
 have g0:∀ x y:V,gv [x,y] 0=x:=fun _ _=>rfl
 have g1:∀ x y:V,gv [x,y] 1=y:=fun _ _=>rfl
 have hls:fG (.str t)=some (.int .i64 t.length):=rfl
 have hq:=aB1 (t.take i)
 have htl:(t.take i).length≤100000:=by rw [List.length_take]; omega
 by_cases hk:i < t.length
 ·have hlt:(i:Int) < (t.length:Int):=by omega
  have hg:=List.getElem?_eq_getElem hk
  have hx:cV (.str t) (.int .i64 (i:Nat))=some (.int .u8 t[i].toNat):=qK hg .i64
  have hw:IntKind.i64.wrap ((i:Int)+1)=((i+1:Nat):Int):=dN (by omega) (by omega)
  have hsl:=aWx hg
  have ht:t.take (i+1)=t.take i++[t[i]]:=by rw [List.take_add_one,hg]; rfl
  have hend:∀ x,x=jR t[i]→r1 [.str ([34]++(t.take i).flatMap jR++x),.int .i64 ((i+1:Nat):Int)]:=fun x hx=>hnext _ ⟨i+1,by rw [ht,hx,List.flatMap_append]; simp only [List.append_assoc,List.flatMap_cons,List.flatMap_nil,List.append_nil],hk⟩ (by show t.length - (i+1) < t.length - i; omega)
  have hadd:aC .add (.int .i64 (i:Int)) (.int .i64 1)=some (.int .i64 ((i+1:Nat):Int)):=by rw [← hw]; rfl
  generalize t[i]=c at *
  have hbl:∀ n:UInt8,aC .eql (.int .u8 (c.toNat:Int)) (.int .u8 (n.toNat:Int))=some (.bool (decide (c=n))):=fun n=>by
   have:((c.toNat:Int)=(n.toNat:Int))↔c=n:=⟨toNat_inj,fun h=>by rw [h]⟩
   simp only [sS,if_true,if_false,reduceCtorEq]
   congr 2
   exact decide_eq_decide.2 this
  have hbs:aC .lss (.int .u8 (c.toNat:Int)) (.int .u8 32)=some (.bool (decide (c < 32))):=by
   have:((c.toNat:Int) < 32)↔c < 32:=by rw [UInt8.lt_iff_toNat_lt]; show _↔c.toNat < 32; omega
   simp only [sS,if_true,if_false,reduceCtorEq]
   congr 2
   exact decide_eq_decide.2 this
  have h34:aC .eql (.int .u8 (c.toNat:Int)) (.int .u8 34)=some (.bool (decide (c=34))):=hbl 34
  have h92:aC .eql (.int .u8 (c.toNat:Int)) (.int .u8 92)=some (.bool (decide (c=92))):=hbl 92
  have h127:aC .eql (.int .u8 (c.toNat:Int)) (.int .u8 127)=some (.bool (decide (c=127))):=hbl 127
  have pk:∀ (b:Bool) (y:V),pickV (.bool b) (.bool true) y=some (if b then .bool true else y):=fun b y=>rfl
  rw [g1,hls,aB,show aC .lss (.int .i64 (i:Int)) (.int .i64 (t.length:Int))=some (.bool (decide ((i:Int) < t.length))) from rfl,aB,decide_eq_true hlt,dW,hx,aB,h34,aB,h92,aB,pk,aB]
  by_cases hc:c=34∨c=92
  ·have e:(if decide (c=34)=true then V.bool true else V.bool (decide (c=92))) = .bool true:=by
    rcases hc with rfl | rfl <;> rfl
   rw [e,dW,g0,tM (by simp only [List.length_append,List.length_cons,List.length_nil]; omega),aB,hadd,aB,hsl,aB,tM (by simp only [List.length_append,List.length_cons,List.length_nil]; omega),aB,aB]
   have:=hend [92,c] (by unfold jR; rw [if_pos hc])
   simpa using this
  ·have e:(if decide (c=34)=true then V.bool true else V.bool (decide (c=92))) = .bool false:=by
    simp only [not_or] at hc
    simp [hc.1,hc.2]
   rw [e,cF,hbs,aB,h127,aB,pk,aB]
   by_cases hc2:c < 32∨c=127
   ·have e:(if decide (c < 32)=true then V.bool true else V.bool (decide (c=127))) = .bool true:=by
     rcases hc2 with h | rfl
     ·rw [decide_eq_true h]; rfl
     ·rfl
    have hd16:c.toNat / 16 < 16:=by have:=c.toNat_lt; omega
    rw [e,dW,g0,tM (by simp only [List.length_append,List.length_cons,List.length_nil]; omega),aB,b39,aB,aB,b1u hd16,aB,aTv ⟨c.toNat / 16,hd16⟩,aB,tM (by simp only [List.length_append,List.length_cons,List.length_nil]; omega),aB,b24,aB,aB,b1u (Nat.mod_lt _ (by decide)),aB,aTv ⟨c.toNat % 16,Nat.mod_lt _ (by decide)⟩,aB,tM (by simp only [List.length_append,List.length_cons,List.length_nil]; omega),aB,hadd,aB]
    have:=hend [92,117,48,48,sJ (c.toNat / 16),sJ (c.toNat % 16)] (by unfold jR; rw [if_neg hc,if_pos hc2])
    simpa using this
   ·have e:(if decide (c < 32)=true then V.bool true else V.bool (decide (c=127))) = .bool false:=by
     simp only [not_or] at hc2
     simp [hc2.1,hc2.2]
    rw [e,cF,hadd,aB,hsl,aB,g0,tM (by simp only [List.length_append,List.length_cons,List.length_nil]; omega),aB,aB]
    exact hend [c] (by unfold jR; rw [if_neg hc,if_neg hc2])
 ·have hlt:¬ (i:Int) < (t.length:Int):=by omega
  have hie:i=t.length:=by omega
  rw [g1,hls,aB,show aC .lss (.int .i64 (i:Int)) (.int .i64 (t.length:Int))=some (.bool (decide ((i:Int) < t.length))) from rfl,aB,decide_eq_false hlt,cF,g0,tM (by simp only [List.length_append,List.length_cons,List.length_nil]; omega),aB,hie,List.take_length]
  rfl
end Go.Fbs

namespace Go.Fbs
open Go.Proofs Go.RowKit
def WfS:Nat→V→List UInt8→Prop
 | 0,_,_=>False
 | n+1,v,x=>Wf n v x
open Classical in
noncomputable def nE (n:Nat):Spec
 | [v]=>match mY 21 [] v with
  | some l=>if WfS n v l∧n≤20∧l.length≤100000 then some (.str l) else none
  | none=>none
 | _=>none
theorem a8x {n:Nat} {v:V} {x:List UInt8} (h:Wf n v x) (hn:n < 20) (hl:x.length≤100000):nE (n+1) [v]=some (.str x):=by
 have h1:=aLv n v x h 21 (by omega) [] (by rw [List.nil_append]; omega)
 rw [List.nil_append] at h1
 simp only [nE,h1]
 exact if_pos ⟨h,hn,hl⟩
def Stp (p:V→Option V) (v:V) (x:List UInt8):Prop:=∃ (k:Int) (t:List UInt8) (ks:List (List UInt8)) (ls:List V) (ys:List (List UInt8)),v=jn k t (ks.map V.str) ls∧ys.length=ls.length∧ys.length≤200000∧(cW ys).length≤200000 ∧
 (∀ i (h : i < ls.length),∃ xi,Good ls[i] ∧ p ls[i] = some (.str xi) ∧ ((k = 7 ∧ ∃ key,ks[i]? = some key ∧ key.length ≤ 100000 ∧ (iQ key).length + 1 + xi.length ≤ 500000 ∧ ys[i]? = some (iQ key ++ [58] ++ xi)) ∨ (k ≠ 7 ∧ ys[i]? = some xi))) ∧
 ((k=1∧x=[110,117,108,108])∨(k=2∧x=[102,97,108,115,101])∨(k=3∧x=[116,114,117,101])∨(k=4∧x=t)∨(k=5∧t.length≤100000∧x=iQ t)∨(k=6∧x=[91]++cW ys++[93])∨(k=7∧x=[123]++cW ys++[125]))
theorem aL4 {p:V→Option V} {v:V} {x:List UInt8} (h:aA9 v x) (hl:x.length≤100000):Stp p v x:=by
 have none':∀ (Z:Nat→Prop),∀ i,i < ([]:List V).length→Z i:=fun _ i h=>absurd h (Nat.not_lt_zero _)
 rcases h with ⟨rfl,rfl⟩ | ⟨rfl,rfl⟩ | ⟨rfl,rfl⟩ | ⟨_,rfl⟩ | ⟨t,_,rfl,rfl⟩
 ·exact ⟨1,[],[],[],[],rfl,rfl,by simp,by simp [cW],fun i h=>absurd h (Nat.not_lt_zero _),.inl ⟨rfl,rfl⟩⟩
 ·exact ⟨2,[],[],[],[],rfl,rfl,by simp,by simp [cW],fun i h=>absurd h (Nat.not_lt_zero _),.inr (.inl ⟨rfl,rfl⟩)⟩
 ·exact ⟨3,[],[],[],[],rfl,rfl,by simp,by simp [cW],fun i h=>absurd h (Nat.not_lt_zero _),.inr (.inr (.inl ⟨rfl,rfl⟩))⟩
 ·exact ⟨4,_,[],[],[],rfl,rfl,by simp,by simp [cW],fun i h=>absurd h (Nat.not_lt_zero _),.inr (.inr (.inr (.inl ⟨rfl,rfl⟩)))⟩
 ·have h1:=a62 t
  have h2:=a0l t
  exact ⟨5,t,[],[],[],rfl,rfl,by simp,by simp [cW],fun i h=>absurd h (Nat.not_lt_zero _),.inr (.inr (.inr (.inr (.inl ⟨rfl,by omega,rfl⟩))))⟩
theorem a0n {n:Nat} {v:V} {x:List UInt8} (h:Wf n v x) (hl:x.length≤200000):Good v:=a8v (aB3 n v x h hl).aD1
theorem b1w {n:Nat} (hn:n < 20) {v:V} {x:List UInt8} (h:Wf n v x) (hl:x.length≤100000):Stp (fun v=>nE n [v]) v x:=by
 cases n with
 | zero=>exact aL4 h hl
 | succ n =>
  rcases h with h | ⟨q,hq,rfl,rfl⟩ | ⟨q,hq,hnd,rfl,rfl⟩
  ·exact aL4 h hl
  ·have hfo:∀ y ∈ q.map (·.2),vQ y:=fun y hy=>by
    obtain ⟨z,hz,rfl⟩:=List.mem_map.1 hy
    exact aD2 (hq z hz)
   have hjl:=xC _ hfo
   have hl2:=hl
   simp only [List.length_append,List.length_cons,List.length_nil,List.length_map] at hl2 hjl
   refine ⟨6,[],[],_,q.map (·.2),rfl,by simp,by simp; omega,by omega,fun i hi=>?_,.inr (.inr (.inr (.inr (.inr (.inl ⟨rfl,rfl⟩)))))⟩
   have hi':i < q.length:=by simpa using hi
   have hw:=hq _ (List.getElem_mem hi')
   have hm:=a3u (List.mem_map.2 ⟨q[i],List.getElem_mem hi',rfl⟩:q[i].2 ∈ q.map (·.2))
   refine ⟨q[i].2,by rw [List.getElem_map]; exact a0n hw (by omega),by rw [List.getElem_map]; exact a8x hw (by omega) (by omega),.inr ⟨by decide,?_⟩⟩
   rw [List.getElem?_map,List.getElem?_eq_getElem hi']; rfl
  ·have hfo:∀ y ∈ q.map (fun q=>iQ q.1++[58]++q.2.2),vQ y:=fun y hy=>by
    obtain ⟨z,hz,rfl⟩:=List.mem_map.1 hy
    exact ⟨34,_,rfl,by decide,by decide,by decide,by decide⟩
   have hjl:=xC _ hfo
   have hl2:=hl
   simp only [List.length_append,List.length_cons,List.length_nil,List.length_map] at hl2 hjl
   refine ⟨7,[],_,_,q.map (fun q=>iQ q.1++[58]++q.2.2),rfl,by simp,by simp; omega,by omega,fun i hi=>?_,.inr (.inr (.inr (.inr (.inr (.inr ⟨rfl,rfl⟩)))))⟩
   have hi':i < q.length:=by simpa using hi
   have hw:=hq _ (List.getElem_mem hi')
   have hm:=a3u (List.mem_map.2 ⟨q[i],List.getElem_mem hi',rfl⟩:(iQ q[i].1++[58]++q[i].2.2) ∈ q.map (fun q=>iQ q.1++[58]++q.2.2))
   have h1:=a62 q[i].1
   have h2:=a0l q[i].1
   simp only [List.length_append,List.length_cons,List.length_nil] at hm
   refine ⟨q[i].2.2,by rw [List.getElem_map]; exact a0n hw.2 (by omega),by rw [List.getElem_map]; exact a8x hw.2 (by omega) (by omega),.inl ⟨rfl,q[i].1,?_,by omega,by omega,?_⟩⟩
   ·rw [List.getElem?_map,List.getElem?_eq_getElem hi']; rfl
   ·rw [List.getElem?_map,List.getElem?_eq_getElem hi']; rfl
theorem a8y {a:List (List UInt8)} {y:List UInt8} (h:a.length≤200000):appK 1 16 (.sl .ro (a.map V.str)) (.sl .ro [.str y])=some (.sl .ro ((a++[y]).map V.str)):=by
 rw [aQi (by simp; omega) (by rw [List.all_eq_true]; intro e he; obtain ⟨s,_,rfl⟩:=List.mem_map.1 he; rfl) rfl]
 simp
theorem aFv {t:List UInt8} (h:t.length≤100000):a65 [.str t]=some (.str (iQ t)):=if_pos h
noncomputable abbrev aL5 (n:Nat):List (FuncId×Spec):=[(hO,nE n),(jK,a65),(kR,a63)]
attribute [local irreducible] bK aX in
theorem aQ3 {n:Nat} {v:V} {x:List UInt8} (h:Stp (fun v=>nE n [v]) v x):bK dR (bD (aL5 n)) 62 p7 [.tmp 2] (cB Tryz.f14) [v] (fun r=>r = .str x):=by
 have c1:∀ args,bD (aL5 n) hO args=nE n args:=fun _=>rfl
 have c2:∀ args,bD (aL5 n) jK args=a65 args:=fun _=>rfl
 have c3:∀ args,bD (aL5 n) kR args=a63 args:=fun _=>rfl
 obtain ⟨k,t,ks,ls,ys,rfl,e1,e2,e3,h4,h5⟩:=h
 refine Eq.mpr (aAr _ _ (jn k t (ks.map V.str) ls)) ?_
 rw [ckJ,aB]
 simp only [cJ0,zO,cJ2,cJ3]
 refine gP (fun vs=>∃ i:Nat,vs=[.sl .ro ((ys.take i).map V.str),.int .i64 i]∧i≤ls.length) (fun vs=>ls.length - nQ (gv vs 1)) ⟨0,rfl,Nat.zero_le _⟩ ?_
 rintro r1 vs ⟨i,rfl,hi⟩ hnext
 refine ⟨rfl,?_⟩
 have g0:∀ x y:V,gv [x,y] 0=x:=fun _ _=>rfl
 have g1:∀ x y:V,gv [x,y] 1=y:=fun _ _=>rfl
 have hel:∀ x y:Int,aC .eql (.int .i64 x) (.int .i64 y)=some (.bool (decide (x=y))):=fun _ _=>rfl
 have hls:∀ x y:Int,aC .lss (.int .i64 x) (.int .i64 y)=some (.bool (decide (x < y))):=fun _ _=>rfl
 rw [a2s,aB,g1,hls,aB]
 by_cases hk:i < ls.length
 ·have hlt:(i:Int) < (ls.length:Int):=by omega
  obtain ⟨xi,⟨k',t',ks',ls',ej,_⟩,hx,hy⟩:=h4 i hk
  have hge : ls[i]? = some (jn k' t' ks' ls'):=by rw [List.getElem?_eq_getElem hk,ej]
  rw [ej] at hx
  have hw:IntKind.i64.wrap ((i:Int)+1)=((i+1:Nat):Int):=dN (by omega) (by omega)
  have hadd:aC .add (.int .i64 (i:Int)) (.int .i64 1)=some (.int .i64 ((i+1:Nat):Int)):=by rw [← hw]; rfl
  have hx':nE n [jn k' t' ks' ls']=some (.str xi):=hx
  rw [decide_eq_true hlt,dW,aQy hge,aB,c1,hx',aB,hel,aB,aDx]
  have hlit:∀ y:List UInt8,kV 1 [.str y]=some (.sl .ro [.str y]):=fun _=>rfl
  have htl:(ys.take i).length≤200000:=by rw [List.length_take]; omega
  have hend : ∀ y,ys[i]? = some y → r1 [.sl .ro ((ys.take i ++ [y]).map V.str),.int .i64 ((i + 1 : Nat) : Int)]:=fun y hy=>hnext _ ⟨i + 1,by rw [List.take_add_one,hy]; rfl,hk⟩ (by show ls.length - (i + 1) < ls.length - i; omega)
  rcases hy with ⟨hk7,key,y1,y2,y3,y4⟩ | ⟨hk7,y4⟩
  ·rw [decide_eq_true hk7,dW,a8t y1,aB,c2,aFv y2,aB,tM (by simp only [List.length_cons,List.length_nil]; omega),aB,tM (by simp only [List.length_append,List.length_cons,List.length_nil]; omega),aB]
   refine ⟨rfl,?_⟩
   rw [g0,hlit,aB,g1,g0,a8y htl,aB,hadd,aB]
   exact hend _ y4
  ·rw [decide_eq_false hk7,cF]
   refine ⟨rfl,?_⟩
   rw [g0,hlit,aB,g1,g0,a8y htl,aB,hadd,aB]
   exact hend _ y4
 ·have hlt:¬ (i:Int) < (ls.length:Int):=by omega
  have hie:i=ys.length:=by omega
  have hgl:a63 [.sl .ro (ys.map V.str),.str [44]]=some (.str (cW ys)):=aTu (by omega) (by omega)
  rw [decide_eq_false hlt,cF,hel,aB,g0,hie,List.take_length,c3,hgl]
  rcases h5 with ⟨rfl,rfl⟩ | ⟨rfl,rfl⟩ | ⟨rfl,rfl⟩ | ⟨rfl,rfl⟩ | ⟨rfl,ht,rfl⟩ | ⟨rfl,rfl⟩ | ⟨rfl,rfl⟩
  ·rw [decide_eq_true rfl,dW]
  ·rw [decide_eq_false (by decide),cF,hel,aB,decide_eq_true rfl,dW]
  ·rw [decide_eq_false (by decide),cF,hel,aB,decide_eq_false (by decide),cF,hel,aB,decide_eq_true rfl,dW]
  ·rw [decide_eq_false (by decide),cF,hel,aB,decide_eq_false (by decide),cF,hel,aB,decide_eq_false (by decide),cF,hel,aB,decide_eq_true rfl,dW]
  ·rw [decide_eq_false (by decide),cF,hel,aB,decide_eq_false (by decide),cF,hel,aB,decide_eq_false (by decide),cF,hel,aB,decide_eq_false (by decide),cF,hel,aB,decide_eq_true rfl,dW,c2,aFv ht,aB]
  ·rw [decide_eq_false (by decide),cF,hel,aB,decide_eq_false (by decide),cF,hel,aB,decide_eq_false (by decide),cF,hel,aB,decide_eq_false (by decide),cF,hel,aB,decide_eq_false (by decide),cF,hel,aB,decide_eq_true rfl,dW,aB,tM (by simp only [List.length_cons,List.length_nil]; omega),aB,tM (by simp only [List.length_append,List.length_cons,List.length_nil]; omega),aB]
  ·rw [decide_eq_false (by decide),cF,hel,aB,decide_eq_false (by decide),cF,hel,aB,decide_eq_false (by decide),cF,hel,aB,decide_eq_false (by decide),cF,hel,aB,decide_eq_false (by decide),cF,hel,aB,decide_eq_false (by decide),cF,aB,tM (by simp only [List.length_cons,List.length_nil]; omega),aB,tM (by simp only [List.length_append,List.length_cons,List.length_nil]; omega),aB]
attribute [local irreducible] bK aX in
theorem aL6:∀ n:Nat,cZ Tryz.prog hO (nE n)
 | 0=>by
  refine zK (T:=[]) aH.nil fun args v hv=>?_
  unfold nE at hv
  split at hv
  ·split at hv
   ·simp only [Option.ite_none_right_eq_some] at hv
    exact hv.1.1.elim
   ·cases hv
  ·cases hv
 | n+1=>by
  refine zK (T:=aL5 n) (aH.cons (aL6 n) (aH.cons aWy (aH.cons aZ7 aH.nil))) fun args v hv=>?_
  unfold nE at hv
  split at hv
  ·split at hv
   ·rename_i a _ l hl
    simp only [Option.ite_none_right_eq_some,Option.some.injEq] at hv
    obtain ⟨⟨h1,h2,h3⟩,rfl⟩:=hv
    have hc:=iZ (a0n (show Wf n a l from h1) (by omega))
    exact ⟨rfl,by simp [aJ,hc],rfl,aQ3 (b1w (by omega) h1 h3)⟩
   ·cases hv
  ·cases hv
end Go.Fbs

namespace Go.Fbs
open Go.Proofs Go.RowKit
def txA:List (List UInt8):=[[],[97],[34],[92],[0],[9,10],[97,32,98],[127]]
def txB:List (List UInt8):=[[],[122],[47]]
def a5y (n:Int):List UInt8:=txA.getD (n % 8).toNat []++txB.getD ((n.fdiv 8 % 256).toNat % 3) []
theorem aOj (n:Int):Asc (a5y n)∧(a5y n).length≤4:=by
 have h:∀ (i:_root_.Fin 8) (j:_root_.Fin 3),(txA.getD i.val []++txB.getD j.val []).all (fun c=>decide (c.toNat < 128))=true∧(txA.getD i.val []++txB.getD j.val []).length≤4:=by decide
 obtain ⟨h1,h2⟩:=h ⟨(n % 8).toNat,by omega⟩ ⟨(n.fdiv 8 % 256).toNat % 3,Nat.mod_lt _ (by decide)⟩
 exact ⟨fun c hc=>by simpa using List.all_eq_true.1 h1 c hc,h2⟩
def a1l:Spec
 | [.int .i64 n]=>some (.str (a5y n))
 | _=>none
theorem b1x (a:Nat) {m:Nat} (hm:0 < m):aC .rem (.int .i64 (a:Int)) (.int .i64 (m:Int))=some (.int .i64 ((a % m:Nat):Int)):=by
 simp only [aC,intBin,if_true]
 rw [if_neg (by omega)]
 rw [show ((a % m:Nat):Int)=Int.tmod (a:Int) (m:Int) from rfl]
theorem aJc {l:List (List UInt8)} {i:Nat} (h:i < l.length):gS false 1 (.sl .ro (l.map V.str)) (.int .i64 (i:Nat))=some (.str (l.getD i [])):=by
 rw [List.getD_eq_getElem?_getD,List.getElem?_eq_getElem h]
 exact a8t (List.getElem?_eq_getElem h)
theorem b4a (n:Int):aC .shr (.int .i64 n) (.int .u64 3)=some (.int .i64 (n.fdiv 8)):=by
 have h:=b1t (a:=n) (b:=3) (by omega)
 have e:(2:Int) ^ 3=8:=by decide
 rw [e] at h
 exact h
theorem aWz (n:Int):aC .shr (.int .i64 n) (.int .u64 8)=some (.int .i64 (n.fdiv 256)):=by
 have h:=b1t (a:=n) (b:=8) (by omega)
 have e:(2:Int) ^ 8=256:=by decide
 rw [e] at h
 exact h
theorem b4b (a:Nat):aC .rem (.int .i64 (a:Int)) (.int .i64 3)=some (.int .i64 ((a % 3:Nat):Int)):=b1x a (m:=3) (by decide)
theorem b1y (a:Nat):aC .rem (.int .i64 (a:Int)) (.int .i64 7)=some (.int .i64 ((a % 7:Nat):Int)):=b1x a (m:=7) (by decide)
attribute [local irreducible] bK aX in
theorem aFw:cZ Tryz.prog iX a1l:=by
 refine a9j (T:=[]) aH.nil fun args v hv=>?_
 unfold a1l at hv
 split at hv <;> simp only [Option.some.injEq,reduceCtorEq] at hv
 rename_i n
 subst hv
 refine ⟨rfl,rfl,rfl,?_⟩
 refine Eq.mpr (aAs _ _ (.int .i64 n)) ?_
 have l1:kV 1 [.str [],.str [97],.str [34],.str [92],.str [0],.str [9,10],.str [97,32,98],.str [127]]=some (.sl .ro (txA.map V.str)):=rfl
 have l2:kV 1 [.str [],.str [122],.str [47]]=some (.sl .ro (txB.map V.str)):=rfl
 have hl:=(aOj n).2
 unfold a5y at hl
 rw [l1,aB,andM n (j:=3) (c:=7) (m:=8) (by omega) rfl rfl,aB,aJc (by show _ < 8; omega),aB,l2,aB,b4a,aB,andM _ (j:=8) (c:=255) (m:=256) (by omega) rfl rfl,aB,b4b,aB,aJc (l:=txB) (i:=(n.fdiv 8 % ((256:Nat):Int)).toNat % 3) (show _ < 3 from Nat.mod_lt _ (by decide)),aB,tM (by rw [List.length_append] at hl; exact Nat.le_trans hl (by decide)),aB]
 rfl
def sY:V→Bool
 | .int .i64 _=>true
 | _=>false
def a5z:V→Int
 | .int _ k=>k
 | _=>0
theorem aG2 {e:V} (h:sY e=true):e = .int .i64 (a5z e):=by
 unfold sY at h
 split at h
 ·rfl
 ·cases h
def kindN (n:Int):Nat:=(n % 256).toNat % 7+1
def nmA:List (List UInt8):=[[48],[45,48],[49],[49,50,46,53,48],[49,101,57],[45,51,69,45,50],[48,46,53,101,43,55]]
def nmM (n:Int):List UInt8:=nmA.getD ((n.fdiv 256 % 256).toNat % 7) []
def sK:List (List UInt8):=[[97],[98],[99],[10]]
def tN (n:Int):Nat:=(n.fdiv 256 % 4).toNat
theorem aTx (n:Int):tN n < 4:=by unfold tN; omega
def tO (f:List V→V×List V):Nat→List V→List V×List V
 | 0,l=>([],l)
 | i+1,l=>((tO f i l).1++[(f (tO f i l).2).1],(f (tO f i l).2).2)
def a2u (n:Int) (l:List V) (row:List V×List V):V×List V :=
 if kindN n=4 then (jn 4 (nmM n) [] [],l)
 else if kindN n=5 then (jn 5 (a5y (n.fdiv 256)) [] [],l)
 else if kindN n=6 then (jn 6 [] [] row.1,row.2)
 else if kindN n=7 then (jn 7 [] ((sK.take row.1.length).map V.str) row.1,row.2)
 else (jn (kindN n) [] [] [],l)
def gV:Nat→List V→V×List V
 | _,[]=>(jn 1 [] [] [],[])
 | 0,e::l=>a2u (a5z e) l ([],l)
 | d+1,e::l=>a2u (a5z e) l (tO (fun x=>gV d x) (tN (a5z e)) l)
def LB:Nat→Nat
 | 0=>30
 | d+1=>4*LB d+60
theorem b25 (n:Int):aQ1 (nmM n)∧(nmM n).length≤7:=by
 unfold nmM
 have hlt:(n.fdiv 256 % 256).toNat % 7 < 7:=Nat.mod_lt _ (by decide)
 generalize (n.fdiv 256 % 256).toNat % 7=i at hlt
 have d1:∀ l:List UInt8,l≠[]∧l.all (fun c=>eY.contains c)=true→a5x l:=fun l h=>⟨h.1,fun c hc=>List.all_eq_true.1 h.2 c hc⟩
 match i,hlt with
 | 0,_=>exact ⟨⟨[],[48],[],[],rfl,.inl rfl,.inl rfl,.inl rfl,.inl rfl⟩,by decide⟩
 | 1,_=>exact ⟨⟨[45],[48],[],[],rfl,.inr rfl,.inl rfl,.inl rfl,.inl rfl⟩,by decide⟩
 | 2,_=>exact ⟨⟨[],[49],[],[],rfl,.inl rfl,.inr ⟨d1 _ (by decide),fun r h=>by cases h⟩,.inl rfl,.inl rfl⟩,by decide⟩
 | 3,_=>exact ⟨⟨[],[49,50],[46,53,48],[],rfl,.inl rfl,.inr ⟨d1 _ (by decide),fun r h=>by cases h⟩,.inr ⟨[53,48],rfl,d1 _ (by decide)⟩,.inl rfl⟩,by decide⟩
 | 4,_=>exact ⟨⟨[],[49],[],[101,57],rfl,.inl rfl,.inr ⟨d1 _ (by decide),fun r h=>by cases h⟩,.inl rfl,.inr ⟨101,[],[57],rfl,.inl rfl,.inl rfl,d1 _ (by decide)⟩⟩,by decide⟩
 | 5,_=>exact ⟨⟨[45],[51],[],[69,45,50],rfl,.inr rfl,.inr ⟨d1 _ (by decide),fun r h=>by cases h⟩,.inl rfl,.inr ⟨69,[45],[50],rfl,.inr rfl,.inr (.inr rfl),d1 _ (by decide)⟩⟩,by decide⟩
 | 6,_=>exact ⟨⟨[],[48],[46,53],[101,43,55],rfl,.inl rfl,.inl rfl,.inr ⟨[53],rfl,d1 _ (by decide)⟩,.inr ⟨101,[43],[55],rfl,.inl rfl,.inr (.inl rfl),d1 _ (by decide)⟩⟩,by decide⟩
theorem a8z {B:Nat} : ∀ ys:List (List UInt8),(∀ y ∈ ys,y.length≤B)→(cW ys).length≤ys.length*(B+1)
 | [],_=>by simp [cW]
 | [y],h=>by
  have:=h y (by simp)
  show y.length≤1*(B+1)
  omega
 | y::z::r,h=>by
  have h1:=h y (by simp)
  have h2:=a8z (z::r) fun x hx=>h x (List.mem_cons_of_mem _ hx)
  simp only [cW,List.length_append,List.length_cons,List.length_nil,Nat.add_mul] at h2 ⊢
  omega
def aFx (d:Nat) (es:List V) (r:V×List V):Prop:=(∃ x,Wf (d+1) r.1 x∧x.length≤LB d)∧r.2.all sY=true∧r.2.length≤es.length
theorem a25 {d:Nat} {es l:List V} {v:V} {x:List UInt8} (h:aA9 v x) (hx:x.length≤30) (hl:l.all sY=true) (h2:l.length≤es.length):aFx d es (v,l):=by
 refine ⟨⟨x,aB4 h,?_⟩,hl,h2⟩
 have:30≤LB d:=by cases d with | zero=>exact Nat.le_refl _ | succ d=>show 30≤4*LB d+60; omega
 omega
theorem aTy:∀ k ∈ sK,Asc k∧(iQ k).length≤8:=by
 intro k hk
 simp only [sK,List.mem_cons,List.not_mem_nil,or_false] at hk
 rcases hk with rfl | rfl | rfl | rfl <;> exact ⟨fun c hc=>by rw [List.mem_singleton.1 hc]; decide,by decide⟩
theorem aOk {d:Nat} {n:Int} {e:V} {l:List V} {row:List V×List V} (hl:l.all sY=true) (hr:∃ q:List (V×List UInt8),row.1=q.map (·.1)∧q.length≤3∧(∀ z ∈ q,Wf d z.1 z.2∧z.2.length+15≤LB d / 4)) (h1:row.2.all sY=true) (h2:row.2.length≤l.length) (hL:d=0→row.1=[]):aFx d (e::l) (a2u n l row):=by
 have h30:30≤LB d:=by cases d with | zero=>exact Nat.le_refl _ | succ d=>show 30≤4*LB d+60; omega
 have hll:l.length≤(e::l).length:=by simp
 have hrl:row.2.length≤(e::l).length:=by simp; omega
 obtain ⟨q,q1,q2,q3⟩:=hr
 have hk:kindN n=1∨kindN n=2∨kindN n=3∨kindN n=4∨kindN n=5∨kindN n=6∨kindN n=7:=by unfold kindN; omega
 unfold a2u
 rcases hk with hk | hk | hk | hk | hk | hk | hk <;> rw [hk]
 ·exact a25 (.inl ⟨rfl,rfl⟩) (by decide) hl hll
 ·exact a25 (.inr (.inl ⟨rfl,rfl⟩)) (by decide) hl hll
 ·exact a25 (.inr (.inr (.inl ⟨rfl,rfl⟩))) (by decide) hl hll
 ·have:=b25 n
  exact a25 (.inr (.inr (.inr (.inl ⟨this.1,rfl⟩)))) (by omega) hl hll
 ·have:=aOj (n.fdiv 256)
  have h3:=a0l (a5y (n.fdiv 256))
  have h4:=aB1 (a5y (n.fdiv 256))
  exact a25 (.inr (.inr (.inr (.inr ⟨_,this.1,rfl,rfl⟩)))) (by omega) hl hll
 ·refine ⟨⟨[91]++cW (q.map (·.2))++[93],.inr (.inl ⟨q,fun z hz=>(q3 z hz).1,by show jn 6 [] [] row.1=_; rw [q1],rfl⟩),?_⟩,h1,hrl⟩
  have hb:=a8z (B:=LB d / 4 - 15) (q.map (·.2)) (fun y hy=>by obtain ⟨z,hz,rfl⟩:=List.mem_map.1 hy; have:=(q3 z hz).2; omega)
  rw [List.length_map] at hb
  simp only [List.length_append,List.length_cons,List.length_nil]
  have:q.length*(LB d / 4 - 15+1)≤3*(LB d / 4 - 15+1):=Nat.mul_le_mul_right _ q2
  omega
 ·have hz:List.length sK=4:=rfl
  have hzip:∀ (q:List (V×List UInt8)) (ks:List (List UInt8)),q.length≤ks.length→(List.zip ks q).map (·.1)=ks.take q.length∧(List.zip ks q).map (fun z=>z.2.1)=q.map (·.1)∧∀ z ∈ List.zip ks q,z.1 ∈ ks∧z.2 ∈ q:=by
   intro q
   induction q with
   | nil=>intro ks _; exact ⟨by simp,by simp,fun z hz=>by simp at hz⟩
   | cons a q ih =>
    intro ks hks
    cases ks with
    | nil=>simp at hks
    | cons b ks =>
     obtain ⟨i1,i2,i3⟩:=ih ks (by simpa using hks)
     refine ⟨by simp [i1],by simp [i2],fun z hz=>?_⟩
     rcases List.mem_cons.1 hz with rfl | hz
     ·exact ⟨List.mem_cons_self ..,List.mem_cons_self ..⟩
     ·exact ⟨List.mem_cons_of_mem _ (i3 z hz).1,List.mem_cons_of_mem _ (i3 z hz).2⟩
  obtain ⟨z1,z2,z3⟩:=hzip q sK (by omega)
  have hnd:(sK.take q.length).Nodup:=by
   have:sK.Nodup:=by decide
   exact this.sublist (List.take_sublist _ _)
  refine ⟨⟨[123]++cW ((List.zip sK q).map fun q=>iQ q.1++[58]++q.2.2)++[125],.inr (.inr ⟨List.zip sK q,fun z hz=>⟨(aTy _ (z3 z hz).1).1,(q3 _ (z3 z hz).2).1⟩,by rw [z1]; exact hnd,?_,rfl⟩),?_⟩,h1,hrl⟩
  ·show jn 7 [] ((sK.take row.1.length).map V.str) row.1=_
   rw [z1,z2,q1,List.length_map]
  ·have hb:=a8z (B:=LB d / 4 - 5) ((List.zip sK q).map fun q=>iQ q.1++[58]++q.2.2) (fun y hy=>by
    obtain ⟨z,hz,rfl⟩:=List.mem_map.1 hy
    have h5:=(q3 _ (z3 z hz).2).2
    have h6:=(aTy _ (z3 z hz).1).2
    simp only [List.length_append,List.length_cons,List.length_nil]; omega)
   have hzl:(List.zip sK q).length≤3:=by rw [List.length_zip]; omega
   rw [List.length_map] at hb
   simp only [List.length_append,List.length_cons,List.length_nil]
   have:(List.zip sK q).length*(LB d / 4 - 5+1)≤3*(LB d / 4 - 5+1):=Nat.mul_le_mul_right _ hzl
   by_cases hd:q=[]
   ·subst hd; simp [cW]; omega
   ·obtain ⟨a,r,rfl⟩:=List.exists_cons_of_ne_nil hd
    have:=(q3 a (List.mem_cons_self ..)).2
    omega
theorem aL7 {d:Nat} (hM:∀ es:List V,es.all sY=true→aFx d es (gV d es)):∀ (i:Nat) (l:List V),l.all sY=true→((∃ q:List (V×List UInt8),(tO (fun x=>gV d x) i l).1=q.map (·.1)∧q.length=i∧(∀ z ∈ q,Wf (d+1) z.1 z.2∧z.2.length≤LB d))∧(tO (fun x=>gV d x) i l).2.all sY=true∧(tO (fun x=>gV d x) i l).2.length≤l.length)
 | 0,l,h=>⟨⟨[],rfl,rfl,fun z hz=>by cases hz⟩,h,Nat.le_refl _⟩
 | i+1,l,h=>by
  obtain ⟨⟨q,q1,q2,q3⟩,r1,r2⟩:=aL7 hM i l h
  obtain ⟨⟨x,x1,x2⟩,m1,m2⟩:=hM _ r1
  refine ⟨⟨q++[((gV d (tO (fun x=>gV d x) i l).2).1,x)],?_,by simp [q2],fun z hz=>?_⟩,m1,Nat.le_trans m2 r2⟩
  ·show (tO (fun x=>gV d x) i l).1++[(gV d (tO (fun x=>gV d x) i l).2).1]=_
   rw [q1]; simp
  ·rcases List.mem_append.1 hz with hz | hz
   ·exact q3 z hz
   ·rw [List.mem_singleton.1 hz]; exact ⟨x1,x2⟩
theorem a27:∀ (d:Nat) (es:List V),es.all sY=true→aFx d es (gV d es)
 | d,[],_=>by
  have e:gV d []=(jn 1 [] [] [],[]):=by cases d <;> rfl
  rw [e]
  exact a25 (.inl ⟨rfl,rfl⟩) (by decide) rfl (Nat.le_refl _)
 | 0,e::l,h=>by
  have hl:l.all sY=true:=by rw [List.all_cons,Bool.and_eq_true] at h; exact h.2
  exact aOk hl ⟨[],rfl,by decide,fun z hz=>by cases hz⟩ hl (Nat.le_refl _) fun _=>rfl
 | d+1,e::l,h=>by
  have hl:l.all sY=true:=by rw [List.all_cons,Bool.and_eq_true] at h; exact h.2
  obtain ⟨⟨q,q1,q2,q3⟩,r1,r2⟩:=aL7 (a27 d) (tN (a5z e)) l hl
  have hc:=aTx (a5z e)
  exact aOk hl ⟨q,q1,by omega,fun z hz=>⟨(q3 z hz).1,by have:=(q3 z hz).2; show _≤(4*LB d+60) / 4; omega⟩⟩ r1 r2 fun h0=>by cases h0
end Go.Fbs

namespace Go.Fbs
open Go.Proofs Go.RowKit
def wO (D:Nat):Spec
 | [.sl .ro es,.int .i64 d]=>if d=D∧es.all sY=true∧es.length≤es.length then some (.tup [(gV D es).1,.sl .ro (gV D es).2]) else none
 | _=>none
theorem aIg {D:Nat} {es:List V} (h:es.all sY=true) (hl:es.length≤es.length):wO D [.sl .ro es,.int .i64 (D:Nat)]=some (.tup [(gV D es).1,.sl .ro (gV D es).2]):=if_pos ⟨rfl,h,hl⟩
theorem a1m:∀ {es:List V},es.all sY=true→aJ es=true:=fun {es} h=>jF.2 fun e he=>by
 rw [aG2 (List.all_eq_true.1 h e he)]; rfl
theorem b10 {e:V} {l:List V} (h:sY e=true):gS false 1 (.sl .ro (e::l)) (.int .i64 0)=some (.int .i64 (a5z e)):=by
 rw [aG2 h]; rfl
theorem aW0 {e:V} {l:List V} (h:(e::l).all sY=true):aDg 1 (.sl .ro (e::l)) (some (.int .i64 1)) none=some (.sl .ro l):=by
 have h1:(e::l).all (fun e=>e.cells.length == 1)=true:=List.all_eq_true.2 fun x hx=>by
  rw [aG2 (List.all_eq_true.1 h x hx)]; rfl
 unfold aDg iE
 dsimp only
 rw [if_pos ⟨by decide,by rw [List.length_cons]; omega⟩]
 dsimp only
 rw [if_pos h1]
 congr 2
 simp
theorem b11 {ls:List V} {v:V} (hl:ls.length≤10) (h:∀ e ∈ ls,Good e) (hv:Good v):appK 4 72 (.sl .ro ls) (.sl .ro [v])=some (.sl .ro (ls++[v])):=by
 refine aQi (by simp; omega) (List.all_eq_true.2 fun e he=>?_) ?_
 ·obtain ⟨k,t,ks,l,rfl,_⟩:=h e he; rfl
 ·obtain ⟨k,t,ks,l,rfl,_⟩:=hv; rfl
theorem aYe {v:V} (hv:Good v):kV 4 [v]=some (.sl .ro [v]):=by
 obtain ⟨k,t,ks,l,rfl,_⟩:=hv; rfl
theorem aBc {v:V} (hv:Good v):aP 4 v=some v:=by
 obtain ⟨k,t,ks,l,rfl,_⟩:=hv; rfl
theorem aYf:∀ d:Nat,d≤5→LB d≤100000:=by
 intro d hd
 have h:∀ d:_root_.Fin 6,LB d.val≤100000:=by decide
 exact h ⟨d,by omega⟩
theorem aBd {d:Nat} (hd:d≤5) {es:List V} (h:es.all sY=true):Good (gV d es).1:=by
 obtain ⟨⟨x,h1,h2⟩,_⟩:=a27 d es h
 have:=aYf d hd
 exact a0n h1 (by omega)
theorem aL8 {d:Nat} (hd:d≤5) (i:Nat) {l:List V} (h:l.all sY=true):(∀ e ∈ (tO (fun x=>gV d x) i l).1,Good e)∧(tO (fun x=>gV d x) i l).1.length=i∧(tO (fun x=>gV d x) i l).2.all sY=true∧(tO (fun x=>gV d x) i l).2.length≤l.length:=by
 obtain ⟨⟨q,q1,q2,q3⟩,r1,r2⟩:=aL7 (a27 d) i l h
 have:=aYf d hd
 refine ⟨fun e he=>?_,by rw [q1,List.length_map,q2],r1,r2⟩
 rw [q1] at he
 obtain ⟨z,hz,rfl⟩:=List.mem_map.1 he
 obtain ⟨h1,h2⟩:=q3 z hz
 exact a0n h1 (by omega)
def a81:Nat→Nat→List V→List V×List V
 | 0,_,l=>([],l)
 | d+1,i,l=>tO (fun x=>gV d x) i l
theorem aTz (D:Nat) (e:V) (l:List V):gV D (e::l)=a2u (a5z e) l (a81 D (tN (a5z e)) l):=by cases D <;> rfl
attribute [local irreducible] bK aX in
theorem aIh {T:List (FuncId×Spec)} {D:Nat} (hD:D≤5) (cT:∀ n,bD T iX [.int .i64 n]=some (.str (a5y n))) (cM:∀ d,D=d+1→∀ es,es.all sY=true→es.length≤es.length→bD T fK [.sl .ro es,.int .i64 (d:Nat)]=some (.tup [(gV d es).1,.sl .ro (gV d es).2])) {es:List V} (h:es.all sY=true) (hl:es.length≤es.length) :
  bK dR (bD T) 84 p6 [.cell 4 27,.tmp 5] (cB Tryz.f13) [.sl .ro es,.int .i64 (D:Nat)] (fun r=>r = .tup [(gV D es).1,.sl .ro (gV D es).2]):=by
 refine Eq.mpr (aAq _ _ (.sl .ro es) (.int .i64 (D:Nat))) ?_
 have hel:∀ x y:Int,aC .eql (.int .i64 x) (.int .i64 y)=some (.bool (decide (x=y))):=fun _ _=>rfl
 have hls:∀ x y:Int,aC .lss (.int .i64 x) (.int .i64 y)=some (.bool (decide (x < y))):=fun _ _=>rfl
 have hgt:∀ x y:Int,aC .gtr (.int .i64 x) (.int .i64 y)=some (.bool (decide (x > y))):=fun _ _=>rfl
 have ag:∀ (k:Int) (t:List UInt8) (a b:List V),aD [.int .i64 k,.str t,.sl .ro a,.sl .ro b]=some (jn k t a b):=fun _ _ _ _=>rfl
 rw [a2s,aB,hel,aB]
 cases es with
 | nil =>
  have e:gV D []=(jn 1 [] [] [],[]):=by cases D <;> rfl
  rw [decide_eq_true (by rfl),dW,ag,aB,cJ0,zO,ag,aB,e]
 | cons e l =>
  have hl1:l.all sY=true:=by rw [List.all_cons,Bool.and_eq_true] at h; exact h.2
  have he:sY e=true:=by rw [List.all_cons,Bool.and_eq_true] at h; exact h.1
  rw [List.length_cons] at hl
  rw [aTz,decide_eq_false (by rw [List.length_cons]; omega),cF,b10 he,aB,aW0 h,aB]
  generalize a5z e=n
  have hkn:IntKind.i64.wrap (((n % ((256:Nat):Int)).toNat % 7:Nat)+1:Int)=(kindN n:Int):=by
   rw [dN (by omega) (by omega)]; unfold kindN; omega
  have hadd:aC .add (.int .i64 (((n % ((256:Nat):Int)).toNat % 7:Nat):Int)) (.int .i64 1)=some (.int .i64 (kindN n:Int)):=by rw [← hkn]; rfl
  rw [andM n (j:=8) (c:=255) (m:=256) (by omega) rfl rfl,aB,b1y,aB,hadd,aB,ag,aB]
  rw [cJ0,zO,hel,aB]
  by_cases h4:kindN n=4
  ·have l1:kV 1 [.str [48],.str [45,48],.str [49],.str [49,50,46,53,48],.str [49,101,57],.str [45,51,69,45,50],.str [48,46,53,101,43,55]]=some (.sl .ro (nmA.map V.str)):=rfl
   rw [decide_eq_true (by omega),dW,l1,aB,aWz,aB,andM _ (j:=8) (c:=255) (m:=256) (by omega) rfl rfl,aB,b1y,aB,aJc (l:=nmA) (i:=(n.fdiv 256 % ((256:Nat):Int)).toNat % 7) (show _ < 7 from Nat.mod_lt _ (by decide)),aB,ag,aB]
   unfold a2u
   rw [if_pos h4,h4]; rfl
  rw [decide_eq_false (by omega),cF,hel,aB]
  by_cases h5:kindN n=5
  ·rw [decide_eq_true (by omega),dW,aWz,aB,cT,aB,show iI (.str (a5y (n.fdiv 256)))=some (.str (a5y (n.fdiv 256))) from rfl,aB,ag,aB]
   unfold a2u
   rw [if_neg h4,if_pos h5,h5]; rfl
  rw [decide_eq_false (by omega),cF,hel,aB]
  refine fJ (fun w=>w=[.bool (decide (kindN n=6∨kindN n=7))]) (fun w hw=>?_) fun r0 hr0=>?_
  case refine_2 =>
   by_cases h6:kindN n=6
   ·rw [decide_eq_true (by omega),dW]
    exact hr0 _ (by rw [decide_eq_true (.inl h6)])
   ·rw [decide_eq_false (by omega),cF,hel,aB]
    refine hr0 _ ?_
    congr 2
    exact decide_eq_decide.2 ⟨fun h=>.inr (by omega),fun h=>by rcases h with h | h; exact absurd h h6; omega⟩
  subst hw
  refine ⟨rfl,?_⟩
  rw [show gv [V.bool (decide (kindN n=6∨kindN n=7))] 0=V.bool (decide (kindN n=6∨kindN n=7)) from rfl]
  by_cases h67:kindN n=6∨kindN n=7
  ·rw [decide_eq_true h67,dW]
   have g0:∀ x y z u:V,gv [x,y,z,u] 0=x:=fun _ _ _ _=>rfl
   have g1:∀ x y z u:V,gv [x,y,z,u] 1=y:=fun _ _ _ _=>rfl
   have g2:∀ x y z u:V,gv [x,y,z,u] 2=z:=fun _ _ _ _=>rfl
   have g3:∀ x y z u:V,gv [x,y,z,u] 3=u:=fun _ _ _ _=>rfl
   have hc4:=aTx n
   have hcd:((n.fdiv 256 % ((4:Nat):Int)).toNat:Int)=(tN n:Int):=rfl
   refine gP (fun vs=>∃ i:Nat,vs=[.sl .ro (a81 D i l).2,.int .i64 i,.sl .ro (a81 D i l).1,.sl .ro ((if kindN n=7 then sK.take i else []).map V.str)]∧i≤tN n∧(D=0→i=0)) (fun vs=>tN n - nQ (gv vs 1)) ⟨0,by cases D <;> simp [a81,tO],Nat.zero_le _,fun _=>rfl⟩ ?_
   rintro r1 vs ⟨i,rfl,hi,h0⟩ hnext
   refine ⟨rfl,?_⟩
   rw [aWz,aB,andM _ (j:=2) (c:=3) (m:=4) (by omega) rfl rfl,aB,hcd,g1,hls,aB,hgt,aB]
   have pk2:∀ a b:Bool,pickV (.bool a) (.bool b) (.bool false)=some (.bool (a && b)):=fun a b=>by cases a <;> rfl
   rw [pk2,aB]
   by_cases hk:i < tN n∧0 < D
   ·obtain ⟨d,rfl⟩:∃ d,D=d+1:=⟨D - 1,by omega⟩
    obtain ⟨w1,w2,w3,w4⟩:=aL8 (d:=d) (by omega) i hl1
    have hgd:=aBd (d:=d) (by omega) w3
    have hsub:aC .sub (.int .i64 ((d+1:Nat):Int)) (.int .i64 1)=some (.int .i64 (d:Nat)):=by
     show some (V.int .i64 (IntKind.i64.wrap (((d+1:Nat):Int) - 1)))=_
     rw [dN (by omega) (by omega)]
     congr 2; omega
    have hadd1:aC .add (.int .i64 (i:Int)) (.int .i64 1)=some (.int .i64 ((i+1:Nat):Int)):=by
     show some (V.int .i64 (IntKind.i64.wrap ((i:Int)+1)))=_
     rw [dN (by omega) (by omega)]; rfl
    have hm:=cM d rfl _ w3 (by omega)
    have hr2:(a81 (d+1) i l).2=(tO (fun x=>gV d x) i l).2:=rfl
    have hr1:(a81 (d+1) i l).1=(tO (fun x=>gV d x) i l).1:=rfl
    rw [decide_eq_true (show (i:Int) < (tN n:Int) by omega),decide_eq_true (show ((d+1:Nat):Int) > 0 by omega),show (true && true)=true from rfl,dW,ag,aB,hsub,aB,g0,hr2,hm,aB,nN,aB,nO,aB,aBc hgd,aB,aYe hgd,aB,g2,hr1,b11 (by omega) w1 hgd,aB,hel,aB]
    by_cases h7:kindN n=7
    ·have l3:kV 1 [.str [97],.str [98],.str [99],.str [10]]=some (.sl .ro (sK.map V.str)):=rfl
     have hil:i < sK.length:=by show i < 4; omega
     have hlit:∀ y:List UInt8,kV 1 [.str y]=some (.sl .ro [.str y]):=fun _=>rfl
     have htk:sK.take (i+1)=sK.take i++[sK.getD i []]:=by
      rw [List.take_add_one,List.getD_eq_getElem?_getD,List.getElem?_eq_getElem hil]; rfl
     rw [decide_eq_true (by omega),dW,l3,aB,aJc hil,aB,hlit,aB,g3,if_pos h7,a8y (by rw [List.length_take]; omega),aB,hadd1,aB]
     refine hnext _ ⟨i+1,?_,by omega,fun h=>by omega⟩ (by show tN n - (i+1) < tN n - i; omega)
     rw [if_pos h7,htk]; rfl
    ·rw [decide_eq_false (by omega),cF,hadd1,aB,g3,if_neg h7]
     refine hnext _ ⟨i+1,?_,by omega,fun h=>by omega⟩ (by show tN n - (i+1) < tN n - i; omega)
     rw [if_neg h7]; rfl
   ·have hf:(decide ((i:Int) < (tN n:Int)) && decide (((D:Nat):Int) > 0))=false:=by
     rw [Bool.and_eq_false_iff,decide_eq_false_iff_not,decide_eq_false_iff_not]
     omega
    have hrow:a81 D i l=a81 D (tN n) l:=by
     cases D with
     | zero=>rfl
     | succ d=>rw [show i=tN n by omega]
    have hrl:(a81 D (tN n) l).1.length=i:=by
     rw [← hrow]
     cases D with
     | zero=>rw [h0 rfl]; rfl
     | succ d=>exact (aL8 (d:=d) (by omega) i hl1).2.1
    rw [hf,cF,g0,g2,g3,ag,aB,hrow]
    unfold a2u
    rcases h67 with h6 | h7
    ·rw [if_neg h4,if_neg h5,if_pos h6,if_neg (show ¬ kindN n=7 by omega),h6]; rfl
    ·rw [if_neg h4,if_neg h5,if_neg (show ¬ kindN n=6 by omega),if_pos h7,if_pos h7,h7,hrl]; rfl
  ·rw [decide_eq_false h67,cF,ag,aB]
   unfold a2u
   rw [if_neg h4,if_neg h5,if_neg fun h=>h67 (.inl h),if_neg fun h=>h67 (.inr h)]
attribute [local irreducible] bK aX in
theorem aOl:∀ D:Nat,D≤5→cZ Tryz.prog fK (wO D)
 | 0,_=>by
  refine zJ (T:=[(iX,a1l)]) (aH.cons aFw aH.nil) fun args v hv=>?_
  unfold wO at hv
  split at hv <;> simp only [Option.ite_none_right_eq_some,Option.some.injEq,reduceCtorEq] at hv
  obtain ⟨⟨rfl,h1,h2⟩,rfl⟩:=hv
  have hm:=a27 0 _ h1
  refine ⟨rfl,by simp [aJ,V.bR,a1m h1],by simp [aJ,V.bR,iZ (aBd (d:=0) (by omega) h1),a1m hm.2.1],?_⟩
  exact aIh (D:=0) (by omega) (fun n=>rfl) (fun d hd=>by omega) h1 h2
 | d+1,hd=>by
  refine zJ (T:=[(iX,a1l),(fK,wO d)]) (aH.cons aFw (aH.cons (aOl d (by omega)) aH.nil)) fun args v hv=>?_
  unfold wO at hv
  split at hv <;> simp only [Option.ite_none_right_eq_some,Option.some.injEq,reduceCtorEq] at hv
  obtain ⟨⟨rfl,h1,h2⟩,rfl⟩:=hv
  have hm:=a27 (d+1) _ h1
  have cM:∀ args,bD [(iX,a1l),(fK,wO d)] fK args=wO d args:=fun _=>rfl
  refine ⟨rfl,by simp [aJ,V.bR,a1m h1],by simp [aJ,V.bR,iZ (aBd hd h1),a1m hm.2.1],?_⟩
  exact aIh hd (fun n=>rfl) (fun d' hd' es g1 g2=>by obtain rfl:d=d':=(by omega); rw [cM]; exact aIg g1 g2) h1 h2
end Go.Fbs

namespace Go.Fbs
open Go.Proofs Go.RowKit
def tkA:List (List UInt8):=[[91],[93],[123],[125],[44],[58],[34,97,34],[34,98,34],[49],[45,50,46,53,101,43,49],[110,117,108,108],[116,114,117,101],[102,97,108,115,101],[32],[34,92,117,48,48],[34,92,110,34],[48],[91,91],[93,93],[34,97,34,58],[91,49,44],[123,34,97,34,58],[116,114,117],[34]]
def tkM (c:UInt8):List UInt8:=tkA.getD (c.toNat % 24) []
def aJd (s:List UInt8):List UInt8:=(s.take 80).flatMap tkM
theorem aT1 (c:UInt8):(tkM c).length≤8:=by
 have h:∀ i:_root_.Fin 24,(tkA.getD i.val []).length≤8:=by decide
 exact h ⟨c.toNat % 24,Nat.mod_lt _ (by decide)⟩
theorem aG3:∀ s:List UInt8,(s.flatMap tkM).length≤8*s.length
 | []=>Nat.le_refl _
 | c::s=>by
  have h1:=aT1 c
  have h2:=aG3 s
  rw [List.flatMap_cons,List.length_append,List.length_cons]; omega
theorem aW1 (s:List UInt8):(aJd s).length≤640:=by
 have:=aG3 (s.take 80)
 rw [List.length_take] at this
 unfold aJd; omega
def aBe:Spec
 | [.str s]=>if s.length≤1000000 then some (.str (aJd s)) else none
 | _=>none
theorem b12:∀ c:UInt8,aC .and (.int .u8 (c.toNat:Int)) (.int .u8 255)=some (.int .u8 (c.toNat:Int)):=by
 have h:∀ q:_root_.Fin 256,aBb (aC .and (.int .u8 (q.val:Int)) (.int .u8 255)) (q.val:Int)=true:=by decide +kernel
 intro c
 exact a0m (h ⟨c.toNat,c.toNat_lt⟩)
theorem b26:∀ c:UInt8,aC .rem (.int .u8 (c.toNat:Int)) (.int .u8 24)=some (.int .u8 ((c.toNat % 24:Nat):Int)):=by
 have h:∀ q:_root_.Fin 256,aBb (aC .rem (.int .u8 (q.val:Int)) (.int .u8 24)) ((q.val % 24:Nat):Int)=true:=by decide +kernel
 intro c
 exact a0m (h ⟨c.toNat,c.toNat_lt⟩)
theorem b13 {l:List (List UInt8)} {i:Nat} (h:i < l.length):gS false 1 (.sl .ro (l.map V.str)) (.int .u8 (i:Nat))=some (.str (l.getD i [])):=by
 have e : (l.map V.str)[i]? = some (.str (l.getD i [])):=by
  rw [List.getElem?_map,List.getD_eq_getElem?_getD,List.getElem?_eq_getElem h]; rfl
 exact aVu e rfl 1 .u8
theorem pk2 (a b:Bool):pickV (.bool a) (.bool b) (.bool false)=some (.bool (a && b)):=by cases a <;> rfl
theorem a0o (x y:Int):aC .lss (.int .i64 x) (.int .i64 y)=some (.bool (decide (x < y))):=rfl
theorem yZ (x y:Int):aC .eql (.int .i64 x) (.int .i64 y)=some (.bool (decide (x=y))):=rfl
theorem b14 (x:Int):aC .neq (.int .i64 x) (.int .i64 x)=some (.bool false):=by simp only [sS,if_true,if_false,reduceCtorEq]; simp
theorem aBf {i:Nat} (h:i < 1000000000000):aC .add (.int .i64 (i:Int)) (.int .i64 1)=some (.int .i64 ((i+1:Nat):Int)):=by
 show some (V.int .i64 (IntKind.i64.wrap ((i:Int)+1)))=_
 rw [dN (by omega) (by omega)]; rfl
attribute [local irreducible] bK aX in
theorem aZ8:cZ Tryz.prog lT aBe:=by
 refine a9i (T:=[]) aH.nil fun args v hv=>?_
 unfold aBe at hv
 split at hv <;> simp only [Option.ite_none_right_eq_some,Option.some.injEq,reduceCtorEq] at hv
 rename_i s
 obtain ⟨h1,rfl⟩:=hv
 refine ⟨rfl,rfl,rfl,?_⟩
 refine Eq.mpr (aAp _ _ (.str s)) ?_
 refine gP (fun vs=>∃ i:Nat,vs=[.str ((s.take i).flatMap tkM),.int .i64 i]∧i≤s.length∧i≤80) (fun vs=>s.length - nQ (gv vs 1)) ⟨0,rfl,Nat.zero_le _,Nat.zero_le _⟩ ?_
 rintro r1 vs ⟨i,rfl,hi,hi2⟩ hnext
 refine ⟨rfl,?_⟩
 have g0:∀ x y:V,gv [x,y] 0=x:=fun _ _=>rfl
 have g1:∀ x y:V,gv [x,y] 1=y:=fun _ _=>rfl
 have hls:fG (.str s)=some (.int .i64 s.length):=rfl
 have hq:=aG3 (s.take i)
 rw [List.length_take] at hq
 rw [hls,aB,g1,a0o,aB,a0o,aB,pk2,aB]
 by_cases hk:i < s.length∧i < 80
 ·have hg:=List.getElem?_eq_getElem hk.1
  have hx:cV (.str s) (.int .i64 (i:Nat))=some (.int .u8 s[i].toNat):=qK hg .i64
  have hl:kV 1 [.str [91],.str [93],.str [123],.str [125],.str [44],.str [58],.str [34,97,34],.str [34,98,34],.str [49],.str [45,50,46,53,101,43,49],.str [110,117,108,108],.str [116,114,117,101],.str [102,97,108,115,101],.str [32],.str [34,92,117,48,48],.str [34,92,110,34],.str [48],.str [91,91],.str [93,93],.str [34,97,34,58],.str [91,49,44],.str [123,34,97,34,58],.str [116,114,117],.str [34]]=some (.sl .ro (tkA.map V.str)):=rfl
  have ht:s.take (i+1)=s.take i++[s[i]]:=by rw [List.take_add_one,hg]; rfl
  have htl:=aT1 s[i]
  unfold tkM at htl
  rw [decide_eq_true (show (i:Int) < (s.length:Int) by omega),decide_eq_true (show (i:Int) < 80 by omega),show (true && true)=true from rfl,dW,hl,aB,hx,aB,b12,aB,b26,aB,b13 (l:=tkA) (i:=s[i].toNat % 24) (show _ < 24 from Nat.mod_lt _ (by decide)),aB,g0,tM (by omega),aB,aBf (by omega),aB]
  refine hnext _ ⟨i+1,?_,by omega,by omega⟩ (by show s.length - (i+1) < s.length - i; omega)
  rw [ht,List.flatMap_append]
  simp only [List.flatMap_cons,List.flatMap_nil,List.append_nil]
  rfl
 ·have hf:(decide ((i:Int) < (s.length:Int)) && decide ((i:Int) < 80))=false:=by
   rw [Bool.and_eq_false_iff,decide_eq_false_iff_not,decide_eq_false_iff_not]
   omega
  rw [hf,cF,g0]
  have e:s.take i=s.take 80:=by
   rcases Nat.lt_or_ge i s.length with h | h
   ·rw [show i=80 by omega]
   ·rw [List.take_of_length_le h,List.take_of_length_le (by omega)]
  rw [e]; rfl
end Go.Fbs

namespace Go.Fbs
open Go.Proofs Go.RowKit
theorem aW2:Go.Pinned.caseRanges=Lib.caseData:=by kernel_rfl
theorem aT2:Go.Pinned.utf8First=Lib.firstData:=by kernel_rfl
theorem aQ4:(Go.Proofs.YthakklikgmcgdaaGreatDoor.Rows.laid_unicode_utf8_acceptRanges:DataW Unit)=Lib.acceptData:=by kernel_rfl
theorem aW3:Lays.n260 Tryz.prog Tryz.tC:={ Tryz.aGt with }
theorem aW4:Lays.n274 Tryz.prog Tryz.tC:={ Tryz.aGt with }
theorem u8B:U8Extra Tryz.prog Tryz.tC:={ n3:=by kernel_rfl,n4:=by kernel_rfl,y3:=by kernel_rfl,y4:=by kernel_rfl,c5:=by kernel_rfl,c119:=by kernel_rfl,c138:=by kernel_rfl }
theorem b27:CaseExtra Tryz.prog Tryz.tC:={ n13:=by kernel_rfl,y13:=by kernel_rfl,c21:=by kernel_rfl,c51:=by kernel_rfl,c206:=by kernel_rfl,c208:=by kernel_rfl }
theorem z6 {w : World} {b i : Nat} {v : Value} (h : w.cell? ⟨b,i,none⟩ = some v) : aW w.heap b i = some v:=(nF w b i).symm.trans h
theorem aT3 {w:World} (hc:Lib.CaseVar 3 Lib.caseA w) (hu:Lib.Utf8Tabs 0 1 w):tD w.heap:=by
 obtain ⟨R,oR,cap,h3,h4⟩:=hc
 obtain ⟨h1,h2⟩:=hu
 have hpos:0 < Lib.caseA.size:=by
  have h336:Lib.caseT.length=336:=by kernel_rfl
  have e:Lib.caseA.size=Lib.caseT.length:=by simp [Lib.caseA]
  omega
 have key : ∀ {S : Nat → Bool} {b i : Nat} {v : Value},S b = true → w.cell? ⟨b,i,none⟩ = some v → a5d S w.heap b i = some v:=fun {S b i v} hb h=>by
  unfold a5d
  rw [if_pos hb]
  exact z6 h
 refine ⟨fun b=>b == 0 || b == 1 || b == 3 || b == R,fun b hb=>?_,fun k hk=>key (by simp) (h1 k hk),fun i hi=>⟨key (by simp) (h2 i hi).1,key (by simp) (h2 i hi).2⟩,R,oR,cap,key (by simp) h3,fun i hi=>?_⟩
 ·simp only [Bool.or_eq_true,beq_iff_eq] at hb
  rcases hb with ((rfl | rfl) | rfl) | rfl
  ·exact gW (z6 (h1 0 (by omega)))
  ·exact gW (z6 (h2 0 (by omega)).1)
  ·exact gW (z6 h3)
  ·exact gW (z6 (h4 0 hpos).1)
 ·obtain ⟨q0,q1,q2,q3,q4⟩:=h4 i hi
  exact ⟨key (by simp) q0,key (by simp) q1,key (by simp) q2,key (by simp) q3,key (by simp) q4⟩
end Go.Fbs

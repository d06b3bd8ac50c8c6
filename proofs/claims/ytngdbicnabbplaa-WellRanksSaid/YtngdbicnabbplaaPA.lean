import Derived.Test.YtngdbicnabbplaaHF
import Derived.Shelf.Strings.Search1
import Derived.Shelf.Strings.Search2
import Derived.Shelf.Strings.Search3
import Derived.Shelf.LaysM
import Derived.Shelf.Strings.Shaped
import Derived.Shelf.Strings.Prefix
import Derived.Test.YtngdbicnabbplaaProg
import Derived.Test.YtngdbicnabbplaaS2
import Derived.Test.YtngdbicnabbplaaHT
set_option linter.unusedSimpArgs false
set_option linter.unusedVariables false
set_option maxRecDepth 100000
namespace Go.Fbs
open Go.Proofs
def a0v:List (OK×Vars):=[]
theorem aI9 (p:PT) (Q:V→Prop) (a0 a1:V):bV aZ p 8 a0v [.tmp 4] (cB Try.f59) [a0,a1] Q=(opt (p iA [a0,a1]) fun y2=>Q y2):=by kernel_rfl
theorem aGy {T:List (FuncId×Spec)} (h:aE Try.prog aZ T) {F:Spec} (hF:∀ args v,F args=some v→args.length=2∧aG args=true∧v.aN=true∧bV aZ (aM T) 8 a0v [.tmp 4] (cB Try.f59) args (fun r=>r=v)):cU Try.prog fD F :=
 gO gK mixed Try.func59 (by kernel_rfl) (by kernel_rfl) Try.ntmps59 (by rw [Try.results59]) 2 rfl a0v h hF
def a5s:List (OK×Vars):=[]
theorem aQv (p:PT) (Q:V→Prop) (a0 a1:V):bV aZ p 8 a5s [.tmp 4] (cB Try.f60) [a0,a1] Q=(opt (p lA [a0,a1]) fun y2=>Q y2):=by kernel_rfl
theorem aO0 {T:List (FuncId×Spec)} (h:aE Try.prog aZ T) {F:Spec} (hF:∀ args v,F args=some v→args.length=2∧aG args=true∧v.aN=true∧bV aZ (aM T) 8 a5s [.tmp 4] (cB Try.f60) args (fun r=>r=v)):cU Try.prog jH F :=
 gO gK mixed Try.func60 (by kernel_rfl) (by kernel_rfl) Try.ntmps60 (by rw [Try.results60]) 2 rfl a5s h hF
def a1n:List (OK×Vars):=[]
theorem aKv (p:PT) (Q:V→Prop) (a0 a1:V):bV aZ p 9 a1n [.tmp 4] (cB Try.f61) [a0,a1] Q=(opt (p jH [a0,a1]) fun y2=>opt (aF .geq y2 (.int .i64 0)) fun y3=>Q y3):=by kernel_rfl
theorem aJa {T:List (FuncId×Spec)} (h:aE Try.prog aZ T) {F:Spec} (hF:∀ args v,F args=some v→args.length=2∧aG args=true∧v.aN=true∧bV aZ (aM T) 9 a1n [.tmp 4] (cB Try.f61) args (fun r=>r=v)):cU Try.prog fP F :=
 gO gK mixed Try.func61 (by kernel_rfl) (by kernel_rfl) Try.ntmps61 (by rw [Try.results61]) 2 rfl a1n h hF
def pD:List (OK×Vars):=[]
theorem a4b (p:PT) (Q:V→Prop) (a0 a1:V):bV aZ p 18 pD [.tmp 4] (cB Try.f74) [a0,a1] Q=(opt (lS a0) fun y2=>opt (lS a1) fun y3=>opt (aF .geq y2 y3) fun y4=>opt (lS a1) fun y5=>opt (aU y4 true (mA a0 none (some y5))) fun y6=>opt (aU y4 true (aF .eql y6 a1)) fun y7=>opt (cE y4 y7 (.bool false)) fun y8=>Q y8):=by kernel_rfl
theorem a3q {T:List (FuncId×Spec)} (h:aE Try.prog aZ T) {F:Spec} (hF:∀ args v,F args=some v→args.length=2∧aG args=true∧v.aN=true∧bV aZ (aM T) 18 pD [.tmp 4] (cB Try.f74) args (fun r=>r=v)):cU Try.prog iA F :=
 gO gK mixed Try.func74 (by kernel_rfl) (by kernel_rfl) Try.ntmps74 (by rw [Try.results74]) 2 rfl pD h hF
end Go.Fbs
namespace Go.Proofs
open Go.Shelf
def Try.b1c:Go.Shelf.Ren:=⟨fun | 219=>75 | 217=>83 | 225=>84 | 224=>85 | 267=>86 | 266=>89 | 314=>90 | n=>n,fun | 9=>9 | 3=>3 | 4=>4 | 5=>5 | 46=>55 | 146=>144 | 51=>143 | n=>n,fun | 1=>0 | n=>n⟩
theorem Try.bGi:Go.Proofs.Lays.n219 Try.prog Try.b1c:={
 mixed:=by kernel_rfl
 f217:=Try.func83.trans (congrArg some (by kernel_rfl))
 f219:=Try.func75.trans (congrArg some (by kernel_rfl))
 f224:=Try.func85.trans (congrArg some (by kernel_rfl))
 f225:=Try.func84.trans (congrArg some (by kernel_rfl))
 f266:=Try.func89.trans (congrArg some (by kernel_rfl))
 f267:=Try.func86.trans (congrArg some (by kernel_rfl))
 f314:=Try.func90.trans (congrArg some (by kernel_rfl))
 t3:=Try.underlying3
 a3:=Try.isAgg3
 z3:=Try.sizeOf3
 v3:=Try.zeroValue3
 t4:=Try.underlying4
 a4:=Try.isAgg4
 z4:=Try.sizeOf4
 v4:=Try.zeroValue4
 t5:=Try.underlying5
 a5:=Try.isAgg5
 z5:=Try.sizeOf5
 v5:=Try.zeroValue5
 t9:=Try.underlying9
 a9:=Try.isAgg9
 z9:=Try.sizeOf9
 v9:=Try.zeroValue9
 t46:=Try.underlying55
 a46:=Try.isAgg55
 z46:=Try.sizeOf55
 v46:=Try.zeroValue55
 t51:=Try.underlying143
 a51:=Try.isAgg143
 z51:=Try.sizeOf143
 v51:=Try.zeroValue143
 t146:=Try.underlying144
 a146:=Try.isAgg144
 z146:=Try.sizeOf144
 v146:=Try.zeroValue144
 g1:=by kernel_rfl }
open Go.RowKit Go.Lib in
theorem Try.stringslite_Index_one (s:ByteArray) (c:UInt8) (w:World) :
  Calls Try.prog 75 #[.string s,.string ⟨#[c]⟩] w fun e w'=>e = .returned (.int .i64 (Lib.indexByte s.data.toList c))∧w'=w:=Any.stringslite_Index_one Try.bGi s c w
end Go.Proofs
namespace Go.Fbs
open Go.Proofs
def ixB (l:List UInt8) (c:UInt8):Int:=Lib.indexByte l c
def jD:Spec
 | [.str s,.str [c]]=>some (vI (ixB s c))
 | _=>none
theorem a6a:cU Try.prog lA jD:=by
 refine ⟨⟨_,_,Try.func75,rfl,by kernel_rfl⟩,fun args v hv=>?_⟩
 unfold jD at hv
 split at hv <;> simp only [zzz,reduceCtorEq] at hv
 rename_i s c
 subst hv
 exact ⟨fun m=>b0s fun κ w xs r=>⟨_,by rw [b7n r]; exact Try.stringslite_Index_one ⟨⟨s⟩⟩ c w,.int _ _⟩,rfl⟩
def jI:Spec
 | [.str s,.str [c]]=>some (vI (ixB s c))
 | _=>none
theorem aBl:cU Try.prog jH jI:=by
 refine aO0 (T:=[(lA,jD)]) (aE.cons a6a aE.nil) fun args v hv=>?_
 have c_internal_stringslite_Index:∀ args,aM [(lA,jD)] lA args=jD args:=fun _=>rfl
 unfold jI at hv
 split at hv <;> (try simp only [Option.ite_none_right_eq_some,zzz,reduceCtorEq] at hv)
 subst hv
 refine ⟨rfl,rfl,rfl,?_⟩
 rw [aQv]
 simp [sS,if_true,if_false,reduceCtorEq,c_internal_stringslite_Index,jD]
def fQ:Spec
 | [.str s,.str [c]]=>some (.bool (decide (0≤ixB s c)))
 | _=>none
theorem a6f:cU Try.prog fP fQ:=by
 refine aJa (T:=[(jH,jI)]) (aE.cons aBl aE.nil) fun args v hv=>?_
 have c_strings_Index:∀ args,aM [(jH,jI)] jH args=jI args:=fun _=>rfl
 unfold fQ at hv
 split at hv <;> (try simp only [Option.ite_none_right_eq_some,zzz,reduceCtorEq] at hv)
 subst hv
 refine ⟨rfl,rfl,rfl,?_⟩
 rw [aKv]
 simp [sS,if_true,if_false,reduceCtorEq,c_strings_Index,jI]
theorem a8i {q s:List UInt8} : q.isPrefixOf s=(decide (q.length≤s.length) && (s.take q.length == q)):=by
 induction q generalizing s with
 | nil=>simp
 | cons a q ih=>cases s with
  | nil=>simp
  | cons b s =>
   simp only [List.isPrefixOf,ih,zwx,List.take_succ_cons,List.cons_beq_cons,Nat.add_le_add_iff_right]
   rw [show (a == b)=(b == a) from BEq.comm]
   cases b == a <;> simp
def iC:Spec
 | [.str s,.str q]=>some (.bool (q.isPrefixOf s))
 | _=>none
theorem a3r:cU Try.prog iA iC:=by
 refine a3q (T:=[]) (aE.nil) fun args v hv=>?_
 unfold iC at hv
 split at hv <;> (try simp only [Option.ite_none_right_eq_some,zzz,reduceCtorEq] at hv)
 rename_i s q
 subst hv
 refine ⟨rfl,rfl,rfl,?_⟩
 rw [a4b]
 by_cases h:q.length≤s.length
 ·have h':(q.length:Int)≤(s.length:Int):=by omega
  simp [sS,if_true,if_false,reduceCtorEq,h',aCn h,a8i,h]
 ·have h':¬ (q.length:Int)≤(s.length:Int):=by omega
  simp [sS,if_true,if_false,reduceCtorEq,h',a8i,h]
def fE:Spec
 | [.str s,.str q]=>some (.bool (q.isPrefixOf s))
 | _=>none
theorem a5t:cU Try.prog fD fE:=by
 refine aGy (T:=[(iA,iC)]) (aE.cons a3r aE.nil) fun args v hv=>?_
 have c_internal_stringslite_HasPrefix:∀ args,aM [(iA,iC)] iA args=iC args:=fun _=>rfl
 unfold fE at hv
 split at hv <;> (try simp only [Option.ite_none_right_eq_some,zzz,reduceCtorEq] at hv)
 subst hv
 refine ⟨rfl,rfl,rfl,?_⟩
 rw [aI9]
 simp [sS,if_true,if_false,reduceCtorEq,c_internal_stringslite_HasPrefix,iC]
end Go.Fbs
namespace Go.Fbs
open Go.Proofs
def kB (c:Int):Bool:=(decide (97≤c) && decide (c≤122)) || (decide (48≤c) && decide (c≤57)) || decide (c=95)
def vS:Spec
 | [.int .u8 c]=>some (.bool (kB c))
 | _=>none
theorem aSx:cU Try.prog vQ vS:=by
 refine aSw (T:=[]) (aE.nil) fun args v hv=>?_
 unfold vS at hv
 split at hv <;> (try simp only [Option.ite_none_right_eq_some,zzz,reduceCtorEq] at hv)
 rename_i c
 subst hv
 refine ⟨rfl,rfl,rfl,?_⟩
 rw [aVc]
 by_cases h1:97≤c <;> by_cases h2:c≤122 <;> by_cases h3:48≤c <;> by_cases h4:c≤57 <;> by_cases h5:c=95 <;> simp [sS,if_true,if_false,reduceCtorEq,kB,h1,h2,h3,h4,h5]
def mS (l:List UInt8):Nat:=(l.takeWhile fun c=>kB c.toNat).length
theorem aIk {α : Type} (f : α → Bool) : ∀ (l : List α) (k : Nat),k ≤ (l.takeWhile f).length → (∀ c,l[k]? = some c → f c = true) → k < l.length → k + 1 ≤ (l.takeWhile f).length
 | [],k,_,_,h=>by simp at h
 | a::l,0,h,hf,_=>by have:=hf a rfl; simp [List.takeWhile_cons,this]
 | a::l,k+1,h,hf,hl=>by
  simp only [List.takeWhile_cons] at h ⊢
  split
  ·rename_i ha
   rw [if_pos ha] at h
   simp only [zwx] at h ⊢
   exact Nat.succ_le_succ (aIk f l k (by omega) (fun c hc=>hf c (by simpa using hc)) (by simpa using hl))
  ·rename_i ha; rw [if_neg ha] at h; simp at h
theorem aFf {α : Type} (f : α → Bool) : ∀ (l : List α) (k : Nat) (c : α),k ≤ (l.takeWhile f).length → l[k]? = some c → f c = false → (l.takeWhile f).length = k
 | [],k,c,_,h,_=>by simp at h
 | a::l,0,c,_,h,hf=>by simp at h; subst h; simp [List.takeWhile_cons,hf]
 | a::l,k+1,c,h,hc,hf=>by
  simp only [List.takeWhile_cons] at h ⊢
  split
  ·rename_i ha
   rw [if_pos ha] at h
   simp only [zwx] at h ⊢
   rw [aFf f l k c (by omega) (by simpa using hc) hf]
  ·rename_i ha; rw [if_neg ha] at h; simp at h
def wP:Spec
 | [.str l]=>if l.length≤kT then some (vI (mS l)) else none
 | _=>none
theorem b1d:cU Try.prog wK wP:=by
 refine b1b (T:=[(vQ,vS)]) (aE.cons aSx aE.nil) fun args v hv=>?_
 have c_toke_letter:∀ args,aM [(vQ,vS)] vQ args=vS args:=fun _=>rfl
 unfold wP at hv
 split at hv <;> (try simp only [Option.ite_none_right_eq_some,zzz,reduceCtorEq] at hv)
 rename_i l
 obtain ⟨hl,rfl⟩:=hv
 unfold kT at hl
 refine ⟨rfl,rfl,rfl,?_⟩
 rw [b5n]
 simp only [sS,if_true,if_false,reduceCtorEq]
 have hN:mS l≤l.length:=(List.takeWhile_sublist _).length_le
 refine fX (fun vs=>∃ k:Nat,vs=[vI k]∧k≤mS l) (fun vs=>l.length - iG (gv vs 0)) ⟨0,rfl,Nat.zero_le _⟩ ?_
 rintro r _ ⟨k,rfl,hk⟩ hr
 refine ⟨rfl,?_⟩
 simp only [sS,if_true,if_false,reduceCtorEq]
 by_cases hlt:k < l.length
 ·obtain ⟨c,hc⟩ : ∃ c,l[k]? = some c:=⟨l[k],zyz hlt⟩
  have hlt':(k:Int) < (l.length:Int):=by omega
  simp only [hlt',decide_true,sS,if_true,if_false,reduceCtorEq,vP hc,c_toke_letter,vS]
  cases hb:kB c.toNat
  ·have hst:mS l=k:=aFf _ l k c hk hc hb
   simp [sS,if_true,if_false,reduceCtorEq,hst]
  ·have hst:k+1≤mS l:=aIk _ l k hk (fun c' hc'=>by rw [hc] at hc'; simp at hc'; subst hc'; exact hb) hlt
   simp only [sS,if_true,if_false,reduceCtorEq,if_true]
   rw [jC (by omega) (by omega)]
   exact hr _ ⟨k+1,by simp,hst⟩ (by simp [gv,iG]; omega)
 ·have hlt':¬ (k:Int) < (l.length:Int):=by omega
  have hst:mS l=k:=by omega
  simp [sS,if_true,if_false,reduceCtorEq,hlt',hst]
end Go.Fbs
namespace Go.Fbs
open Go.Proofs
def wQ (c:UInt8):Bool:=c == 32 || c == 9 || c == 13 || c == 10
def cV:Bool→List UInt8→Nat
 | _,[]=>0
 | true,c::r=>if c=10 then 1+cV false r else 1+cV true r
 | false,c :: r=>if c = 47 ∧ r.head? = some 47 then 1 + cV true r else if wQ c then 1 + cV false r else 0
def tW:Spec
 | [.str l]=>if l.length≤kT then some (vI (cV false l)) else none
 | _=>none
theorem a6x:∀ (b:Bool) (l:List UInt8),cV b l≤l.length
 | b,[]=>by cases b <;> simp [cV]
 | true,c::r=>by
  have h1:=a6x false r
  have h2:=a6x true r
  simp only [cV,zwx]; split <;> omega
 | false,c::r=>by
  have h1:=a6x false r
  have h2:=a6x true r
  simp only [cV,zwx]; split <;> (try split) <;> omega
theorem bCr (b:UInt8) (l:List UInt8) (c:UInt8):ixB (b::l) c=if b == c then 0 else if ixB l c == -1 then -1 else ixB l c+1:=rfl
theorem aKw : ∀ (l : List UInt8) (c : UInt8),(ixB l c = -1 ∧ c ∉ l) ∨ ∃ k : Nat,ixB l c = k ∧ l[k]? = some c ∧ c ∉ l.take k
 | [],c=>.inl ⟨rfl,by simp⟩
 | b::l,c=>by
  rw [bCr]
  by_cases h:b=c
  ·subst h; exact .inr ⟨0,by simp,by simp,by simp⟩
  ·have hb:(b == c)=false:=by simpa using h
   rw [hb]
   rcases aKw l c with ⟨h1,h2⟩ | ⟨k,h1,h2,h3⟩
   ·rw [h1]; exact .inl ⟨rfl,by simp [h2,Ne.symm h]⟩
   ·rw [h1]
    refine .inr ⟨k+1,?_,by simpa using h2,by simp [h3,Ne.symm h]⟩
    have:((k:Int) == -1)=false:=by simp <;> omega
    simp [this]
theorem a6y:∀ (l:List UInt8),(10:UInt8) ∉ l→cV true l=l.length
 | [],_=>rfl
 | c::r,h=>by
  simp only [List.mem_cons,not_or] at h
  simp only [cV,zwx]
  rw [if_neg (fun e=>h.1 e.symm),a6y r h.2,Nat.add_comm]
theorem a9c : ∀ (l : List UInt8) (k : Nat),l[k]? = some 10 → (10 : UInt8) ∉ l.take k → cV true l = k + cV false (l.drop k)
 | [],k,h,_=>by simp at h
 | c::r,0,h,_=>by
  simp at h; subst h
  simp [cV,wQ]
 | c::r,k+1,h,hn=>by
  simp only [List.take_succ_cons,List.mem_cons,not_or] at hn
  simp only [cV,List.drop_succ_cons]
  rw [if_neg (fun e=>hn.1 e.symm),a9c r k (by simpa using h) hn.2,Nat.add_comm k 1,Nat.add_assoc]
theorem aKx (r:List UInt8):cV false (47::47::r)=cV true (47::47::r):=by
 simp [cV]
theorem bIx {l:List UInt8} : List.isPrefixOf [47,47] l=true↔∃ r,l=47::47::r:=by
 rw [List.isPrefixOf_iff_prefix]
 exact ⟨fun ⟨r,h⟩=>⟨r,by simpa using h.symm⟩,fun ⟨r,h⟩=>⟨r,by simpa using h.symm⟩⟩
theorem b2k (l:List UInt8) (c:UInt8):decide (0≤ixB l c)=decide (c ∈ l):=by
 rcases aKw l c with ⟨h1,h2⟩ | ⟨k,h1,h2,_⟩
 ·rw [h1]; simp [h2]
 ·rw [h1]; simp [zyx h2]
theorem b8s (c:UInt8):decide (0≤ixB [32,9,13,10] c)=wQ c:=by
 rw [b2k]
 simp only [wQ,List.mem_cons,List.not_mem_nil,or_false,Bool.decide_or,Bool.or_assoc]
 rfl
theorem aYc:cU Try.prog tU tW:=by
 refine aX9 (T:=[(fD,fE),(jH,jI),(fP,fQ)]) (aE.cons a5t (aE.cons aBl (aE.cons a6f aE.nil))) fun args v hv=>?_
 have c_strings_HasPrefix:∀ args,aM [(fD,fE),(jH,jI),(fP,fQ)] fD args=fE args:=fun _=>rfl
 have c_strings_Index:∀ args,aM [(fD,fE),(jH,jI),(fP,fQ)] jH args=jI args:=fun _=>rfl
 have c_strings_Contains:∀ args,aM [(fD,fE),(jH,jI),(fP,fQ)] fP args=fQ args:=fun _=>rfl
 unfold tW at hv
 split at hv <;> (try simp only [Option.ite_none_right_eq_some,zzz,reduceCtorEq] at hv)
 rename_i l
 obtain ⟨hl,rfl⟩:=hv
 have hl0:=hl
 unfold kT at hl
 refine ⟨rfl,rfl,rfl,?_⟩
 rw [b09]
 refine fX (fun vs=>∃ k:Nat,vs=[vI k]∧k≤l.length∧cV false l=k+cV false (l.drop k)) (fun vs=>l.length - iG (gv vs 0)) ⟨0,rfl,Nat.zero_le _,by simp⟩ ?_
 rintro r _ ⟨k,rfl,hk,hs⟩ hr
 refine ⟨rfl,?_⟩
 simp only [sS,if_true,if_false,reduceCtorEq,aDo hk,c_strings_HasPrefix,fE]
 cases hc:List.isPrefixOf [47,47] (l.drop k)
 ·simp only [sS,if_true,if_false,reduceCtorEq]
  cases hd:l.drop k with
  | nil =>
   rw [hd] at hs
   simp [sS,if_true,if_false,reduceCtorEq,hs,cV]
  | cons c t =>
   have e2:mA (.str (c::t)) none (some (.int .i64 1))=some (.str [c]):=by
    have:=aCn (l:=c::t) (k:=1) (by simp) .i64
    simpa using this
   have hn : ¬ (c = 47 ∧ t.head? = some 47):=by
    rintro ⟨rfl,h⟩
    cases t with
    | nil=>simp at h
    | cons d t=>simp at h; subst h; rw [hd] at hc; simp at hc
   have hkl:k < l.length:=by
    have:=congrArg List.length hd; simp only [List.length_drop,zwx] at this; omega
   have e1:((c::t:List UInt8) == [])=false:=rfl
   rw [hd] at hs
   simp only [sS,if_true,if_false,reduceCtorEq,e1,Bool.not_false,e2,c_strings_Contains,fQ,b8s]
   cases hb:wQ c
   ·simp only [cV,if_neg hn,hb,zuy,if_false] at hs
    simp [sS,if_true,if_false,reduceCtorEq,hs]
   ·simp only [cV,if_neg hn,hb,if_true] at hs
    simp only [sS,if_true,if_false,reduceCtorEq]
    rw [jC (by omega) (by omega)]
    refine hr _ ⟨k+1,by simp,hkl,?_⟩ (by simp [gv,iG]; omega)
    have:l.drop (k+1)=t:=by rw [← List.drop_drop,hd]; rfl
    rw [this,hs]; omega
 ·obtain ⟨t,hd⟩:=bIx.1 hc
  have hkl:k+2≤l.length:=by
   have:=congrArg List.length hd; simp only [List.length_drop,zwx] at this; omega
  simp only [sS,if_true,if_false,reduceCtorEq,c_strings_Index,jI]
  rw [hd,aKx,← hd] at hs
  rcases aKw (l.drop k) 10 with ⟨e1,e2⟩ | ⟨j,e1,e2,e3⟩
  ·rw [a6y _ e2] at hs
   simp only [List.length_drop] at hs
   simp [sS,if_true,if_false,reduceCtorEq,e1,hs] <;> omega
  ·rw [a9c _ j e2 e3] at hs
   have hj:k+j < l.length:=by
    have:=(zzy.1 e2).1; simp only [List.length_drop] at this; omega
   have hj0:j≠0:=by rintro rfl; rw [hd] at e2; simp at e2
   have e4:¬ ((j:Int) < 0):=by omega
   simp only [sS,if_true,if_false,reduceCtorEq,e1,e4,decide_false]
   rw [jC (by omega) (by omega)]
   refine hr _ ⟨k+j,by simp,by omega,?_⟩ (by simp [gv,iG]; omega)
   rw [hs,List.drop_drop]; omega
def aQw:List UInt8:=[123,125,58,59,124,35,61,43,45,38,40,41]
def cZ (l:List UInt8):Int×List UInt8×Bool :=
 if 0 < mS l then (1,l.take (mS l),true)
 else if [45,62].isPrefixOf l then (2,[45,62],true)
 else (2,l.take 1,decide (l.getD 0 0 ∈ aQw))
def aD8 (k:Int) (at_:Int) (x:List UInt8):V:=.agg [vI k,vI at_,.str x]
def xI:Spec
 | [.str l]=>if l≠[]∧l.length≤kT then some (.aH [aD8 (cZ l).1 0 (cZ l).2.1,.bool (cZ l).2.2]) else none
 | _=>none
theorem aYd:cU Try.prog x9 xI:=by
 refine aYa (T:=[(wK,wP),(fD,fE),(fP,fQ)]) (aE.cons b1d (aE.cons a5t (aE.cons a6f aE.nil))) fun args v hv=>?_
 have c_toke_row:∀ args,aM [(wK,wP),(fD,fE),(fP,fQ)] wK args=wP args:=fun _=>rfl
 have c_strings_HasPrefix:∀ args,aM [(wK,wP),(fD,fE),(fP,fQ)] fD args=fE args:=fun _=>rfl
 have c_strings_Contains:∀ args,aM [(wK,wP),(fD,fE),(fP,fQ)] fP args=fQ args:=fun _=>rfl
 unfold xI at hv
 split at hv <;> (try simp only [Option.ite_none_right_eq_some,zzz,reduceCtorEq] at hv)
 rename_i l
 obtain ⟨⟨hne,hl⟩,rfl⟩:=hv
 have hrow:mS l≤l.length:=(List.takeWhile_sublist _).length_le
 refine ⟨rfl,rfl,rfl,?_⟩
 rw [b1a]
 simp only [sS,if_true,if_false,reduceCtorEq,c_toke_row,wP,hl]
 by_cases h:0 < mS l
 ·have h':(0:Int) < (mS l:Int):=by omega
  simp [sS,if_true,if_false,reduceCtorEq,h',aCn hrow,aD,sc,cZ,h,aD8]
 ·have h':¬ (0:Int) < (mS l:Int):=by omega
  have e1:mA (.str l) none (some (.int .i64 1))=some (.str (l.take 1)):=by
   have h1:1≤l.length:=by cases l with
    | nil=>exact absurd rfl hne
    | cons=>simp
   have:=aCn h1 .i64
   simpa using this
  simp only [sS,if_true,if_false,reduceCtorEq,h',decide_false,c_strings_HasPrefix,fE]
  cases hc:List.isPrefixOf [45,62] l
  ·obtain ⟨c,t,rfl⟩:∃ c t,l=c::t:=by cases l with
    | nil=>exact absurd rfl hne
    | cons c t=>exact ⟨c,t,rfl⟩
   simp [sS,if_true,if_false,reduceCtorEq,e1,aD,sc,c_strings_Contains,fQ,cZ,h,hc,aD8,b2k,aQw]
  ·simp [sS,if_true,if_false,reduceCtorEq,aD,sc,cZ,h,hc,aD8]
end Go.Fbs
namespace Go.Fbs
open Go.Proofs
def kG:Nat→Nat→List UInt8→List (Int×Nat×List UInt8)×Option Nat
 | 0,_,_=>([],none)
 | _+1,_,[]=>([],none)
 | f+1,k,c::l =>
  if (cZ (c::l)).2.2=false then ([],some k)
  else
   let r:=(c::l).drop (cZ (c::l)).2.1.length
   let q:=kG f (k+(cZ (c::l)).2.1.length+cV false r) (r.drop (cV false r))
   (((cZ (c::l)).1,k,(cZ (c::l)).2.1)::q.1,q.2)
def dN (l:List UInt8):List (Int×Nat×List UInt8)×Nat×Int :=
 if 100000 < l.length then ([],0,8)
 else
  let q:=kG l.length (cV false l) (l.drop (cV false l))
  match q.2 with
  | some k=>([],k,7)
  | none=>(q.1,0,0)
def nG (x:Int×Nat×List UInt8):V:=aD8 x.1 x.2.1 x.2.2
def aP (ts:List (Int×Nat×List UInt8)):V:=.sl .ro (ts.map nG)
def vT:Spec
 | [.str l]=>if l.length≤kT then some (.aH [aP (dN l).1,vI (dN l).2.1,vI (dN l).2.2]) else none
 | _=>none
theorem a1o {l:List UInt8} (hl:l≠[]):1≤(cZ l).2.1.length∧(cZ l).2.1.length≤l.length:=by
 have h1:1≤l.length:=by cases l with
  | nil=>exact absurd rfl hl
  | cons=>simp
 unfold cZ
 split
 ·have:=(List.takeWhile_sublist (fun c:UInt8=>kB c.toNat) (l:=l)).length_le
  unfold mS at *
  simp only [List.length_take]; omega
 ·split
  ·rename_i h
   rw [List.isPrefixOf_iff_prefix] at h
   have:=h.length_le
   exact ⟨by simp,this⟩
  ·simp only [List.length_take]; omega
theorem aD9 (ts:List (Int×Nat×List UInt8)):(aP ts).aN=true:=by
 simp only [aP,V.aN]; exact yL fun a=>rfl
theorem aSy:cU Try.prog a0e vT:=by
 refine aSv (T:=[(tU,tW),(x9,xI)]) (aE.cons aYc (aE.cons aYd aE.nil)) fun args v hv=>?_
 have c_toke_skip:∀ args,aM [(tU,tW),(x9,xI)] tU args=tW args:=fun _=>rfl
 have c_toke_next:∀ args,aM [(tU,tW),(x9,xI)] x9 args=xI args:=fun _=>rfl
 unfold vT at hv
 split at hv <;> (try simp only [Option.ite_none_right_eq_some,zzz,reduceCtorEq] at hv)
 rename_i l
 obtain ⟨hl,rfl⟩:=hv
 have hl0:=hl
 unfold kT at hl
 refine ⟨rfl,rfl,by simp [V.aN,aG,aD9],?_⟩
 rw [aVa]
 simp only [sS,if_true,if_false,reduceCtorEq]
 by_cases hbig:100000 < l.length
 ·have hb':(100000:Int) < (l.length:Int):=by omega
  simp [hb',dN,hbig,aP]
 ·have hb':¬ (100000:Int) < (l.length:Int):=by omega
  simp only [hb',decide_false,sS,if_true,if_false,reduceCtorEq,c_toke_skip,tW,hl0]
  have hs0:=a6x false l
  refine fX (fun vs=>∃ (k:Nat) (dn:List (Int×Nat×List UInt8)) (f:Nat),vs=[.sl .ro (dn.map nG),vI k]∧k≤l.length∧dn.length≤k∧l.length - k≤f ∧
   kG l.length (cV false l) (l.drop (cV false l))=(dn++(kG f k (l.drop k)).1,(kG f k (l.drop k)).2)) (fun vs=>l.length - iG (gv vs 1))
   ⟨cV false l,[],l.length,rfl,hs0,Nat.zero_le _,Nat.sub_le _ _,by simp⟩ ?_
  rintro r _ ⟨k,dn,f,rfl,hk,hdn,hf,htk⟩ hr
  refine ⟨rfl,?_⟩
  simp only [sS,if_true,if_false,reduceCtorEq]
  by_cases hlt:k < l.length
  ·have hlt':(k:Int) < (l.length:Int):=by omega
   have hdne:l.drop k≠[]:=by
    intro e; have:=congrArg List.length e; simp only [List.length_drop,List.length_nil] at this; omega
   have hdl:(l.drop k).length≤kT:=by simp only [List.length_drop]; unfold kT; omega
   obtain ⟨n1,n2⟩:=a1o hdne
   simp only [List.length_drop] at n2
   simp only [hlt',decide_true,sS,if_true,if_false,reduceCtorEq,aDo hk,c_toke_next,xI,if_pos (And.intro hdne hdl),zux,zvx,aD8]
   obtain ⟨f,rfl⟩:∃ f',f=f'+1:=⟨f - 1,by omega⟩
   cases hok:(cZ (l.drop k)).2.2
   ·have hst:kG (f+1) k (l.drop k)=([],some k):=by
     cases hd:l.drop k with
     | nil=>exact absurd hd hdne
     | cons c t=>rw [hd] at hok; simp [kG,hok]
    rw [hst] at htk
    simp [sS,if_true,if_false,reduceCtorEq,aJ,sc,dN,hbig,htk,aP]
   ·have hst:kG (f+1) k (l.drop k)=(((cZ (l.drop k)).1,k,(cZ (l.drop k)).2.1)::(kG f (k+(cZ (l.drop k)).2.1.length+cV false (l.drop (k+(cZ (l.drop k)).2.1.length))) (l.drop (k+(cZ (l.drop k)).2.1.length+cV false (l.drop (k+(cZ (l.drop k)).2.1.length))))).1,
      (kG f (k+(cZ (l.drop k)).2.1.length+cV false (l.drop (k+(cZ (l.drop k)).2.1.length))) (l.drop (k+(cZ (l.drop k)).2.1.length+cV false (l.drop (k+(cZ (l.drop k)).2.1.length))))).2):=by
     cases hd:l.drop k with
     | nil=>exact absurd hd hdne
     | cons c t =>
      rw [hd] at hok
      have e:∀ j,l.drop (k+j)=(c::t).drop j:=fun j=>by rw [← hd,List.drop_drop]
      simp [kG,hok,Nat.add_assoc,e]
    rw [hst] at htk
    generalize hn:(cZ (l.drop k)).2.1.length=n at *
    have hkn:k+n≤l.length:=by omega
    have hcast:((k:Int)+(n:Int))=((k+n:Nat):Int):=by omega
    have hsl:=a6x false (l.drop (k+n))
    simp only [List.length_drop] at hsl
    have hkl:l.length - (k+n)≤kT:=by unfold kT; omega
    simp only [aJ,sc,sS,if_true,if_false,reduceCtorEq,List.all_cons,List.all_nil,zwx,List.length_nil,Bool.and_true,Nat.zero_add,Nat.reduceAdd,and_self,Bool.not_true,kP,aD,List.getD_cons_zero,List.getD_cons_succ]
    rw [bEl (by simp) (by simp [V.cells,V.nS])]
    simp only [sS,if_true,if_false,reduceCtorEq]
    rw [aGh (n:=3) (b:=32) (by simp; omega) (aNw (f:=nG) fun a=>rfl) (by simp [V.cells])]
    simp only [sS,if_true,if_false,reduceCtorEq,hn]
    rw [jC (by omega) (by omega),hcast]
    simp only [sS,if_true,if_false,reduceCtorEq,aDo hkn,c_toke_skip,tW,List.length_drop,hkl]
    rw [jC (by omega) (by omega)]
    refine hr _ ⟨k+n+cV false (l.drop (k+n)),dn++[((cZ (l.drop k)).1,k,(cZ (l.drop k)).2.1)],f,by simp [nG,aD8],by omega,by simp; omega,by omega,?_⟩ (by simp [gv,iG]; omega)
    rw [htk]; simp
  ·have hlt':¬ (k:Int) < (l.length:Int):=by omega
   have hnil:l.drop k=[]:=List.drop_eq_nil_of_le (by omega)
   have hst:kG f k []=([],none):=by cases f <;> rfl
   rw [hnil,hst] at htk
   simp [hlt',dN,hbig,htk,aP]
end Go.Fbs
namespace Go.Fbs
open Go.Proofs
open Classical in
noncomputable def fG {α:Type} (c:α→List V) (ok:α→Prop) (r:α→V):Spec:=fun words=>if h:∃ a,words=c a∧ok a then some (r (Classical.choose h)) else none
theorem cK {α:Type} {c:α→List V} {ok:α→Prop} {r:α→V} (inj:∀ a b,c a=c b→a=b) {a:α} (h:ok a):fG c ok r (c a)=some (r a):=by
 have hex:∃ b,c a=c b∧ok b:=⟨a,rfl,h⟩
 unfold fG
 rw [dif_pos hex,← inj _ _ (Classical.choose_spec hex).1]
theorem bO {α:Type} {c:α→List V} {ok:α→Prop} {r:α→V} {words:List V} {v:V} (h:fG c ok r words=some v):∃ a,words=c a∧ok a∧v=r a:=by
 unfold fG at h
 split at h
 ·rename_i hex
  simp only [zzz] at h
  exact ⟨_,(Classical.choose_spec hex).1,(Classical.choose_spec hex).2,h.symm⟩
 ·simp at h
abbrev gZ:=Int×Nat×List UInt8
abbrev dQ:=Int×List UInt8×List UInt8
def aGz (t:gZ):Prop:=t.1=1→t.2.2≠[]
structure aW where
 l:List gZ
 w:∀ t ∈ l,aGz t
 n:Nat
 at_:Nat
 e:Int
 d:Nat
 x:List dQ
def jX (s:dQ):V:=.agg [vI s.1,.str s.2.1,.str s.2.2]
def bT (l:List dQ):V:=.sl .ro (l.map jX)
def bF (s:aW):V:=.agg [aP s.l,vI s.n,vI s.at_,vI s.e,vI s.d,bT s.x]
theorem aO1 {a b:gZ} (h:nG a=nG b):a=b:=by
 obtain ⟨k,n,x⟩:=a
 obtain ⟨k',n',x'⟩:=b
 simp only [nG,aD8,V.agg.injEq,List.cons.injEq,V.int.injEq,V.str.injEq,and_true,true_and] at h
 obtain ⟨h1,h2,h3⟩:=h
 rw [h1,h3,Int.ofNat_inj.1 h2]
theorem aBm {a b:dQ} (h:jX a=jX b):a=b:=by
 obtain ⟨k,n,x⟩:=a
 obtain ⟨k',n',x'⟩:=b
 simp only [jX,V.agg.injEq,List.cons.injEq,V.int.injEq,V.str.injEq,and_true,true_and] at h
 obtain ⟨h1,h2,h3⟩:=h
 rw [h1,h2,h3]
theorem rB {α:Type} {f:α→V} (hf:∀ a b,f a=f b→a=b):∀ {l m:List α},l.map f=m.map f→l=m
 | [],[],_=>rfl
 | [],_::_,h=>by simp at h
 | _::_,[],h=>by simp at h
 | a::l,b::m,h=>by
  simp only [zsx,List.cons.injEq] at h
  rw [hf a b h.1,rB hf h.2]
theorem vU {s t:aW} (h:bF s=bF t):s=t:=by
 obtain ⟨l,w,n,a,e,d,x⟩:=s
 obtain ⟨l',w',n',a',e',d',x'⟩:=t
 simp only [bF,aP,bT,V.agg.injEq,List.cons.injEq,V.int.injEq,V.sl.injEq,and_true,true_and] at h
 obtain ⟨h1,h2,h3,h4,h5,h6⟩:=h
 obtain rfl:=rB (fun _ _=>aO1) h1
 obtain rfl:=rB (fun _ _=>aBm) h6
 obtain rfl:=Int.ofNat_inj.1 h2
 obtain rfl:=Int.ofNat_inj.1 h3
 obtain rfl:=Int.ofNat_inj.1 h5
 subst h4
 rfl
theorem dX (s:aW):(bF s).aN=true:=by
 simp only [bF,aP,bT,V.aN,aG,zxz,and_true,true_and]
 exact ⟨yL fun _=>rfl,yL fun _=>rfl⟩
theorem b8t (t:gZ):(nG t).aN=true:=rfl
def cH (s:aW):gZ:=s.l.headD (0,s.n,[])
def aI (s:aW):aW:={ s with l:=s.l.tail,w:=fun t h=>s.w t (List.mem_of_mem_tail h) }
def uO (e:Int) (s:aW):aW:=if s.e=0 then { s with e:=e,at_:=(cH s).2.1 } else s
def mN (g:List UInt8) (s:aW):Bool:=decide ((cH s).1=2) && ((cH s).2.2 == g)
def a7o (s:aW):Bool:=decide ((cH s).1=1) && ((cH s).2.2 == [116,121,112,101])
def oV (t : gZ) : Bool:=decide (t.1 = 1) && (decide (t.2.2.length ≤ 30) && ((t.2.2.head? != some 95) && (t.2.2 != [116,121,112,101])))
def dV (n most:Int) (s:aW):Bool×aW:=if n < most then (true,s) else (false,uO 8 s)
def aL (s:aW):Bool×aW×Option (List UInt8):=if oV (cH s) then (true,aI s,some (cH s).2.2) else (false,uO 9 s,none)
def jT (g:List UInt8) (s:aW):Bool×aW:=if mN g s then (true,aI s) else (false,uO 9 s)
def bH (g:List UInt8) (s:aW):Bool×aW:=if mN g s then (true,aI s) else (false,s)
def jY (p:dQ) (a:Nat) (s:aW):Bool×aW:=if 200≤s.x.length then (false,{ s with e:=8,at_:=a }) else (true,{ s with x:=s.x++[p] })
theorem aG0 {g:List UInt8} {s:aW} (h:mN g s=true):s.l≠[]:=by
 intro e
 simp [mN,cH,e] at h
theorem a1p {s:aW} (h:oV (cH s)=true):s.l≠[]:=by
 intro e
 simp [oV,cH,e] at h
theorem aYe {s:aW} (h:s.l≠[]):cH s ∈ s.l:=by
 unfold cH
 cases hl:s.l with
 | nil=>exact absurd hl h
 | cons a r=>exact List.mem_cons_self
theorem a4c (s:aW):aD [aP s.l,vI s.n,vI s.at_,vI s.e,vI s.d,bT s.x]=some (bF s):=nr rfl
theorem lY (s:aW):aD [aA (bF s) 0,aA (bF s) 1,aA (bF s) 2,aA (bF s) 3,aA (bF s) 4,aA (bF s) 5]=some (bF s):=nr rfl
theorem lC (s:aW):aJ 6 (bF s)=some (bF s):=nr rfl
theorem chT (t:gZ):aJ 3 (nG t)=some (nG t):=nr rfl
theorem cT0 (t:gZ):aA (nG t) 0=vI t.1:=nr rfl
theorem cT2 (t:gZ):aA (nG t) 2 = .str t.2.2:=nr rfl
theorem pT1 (t:gZ):mX false 1 1 (nG t)=some (vI t.2.1):=nr rfl
theorem pT2 (t:gZ):mX false 1 2 (nG t)=some (.str t.2.2):=nr rfl
theorem x0 (a:V) (r:List V):aC (.aH (a::r)) 0=some a:=nr rfl
theorem x1 (a b:V) (r:List V):aC (.aH (a::b::r)) 1=some b:=nr rfl
theorem x2 (a b c:V) (r:List V):aC (.aH (a::b::c::r)) 2=some c:=nr rfl
theorem x3 (a b c d:V) (r:List V):aC (.aH (a::b::c::d::r)) 3=some d:=nr rfl
theorem bI1 (s:aW) (a:Nat) (e:Int):aD [aA (bF s) 0,aA (bF s) 1,vI a,vI e,aA (bF s) 4,aA (bF s) 5]=some (bF { s with e:=e,at_:=a }):=nr rfl
theorem b2m (l:List gZ):(l.map nG).all (fun e=>e.cells.length == 3)=true:=by simp [nG,aD8,V.cells]
theorem bI2 {l:List gZ} (h:l≠[]):a5b 3 (aP l) (some (.int .i64 1)) none=some (aP l.tail):=by
 cases l with
 | nil=>exact absurd rfl h
 | cons a r =>
  have h1:(1:Int)≤(r.length:Int)+1:=by omega
  have:=b2m (a::r)
  simp only [zsx] at this
  simp [a5b,aP,nT,h1,this,b2m,List.take_of_length_le]
theorem sl0 {s:aW} (h:s.l≠[]):a5b 3 (aA (bF s) 0) (some (.int .i64 1)) none=some (aP (aI s).l):=bI2 h
theorem aBn (s:aW):aD [aP (aI s).l,aA (bF s) 1,aA (bF s) 2,aA (bF s) 3,aA (bF s) 4,aA (bF s) 5]=some (bF (aI s)):=nr rfl
theorem bI3 (n:Int):kP (vI n)=some (vI n):=nr rfl
theorem ckB (b:Bool):oN (.bool b)=some (.bool b):=nr rfl
noncomputable def bI:Spec:=fG (fun s:aW=>[bF s]) (fun _=>True) (fun s=>.aH [nG (cH s),bF s])
theorem aYg:∀ a b:aW,[bF a]=[bF b]→a=b:=fun a b h=>vU (by simpa using h)
theorem a2h (s:aW):bI [bF s]=some (.aH [nG (cH s),bF s]):=cK aYg trivial
theorem gR:bX Try.prog a8b iH bI:=by
 refine aFc (T:=[]) aE.nil fun words v hv=>?_
 obtain ⟨s,rfl,_,rfl⟩:=bO hv
 refine ⟨_,rfl,rfl,by simp [aG,dX],by simp [aG,dX,b8t],rfl,rfl,?_⟩
 refine Eq.mpr (aGt (aM _) _ (aP s.l) (vI s.n) (vI s.at_) (vI s.e) (vI s.d) (bT s.x)) ?_
 have hlen:gX (aP s.l)=some (.int .i64 s.l.length):=by simp [gX,aP]
 simp only [hlen,sS,if_true,if_false,reduceCtorEq,a4c]
 cases hl:s.l with
 | nil =>
  have hd:decide ((([]:List gZ).length:Int)=0)=true:=rfl
  have ha:aD [.int .i64 0,vI s.n,.str []]=some (nG (cH s)):=by simp only [cH,hl,List.headD_nil]; rfl
  simp only [hd,if_true,ha,aB]
 | cons a r =>
  have hd:decide (((a::r).length:Int)=0)=false:=by simp; omega
  have hi:gN true 3 (aP (a::r)) (.int .i64 0)=some (nG (cH s)):=by
   simp only [cH,hl,List.headD_cons]
   exact a6v (g:=.ro) (es:=(a::r).map nG) (k:=0) (cs:=[vI a.1,vI a.2.1,.str a.2.2]) (n:=3) rfl rfl rfl .i64
  simp only [hd,zuy,if_false,hi,aB]
noncomputable def cO:Spec:=fG (fun q:aW×Int=>[bF q.1,vI q.2]) (fun _=>True) (fun q=>.aH [.bool false,bF (uO q.2 q.1)])
theorem bEo:∀ a b:aW×Int,[bF a.1,vI a.2]=[bF b.1,vI b.2]→a=b:=fun a b h=>by
 simp only [List.cons.injEq,V.int.injEq,and_true,true_and] at h
 exact Prod.ext (vU h.1) h.2
theorem aAa (s:aW) (e:Int):cO [bF s,vI e]=some (.aH [.bool false,bF (uO e s)]):=cK (a:=(s,e)) bEo trivial
theorem j3:bX Try.prog a8a iI cO:=by
 refine aFb (T:=[(aO,bI)]) (aE.cC gR aE.nil) fun words v hv=>?_
 have c1:∀ args,aM [(aO,bI)] aO args=bI args:=fun _=>rfl
 obtain ⟨⟨s,e⟩,rfl,_,rfl⟩:=bO hv
 refine ⟨_,rfl,rfl,by simp [aG,dX,V.aN],by simp [aG,dX,V.aN],rfl,rfl,?_⟩
 refine Eq.mpr (aGp (aM _) _ (aP s.l) (vI s.n) (vI s.at_) (vI s.e) (vI s.d) (bT s.x) (vI e)) ?_
 simp only [sS,if_true,if_false,reduceCtorEq,a4c,c1,a2h,zux,zvx,lC,pT1,bI3,bI1]
 by_cases he:s.e=0
 ·simp only [he,decide_true,if_true,uO]
 ·simp only [he,decide_false,zuy,if_false,uO]
end Go.Fbs
namespace Go.Fbs
open Go.Proofs
noncomputable def j8:Spec:=fG (fun q:aW×List UInt8=>[bF q.1,.str q.2]) (fun _=>True) (fun q=>.aH [.bool (mN q.2 q.1),bF q.1])
theorem b5o:∀ a b:aW×List UInt8,[bF a.1,V.str a.2]=[bF b.1,V.str b.2]→a=b:=fun a b h=>by
 simp only [List.cons.injEq,V.str.injEq,and_true] at h
 exact Prod.ext (vU h.1) h.2
theorem Fis (s:aW) (g:List UInt8):j8 [bF s,.str g]=some (.aH [.bool (mN g s),bF s]):=cK (a:=(s,g)) b5o trivial
noncomputable abbrev T1:List (FuncId×Spec):=[(aO,bI)]
theorem wR:bX Try.prog aBe j7 j8:=by
 refine aI6 (T:=[(aO,bI)]) (aE.cC gR aE.nil) fun words v hv=>?_
 have c1:∀ args,aM [(aO,bI)] aO args=bI args:=fun _=>rfl
 obtain ⟨⟨s,g⟩,rfl,_,rfl⟩:=bO hv
 refine ⟨_,rfl,rfl,by simp [aG,dX,V.aN],by simp [aG,dX,V.aN],rfl,rfl,?_⟩
 refine Eq.mpr (aKu (aM _) _ (aP s.l) (vI s.n) (vI s.at_) (vI s.e) (vI s.d) (bT s.x) (.str g)) ?_
 simp only [sS,if_true,if_false,reduceCtorEq,a4c,c1,a2h,zux,zvx,lC,chT,cT0,cT2,lY,mN]
noncomputable def tL:Spec:=fG (fun s:aW=>[bF s]) (fun _=>True) (fun s=>.aH [.bool (a7o s),bF s])
theorem bLz (s:aW):tL [bF s]=some (.aH [.bool (a7o s),bF s]):=cK aYg trivial
theorem aG1:bX Try.prog a79 iJ tL:=by
 refine aFa (T:=[(aO,bI)]) (aE.cC gR aE.nil) fun words v hv=>?_
 have c1:∀ args,aM [(aO,bI)] aO args=bI args:=fun _=>rfl
 obtain ⟨s,rfl,_,rfl⟩:=bO hv
 refine ⟨_,rfl,rfl,by simp [aG,dX,V.aN],by simp [aG,dX,V.aN],rfl,rfl,?_⟩
 refine Eq.mpr (aGo (aM _) _ (aP s.l) (vI s.n) (vI s.at_) (vI s.e) (vI s.d) (bT s.x)) ?_
 simp only [sS,if_true,if_false,reduceCtorEq,a4c,c1,a2h,zux,zvx,lC,chT,cT0,cT2,lY,a7o]
noncomputable def kH:Spec:=fG (fun q:aW×Int×Int=>[bF q.1,vI q.2.1,vI q.2.2]) (fun _=>True) (fun q=>.aH [.bool (dV q.2.1 q.2.2 q.1).1,bF (dV q.2.1 q.2.2 q.1).2])
theorem b5p (s:aW) (a b:Int):kH [bF s,vI a,vI b]=some (.aH [.bool (dV a b s).1,bF (dV a b s).2]):=cK (a:=(s,a,b)) (fun a b h=>by
 simp only [List.cons.injEq,V.int.injEq,and_true,true_and] at h
 exact Prod.ext (vU h.1) (Prod.ext h.2.1 h.2.2)) trivial
theorem zL:bX Try.prog a78 iK kH:=by
 refine aE9 (T:=[(bR,cO)]) (aE.cC j3 aE.nil) fun words v hv=>?_
 have c1:∀ args,aM [(bR,cO)] bR args=cO args:=fun _=>rfl
 obtain ⟨⟨s,a,b⟩,rfl,_,rfl⟩:=bO hv
 refine ⟨_,rfl,rfl,by simp [aG,dX,V.aN],by simp [aG,dX,V.aN],rfl,rfl,?_⟩
 refine Eq.mpr (aGn (aM _) _ (aP s.l) (vI s.n) (vI s.at_) (vI s.e) (vI s.d) (bT s.x) (vI a) (vI b)) ?_
 simp only [sS,if_true,if_false,reduceCtorEq,a4c,c1,aAa,zux,zvx,lC,lY,dV]
 by_cases h:a < b <;> simp [h]
noncomputable def kI:Spec:=fG (fun q:aW×List UInt8=>[bF q.1,.str q.2]) (fun _=>True) (fun q=>.aH [.bool (jT q.2 q.1).1,bF (jT q.2 q.1).2])
theorem aMr (s:aW) (g:List UInt8):kI [bF s,.str g]=some (.aH [.bool (jT g s).1,bF (jT g s).2]):=cK (a:=(s,g)) b5o trivial
noncomputable abbrev T2:List (FuncId×Spec):=[(iB,j8),(bR,cO)]
theorem zM:bX Try.prog a8c iL kI:=by
 refine aFd (T:=T2) (aE.cC wR (aE.cC j3 aE.nil)) fun words v hv=>?_
 have c1:∀ args,aM T2 iB args=j8 args:=fun _=>rfl
 have c2:∀ args,aM T2 bR args=cO args:=fun _=>rfl
 obtain ⟨⟨s,g⟩,rfl,_,rfl⟩:=bO hv
 refine ⟨_,rfl,rfl,by simp [aG,dX,V.aN],by simp [aG,dX,V.aN],rfl,rfl,?_⟩
 refine Eq.mpr (aGu (aM _) _ (aP s.l) (vI s.n) (vI s.at_) (vI s.e) (vI s.d) (bT s.x) (.str g)) ?_
 simp only [sS,if_true,if_false,reduceCtorEq,a4c,c1,c2,Fis,aAa,zux,zvx,lC,lY,jT]
 cases h:mN g s with
 | false=>simp only [Bool.not_false,if_true,zuy,if_false]
 | true=>simp only [Bool.not_true,if_true,zuy,if_false,sl0 (aG0 h),aB,aBn]
noncomputable def fF:Spec:=fG (fun q:aW×List UInt8=>[bF q.1,.str q.2]) (fun _=>True) (fun q=>.aH [.bool (bH q.2 q.1).1,bF (bH q.2 q.1).2])
theorem aEa (s:aW) (g:List UInt8):fF [bF s,.str g]=some (.aH [.bool (bH g s).1,bF (bH g s).2]):=cK (a:=(s,g)) b5o trivial
noncomputable abbrev T3:List (FuncId×Spec):=[(iB,j8),(iS,kI)]
theorem oS:bX Try.prog a9j iV fF:=by
 refine aGq (T:=T3) (aE.cC wR (aE.cC zM aE.nil)) fun words v hv=>?_
 have c1:∀ args,aM T3 iB args=j8 args:=fun _=>rfl
 have c2:∀ args,aM T3 iS args=kI args:=fun _=>rfl
 obtain ⟨⟨s,g⟩,rfl,_,rfl⟩:=bO hv
 refine ⟨_,rfl,rfl,by simp [aG,dX,V.aN],by simp [aG,dX,V.aN],rfl,rfl,?_⟩
 refine Eq.mpr (aI4 (aM _) _ (aP s.l) (vI s.n) (vI s.at_) (vI s.e) (vI s.d) (bT s.x) (.str g)) ?_
 simp only [sS,if_true,if_false,reduceCtorEq,a4c,c1,c2,Fis,aMr,zux,zvx,lC,lY,bH,jT]
 cases h:mN g s with
 | false=>simp only [Bool.not_false,if_true,zuy,if_false]
 | true=>simp only [Bool.not_true,if_true,zuy,if_false]
noncomputable def rW:Spec:=fG (fun t:gZ=>[nG t]) aGz (fun t=>.bool (oV t))
theorem aKy {t:gZ} (h:aGz t):rW [nG t]=some (.bool (oV t)):=cK (fun a b h=>aO1 (by simpa using h)) h
theorem a0h:cU Try.prog l9 rW:=by
 refine aVb (T:=[]) aE.nil fun args v hv=>?_
 obtain ⟨t,rfl,ht,rfl⟩:=bO hv
 refine ⟨rfl,rfl,rfl,?_⟩
 rw [aYb]
 simp only [sS,if_true,if_false,reduceCtorEq,chT,cT0,cT2,oV]
 obtain ⟨k,n,x⟩:=t
 dsimp only
 by_cases hk:k=1
 ·subst hk
  cases x with
  | nil=>exact absurd rfl (ht rfl)
  | cons c r =>
   have hi:l7 (.str (c::r)) (.int .i64 0)=some (.int .u8 c.toNat):=vP (l:=c::r) (k:=0) rfl .i64
   have hl:decide (((c::r).length:Int)≤30)=decide ((c::r).length≤30):=by rw [decide_eq_decide]; omega
   have hc:decide ((c.toNat:Int)=95)=(c == 95):=by
    by_cases h:c=95
    ·subst h; rfl
    ·have:¬ (c.toNat:Int)=95:=fun e=>h (UInt8.toNat_inj.1 (by show c.toNat=95; omega))
     simp [h,this]
   simp only [hi,hl,hc,sS,if_true,if_false,reduceCtorEq,decide_true,List.head?_cons]
   by_cases h1:(c::r).length≤30
   ·simp only [h1,decide_true,sS,if_true,if_false,reduceCtorEq]
    by_cases h2:c=95
    ·simp [h2,bne]
    ·have hc':decide ((c.toNat:Int)=95)=false:=by rw [hc]; simp [h2]
     simp [h2,bne,hc']
   ·simp only [h1,decide_false,sS,if_true,if_false,reduceCtorEq]
 ·simp only [hk,decide_false,sS,if_true,if_false,reduceCtorEq]
end Go.Fbs
namespace Go.Fbs
open Go.Proofs
def rC (o:Option (List UInt8)) (v:V):V:=match o with | some s=>.str s | none=>v
noncomputable abbrev TN:List (FuncId×Spec):=[(aO,bI),(bR,cO),(l9,rW)]
theorem scl (g:Tag) (es:List V):sc (.sl g es)=true:=rfl
theorem scs (s:List UInt8):sc (.str s)=true:=rfl
theorem sci (k:IntKind) (n:Int):sc (.int k n)=true:=rfl
theorem scN {v:V} (h:sc v=true) (o:Option (List UInt8)):sc (rC o v)=true:=by cases o; exact h; rfl
theorem aFg (s:aW):aGz (cH s):=by
 by_cases h:s.l=[]
 ·unfold cH aGz; rw [h]; intro h; simp at h
 ·exact s.w _ (aYe h)
theorem a6z {s:aW} (h:oV (cH s)=true):aL s=(true,aI s,some (cH s).2.2):=by simp [aL,h]
theorem aBo {s:aW} (h:oV (cH s)=false):aL s=(false,uO 9 s,none):=by simp [aL,h]
noncomputable def oW:Spec:=fG (fun q:aW×V×V×V=>[bF q.1,.agg [q.2.1,q.2.2.1,q.2.2.2]]) (fun q=>sc q.2.1=true∧(q.2.1).aN=true∧sc q.2.2.1=true∧(q.2.2.1).aN=true∧sc q.2.2.2=true∧(q.2.2.2).aN=true∧∃ es,q.2.2.1 = .sl .ro es) (fun q=>.aH [.bool (aL q.1).1,bF (aL q.1).2.1,.agg [rC (aL q.1).2.2 q.2.1,q.2.2.1,q.2.2.2]])
theorem bI4 (s:aW) {b0 b1 b2:V} (h0:sc b0=true) (g0:b0.aN=true) (h1:sc b1=true) (g1:b1.aN=true) (h2:sc b2=true) (g2:b2.aN=true) (hl:∃ es,b1 = .sl .ro es):oW [bF s,.agg [b0,b1,b2]]=some (.aH [.bool (aL s).1,bF (aL s).2.1,.agg [rC (aL s).2.2 b0,b1,b2]]):=cK (a:=(s,b0,b1,b2)) (fun a b h=>by
 simp only [List.cons.injEq,V.agg.injEq,and_true] at h
 exact Prod.ext (vU h.1) (Prod.ext h.2.1 (Prod.ext h.2.2.1 h.2.2.2)))
 ⟨h0,g0,h1,g1,h2,g2,hl⟩
theorem aEb:bX Try.prog j6 eV oW:=by
 refine aCa (T:=TN) (aE.cC gR (aE.cC j3 (aE.cons a0h aE.nil))) fun words v hv=>?_
 have c1:∀ args,aM TN aO args=bI args:=fun _=>rfl
 have c2:∀ args,aM TN bR args=cO args:=fun _=>rfl
 have c3:∀ args,aM TN l9 args=rW args:=fun _=>rfl
 obtain ⟨⟨s,b0,b1,b2⟩,rfl,ok,rfl⟩:=bO hv
 dsimp only at ok ⊢
 obtain ⟨h0,g0,h1,g1,h2,g2,es,rfl⟩:=ok
 have pn:∀ o v,v.aN=true→(rC o v).aN=true:=fun o v h=>by cases o <;> first | exact h | rfl
 have ga:=fun s:List V=>xS (l:=s)
 refine ⟨_,rfl,by simp [cL,eV,bF,scl,sci,scs,aP,bT,jK,h0,h2],by simp [aG,dX,V.aN,g0,g1,g2] <;> simpa [V.aN] using g1,?_,rfl,?_,?_⟩
 ·simp [aG,dX,V.aN,g0,g1,g2,pn _ _ g0] <;> simpa [V.aN] using g1
 ·simp [eV,eQ,jG,zsx,List.map_nil,CK.out,dS,jK,bF,aP,bT,scl,sci,scs,h0,h2,scN h0]
 refine Eq.mpr (aD2 (aM _) _ (aP s.l) (vI s.n) (vI s.at_) (vI s.e) (vI s.d) (bT s.x) b0 (.sl .ro es) b2) ?_
 have a1:aD [b0,.sl .ro es,b2]=some (.agg [b0,.sl .ro es,b2]):=xS (by simp [List.all_cons,h0,h2,scl,sci,scs])
 have a2:aD [.str (cH s).2.2,.sl .ro es,b2]=some (.agg [.str (cH s).2.2,.sl .ro es,b2]):=xS (by simp [List.all_cons,h2,scl,sci,scs])
 simp only [sS,if_true,if_false,reduceCtorEq,a4c,c1,c2,c3,a2h,aAa,aKy (aFg s),zux,zvx,lC,lY,pT2,a1]
 cases h:oV (cH s) with
 | false=>simp only [Bool.not_false,if_true,aBo h,rC]
 | true=>simp only [Bool.not_true,zuy,if_false,sl0 (a1p h),aB,aBn,a2,a6z h,rC]
noncomputable def oX:Spec:=fG (fun q:aW×V×V=>[bF q.1,.agg [q.2.1,q.2.2]]) (fun q=>sc q.2.1=true∧(q.2.1).aN=true∧sc q.2.2=true∧(q.2.2).aN=true∧∃ es,q.2.2 = .sl .ro es) (fun q=>.aH [.bool (aL q.1).1,bF (aL q.1).2.1,.agg [rC (aL q.1).2.2 q.2.1,q.2.2]])
theorem bI5 (s:aW) {b0 b1:V} (h0:sc b0=true) (g0:b0.aN=true) (h1:sc b1=true) (g1:b1.aN=true) (hl:∃ es,b1 = .sl .ro es):oX [bF s,.agg [b0,b1]]=some (.aH [.bool (aL s).1,bF (aL s).2.1,.agg [rC (aL s).2.2 b0,b1]]):=cK (a:=(s,b0,b1)) (fun a b h=>by
 simp only [List.cons.injEq,V.agg.injEq,and_true] at h
 exact Prod.ext (vU h.1) (Prod.ext h.2.1 h.2.2))
 ⟨h0,g0,h1,g1,hl⟩
theorem aEc:bX Try.prog j6 eW oX:=by
 refine aCb (T:=TN) (aE.cC gR (aE.cC j3 (aE.cons a0h aE.nil))) fun words v hv=>?_
 have c1:∀ args,aM TN aO args=bI args:=fun _=>rfl
 have c2:∀ args,aM TN bR args=cO args:=fun _=>rfl
 have c3:∀ args,aM TN l9 args=rW args:=fun _=>rfl
 obtain ⟨⟨s,b0,b1⟩,rfl,ok,rfl⟩:=bO hv
 dsimp only at ok ⊢
 obtain ⟨h0,g0,h1,g1,es,rfl⟩:=ok
 have pn:∀ o v,v.aN=true→(rC o v).aN=true:=fun o v h=>by cases o <;> first | exact h | rfl
 have ga:=fun s:List V=>xS (l:=s)
 refine ⟨_,rfl,by simp [cL,eW,bF,scl,sci,scs,aP,bT,jK,h0],by simp [aG,dX,V.aN,g0,g1] <;> simpa [V.aN] using g1,?_,rfl,?_,?_⟩
 ·simp [aG,dX,V.aN,g0,g1,pn _ _ g0] <;> simpa [V.aN] using g1
 ·simp [eW,eQ,jG,zsx,List.map_nil,CK.out,dS,jK,bF,aP,bT,scl,sci,scs,h0,scN h0]
 refine Eq.mpr (aD3 (aM _) _ (aP s.l) (vI s.n) (vI s.at_) (vI s.e) (vI s.d) (bT s.x) b0 (.sl .ro es)) ?_
 have a1:aD [b0,.sl .ro es]=some (.agg [b0,.sl .ro es]):=xS (by simp [List.all_cons,h0,scl,sci,scs])
 have a2:aD [.str (cH s).2.2,.sl .ro es]=some (.agg [.str (cH s).2.2,.sl .ro es]):=xS (by simp [List.all_cons,scl,sci,scs])
 simp only [sS,if_true,if_false,reduceCtorEq,a4c,c1,c2,c3,a2h,aAa,aKy (aFg s),zux,zvx,lC,lY,pT2,a1]
 cases h:oV (cH s) with
 | false=>simp only [Bool.not_false,if_true,aBo h,rC]
 | true=>simp only [Bool.not_true,zuy,if_false,sl0 (a1p h),aB,aBn,a2,a6z h,rC]
noncomputable def oY:Spec:=fG (fun q:aW×V×V×V=>[bF q.1,.agg [q.2.1,q.2.2.1,q.2.2.2]]) (fun q=>sc q.2.1=true∧(q.2.1).aN=true∧sc q.2.2.1=true∧(q.2.2.1).aN=true∧sc q.2.2.2=true∧(q.2.2.2).aN=true) (fun q=>.aH [.bool (aL q.1).1,bF (aL q.1).2.1,.agg [rC (aL q.1).2.2 q.2.1,q.2.2.1,q.2.2.2]])
theorem bI6 (s:aW) {b0 b1 b2:V} (h0:sc b0=true) (g0:b0.aN=true) (h1:sc b1=true) (g1:b1.aN=true) (h2:sc b2=true) (g2:b2.aN=true):oY [bF s,.agg [b0,b1,b2]]=some (.aH [.bool (aL s).1,bF (aL s).2.1,.agg [rC (aL s).2.2 b0,b1,b2]]):=cK (a:=(s,b0,b1,b2)) (fun a b h=>by
 simp only [List.cons.injEq,V.agg.injEq,and_true] at h
 exact Prod.ext (vU h.1) (Prod.ext h.2.1 (Prod.ext h.2.2.1 h.2.2.2)))
 ⟨h0,g0,h1,g1,h2,g2⟩
theorem aEd:bX Try.prog j6 eX oY:=by
 refine aCc (T:=TN) (aE.cC gR (aE.cC j3 (aE.cons a0h aE.nil))) fun words v hv=>?_
 have c1:∀ args,aM TN aO args=bI args:=fun _=>rfl
 have c2:∀ args,aM TN bR args=cO args:=fun _=>rfl
 have c3:∀ args,aM TN l9 args=rW args:=fun _=>rfl
 obtain ⟨⟨s,b0,b1,b2⟩,rfl,ok,rfl⟩:=bO hv
 dsimp only at ok ⊢
 obtain ⟨h0,g0,h1,g1,h2,g2⟩:=ok
 have pn:∀ o v,v.aN=true→(rC o v).aN=true:=fun o v h=>by cases o <;> first | exact h | rfl
 have ga:=fun s:List V=>xS (l:=s)
 refine ⟨_,rfl,by simp [cL,eX,bF,scl,sci,scs,aP,bT,jK,h0,h1,h2],by simp [aG,dX,V.aN,g0,g1,g2] <;> simpa [V.aN] using g0,?_,rfl,?_,?_⟩
 ·simp [aG,dX,V.aN,g0,g1,g2,pn _ _ g0] <;> simpa [V.aN] using g0
 ·simp [eX,eQ,jG,zsx,List.map_nil,CK.out,dS,jK,bF,aP,bT,scl,sci,scs,h0,h1,h2,scN h0]
 refine Eq.mpr (aD4 (aM _) _ (aP s.l) (vI s.n) (vI s.at_) (vI s.e) (vI s.d) (bT s.x) b0 b1 b2) ?_
 have a1:aD [b0,b1,b2]=some (.agg [b0,b1,b2]):=xS (by simp [h0,h1,h2,scl,sci,scs])
 have a2:aD [.str (cH s).2.2,b1,b2]=some (.agg [.str (cH s).2.2,b1,b2]):=xS (by simp [List.all_cons,h1,h2,scl,sci,scs])
 simp only [sS,if_true,if_false,reduceCtorEq,a4c,c1,c2,c3,a2h,aAa,aKy (aFg s),zux,zvx,lC,lY,pT2,a1]
 cases h:oV (cH s) with
 | false=>simp only [Bool.not_false,if_true,aBo h,rC]
 | true=>simp only [Bool.not_true,zuy,if_false,sl0 (a1p h),aB,aBn,a2,a6z h,rC]
noncomputable def oZ:Spec:=fG (fun q:aW×V×V×V=>[bF q.1,.agg [q.2.1,q.2.2.1,q.2.2.2]]) (fun q=>sc q.2.1=true∧(q.2.1).aN=true∧sc q.2.2.1=true∧(q.2.2.1).aN=true∧sc q.2.2.2=true∧(q.2.2.2).aN=true) (fun q=>.aH [.bool (aL q.1).1,bF (aL q.1).2.1,.agg [q.2.1,rC (aL q.1).2.2 q.2.2.1,q.2.2.2]])
theorem bI7 (s:aW) {b0 b1 b2:V} (h0:sc b0=true) (g0:b0.aN=true) (h1:sc b1=true) (g1:b1.aN=true) (h2:sc b2=true) (g2:b2.aN=true):oZ [bF s,.agg [b0,b1,b2]]=some (.aH [.bool (aL s).1,bF (aL s).2.1,.agg [b0,rC (aL s).2.2 b1,b2]]):=cK (a:=(s,b0,b1,b2)) (fun a b h=>by
 simp only [List.cons.injEq,V.agg.injEq,and_true] at h
 exact Prod.ext (vU h.1) (Prod.ext h.2.1 (Prod.ext h.2.2.1 h.2.2.2)))
 ⟨h0,g0,h1,g1,h2,g2⟩
theorem aEe:bX Try.prog j6 eY oZ:=by
 refine aCd (T:=TN) (aE.cC gR (aE.cC j3 (aE.cons a0h aE.nil))) fun words v hv=>?_
 have c1:∀ args,aM TN aO args=bI args:=fun _=>rfl
 have c2:∀ args,aM TN bR args=cO args:=fun _=>rfl
 have c3:∀ args,aM TN l9 args=rW args:=fun _=>rfl
 obtain ⟨⟨s,b0,b1,b2⟩,rfl,ok,rfl⟩:=bO hv
 dsimp only at ok ⊢
 obtain ⟨h0,g0,h1,g1,h2,g2⟩:=ok
 have pn:∀ o v,v.aN=true→(rC o v).aN=true:=fun o v h=>by cases o <;> first | exact h | rfl
 have ga:=fun s:List V=>xS (l:=s)
 refine ⟨_,rfl,by simp [cL,eY,bF,scl,sci,scs,aP,bT,jK,h0,h1,h2],by simp [aG,dX,V.aN,g0,g1,g2] <;> simpa [V.aN] using g0,?_,rfl,?_,?_⟩
 ·simp [aG,dX,V.aN,g0,g1,g2,pn _ _ g1] <;> simpa [V.aN] using g0
 ·simp [eY,eQ,jG,zsx,List.map_nil,CK.out,dS,jK,bF,aP,bT,scl,sci,scs,h0,h1,h2,scN h1]
 refine Eq.mpr (aD5 (aM _) _ (aP s.l) (vI s.n) (vI s.at_) (vI s.e) (vI s.d) (bT s.x) b0 b1 b2) ?_
 have a1:aD [b0,b1,b2]=some (.agg [b0,b1,b2]):=xS (by simp [h0,h1,h2,scl,sci,scs])
 have a2:aD [b0,.str (cH s).2.2,b2]=some (.agg [b0,.str (cH s).2.2,b2]):=xS (by simp [List.all_cons,h0,h2,scl,sci,scs])
 simp only [sS,if_true,if_false,reduceCtorEq,a4c,c1,c2,c3,a2h,aAa,aKy (aFg s),zux,zvx,lC,lY,pT2,a1]
 cases h:oV (cH s) with
 | false=>simp only [Bool.not_false,if_true,aBo h,rC]
 | true=>simp only [Bool.not_true,zuy,if_false,sl0 (a1p h),aB,aBn,a2,a6z h,rC]
noncomputable def j9:Spec:=fG (fun q:aW×V×V×V=>[bF q.1,.agg [q.2.1,q.2.2.1,q.2.2.2]]) (fun q=>sc q.2.1=true∧(q.2.1).aN=true∧sc q.2.2.1=true∧(q.2.2.1).aN=true∧sc q.2.2.2=true∧(q.2.2.2).aN=true) (fun q=>.aH [.bool (aL q.1).1,bF (aL q.1).2.1,.agg [q.2.1,q.2.2.1,rC (aL q.1).2.2 q.2.2.2]])
theorem b8v (s:aW) {b0 b1 b2:V} (h0:sc b0=true) (g0:b0.aN=true) (h1:sc b1=true) (g1:b1.aN=true) (h2:sc b2=true) (g2:b2.aN=true):j9 [bF s,.agg [b0,b1,b2]]=some (.aH [.bool (aL s).1,bF (aL s).2.1,.agg [b0,b1,rC (aL s).2.2 b2]]):=cK (a:=(s,b0,b1,b2)) (fun a b h=>by
 simp only [List.cons.injEq,V.agg.injEq,and_true] at h
 exact Prod.ext (vU h.1) (Prod.ext h.2.1 (Prod.ext h.2.2.1 h.2.2.2)))
 ⟨h0,g0,h1,g1,h2,g2⟩
theorem a3s:bX Try.prog j6 eZ j9:=by
 refine aCe (T:=TN) (aE.cC gR (aE.cC j3 (aE.cons a0h aE.nil))) fun words v hv=>?_
 have c1:∀ args,aM TN aO args=bI args:=fun _=>rfl
 have c2:∀ args,aM TN bR args=cO args:=fun _=>rfl
 have c3:∀ args,aM TN l9 args=rW args:=fun _=>rfl
 obtain ⟨⟨s,b0,b1,b2⟩,rfl,ok,rfl⟩:=bO hv
 dsimp only at ok ⊢
 obtain ⟨h0,g0,h1,g1,h2,g2⟩:=ok
 have pn:∀ o v,v.aN=true→(rC o v).aN=true:=fun o v h=>by cases o <;> first | exact h | rfl
 have ga:=fun s:List V=>xS (l:=s)
 refine ⟨_,rfl,by simp [cL,eZ,bF,scl,sci,scs,aP,bT,jK,h0,h1,h2],by simp [aG,dX,V.aN,g0,g1,g2] <;> simpa [V.aN] using g0,?_,rfl,?_,?_⟩
 ·simp [aG,dX,V.aN,g0,g1,g2,pn _ _ g2] <;> simpa [V.aN] using g0
 ·simp [eZ,eQ,jG,zsx,List.map_nil,CK.out,dS,jK,bF,aP,bT,scl,sci,scs,h0,h1,h2,scN h2]
 refine Eq.mpr (aD6 (aM _) _ (aP s.l) (vI s.n) (vI s.at_) (vI s.e) (vI s.d) (bT s.x) b0 b1 b2) ?_
 have a1:aD [b0,b1,b2]=some (.agg [b0,b1,b2]):=xS (by simp [h0,h1,h2,scl,sci,scs])
 have a2:aD [b0,b1,.str (cH s).2.2]=some (.agg [b0,b1,.str (cH s).2.2]):=xS (by simp [List.all_cons,h0,h1,scl,sci,scs])
 simp only [sS,if_true,if_false,reduceCtorEq,a4c,c1,c2,c3,a2h,aAa,aKy (aFg s),zux,zvx,lC,lY,pT2,a1]
 cases h:oV (cH s) with
 | false=>simp only [Bool.not_false,if_true,aBo h,rC]
 | true=>simp only [Bool.not_true,zuy,if_false,sl0 (a1p h),aB,aBn,a2,a6z h,rC]
theorem aMs (l:List dQ):(l.map jX).all (fun e=>e.cells.length == 3)=true:=by simp [jX,V.cells]
noncomputable def l3:Spec:=fG (fun q:aW×dQ×Nat=>[bF q.1,jX q.2.1,vI q.2.2]) (fun _=>True) (fun q=>.aH [.bool (jY q.2.1 q.2.2 q.1).1,bF (jY q.2.1 q.2.2 q.1).2])
theorem b5q (s:aW) (p:dQ) (a:Nat):l3 [bF s,jX p,vI a]=some (.aH [.bool (jY p a s).1,bF (jY p a s).2]):=cK (a:=(s,p,a)) (fun a b h=>by
 simp only [List.cons.injEq,V.int.injEq,and_true,true_and] at h
 exact Prod.ext (vU h.1) (Prod.ext (aBm h.2.1) (Int.ofNat_inj.1 h.2.2))) trivial
theorem a0w:bX Try.prog a9k iW l3:=by
 refine aGx (T:=[]) aE.nil fun words v hv=>?_
 obtain ⟨⟨s,p,a⟩,rfl,_,rfl⟩:=bO hv
 refine ⟨_,rfl,rfl,by simp [aG,dX,V.aN,jX],by simp [aG,dX,V.aN],rfl,rfl,?_⟩
 refine Eq.mpr (aI8 (aM _) _ (aP s.l) (vI s.n) (vI s.at_) (vI s.e) (vI s.d) (bT s.x) (jX p) (vI a)) ?_
 have h1:aJ 3 (jX p)=some (jX p):=rfl
 have h2:gX (bT s.x)=some (.int .i64 s.x.length):=by simp [gX,bT]
 have h3:l8 3 [jX p]=some (.sl .ro [jX p]):=rfl
 simp only [h1,h2,h3,sS,if_true,if_false,reduceCtorEq,bI3,jY]
 by_cases h:200≤s.x.length
 ·have hd:decide ((200:Int)≤(s.x.length:Int))=true:=decide_eq_true (by omega)
  have ha:aD [aP s.l,vI s.n,vI a,.int .i64 8,vI s.d,bT s.x]=some (bF { s with e:=8,at_:=a }):=rfl
  simp only [hd,if_true,ha,aB,if_pos h]
 ·have hd:decide ((200:Int)≤(s.x.length:Int))=false:=decide_eq_false (by omega)
  have ha:aD [aP s.l,vI s.n,vI s.at_,vI s.e,vI s.d,bT (s.x++[p])]=some (bF { s with x:=s.x++[p] }):=rfl
  have hp:nU 3 40 (bT s.x) (.sl .ro [jX p])=some (bT (s.x++[p])):=by
   show nU 3 40 (.sl .ro (s.x.map jX)) (.sl .ro ([p].map jX))=some (.sl .ro ((s.x++[p]).map jX))
   rw [aGh (by simp only [zsy,List.length_singleton]; omega) (aMs _) (aMs [p]),List.map_append]
  simp only [hd,zuy,if_false,hp,aB,ha,if_neg h]
end Go.Fbs

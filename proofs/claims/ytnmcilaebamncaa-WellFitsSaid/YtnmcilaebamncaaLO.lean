/- Names, ids, tuples that may be. -/
import Derived.Test.YtnmcilaebamncaaLN
set_option linter.unusedVariables false
set_option linter.unusedSimpArgs false
set_option linter.unusedSectionVars false
set_option maxRecDepth 100000
namespace Go.Fbs
open Go.Proofs
def a6f (c:Int):Bool:=decide (97≤c) && decide (c≤122) || decide (48≤c) && decide (c≤57)
def qM (c:Int):Bool:=a6f c || decide (c=95) || decide (c=45) || decide (c=46)
def idB (c:Int):Bool:=qM c || decide (c=47) || decide (c=124) || decide (c=42)
def fO (l:List UInt8):Bool:=decide (1≤l.length) && decide (l.length≤30) && a6f (l.getD 0 0).toNat && l.all (fun c=>qM c.toNat)
def yH (l:List UInt8):Bool:=decide (1≤l.length) && decide (l.length≤250) && l.all (fun c=>idB c.toNat)
def jY:Spec
 | [.int .u8 c]=>some (.bool (a6f c))
 | _=>none
theorem aCg:dD Try.prog jT jY:=by
 refine aOp (T:=[]) (aL.nil) fun args v hv=>?_
 unfold jY at hv
 split at hv <;> (try simp only [Option.ite_none_right_eq_some,zzz,reduceCtorEq] at hv)
 rename_i c
 subst hv
 refine ⟨rfl,rfl,rfl,?_⟩
 rw [aSv]
 by_cases h1:97≤c <;> by_cases h2:c≤122 <;> by_cases h3:48≤c <;> by_cases h4:c≤57 <;> simp [sS,if_true,if_false,reduceCtorEq,a6f,h1,h2,h3,h4]
def fF:Spec
 | [.int .u8 c]=>some (.bool (a6f c))
 | _=>none
theorem a1e:dD Try.prog fD fF:=by
 refine aCs (T:=[]) (aL.nil) fun args v hv=>?_
 unfold fF at hv
 split at hv <;> (try simp only [Option.ite_none_right_eq_some,zzz,reduceCtorEq] at hv)
 rename_i c
 subst hv
 refine ⟨rfl,rfl,rfl,?_⟩
 rw [aEp]
 by_cases h1:97≤c <;> by_cases h2:c≤122 <;> by_cases h3:48≤c <;> by_cases h4:c≤57 <;> simp [sS,if_true,if_false,reduceCtorEq,a6f,h1,h2,h3,h4]
def jZ:Spec
 | [.int .u8 c]=>some (.bool (qM c))
 | _=>none
theorem aCh:dD Try.prog jU jZ:=by
 refine aOq (T:=[(jT,jY)]) (aL.cons aCg aL.nil) fun args v hv=>?_
 have c_atom_first:∀ args,bL [(jT,jY)] jT args=jY args:=fun _=>rfl
 unfold jZ at hv
 split at hv <;> (try simp only [Option.ite_none_right_eq_some,zzz,reduceCtorEq] at hv)
 rename_i c
 subst hv
 refine ⟨rfl,rfl,rfl,?_⟩
 rw [aSw]
 cases h0:a6f c <;> by_cases h1:c=95 <;> by_cases h2:c=45 <;> by_cases h3:c=46 <;> simp [sS,if_true,if_false,reduceCtorEq,c_atom_first,jY,qM,h0,h1,h2,h3]
theorem aBu {p : UInt8 → Bool} {l : List UInt8} {k : Nat} {c : UInt8} (h : l[k]? = some c) (hk : (l.take k).all p = true) : (l.take (k + 1)).all p = p c:=by
 rw [List.take_add_one,h,List.all_append,hk]; simp
theorem aGj {p : UInt8 → Bool} {l : List UInt8} {k : Nat} {c : UInt8} (h : l[k]? = some c) (hc : p c = false) : l.all p = false:=by
 cases hh:l.all p
 ·rfl
 ·rw [List.all_eq_true.1 hh c (zyx h)] at hc; simp at hc
theorem aGk {p:UInt8→Bool} {l:List UInt8} {k:Nat} (h:l.length≤k) (hk:(l.take k).all p=true):l.all p=true:=by
 rwa [List.take_of_length_le h] at hk
def rT:Spec
 | [.str l]=>if l.length≤big then some (.bool (fO l)) else none
 | _=>none
theorem aTo:dD Try.prog lM rT:=by
 refine aSu (T:=[(jT,jY),(jU,jZ)]) (aL.cons aCg (aL.cons aCh aL.nil)) fun args v hv=>?_
 have c_atom_first:∀ args,bL [(jT,jY),(jU,jZ)] jT args=jY args:=fun _=>rfl
 have c_atom_plain:∀ args,bL [(jT,jY),(jU,jZ)] jU args=jZ args:=fun _=>rfl
 unfold rT at hv
 split at hv <;> (try simp only [Option.ite_none_right_eq_some,zzz,reduceCtorEq] at hv)
 rename_i l
 obtain ⟨hl,rfl⟩:=hv
 unfold big at hl
 refine ⟨rfl,rfl,rfl,?_⟩
 rw [aUv]
 cases l with
 | nil=>simp [sS,if_true,if_false,reduceCtorEq,fO]
 | cons c t =>
  have e0:((c::t:List UInt8) == [])=false:=rfl
  have i0:gD (.str (c::t)) (.int .i64 0)=some (.int .u8 c.toNat):=pV (k:=0) rfl .i64
  generalize hll:c::t=l at *
  have hl1:1≤l.length:=by rw [← hll]; simp
  have hg:l.getD 0 0=c:=by rw [← hll]; rfl
  simp only [sS,if_true,if_false,reduceCtorEq,e0]
  by_cases h30:l.length≤30
  ·have h30':¬ (30:Int) < (l.length:Int):=by omega
   simp only [sS,if_true,if_false,reduceCtorEq,h30',decide_false,i0,c_atom_first,jY]
   cases ha:a6f c.toNat
   ·simp only [sS,if_true,if_false,reduceCtorEq,fO,hg,ha]
   ·simp only [sS,if_true,if_false,reduceCtorEq]
    refine fK (fun vs=>∃ k:Nat,vs=[vI k]∧k≤l.length∧(l.take k).all (fun c=>qM c.toNat)=true) (fun vs=>l.length - fN (gv vs 0)) ⟨0,rfl,Nat.zero_le _,rfl⟩ ?_
    rintro r _ ⟨k,rfl,hk,hn⟩ hr
    refine ⟨rfl,?_⟩
    simp only [sS,if_true,if_false,reduceCtorEq]
    by_cases hlt:k < l.length
    ·have hlt':(k:Int) < (l.length:Int):=by omega
     obtain ⟨d,hd⟩ : ∃ d,l[k]? = some d:=⟨l[k],zyz hlt⟩
     simp only [hlt',decide_true,sS,if_true,if_false,reduceCtorEq,pV hd,c_atom_plain,jZ]
     have h2:=aBu (p:=fun c=>qM c.toNat) hd hn
     cases hp:qM d.toNat
     ·simp only [sS,if_true,if_false,reduceCtorEq,fO,aGj (p:=fun c=>qM c.toNat) hd hp]
     ·simp only [sS,if_true,if_false,reduceCtorEq]
      rw [iR (by omega) (by omega)]
      refine hr _ ⟨k+1,by simp,hlt,by rw [h2]; exact hp⟩ ?_
      simp [gv,fN]; omega
    ·have hlt':¬ (k:Int) < (l.length:Int):=by omega
     simp only [hlt',decide_false,sS,if_true,if_false,reduceCtorEq,fO,hg,ha,hl1,h30,decide_true,aGk (p:=fun c=>qM c.toNat) (by omega) hn]
  ·have h30':(30:Int) < (l.length:Int):=by omega
   simp [sS,if_true,if_false,reduceCtorEq,h30',fO,h30]
def kN:Spec
 | [.str l]=>if l.length≤big then some (.bool (fO l)) else none
 | _=>none
theorem aFb:dD Try.prog gN kN:=by
 refine aEn (T:=[(fD,fF)]) (aL.cons a1e aL.nil) fun args v hv=>?_
 have c_entailref1_alnum:∀ args,bL [(fD,fF)] fD args=fF args:=fun _=>rfl
 unfold kN at hv
 split at hv <;> (try simp only [Option.ite_none_right_eq_some,zzz,reduceCtorEq] at hv)
 rename_i l
 obtain ⟨hl,rfl⟩:=hv
 unfold big at hl
 refine ⟨rfl,rfl,rfl,?_⟩
 rw [aGw]
 cases l with
 | nil=>simp [sS,if_true,if_false,reduceCtorEq,fO]
 | cons c t =>
  have i0:gD (.str (c::t)) (.int .i64 0)=some (.int .u8 c.toNat):=pV (k:=0) rfl .i64
  generalize hll:c::t=l at *
  have hl1:1≤l.length:=by rw [← hll]; simp
  have hl1':¬ (l.length:Int) < 1:=by omega
  have hg:l.getD 0 0=c:=by rw [← hll]; rfl
  simp only [sS,if_true,if_false,reduceCtorEq,hl1',decide_false]
  by_cases h30:l.length≤30
  ·have h30':¬ (30:Int) < (l.length:Int):=by omega
   simp only [sS,if_true,if_false,reduceCtorEq,h30',decide_false,i0,c_entailref1_alnum,fF]
   cases ha:a6f c.toNat
   ·simp only [sS,if_true,if_false,reduceCtorEq,fO,hg,ha]
   ·simp only [sS,if_true,if_false,reduceCtorEq]
    refine fK (fun vs=>∃ k:Nat,vs=[vI k]∧k≤l.length∧(l.take k).all (fun c=>qM c.toNat)=true) (fun vs=>l.length - fN (gv vs 0)) ⟨0,rfl,Nat.zero_le _,rfl⟩ ?_
    rintro r _ ⟨k,rfl,hk,hn⟩ hr
    refine ⟨rfl,?_⟩
    simp only [sS,if_true,if_false,reduceCtorEq]
    by_cases hlt:k < l.length
    ·have hlt':(k:Int) < (l.length:Int):=by omega
     obtain ⟨d,hd⟩ : ∃ d,l[k]? = some d:=⟨l[k],zyz hlt⟩
     simp only [hlt',decide_true,sS,if_true,if_false,reduceCtorEq,pV hd,c_entailref1_alnum,fF]
     have h2:=aBu (p:=fun c=>qM c.toNat) hd hn
     have step:qM d.toNat=true→r [vI (k+1:Nat)]:=fun hp=>hr _ ⟨k+1,rfl,hlt,by rw [h2]; exact hp⟩ (by simp [gv,fN]; omega)
     have stop_:qM d.toNat=false→fO l=false:=fun hp=>by simp only [fO,aGj (p:=fun c=>qM c.toNat) hd hp,Bool.and_false]
     have hw:IntKind.i64.wrap ((k:Int)+1)=((k+1:Nat):Int):=by rw [iR (by omega) (by omega)]; omega
     simp only [qM] at step stop_
     cases h0:a6f d.toNat <;> by_cases h1:(d.toNat:Int)=95 <;> by_cases h3:(d.toNat:Int)=45 <;> by_cases h4:(d.toNat:Int)=46 <;> simp [h0,h1,h3,h4] at step stop_ <;> simp [sS,if_true,if_false,reduceCtorEq,h1,h3,h4,hw,stop_,step]
    ·have hlt':¬ (k:Int) < (l.length:Int):=by omega
     simp only [hlt',decide_false,sS,if_true,if_false,reduceCtorEq,fO,hg,ha,hl1,h30,decide_true,aGk (p:=fun c=>qM c.toNat) (by omega) hn]
  ·have h30':(30:Int) < (l.length:Int):=by omega
   simp [sS,if_true,if_false,reduceCtorEq,h30',fO,h30]
def wY:Spec
 | [.str l]=>if l.length≤big then some (.bool (yH l)) else none
 | _=>none
theorem aZz:dD Try.prog tF wY:=by
 refine aZk (T:=[(jU,jZ)]) (aL.cons aCh aL.nil) fun args v hv=>?_
 have c_atom_plain:∀ args,bL [(jU,jZ)] jU args=jZ args:=fun _=>rfl
 unfold wY at hv
 split at hv <;> (try simp only [Option.ite_none_right_eq_some,zzz,reduceCtorEq] at hv)
 rename_i l
 obtain ⟨hl,rfl⟩:=hv
 unfold big at hl
 refine ⟨rfl,rfl,rfl,?_⟩
 rw [b11]
 simp only [sS,if_true,if_false,reduceCtorEq]
 refine fK (fun vs=>∃ k:Nat,vs=[vI k]∧k≤l.length∧(l.take k).all (fun c=>idB c.toNat)=true) (fun vs=>l.length - fN (gv vs 0)) ⟨0,rfl,Nat.zero_le _,rfl⟩ ?_
 rintro r _ ⟨k,rfl,hk,hn⟩ hr
 refine ⟨rfl,?_⟩
 simp only [sS,if_true,if_false,reduceCtorEq]
 by_cases hlt:k < l.length
 ·have hlt':(k:Int) < (l.length:Int):=by omega
  obtain ⟨d,hd⟩ : ∃ d,l[k]? = some d:=⟨l[k],zyz hlt⟩
  simp only [hlt',decide_true,sS,if_true,if_false,reduceCtorEq,pV hd,c_atom_plain,jZ]
  have h2:=aBu (p:=fun c=>idB c.toNat) hd hn
  have step:idB d.toNat=true→r [vI (k+1:Nat)]:=fun hp=>hr _ ⟨k+1,rfl,hlt,by rw [h2]; exact hp⟩ (by simp [gv,fN]; omega)
  have stop_:idB d.toNat=false→yH l=false:=fun hp=>by simp only [yH,aGj (p:=fun c=>idB c.toNat) hd hp,Bool.and_false]
  have hw:IntKind.i64.wrap ((k:Int)+1)=((k+1:Nat):Int):=by rw [iR (by omega) (by omega)]; omega
  simp only [idB] at step stop_
  cases h0:qM d.toNat <;> by_cases h1:(d.toNat:Int)=47 <;> by_cases h3:(d.toNat:Int)=124 <;> by_cases h4:(d.toNat:Int)=42 <;> simp [h0,h1,h3,h4] at step stop_ <;> simp [sS,if_true,if_false,reduceCtorEq,h1,h3,h4,hw,stop_,step]
 ·have hlt':¬ (k:Int) < (l.length:Int):=by omega
  have ha:=aGk (p:=fun c=>idB c.toNat) (by omega:l.length≤k) hn
  simp only [hlt',decide_false,sS,if_true,if_false,reduceCtorEq,yH,ha]
  cases l with
  | nil=>rfl
  | cons c t =>
   have e0:((c::t:List UInt8) == [])=false:=rfl
   have h1:1≤(c::t).length:=by simp
   have h2:decide (((c::t).length:Int)≤250)=decide ((c::t).length≤250):=by rw [decide_eq_decide]; omega
   simp only [sS,if_true,if_false,reduceCtorEq,e0,h1,decide_true,h2]
def mD:Spec
 | [.str l]=>if l.length≤big then some (.bool (yH l)) else none
 | _=>none
theorem aI2:dD Try.prog kQ mD:=by
 refine aIs (T:=[(fD,fF)]) (aL.cons a1e aL.nil) fun args v hv=>?_
 have c_entailref1_alnum:∀ args,bL [(fD,fF)] fD args=fF args:=fun _=>rfl
 unfold mD at hv
 split at hv <;> (try simp only [Option.ite_none_right_eq_some,zzz,reduceCtorEq] at hv)
 rename_i l
 obtain ⟨hl,rfl⟩:=hv
 unfold big at hl
 refine ⟨rfl,rfl,rfl,?_⟩
 rw [aK4]
 simp only [sS,if_true,if_false,reduceCtorEq]
 refine fK (fun vs=>∃ k:Nat,vs=[vI k]∧k≤l.length∧(l.take k).all (fun c=>idB c.toNat)=true) (fun vs=>l.length - fN (gv vs 0)) ⟨0,rfl,Nat.zero_le _,rfl⟩ ?_
 rintro r _ ⟨k,rfl,hk,hn⟩ hr
 refine ⟨rfl,?_⟩
 simp only [sS,if_true,if_false,reduceCtorEq]
 by_cases hlt:k < l.length
 ·have hlt':(k:Int) < (l.length:Int):=by omega
  obtain ⟨d,hd⟩ : ∃ d,l[k]? = some d:=⟨l[k],zyz hlt⟩
  simp only [hlt',decide_true,sS,if_true,if_false,reduceCtorEq,pV hd,c_entailref1_alnum,fF]
  have h2:=aBu (p:=fun c=>idB c.toNat) hd hn
  have hw:IntKind.i64.wrap ((k:Int)+1)=((k+1:Nat):Int):=by rw [iR (by omega) (by omega)]; omega
  have e:(((((!a6f d.toNat) && !decide ((d.toNat:Int)=95)) && !decide ((d.toNat:Int)=45)) && !decide ((d.toNat:Int)=46)) && !decide ((d.toNat:Int)=47) && !decide ((d.toNat:Int)=124) && !decide ((d.toNat:Int)=42)) = !idB d.toNat:=by
   simp only [idB,qM,Bool.not_or,Bool.and_assoc]
  rw [e,hw]
  cases hp:idB d.toNat
  ·simp only [sS,if_true,if_false,reduceCtorEq,yH,aGj (p:=fun c=>idB c.toNat) hd hp]
  ·simp only [sS,if_true,if_false,reduceCtorEq]
   exact hr _ ⟨k+1,rfl,hlt,by rw [h2]; exact hp⟩ (by simp [gv,fN]; omega)
 ·have hlt':¬ (k:Int) < (l.length:Int):=by omega
  have ha:=aGk (p:=fun c=>idB c.toNat) (by omega:l.length≤k) hn
  have h1:decide ((1:Int)≤(l.length:Int))=decide (1≤l.length):=by rw [decide_eq_decide]; omega
  have h2:decide ((l.length:Int)≤250)=decide (l.length≤250):=by rw [decide_eq_decide]; omega
  simp only [hlt',decide_false,sS,if_true,if_false,reduceCtorEq,yH,ha,h1,h2]
def okT (a b c d e f:List UInt8):Bool:=fO a && yH b && fO c && fO d && yH e && (f == [] || fO f)
def wZ (a b c d e f:List UInt8):Prop:=a.length≤big∧b.length≤big∧c.length≤big∧d.length≤big∧e.length≤big∧f.length≤big
instance (a b c d e f:List UInt8):Decidable (wZ a b c d e f):=by unfold wZ; infer_instance
theorem aWl (a b c d e f:List UInt8):bD 6 (.agg [.str a,.str b,.str c,.str d,.str e,.str f])=some (.agg [.str a,.str b,.str c,.str d,.str e,.str f]):=rfl
def rM:Spec
 | [.agg [.str a,.str b,.str c,.str d,.str e,.str f]]=>if wZ a b c d e f then some (.bool (okT a b c d e f)) else none
 | _=>none
theorem aI3:dD Try.prog rH rM:=by
 refine aIo (T:=[(gN,kN),(kQ,mD)]) (aL.cons aFb (aL.cons aI2 aL.nil)) fun args v hv=>?_
 have c_entailref1_Name:∀ args,bL [(gN,kN),(kQ,mD)] gN args=kN args:=fun _=>rfl
 have c_entailref1_ID:∀ args,bL [(gN,kN),(kQ,mD)] kQ args=mD args:=fun _=>rfl
 unfold rM at hv
 split at hv <;> (try simp only [Option.ite_none_right_eq_some,zzz,reduceCtorEq] at hv)
 rename_i a b c d e f
 obtain ⟨⟨h1,h2,h3,h4,h5,h6⟩,rfl⟩:=hv
 refine ⟨rfl,rfl,rfl,?_⟩
 rw [aK0]
 simp only [aWl,sS,if_true,if_false,reduceCtorEq,List.getD_cons_zero,List.getD_cons_succ,c_entailref1_Name,kN,c_entailref1_ID,mD,h1,h2,h3,h4,h5,h6]
 cases ha:fO a <;> cases hb:yH b <;> cases hc:fO c <;> cases hd:fO d <;> cases he:yH e <;> cases hf:(f == []) <;> cases hg:fO f <;> simp only [sS,if_true,if_false,reduceCtorEq,okT,ha,hb,hc,hd,he,hf,hg]
def a3o:Spec
 | [.agg [.str a,.str b,.str c,.str d,.str e,.str f]]=>if wZ a b c d e f then some (.bool (okT a b c d e f)) else none
 | _=>none
theorem aZ0:dD Try.prog a3f a3o:=by
 refine aZj (T:=[(lM,rT),(tF,wY)]) (aL.cons aTo (aL.cons aZz aL.nil)) fun args v hv=>?_
 have c_atom_Name:∀ args,bL [(lM,rT),(tF,wY)] lM args=rT args:=fun _=>rfl
 have c_atom_ID:∀ args,bL [(lM,rT),(tF,wY)] tF args=wY args:=fun _=>rfl
 unfold a3o at hv
 split at hv <;> (try simp only [Option.ite_none_right_eq_some,zzz,reduceCtorEq] at hv)
 rename_i a b c d e f
 obtain ⟨⟨h1,h2,h3,h4,h5,h6⟩,rfl⟩:=hv
 refine ⟨rfl,rfl,rfl,?_⟩
 rw [b10]
 simp only [aWl,sS,if_true,if_false,reduceCtorEq,List.getD_cons_zero,List.getD_cons_succ,c_atom_Name,rT,c_atom_ID,wY,h1,h2,h3,h4,h5,h6]
 cases ha:fO a <;> cases hb:yH b <;> cases hc:fO c <;> cases hd:fO d <;> cases he:yH e <;> cases hf:(f == []) <;> cases hg:fO f <;> simp only [sS,if_true,if_false,reduceCtorEq,okT,ha,hb,hc,hd,he,hf,hg]
theorem a6g {l:List UInt8} (h:fO l=true):1≤l.length∧l.length≤30:=by
 simp only [fO,zxz,decide_eq_true_eq] at h; omega
theorem b2s {l:List UInt8} (h:yH l=true):1≤l.length∧l.length≤250:=by
 simp only [yH,zxz,decide_eq_true_eq] at h; omega
theorem b96 {a b c d e f:List UInt8} (h:okT a b c d e f=true):a.length≤30∧b.length≤250∧c.length≤30∧d.length≤30∧e.length≤250∧f.length≤30:=by
 simp only [okT,zxz,Bool.or_eq_true,beq_iff_eq] at h
 obtain ⟨⟨⟨⟨⟨h1,h2⟩,h3⟩,h4⟩,h5⟩,h6⟩:=h
 refine ⟨(a6g h1).2,(b2s h2).2,(a6g h3).2,(a6g h4).2,(b2s h5).2,?_⟩
 rcases h6 with rfl | h6
 ·simp
 ·exact (a6g h6).2
structure kA where
 (a b c d e f:List UInt8)
def kA.v (x:kA):V:=.agg [.str x.a,.str x.b,.str x.c,.str x.d,.str x.e,.str x.f]
def aFc:List (List UInt8):=[[97],[98],[99],[100],[97,98],[98,45,49],[120,46,121],[48]]
def nmT (n:Int):List UInt8:=aFc.getD (n % 8).toNat []
theorem b2t (n : Int) : aFc[(n % 8).toNat]? = some (nmT n):=by
 unfold nmT
 have h1:=Int.emod_nonneg n (show (8:Int)≠0 by omega)
 have h2:=Int.emod_lt_of_pos n (show (0:Int) < 8 by omega)
 have:(n % 8).toNat < aFc.length:=by show _ < 8; omega
 rw [List.getD_eq_getElem?_getD,zyz this]; rfl
theorem b2u (n:Int):fO (nmT n)=true:=by
 have h:∀ x ∈ aFc,fO x=true:=by decide
 exact h _ (zyx (b2t n))
def oH:Spec
 | [.int .i64 n]=>some (.str (nmT n))
 | _=>none
theorem aI4:dD Try.prog lZ oH:=by
 refine aIp (T:=[]) (aL.nil) fun args v hv=>?_
 unfold oH at hv
 split at hv <;> (try simp only [Option.ite_none_right_eq_some,zzz,reduceCtorEq] at hv)
 rename_i n
 subst hv
 refine ⟨rfl,rfl,rfl,?_⟩
 rw [aK1]
 have hlit:hG 1 [(.str [97]),(.str [98]),(.str [99]),(.str [100]),(.str [97,98]),(.str [98,45,49]),(.str [120,46,121]),(.str [48])]=some (a71.lst aFc):=by kernel_rfl
 have ha:aB .and (.int .i64 n) (.int .i64 7)=some (.int .i64 (((n % 8).toNat:Nat):Int)):=by
  have:=aSg (a:=n) (j:=3) (by omega)
  have h1:=Int.emod_nonneg n (show (8:Int)≠0 by omega)
  rw [Int.toNat_of_nonneg h1]
  exact this
 simp only [hlit,ha,aA,a71.a84 (b2t n) rfl]
 rfl
theorem aGl {a:Int} {b:Nat} (hb:b≤64):aB .shr (.int .i64 a) (.int .u64 b)=some (.int .i64 (a.fdiv (2 ^ b))):=by
 have e:min (b:Int).toNat IntKind.i64.bits=b:=by
  show min (b:Int).toNat 64=b
  rw [Int.toNat_natCast]; omega
 have e2:min b IntKind.i64.bits=b:=by rw [Int.toNat_natCast] at e; exact e
 simp [aB,vV,e2]
theorem b57 {l:List UInt8} (h:fO l=true):l.all (fun c=>idB c.toNat)=true:=by
 simp only [fO,zxz,List.all_eq_true] at h ⊢
 exact fun c hc=>by simp only [idB,h.2 c hc,Bool.true_or]
def kA.ok (x:kA):Bool:=okT x.a x.b x.c x.d x.e x.f
theorem bC5 (a:Int):aB .and (.int .i64 a) (.int .i64 1)=some (.int .i64 (((a % 2).toNat:Nat):Int)):=aA9 (j:=1) (by omega) rfl
theorem bC6 (a:Int):aB .and (.int .i64 a) (.int .i64 3)=some (.int .i64 (((a % 4).toNat:Nat):Int)):=aA9 (j:=2) (by omega) rfl
theorem b58 (a:Int):aB .and (.int .i64 a) (.int .i64 255)=some (.int .i64 (((a % 256).toNat:Nat):Int)):=aA9 (j:=8) (by omega) rfl
theorem bFh (a b:Nat) (hb:0 < b):aB .rem (.int .i64 a) (.int .i64 b)=some (.int .i64 ((a % b:Nat):Int)):=by
 have h:¬ (b:Int)=0:=by omega
 simp only [aB,hX,if_true]
 rw [if_neg h]
 rw [Int.ofNat_tmod]
theorem a9j {ls : List (List UInt8)} {k : Nat} (h : k < ls.length) : ls[k]? = some (ls.getD k []):=by
 rw [List.getD_eq_getElem?_getD,zyz h]; rfl
theorem aGm {n:Int} {m:Nat} (hm:0 < m):(n % (m:Int)).toNat < m:=by
 have h1:=Int.emod_nonneg n (show (m:Int)≠0 by omega)
 have h2:=Int.emod_lt_of_pos n (show (0:Int) < m by omega)
 omega
def abD:List (List UInt8):=[[97],[98]]
def rsT:List (List UInt8):=[[114],[115]]
def b59:List (List UInt8):=[[117],[97],[98]]
def vP (n:Int):kA:=⟨abD.getD (n % 2).toNat [],nmT (n.fdiv 2),rsT.getD ((n.fdiv 16) % 2).toNat [],b59.getD (((n.fdiv 32) % 256).toNat % 3) [],nmT (n.fdiv 8192),if ((n.fdiv 65536) % 4).toNat=0 then rsT.getD ((n.fdiv 262144) % 2).toNat [] else []⟩
theorem aBv {ls : List (List UInt8)} (h : ls.all fO = true) {k : Nat} (hk : k < ls.length) : fO (ls.getD k []) = true:=List.all_eq_true.1 h _ (zyx (a9j hk))
theorem aOb {l:List UInt8} (h:fO l=true):yH l=true:=by
 have h1:=a6g h
 have h2:=b57 h
 simp only [yH,zxz,decide_eq_true_eq]
 exact ⟨⟨by omega,by omega⟩,h2⟩
theorem b6a (n:Int):(vP n).ok=true:=by
 have h1:fO (vP n).a=true:=aBv (by decide) (aGm (m:=2) (by omega))
 have h2:fO (vP n).b=true:=b2u _
 have h3:fO (vP n).c=true:=aBv (by decide) (aGm (m:=2) (by omega))
 have h4:fO (vP n).d=true:=aBv (by decide) (Nat.mod_lt _ (by decide))
 have h5:fO (vP n).e=true:=b2u _
 have h6:((vP n).f == [])=true∨fO (vP n).f=true:=by
  simp only [vP]
  split
  ·exact .inr (aBv (by decide) (aGm (m:=2) (by omega)))
  ·exact .inl rfl
 simp only [kA.ok,okT,h1,aOb h2,h3,h4,aOb h5,Bool.true_and,Bool.and_true,Bool.or_eq_true]
 exact h6
def p8:Spec
 | [.int .i64 n]=>some (vP n).v
 | _=>none
theorem b6b (l:List UInt8):iJ (.str l)=some (.str l):=nr rfl
theorem b7g (a b:List UInt8):aI [.str a,.str b]=some (.agg [.str a,.str b]):=nr rfl
theorem b7h (a b c:List UInt8):aI [.str a,.str b,.str c]=some (.agg [.str a,.str b,.str c]):=nr rfl
theorem b7i (a b c d e f:List UInt8):aI [.str a,.str b,.str c,.str d,.str e,.str f]=some (.agg [.str a,.str b,.str c,.str d,.str e,.str f]):=nr rfl
theorem bC8 (a:Int):aB .shr (.int .i64 a) (.int .u64 1)=some (.int .i64 (a.fdiv 2)):=aGl (b:=1) (by omega)
theorem bC9 (a:Int):aB .shr (.int .i64 a) (.int .u64 4)=some (.int .i64 (a.fdiv 16)):=aGl (b:=4) (by omega)
theorem bDa (a:Int):aB .shr (.int .i64 a) (.int .u64 5)=some (.int .i64 (a.fdiv 32)):=aGl (b:=5) (by omega)
theorem b97 (a:Int):aB .shr (.int .i64 a) (.int .u64 13)=some (.int .i64 (a.fdiv 8192)):=aGl (b:=13) (by omega)
theorem b98 (a:Int):aB .shr (.int .i64 a) (.int .u64 16)=some (.int .i64 (a.fdiv 65536)):=aGl (b:=16) (by omega)
theorem b99 (a:Int):aB .shr (.int .i64 a) (.int .u64 18)=some (.int .i64 (a.fdiv 262144)):=aGl (b:=18) (by omega)
theorem aFd:dD Try.prog p6 p8:=by
 refine aEk (T:=[(lZ,oH)]) (aL.cons aI4 aL.nil) fun args v hv=>?_
 have c_entaillaw1_Nm:∀ args,bL [(lZ,oH)] lZ args=oH args:=fun _=>rfl
 unfold p8 at hv
 split at hv <;> (try simp only [Option.ite_none_right_eq_some,zzz,reduceCtorEq] at hv)
 rename_i n
 subst hv
 refine ⟨rfl,rfl,rfl,?_⟩
 rw [aGv]
 have l1:hG 1 [(.str [97]),(.str [98])]=some (a71.lst abD):=by kernel_rfl
 have l2:hG 1 [(.str [114]),(.str [115])]=some (a71.lst rsT):=by kernel_rfl
 have l3:hG 1 [(.str [117]),(.str [97]),(.str [98])]=some (a71.lst b59):=by kernel_rfl
 have i1:=a71.a84 (a9j (show (n % 2).toNat < abD.length from aGm (m:=2) (by omega))) rfl 1 .i64
 have i2:=a71.a84 (a9j (show ((n.fdiv 16) % 2).toNat < rsT.length from aGm (m:=2) (by omega))) rfl 1 .i64
 have i3:=a71.a84 (a9j (show ((n.fdiv 32) % 256).toNat % 3 < b59.length from Nat.mod_lt _ (by decide))) rfl 1 .i64
 have i4:=a71.a84 (a9j (show ((n.fdiv 262144) % 2).toNat < rsT.length from aGm (m:=2) (by omega))) rfl 1 .i64
 have r3:=bFh ((n.fdiv 32) % 256).toNat 3 (by omega)
 rw [show a71.enc=V.str from rfl] at i1 i2 i3 i4
 simp only [l1,l2,l3,bC5,bC6,b58,bC8,bC9,bDa,b97,b98,b99,i1,i2,i3,i4,aA,c_entaillaw1_Nm,oH,b6b,b7g,b7h,aEd,List.getD_cons_zero,List.getD_cons_succ,b7i]
 rw [show ((3:Int))=((3:Nat):Int) from rfl,r3]
 simp only [i3,aA,aEd,List.getD_cons_zero,List.getD_cons_succ,b7g,b7h,b7i,wN]
 by_cases h:((n.fdiv 65536) % 4).toNat=0
 ·have hi:(((n.fdiv 65536 % 4).toNat:Nat):Int)=0:=by omega
  rw [decide_eq_true hi]
  simp only [tE,kA.v,vP,h,if_true]
 ·have hi:¬ (((n.fdiv 65536 % 4).toNat:Nat):Int)=0:=by omega
  rw [decide_eq_false hi]
  simp only [tV,kA.v,vP,h,if_false]
end Go.Fbs

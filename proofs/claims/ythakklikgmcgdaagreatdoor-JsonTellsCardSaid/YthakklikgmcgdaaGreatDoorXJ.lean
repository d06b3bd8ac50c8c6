import Derived.Test.YthakklikgmcgdaaGreatDoorXI
import Derived.Test.YthakklikgmcgdaaGreatDoorPA
set_option linter.unusedSimpArgs false
set_option linter.unusedVariables false
set_option linter.unusedSectionVars false
set_option maxRecDepth 100000
namespace Go.Fbs
open Go.Proofs Go.RowKit
def wM (c:UInt8):Option UInt8:=if c=34 then some 34 else if c=92 then some 92 else if c=47 then some 47 else if c=98 then some 8 else if c=102 then some 12 else if c=110 then some 10 else if c=114 then some 13 else if c=116 then some 9 else none
def xA (l:List UInt8):Option (UInt8×Nat) :=
 if l.length < 2 then some (0,0) else
 match wM (l.getD 1 0) with
 | some x=>some (x,2)
 | none =>
  if l.getD 1 0≠117∨l.length < 6 then some (0,0)
  else if ((l.take 6).drop 2).all jB=true then (if 127 < gJ ((l.take 6).drop 2) then some (0,0) else some ((gJ ((l.take 6).drop 2)).toUInt8,6))
  else some (0,0)
def qQ:Spec
 | [.int .u8 c]=>if 0≤c∧c < 256 then (match wM c.toNat.toUInt8 with | some x=>some (.tup [.int .u8 x.toNat,.bool true]) | none=>some (.tup [.int .u8 0,.bool false])) else none
 | _=>none
noncomputable abbrev TLs:List (FuncId×Spec):=[(nS,l8)]
theorem aQr (c:UInt8):qQ [.int .u8 c.toNat]=(match wM c with | some x=>some (.tup [.int .u8 x.toNat,.bool true]) | none=>some (.tup [.int .u8 0,.bool false])):=by
 have h:=c.toNat_lt
 have e:((c.toNat:Int)).toNat.toUInt8=c:=by simp
 unfold qQ
 refine (if_pos ⟨by omega,by omega⟩).trans ?_
 rw [e]
theorem aIz:cZ Tryz.prog uF qQ:=by
 refine aIy (T:=TLs) (aH.cons a8p aH.nil) fun args v hv=>?_
 have c1:∀ args,bD TLs nS args=l8 args:=fun _=>rfl
 have hv0:=hv
 unfold qQ at hv
 split at hv <;> simp only [Option.ite_none_right_eq_some,reduceCtorEq] at hv
 rename_i c0
 obtain ⟨⟨h0,h1⟩,hv⟩:=hv
 obtain ⟨c,rfl⟩:∃ c:UInt8,c0=(c.toNat:Int):=⟨c0.toNat.toUInt8,by simp; omega⟩
 have e:((c.toNat:Int)).toNat.toUInt8=c:=by simp
 rw [e] at hv
 clear hv0
 have hF:l8 [.str [34,92,47,98,102,110,114,116],.int .u8 c.toNat]=some (.int .i64 (Lib.indexByte [34,92,47,98,102,110,114,116] c)):=by
  show some (V.int .i64 (Lib.indexByte _ ((c.toNat:Int)).toNat.toUInt8))=_
  rw [e]
 have key:∀ (i:Int) (r:V),Lib.indexByte [34,92,47,98,102,110,114,116] c=i→(if i < 0 then some (V.tup [.int .u8 0,.bool false]) else (cV (.str [34,92,47,8,12,10,13,9]) (.int .i64 i)).map fun y=>V.tup [y,.bool true])=some r→r.bR=true→v=r →
   [V.int .u8 c.toNat].length=1∧aJ [V.int .u8 c.toNat]=true∧v.bR=true∧bK dR (bD TLs) 11 yK [.tmp 2,.tmp 3] (cB Tryz.f66) [V.int .u8 c.toNat] fun x=>x=v:=by
  intro i r hi hr hcano hvr
  subst hvr
  by_cases hneg:i < 0
  ·rw [if_pos hneg] at hr
   cases hr
   refine ⟨rfl,rfl,rfl,?_⟩
   rw [aAo]
   simp only [c1,hF,hi,decide_eq_true hneg,sS,if_true,if_false,reduceCtorEq]
  ·rw [if_neg hneg] at hr
   obtain ⟨y,hy,rfl⟩:=Option.map_eq_some_iff.1 hr
   refine ⟨rfl,rfl,hcano,?_⟩
   rw [aAo]
   simp only [c1,hF,hi,decide_eq_false hneg,hy,sS,if_true,if_false,reduceCtorEq]
 unfold wM at hv
 by_cases h:c=34
 ·subst h; exact key 0 _ rfl rfl rfl (by simpa using hv.symm)
 by_cases h2:c=92
 ·subst h2; exact key 1 _ rfl rfl rfl (by simpa using hv.symm)
 by_cases h3:c=47
 ·subst h3; exact key 2 _ rfl rfl rfl (by simpa using hv.symm)
 by_cases h4:c=98
 ·subst h4; exact key 3 _ rfl rfl rfl (by simpa using hv.symm)
 by_cases h5:c=102
 ·subst h5; exact key 4 _ rfl rfl rfl (by simpa using hv.symm)
 by_cases h6:c=110
 ·subst h6; exact key 5 _ rfl rfl rfl (by simpa using hv.symm)
 by_cases h7:c=114
 ·subst h7; exact key 6 _ rfl rfl rfl (by simpa using hv.symm)
 by_cases h8:c=116
 ·subst h8; exact key 7 _ rfl rfl rfl (by simpa using hv.symm)
 refine key (-1) _ ?_ rfl rfl (by simpa [h,h2,h3,h4,h5,h6,h7,h8] using hv.symm)
 have hne:∀ d:UInt8,¬ c=d→(d == c)=false:=fun d hd=>by simp; exact fun e=>hd e.symm
 simp [Lib.indexByte,hne _ h,hne _ h2,hne _ h3,hne _ h4,hne _ h5,hne _ h6,hne _ h7,hne _ h8]
theorem drop_nil {p:UInt8→Bool} : ∀ {l:List UInt8},l.dropWhile p=[]↔∀ x ∈ l,p x=true
 | []=>by simp
 | c::l=>by
  rw [List.dropWhile_cons]
  by_cases h:p c=true
  ·rw [if_pos h,drop_nil]; simp [h]
  ·rw [if_neg h]; simp [h]
theorem aZ2 {l:List UInt8} (h:6≤l.length):cO (.str l) (some (.int .i64 2)) (some (.int .i64 6))=some (.str ((l.take 6).drop 2)):=by
 have h1:iE (some (.int .i64 6)) l.length l.length=some 6:=by
  unfold iE
  simp; omega
 unfold cO
 simp only [h1]
 rfl
theorem aS3 {s:List UInt8} (h:s.all (nW.contains ·)=true):Lib.trimS s nW=[]:=by
 have h1:∀ l:List UInt8,l.all (nW.contains ·)=true→l.dropWhile (nW.contains ·)=[]:=fun l hl=>by
  rw [drop_nil]
  exact fun x hx=>List.all_eq_true.1 hl x hx
 unfold Lib.trimS Lib.trimLeftS Lib.trimRightS
 rw [h1 s.reverse (by rw [List.all_reverse]; exact h)]; rfl
theorem aWa {s:List UInt8} (h:¬ s.all (nW.contains ·)=true):Lib.trimS s nW≠[]:=by
 intro hn
 unfold Lib.trimS Lib.trimLeftS Lib.trimRightS at hn
 rw [drop_nil] at hn
 refine h (List.all_eq_true.2 fun x hx=>?_)
 by_cases hm:x ∈ (s.reverse.dropWhile (nW.contains ·)).reverse
 ·exact hn x hm
 ·have:x ∈ s.reverse.takeWhile (nW.contains ·):=by
   have h2:x ∈ s.reverse:=List.mem_reverse.2 hx
   rw [← List.takeWhile_append_dropWhile (p:=(nW.contains ·)) (l:=s.reverse)] at h2
   rcases List.mem_append.1 h2 with h3 | h3
   ·exact h3
   ·exact absurd (List.mem_reverse.2 h3) hm
  exact List.all_eq_true.1 (List.all_takeWhile (p:=(nW.contains ·)) (l:=s.reverse)) x this
theorem aZ3:∀ q:_root_.Fin 256,nW.contains (Lib.lowerB (UInt8.ofNat q.val))=jB (UInt8.ofNat q.val):=by decide
theorem aOc (s:List UInt8):(Lib.toLowerA s).all (nW.contains ·)=s.all jB:=by
 unfold Lib.toLowerA
 rw [List.all_map]
 congr 1
 funext c
 have:=aZ3 ⟨c.toNat,c.toNat_lt⟩
 simpa using this
theorem aS4 {c:UInt8} (h:jB c=true):c.toNat < 128:=by
 unfold jB at h
 simp only [Bool.or_eq_true,Bool.and_eq_true,decide_eq_true_eq] at h
 omega
theorem aZ4 {x:List UInt8} (h:¬ x.all jB=true):¬ (Lib.toLowerD x).all (nW.contains ·)=true:=by
 by_cases ha:x.all (fun b=>decide (b.toNat < 128))=true
 ·rw [Lib.toLowerD_ascii x fun b hb=>by simpa using List.all_eq_true.1 ha b hb,aOc]; exact h
 ·obtain ⟨b,hb,hh⟩:=aS0 ha
  intro hall
  have hm:=List.all_eq_true.1 hall b hb
  have key:∀ q:_root_.Fin 256,nW.contains (UInt8.ofNat q.val)=a3s (UInt8.ofNat q.val):=by decide
  have:=key ⟨b.toNat,b.toNat_lt⟩
  simp only [UInt8.ofNat_toNat] at this
  rw [this,hh] at hm; cases hm
theorem aWb {x:List UInt8} (h:x.all jB=true):Lib.toLowerD x=Lib.toLowerA x:=Lib.toLowerD_ascii x fun b hb=>aS4 (List.all_eq_true.1 h b hb)
theorem aOd:∀ (n:Nat) (l:List UInt8),(Lib.mapGoD Lib.toLowerU n l).length≤4*n
 | 0,_=>Nat.le_refl _
 | n+1,l=>by
  rw [Lib.mapGoD]
  split
  ·simp
  ·rw [List.length_append]
   have h1:=aOd n (l.drop (Lib.decodeL l).2)
   have h2:(if 0≤Lib.toLowerU (Lib.decodeL l).1 then Lib.encodeRune (Lib.toLowerU (Lib.decodeL l).1) else []).length≤4:=by
    split
    ·unfold Lib.encodeRune Lib.encodeRuneZ
     rw [List.length_map]
     split; simp; split; simp; split; simp; split <;> simp
    ·simp
   omega
theorem aWc {x:List UInt8} (h:x.length≤1000):(Lib.toLowerD x).length≤1000000:=by
 have:=aOd x.length x
 show (Lib.mapGoD Lib.toLowerU x.length x).length≤_
 omega
def sW:Spec
 | [.str l]=>(xA l).map fun r=>.tup [.int .u8 r.1.toNat,.int .i64 r.2]
 | _=>none
noncomputable abbrev aFg:List (FuncId×Spec):=[(uF,qQ),(pZ,mP),(uZ,qP),(oZ,mC)]
theorem aGv:cZ Tryz.prog sV sW:=by
 refine aGu (T:=aFg) (aH.cons aIz (aH.cons aA1 (aH.cons aFf (aH.cons a9l aH.nil)))) fun args v hv=>?_
 have c1:∀ args,bD aFg uF args=qQ args:=fun _=>rfl
 have c2:∀ args,bD aFg pZ args=mP args:=fun _=>rfl
 have c3:∀ args,bD aFg uZ args=qP args:=fun _=>rfl
 have c4:∀ args,bD aFg oZ args=mC args:=fun _=>rfl
 unfold sW at hv
 split at hv <;> simp only [Option.map_eq_some_iff,reduceCtorEq] at hv
 rename_i l
 obtain ⟨r,hr,rfl⟩:=hv
 refine ⟨rfl,rfl,rfl,?_⟩
 rw [aIx]
 unfold xA at hr
 simp only [sS,if_true,if_false,reduceCtorEq]
 by_cases h2:l.length < 2
 ·rw [if_pos h2] at hr
  cases hr
  rw [decide_eq_true (by omega),if_pos rfl]; rfl
 rw [if_neg h2] at hr
 rw [decide_eq_false (by omega),if_neg (by decide)]
 have hg : l[1]? = some (l.getD 1 0):=by rw [List.getD_eq_getElem?_getD,List.getElem?_eq_getElem (by omega)]; rfl
 have hi:=aHf hg .i64
 replace hi:cV (.str l) (.int .i64 1)=some (.int .u8 (l.getD 1 0).toNat):=hi
 generalize l.getD 1 0=c at hr hi
 clear hg
 simp only [hi,c1,aQr,sS,if_true,if_false,reduceCtorEq]
 cases hs:wM c with
 | some x =>
  rw [hs] at hr
  cases hr
  simp only [sS,if_true,if_false,reduceCtorEq]; rfl
 | none =>
  rw [hs] at hr
  simp only [sS,if_true,if_false,reduceCtorEq]
  simp only [wK,wL,sS,if_true,if_false,reduceCtorEq]
  dsimp only at hr
  by_cases hc:c=117∧6≤l.length
  ·obtain ⟨rfl,h6⟩:=hc
   rw [if_neg (by simp; omega)] at hr
   have hb:(!decide (((117:UInt8).toNat:Int)=117) || decide ((l.length:Int) < 6))=false:=by
    rw [decide_eq_false (show ¬ (l.length:Int) < 6 by omega)]; rfl
   rw [hb]
   have hlen:((l.take 6).drop 2).length=4:=by rw [List.length_drop,List.length_take]; omega
   simp only [aZ2 h6,sS,if_true,if_false,reduceCtorEq]
   generalize (l.take 6).drop 2=x at hr hlen
   have hL:mP [.str x]=some (.str (Lib.toLowerD x)):=if_pos (by omega)
   have hT:(Lib.toLowerD x).length≤1000000→qP [.str (Lib.toLowerD x),.str nW]=some (.str (Lib.trimS (Lib.toLowerD x) nW)):=fun h=>if_pos ⟨rfl,h⟩
   replace hT:=hT (aWc (by omega))
   have hE:[48,49,50,51,52,53,54,55,56,57,97,98,99,100,101,102]=nW:=rfl
   by_cases hx:x.all jB=true
   ·have ht:Lib.trimS (Lib.toLowerD x) nW=[]:=aS3 (by rw [aWb hx,aOc]; exact hx)
    rw [ht] at hT
    rw [if_pos hx] at hr
    have hP:mC [.str x,.int .i64 16,.int .i64 32]=some (.tup [.int .i64 (gJ x),.any]):=if_pos ⟨hlen,hx⟩
    have hlt:=aBx (List.all_eq_true.1 hx) (by omega)
    simp only [c2,hL,hE,c3,hT,c4,hP,sS,if_true,if_false,reduceCtorEq]
    rw [if_neg (by decide)]
    simp only [wK,wL,sS,if_true,if_false,reduceCtorEq]
    by_cases hb2:127 < gJ x
    ·rw [if_pos hb2] at hr
     cases hr
     rw [decide_eq_true (by omega),if_pos rfl]; rfl
    ·rw [if_neg hb2] at hr
     cases hr
     rw [decide_eq_false (by omega),if_neg (by decide)]
     have hw:IntKind.u8.wrap (gJ x:Int)=(gJ x:Int):=by simp [IntKind.wrap,IntKind.signed,IntKind.bits]; omega
     have hv:(((gJ x).toUInt8).toNat:Int)=(gJ x:Int):=by
      have:((gJ x).toUInt8).toNat=gJ x % 256:=rfl
      omega
     rw [hw]
     show V.tup [.int .u8 (gJ x:Int),.int .i64 6]=V.tup [.int .u8 (((gJ x).toUInt8).toNat:Int),.int .i64 6]
     rw [hv]
   ·rw [if_neg hx] at hr
    cases hr
    have ht:Lib.trimS (Lib.toLowerD x) nW≠[]:=aWa (aZ4 hx)
    generalize Lib.trimS (Lib.toLowerD x) nW=y at hT ht
    simp only [c2,hL,hE,c3,hT,sS,if_true,if_false,reduceCtorEq]
    rw [if_pos (by simpa using ht)]; rfl
  ·have hc6:c=117→l.length < 6:=fun h=>Nat.lt_of_not_le fun h6=>hc ⟨h,h6⟩
   rw [if_pos (by by_cases h:c=117; exact .inr (hc6 h); exact .inl h)] at hr
   cases hr
   have hb:(!decide ((c.toNat:Int)=117) || decide ((l.length:Int) < 6))=true:=by
    by_cases h:c=117
    ·have:=hc6 h
     rw [decide_eq_true (show (l.length:Int) < 6 by omega),Bool.or_true]
    ·rw [decide_eq_false (show ¬ (c.toNat:Int)=117 from fun e=>h (UInt8.toNat_inj.1 (by simpa using Int.ofNat.inj e)))]; rfl
   rw [hb]
   simp only [sS,if_true,if_false,reduceCtorEq]
   rfl
end Go.Fbs

import Derived.Test.YthakklikgmcgdaaGreatDoorXBL
import Derived.Test.YthakklikgmcgdaaGreatDoorPS
import Derived.Shelf.Strings.CaseAny
import Derived.Lib.TrimAscii
import Derived.Lib.TrimU
set_option linter.unusedSimpArgs false
set_option linter.unusedVariables false
set_option linter.unusedSectionVars false
set_option maxRecDepth 100000
namespace Go.Fbs
open Go.Proofs Go.RowKit
def aLd (t:Int):Bool:=(48≤t && t≤57) || (97≤t && t≤102)
def aV5 (x:Lib.CaseRow):Bool:=x.2.1 < 128 || (128≤x.1 && (1114111 < x.2.2.2.1 || (x.2.1:Int)+x.2.2.2.1 < 48 || 102 < (x.1:Int)+x.2.2.2.1 || (57 < (x.1:Int)+x.2.2.2.1 && (x.2.1:Int)+x.2.2.2.1 < 97)))
theorem b2y:Lib.caseT.all aV5=true:=by decide
theorem aZz (i:Nat) (hi:i < Lib.caseA.size):aV5 (Lib.caseA.getD i (0,0,0,0,0))=true:=by
 have h:i < Lib.caseT.length:=by simpa [Lib.caseA] using hi
 have e:Lib.caseA.getD i (0,0,0,0,0)=Lib.caseT[i]:=by simp [Lib.caseA,Array.getD,h]
 rw [e]
 exact List.all_eq_true.1 b2y _ (List.getElem_mem h)
theorem aV6 {r:Int} (h:128≤r):aLd (Lib.toLowerU r)=false:=by
 have key:∀ t:Int,(t < 48∨102 < t∨(57 < t∧t < 97))→aLd t=false:=by
  intro t ht
  unfold aLd
  simp only [Bool.or_eq_false_iff,Bool.and_eq_false_iff,decide_eq_false_iff_not]
  omega
 unfold Lib.toLowerU
 rw [if_neg (by omega)]
 unfold Lib.toR Lib.lookupGo
 cases hl:Lib.lookupIdx Lib.caseA r (Lib.caseA.size+1) 0 Lib.caseA.size with
 | none=>exact key r (.inr (.inl (by omega)))
 | some i =>
  obtain ⟨h1,h2,h3⟩:=Lib.lookupIdx_some _ _ _ _ _ _ hl
  have hr:=aZz i h1
  simp only [Option.map_some]
  generalize Lib.caseA.getD i (0,0,0,0,0)=x at h2 h3 hr
  unfold aV5 at hr
  simp only [Bool.or_eq_true,Bool.and_eq_true,decide_eq_true_eq] at hr
  unfold Lib.convertR
  have hd:x.delta 1=x.2.2.2.1:=rfl
  rw [hd]
  apply key
  split <;> omega
def a3s (b:UInt8):Bool:=(48≤b.toNat && b.toNat≤57) || (97≤b.toNat && b.toNat≤102)
theorem a8o {z:Int} (h0:192≤z) (h1:z≤255):a3s z.toNat.toUInt8=false:=by
 have e:(z.toNat.toUInt8).toNat=z.toNat:=by
  have:(z.toNat.toUInt8).toNat=z.toNat % 256:=rfl
  omega
 unfold a3s
 rw [e]
 simp only [Bool.or_eq_false_iff,Bool.and_eq_false_iff,decide_eq_false_iff_not]
 omega
theorem aV7 {t:Int} (h0:0≤t) (h:aLd t=false):∃ b ∈ Lib.encodeRune t,a3s b=false:=by
 unfold Lib.encodeRune Lib.encodeRuneZ
 by_cases h1:0≤t∧t≤127
 ·rw [if_pos h1]
  refine ⟨t.toNat.toUInt8,by simp,?_⟩
  have e:(t.toNat.toUInt8).toNat=t.toNat:=by
   have:(t.toNat.toUInt8).toNat=t.toNat % 256:=rfl
   omega
  unfold aLd at h
  unfold a3s
  rw [e]
  simp only [Bool.or_eq_false_iff,Bool.and_eq_false_iff,decide_eq_false_iff_not] at h ⊢
  omega
 ·rw [if_neg h1]
  by_cases h2:128≤t∧t≤2047
  ·rw [if_pos h2]
   exact ⟨_,List.mem_cons_self ..,a8o (by omega) (by omega)⟩
  ·rw [if_neg h2]
   by_cases h3:(2048≤t∧t < 55296)∨(57343 < t∧t≤65535)
   ·rw [if_pos h3]
    exact ⟨_,List.mem_cons_self ..,a8o (by omega) (by omega)⟩
   ·rw [if_neg h3]
    by_cases h4:65536≤t∧t≤1114111
    ·rw [if_pos h4]
     exact ⟨_,List.mem_cons_self ..,a8o (by omega) (by omega)⟩
    ·rw [if_neg h4]
     exact ⟨_,List.mem_cons_self ..,a8o (by omega) (by omega)⟩
theorem aV8 (s : ByteArray) (h : 128 ≤ (s.get! (0 + 0)).toNat) : 128 ≤ (Utf8.decode s 0).1:=by
 unfold Utf8.decode
 dsimp only
 rw [if_neg (by omega)]
 split
 ·split
  ·assumption
  ·decide
 ·split
  ·split
   ·rename_i hc
    simp only [ge_iff_le,Bool.and_eq_true,decide_eq_true_eq] at hc
    exact Nat.le_trans (by decide) hc.1
   ·decide
  ·split
   ·split
    ·rename_i hc
     simp only [ge_iff_le,Bool.and_eq_true,decide_eq_true_eq] at hc
     exact Nat.le_trans (by decide) hc.1
    ·decide
   ·decide
theorem aSz (b:UInt8) (t:List UInt8) (h:128≤b.toNat):128≤(Lib.decodeL (b::t)).1:=aV8 _ h
theorem aLe:∀ (n:Nat) (l:List UInt8),l.length≤n→(∃ b ∈ l,128≤b.toNat)→∃ b ∈ Lib.mapGoD Lib.toLowerU n l,a3s b=false
 | 0,l,hn,⟨b,hb,_⟩=>by have:l=[]:=List.length_eq_zero_iff.1 (by omega); rw [this] at hb; cases hb
 | n+1,[],_,⟨b,hb,_⟩=>by cases hb
 | n+1,c::l,hn,⟨b,hb,h8⟩=>by
  rw [Lib.mapGoD,if_neg (by simp)]
  by_cases hc:c.toNat < 128
  ·rw [Lib.decodeL_ascii c l hc]
   have hm:∃ b ∈ l,128≤b.toNat:=by
    rcases List.mem_cons.1 hb with rfl | hb
    ·omega
    ·exact ⟨b,hb,h8⟩
   obtain ⟨x,hx,hh⟩:=aLe n l (by simpa using hn) hm
   exact ⟨x,List.mem_append_right _ hx,hh⟩
  ·have hd:=aSz c l (by omega)
   have hr:=Lib.toLowerU_range (Lib.decodeL (c::l)).1 (Lib.decodeL_rune _)
   obtain ⟨x,hx,hh⟩:=aV7 hr.1 (aV6 (r:=((Lib.decodeL (c::l)).1:Int)) (by omega))
   rw [if_pos hr.1]
   exact ⟨x,List.mem_append_left _ hx,hh⟩
theorem aS0 {l:List UInt8} (h:¬ l.all (fun b=>decide (b.toNat < 128))=true):∃ b ∈ Lib.toLowerD l,a3s b=false:=by
 refine aLe l.length l (Nat.le_refl _) ?_
 apply Classical.byContradiction
 intro hn
 refine h (List.all_eq_true.2 fun b hb=>?_)
 have:¬ 128≤b.toNat:=fun h8=>hn ⟨b,hb,h8⟩
 simpa using this
theorem aV9 {w:World} (h:tD w.heap):Lib.CaseVar 3 Lib.caseA w∧Lib.Utf8Tabs 0 1 w:=by
 obtain ⟨S,_,h1,h2,R,oR,cap,h3,h4⟩:=h
 have key : ∀ {b i : Nat} {v : Value},a5d S w.heap b i = some v → w.cell? ⟨b,i,none⟩ = some v:=fun {b i v} e=>by
  unfold a5d at e
  split at e
  ·unfold aW at e
   split at e
   ·rename_i hb; rw [Lib.cell_of_heap hb]; exact e
   ·cases e
  ·cases e
 refine ⟨⟨R,oR,cap,key h3,fun i hi=>?_⟩,fun c hc=>key (h1 c hc),fun i hi=>⟨key (h2 i hi).1,key (h2 i hi).2⟩⟩
 obtain ⟨q0,q1,q2,q3,q4⟩:=h4 i hi
 exact ⟨key q0,key q1,key q2,key q3,key q4⟩
end Go.Fbs

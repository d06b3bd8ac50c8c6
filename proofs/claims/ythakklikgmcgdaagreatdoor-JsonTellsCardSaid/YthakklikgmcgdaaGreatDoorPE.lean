import Derived.Test.YthakklikgmcgdaaGreatDoorPS
import Derived.WalkKit
import Derived.WalkSpells
import Derived.WalkSmall
import Derived.StillTactics
import Derived.OwnWalk
import Derived.Laws.Pointers
import Derived.Laws.OwnMore
import Derived.Deep.LoopGhost
import Derived.Deep.RegionHeld3
import Derived.Deep.RegionLaw
import Derived.Deep.AppendLies
set_option linter.unusedSimpArgs false
set_option linter.unusedVariables false
set_option linter.unusedSectionVars false
set_option maxRecDepth 100000
namespace Go.Fbs
open Go.Proofs Go.RowKit
def Bq (B b:Nat) (l:List UInt8) (w:World):Prop:=Lib.IsBuilderF 55 5 B b (Lib.byteCells l) w
structure Wr (B b:Nat) (w w':World):Prop where
 below:Below B w w'
 kept:Lib.OthersKept 5 (some b) w w'
theorem Wr.trans {B b:Nat} {u v w:World} (h:Wr B b u v) (k:Wr B b v w):Wr B b u w:=⟨h.below.trans k.below,h.kept.trans k.kept⟩
theorem Bq.size {B b:Nat} {l:List UInt8} {w:World} (h:Bq B b l w):B≤b∧b < w.heap.size:=by
 rcases h with ⟨h1,v,h2,_⟩ | ⟨h1,v,h2,_⟩ <;> exact ⟨h1,(Array.getElem?_eq_some_iff.1 h2).1⟩
theorem Bq.alloc {B b:Nat} {l:List UInt8} {w:World} (h:Bq B b l w) (o:Obj):Bq B b l (w.alloc o):=Lib.IsBuilderF.alloc h o
theorem Wr.alloc {B b:Nat} {w:World} (hB:B≤w.heap.size) (o:Obj):Wr B b w (w.alloc o):=⟨(Below.refl B w).alloc hB o,(Lib.OthersKept.refl _ _ w).alloc o⟩
theorem aTe {B b:Nat} {l:List UInt8} {w:World} (h:Bq B b l w):Calls Tryz.prog 36 #[.pointer (some ⟨b,0,none⟩)] w fun e w'=>e = .returned (.int .i64 l.length)∧w'=w:=by
 have:=Any.Builder_Len_f Tryz.aZu B b _ w h
 rw [Lib.byteCells_length] at this
 exact this
theorem sI {B b:Nat} {l:List UInt8} {w:World} (h:Bq B b l w) (c:UInt8) (hl:l.length≤1000000000):Calls Tryz.prog 42 #[.pointer (some ⟨b,0,none⟩),.int .u8 c.toNat] w fun e w'=>e = .returned .nilIface∧Bq B b (l++[c]) w'∧Wr B b w w':=by
 have hs:=h.size
 refine (Any.Builder_WriteByte_k Tryz.aZs Tryz.aCb B b _ c.toNat w h (by rw [Lib.byteCells_length]; omega) (by omega)).mono ?_
 rintro e w' ⟨rfl,h1,h2,h3⟩
 refine ⟨rfl,?_,h2,h3⟩
 show Lib.IsBuilderF 55 5 B b (Lib.byteCells (l++[c])) w'
 rw [Lib.byteCells_append]
 exact .inr h1
theorem rD {B b:Nat} {l:List UInt8} {w:World} (h:Bq B b l w) (s:List UInt8) (hl:l.length≤1000000000) (hs:s.length≤1000000000) :
  Calls Tryz.prog 37 #[.pointer (some ⟨b,0,none⟩),.string ⟨⟨s⟩⟩] w fun e w'=>e = .returned (.tuple #[.int .i64 s.length,.nilIface])∧Bq B b (l++s) w'∧Wr B b w w':=by
 have hz:=h.size
 have hss:(⟨⟨s⟩⟩:ByteArray).size=s.length:=rfl
 refine (Any.Builder_WriteString_k Tryz.aZr Tryz.aCa B b _ ⟨⟨s⟩⟩ w h (by rw [Lib.byteCells_length,hss]; omega) (by omega)).mono ?_
 rintro e w' ⟨rfl,h1,h2,h3⟩
 refine ⟨rfl,?_,h2,h3⟩
 show Lib.IsBuilderF 55 5 B b (Lib.byteCells (l++s)) w'
 rw [Lib.byteCells_append]
 exact .inr h1
theorem aA5 {B b:Nat} {l:List UInt8} {w:World} (h:Bq B b l w):Calls Tryz.prog 20 #[.pointer (some ⟨b,0,none⟩)] w fun e w'=>e = .returned (.string ⟨⟨l⟩⟩)∧Bq B b l w'∧Wr B b w w':=by
 have hz:=h.size
 refine (Any.Builder_String_any_k Tryz.aZt Tryz.aCc B b l w h (by omega)).mono ?_
 rintro e w' ⟨rfl,h1,h2,h3⟩
 exact ⟨rfl,h1,h2,h3⟩
end Go.Fbs

namespace Go.Fbs
open Go.Proofs Go.RowKit
def sJ (n:Nat):UInt8:=([48,49,50,51,52,53,54,55,56,57,97,98,99,100,101,102]:List UInt8).getD n 0
def jR (c:UInt8):List UInt8:=if c=34∨c=92 then [92,c] else if c < 32∨c=127 then [92,117,48,48,sJ (c.toNat / 16),sJ (c.toNat % 16)] else [c]
def iQ (s:List UInt8):List UInt8:=[34]++s.flatMap jR++[34]
theorem aWk (c:UInt8):(jR c).length≤6:=by unfold jR; split; simp; split <;> simp
theorem aB1:∀ s:List UInt8,(s.flatMap jR).length≤6*s.length
 | []=>Nat.le_refl _
 | c::s=>by
  have h1:=aWk c
  have h2:=aB1 s
  rw [List.flatMap_cons,List.length_append,List.length_cons]; omega
theorem aZ5:∀ q:Fin 16,(⟨#[48,49,50,51,52,53,54,55,56,57,97,98,99,100,101,102]⟩:ByteArray).extract q.val (q.val+1)=⟨⟨[sJ q.val]⟩⟩:=by decide
theorem aLq {x:Int} {q:Nat} (h:x=q) (hq:q < 16):(⟨#[48,49,50,51,52,53,54,55,56,57,97,98,99,100,101,102]⟩:ByteArray).extract x.toNat (x+1).toNat=⟨⟨[sJ q]⟩⟩:=by
 have e1:x.toNat=q:=by omega
 have e2:(x+1).toNat=q+1:=by omega
 rw [e1,e2]
 exact aZ5 ⟨q,hq⟩
theorem aWl:∀ q:Fin 256,bits BinOp.and IntKind.u8 (q.val:Int) 15=((q.val % 16:Nat):Int):=by decide
theorem aWm (c:UInt8):bits BinOp.and IntKind.u8 (c.toNat:Int) 15=(c.toNat:Int) % 16:=by
 have:=aWl ⟨c.toNat,c.toNat_lt⟩
 simpa using this
set_option maxHeartbeats 3200000 in
theorem aA6 {B b:Nat} {l:List UInt8} {w:World} (h:Bq B b l w) (s:List UInt8) (hl:l.length≤500000000) (hs:s.length≤50000000) :
  Calls Tryz.prog 38 #[.pointer (some ⟨b,0,none⟩),.string ⟨⟨s⟩⟩] w fun e w'=>e = .returned (.tuple #[])∧Bq B b (l++iQ s) w'∧Wr B b w w':=by
 have hss:(⟨⟨s⟩⟩:ByteArray).size=s.length:=rfl
 go_enter Tryz.func38,Tryz.ntmps38
 go_wp2_with (go_at_call 42; refine (sI h 34 (by omega)).mono ?_; rintro _ W1 ⟨rfl,h1,o1⟩)
 go_loopw [10] (fun i wr=>∃ k:Nat,k≤s.length∧i = .int .i64 k∧Bq B b (l++[34]++(s.take k).flatMap jR) wr∧Wr B b w wr) (fun i _=>s.length - (intOf i).toNat)
 case atStart=>exact ⟨0,Nat.zero_le _,rfl,by simpa using h1,o1⟩
 case round =>
  obtain ⟨k,hk,rfl,h2,o2⟩:=hrel
  have hq:=aB1 (s.take k)
  rw [List.length_take] at hq
  have hll:(l++[34]++(s.take k).flatMap jR).length≤1000000000:=by simp only [List.length_append,List.length_singleton]; omega
  by_cases hlt:k < s.length
  ·have hg : s[k]? = some s[k]:=List.getElem?_eq_getElem hlt
   have hnext:(s.take (k+1)).flatMap jR=(s.take k).flatMap jR++jR s[k]:=by
    rw [List.take_add_one,hg,List.flatMap_append]; simp
   have hlt2:k < (⟨⟨s⟩⟩:ByteArray).size:=hlt
   have hv:((((⟨⟨s⟩⟩:ByteArray)[k]'hlt2).toNat:Int))=(s[k].toNat:Int):=rfl
   have hx:(⟨⟨s⟩⟩:ByteArray).extract k (k+1)=⟨⟨[s[k]]⟩⟩:=by
    apply ByteArray.ext
    apply Array.toList_inj.1
    simp [List.take_one,hg,List.drop_take]
   generalize s[k]=c at hg hnext hv hx
   have hcx:(⟨#[92]⟩:ByteArray)++⟨⟨[c]⟩⟩=⟨⟨[92,c]⟩⟩:=rfl
   by_cases hc1:c=34
   ·subst hc1
    have hq1:jR 34=[92,34]:=rfl
    rw [hq1] at hnext
    replace hv:((((⟨⟨s⟩⟩:ByteArray)[k]'hlt2).toNat:Int))=34:=hv
    go_wp2_with (go_at_call 37; refine (rD h2 [92,34] hll (by decide)).mono ?_; rintro _ W2 ⟨rfl,h3,o3⟩)
    refine ⟨⟨k+1,hlt,by go_num,by rw [hnext,← List.append_assoc]; exact h3,o2.trans o3⟩,by simp [intOf]; omega⟩
   have e1:¬ (c.toNat:Int)=34:=fun e=>hc1 (UInt8.toNat_inj.1 (by simpa using Int.ofNat.inj e))
   by_cases hc2:c=92
   ·subst hc2
    have hq1:jR 92=[92,92]:=rfl
    rw [hq1] at hnext
    replace hv:((((⟨⟨s⟩⟩:ByteArray)[k]'hlt2).toNat:Int))=92:=hv
    go_wp2_with (go_at_call 37; refine (rD h2 [92,92] hll (by decide)).mono ?_; rintro _ W2 ⟨rfl,h3,o3⟩)
    refine ⟨⟨k+1,hlt,by go_num,by rw [hnext,← List.append_assoc]; exact h3,o2.trans o3⟩,by simp [intOf]; omega⟩
   have e2:¬ (c.toNat:Int)=92:=fun e=>hc2 (UInt8.toNat_inj.1 (by simpa using Int.ofNat.inj e))
   have b1:((c.toNat:Int) == 34)=false:=by simpa using e1
   have b2:((c.toNat:Int) == 92)=false:=by simpa using e2
   have h2d:Bq B b (l++[34]++(s.take k).flatMap jR) wr.drew:=h2
   have hc8:=c.toNat_lt
   have q0:(0:Int)≤(c.toNat:Int) / 16:=by omega
   have q1:(c.toNat:Int) / 16+1≤16:=by omega
   have q2:(c.toNat:Int) / 16≤(c.toNat:Int) / 16+1:=by omega
   have q3:IntKind.u8.wrap ((c.toNat:Int) / 16+1)=(c.toNat:Int) / 16+1:=by simp [IntKind.wrap,IntKind.signed,IntKind.bits]; omega
   have q4:=aLq (x:=(c.toNat:Int) / 16) (q:=c.toNat / 16) (by omega) (by omega)
   have r5:=aWm c
   have r0:(0:Int)≤(c.toNat:Int) % 16:=by omega
   have r1:(c.toNat:Int) % 16+1≤16:=by omega
   have r2:(c.toNat:Int) % 16≤(c.toNat:Int) % 16+1:=by omega
   have r3:IntKind.u8.wrap ((c.toNat:Int) % 16+1)=(c.toNat:Int) % 16+1:=by simp [IntKind.wrap,IntKind.signed,IntKind.bits]; omega
   have r4:=aLq (x:=(c.toNat:Int) % 16) (q:=c.toNat % 16) (by omega) (by omega)
   have hj:(⟨#[92,117,48,48]⟩:ByteArray)++⟨⟨[sJ (c.toNat / 16)]⟩⟩++⟨⟨[sJ (c.toNat % 16)]⟩⟩=⟨⟨[92,117,48,48,sJ (c.toNat / 16),sJ (c.toNat % 16)]⟩⟩:=rfl
   by_cases hc3:(c.toNat:Int) < 32
   ·have hq1:jR c=[92,117,48,48,sJ (c.toNat / 16),sJ (c.toNat % 16)]:=by
     unfold jR
     rw [if_neg (by simp [hc1,hc2]),if_pos (.inl (by show c.toNat < 32; omega))]
    rw [hq1] at hnext
    go_wp2
    go_region_law (go_simp; go_at_call 37; refine (rD h2d [92,117,48,48,sJ (c.toNat / 16),sJ (c.toNat % 16)] hll (by simp)).mono ?_; rintro _ W2 ⟨rfl,h3,o3⟩)
    go_wp2
    exact ⟨⟨k+1,hlt,by go_num,by rw [hnext,← List.append_assoc]; exact h3,o2.trans ⟨(Below.drew (Below.refl B wr)).trans o3.below,o3.kept⟩⟩,by simp [intOf]; omega⟩
   by_cases hc4:(c.toNat:Int)=127
   ·have hq1:jR c=[92,117,48,48,sJ (c.toNat / 16),sJ (c.toNat % 16)]:=by
     unfold jR
     rw [if_neg (by simp [hc1,hc2]),if_pos (.inr (UInt8.toNat_inj.1 (by simpa using Int.ofNat.inj hc4)))]
    rw [hq1] at hnext
    have b4:((c.toNat:Int) == 127)=true:=by simpa using hc4
    clear hc4
    go_wp2
    go_region_law (go_simp; go_at_call 37; refine (rD h2d [92,117,48,48,sJ (c.toNat / 16),sJ (c.toNat % 16)] hll (by simp)).mono ?_; rintro _ W2 ⟨rfl,h3,o3⟩)
    go_wp2
    exact ⟨⟨k+1,hlt,by go_num,by rw [hnext,← List.append_assoc]; exact h3,o2.trans ⟨(Below.drew (Below.refl B wr)).trans o3.below,o3.kept⟩⟩,by simp [intOf]; omega⟩
   have b4:((c.toNat:Int) == 127)=false:=by simpa using hc4
   have hq1:jR c=[c]:=by
    unfold jR
    rw [if_neg (by simp [hc1,hc2]),if_neg]
    rintro (h | h)
    ·exact hc3 (by have:c.toNat < 32:=h; omega)
    ·exact hc4 (by rw [h]; rfl)
   rw [hq1] at hnext
   go_wp2_with (go_at_call 42; refine (sI h2 c hll).mono ?_; rintro _ W2 ⟨rfl,h3,o3⟩)
   refine ⟨⟨k+1,hlt,by go_num,by rw [hnext,← List.append_assoc]; exact h3,o2.trans o3⟩,by simp [intOf]; omega⟩
  ·have hke:k=s.length:=by omega
   go_wp2_with (go_at_call 42; refine (sI h2 34 hll).mono ?_; rintro _ W2 ⟨rfl,h3,o3⟩)
   refine ⟨rfl,.tuple #[],by kernel_rfl,rfl,?_,o2.trans o3⟩
   rw [hke,List.take_length] at h3
   unfold iQ
   simpa using h3
end Go.Fbs

namespace Go.Fbs
open Go.Proofs Go.RowKit
def uO (f:Nat→List UInt8→Option (List UInt8)):Nat→Nat→List UInt8→Option (List UInt8)
 | 0,_,l=>some l
 | r+1,i,l=>if l.length≤500000000 then (match f i (if 0 < i then l++[44] else l) with
   | none=>none
   | some l'=>uO f r (i+1) l') else none
def aJb (f:Nat→List UInt8→Option (List UInt8)) (x y:UInt8) (n:Nat) (l:List UInt8):Option (List UInt8) :=
 match uO f n 0 (l++[x]) with
 | none=>none
 | some l'=>if l'.length≤500000000 then some (l'++[y]) else none
structure aWn (f:Nat→List UInt8→Option (List UInt8)) (g:Nat) (caps:Array Value) (B b n:Nat) (Inv:World→Prop):Prop where
 inv:∀ W W',Wr B b W W'→Inv W→Inv W'
 call:∀ W i l l',i < n→f i l=some l'→Bq B b l W→Inv W→Calls Tryz.prog g (#[.int .i64 i]++caps) W fun e W'=>e = .returned (.tuple #[])∧Bq B b l' W'∧Wr B b W W'
set_option maxHeartbeats 3200000 in
theorem aFm {f:Nat→List UInt8→Option (List UInt8)} {g:Nat} {caps:Array Value} {B b n:Nat} {Inv:World→Prop} (ho:aWn f g caps B b n Inv) (eg:∀ args w,(callFunc g args).run Tryz.prog w = .ok (.enter g args) w)
  {x y:UInt8} {l r:List UInt8} (hr:aJb f x y n l=some r) (hl:l.length≤500000000) (hn:n≤1000000000) {w:World} (h:Bq B b l w) (hi:Inv w) :
  Calls Tryz.prog 39 #[.pointer (some ⟨b,0,none⟩),.int .u8 x.toNat,.int .u8 y.toNat,.int .i64 n,.func (.func g) #[] caps] w fun e w'=>e = .returned (.tuple #[])∧Bq B b r w'∧Wr B b w w':=by
 unfold aJb at hr
 cases hq:uO f n 0 (l++[x]) with
 | none=>rw [hq] at hr; cases hr
 | some z =>
 rw [hq] at hr
 simp only [Option.ite_none_right_eq_some,Option.some.injEq] at hr
 obtain ⟨hz,rfl⟩:=hr
 go_enter Tryz.func39,Tryz.ntmps39
 go_wp2_with (go_at_call 42; refine (sI h x (by omega)).mono ?_; rintro _ W1 ⟨rfl,h1,o1⟩)
 go_loopw [15] (fun i wr=>∃ (k:Nat) (m:List UInt8),k≤n∧i = .int .i64 k∧Bq B b m wr∧Wr B b w wr∧uO f (n - k) k m=some z) (fun i _=>n - (intOf i).toNat)
 case atStart=>exact ⟨0,_,Nat.zero_le _,rfl,h1,o1,hq⟩
 case round =>
  obtain ⟨k,m,hk,rfl,h2,o2,hm⟩:=hrel
  by_cases hlt:k < n
  ·rw [show n - k=(n - (k+1))+1 by omega,uO] at hm
   split at hm
   ·rename_i hml
    split at hm
    ·cases hm
    rename_i m' hf
    have hi2:=ho.inv _ _ o2 hi
    have hlt':(k:Int) < (n:Int):=by omega
    by_cases h0:0 < k
    ·rw [if_pos h0] at hf
     have h0':(0:Int) < (k:Int):=by omega
     go_wp2_with (first
      | (go_at_call 42; refine (sI h2 44 (by omega)).mono ?_; rintro _ W2 ⟨rfl,h3,o3⟩)
      | (go_at_fn g; refine (ho.call _ k _ _ hlt hf h3 (ho.inv _ _ o3 hi2)).mono ?_; rintro _ W3 ⟨rfl,h4,o4⟩))
     exact ⟨⟨k+1,m',hlt,by go_num,h4,(o2.trans o3).trans o4,hm⟩,by simp [intOf]; omega⟩
    ·rw [if_neg h0] at hf
     obtain rfl:k=0:=by omega
     go_wp2_with (go_at_fn g; refine (ho.call _ 0 _ _ hlt hf h2 hi2).mono ?_; rintro _ W3 ⟨rfl,h4,o4⟩)
     exact ⟨⟨1,m',hlt,by go_num,h4,o2.trans o4,hm⟩,by simp [intOf]; omega⟩
   ·cases hm
  ·obtain rfl:k=n:=by omega
   rw [Nat.sub_self] at hm
   cases hm
   go_wp2_with (go_at_call 42; refine (sI h2 y (by omega)).mono ?_; rintro _ W2 ⟨rfl,h3,o3⟩)
   exact ⟨rfl,.tuple #[],by kernel_rfl,rfl,h3,o2.trans o3⟩
end Go.Fbs

import Derived.Test.YthakklikgmcgdaaGreatDoorXBL
import Derived.Test.YthakklikgmcgdaaGreatDoorXT
import Derived.Test.YthakklikgmcgdaaGreatDoorJB
import Derived.Test.YthakklikgmcgdaaGreatDoorPS
import Derived.Lib.ConvBytes
import Derived.Shelf.Small.Strs
import Derived.Shelf.Strings.SlTrimAscii
import Derived.Shelf.Strings.OnBuilder
set_option linter.unusedSimpArgs false
set_option linter.unusedVariables false
set_option linter.unusedSectionVars false
set_option maxRecDepth 100000
namespace Go.Fbs
open Go.Proofs Go.RowKit
def jB (c:UInt8):Bool:=(48≤c.toNat && c.toNat≤57) || (97≤c.toNat && c.toNat≤102) || (65≤c.toNat && c.toNat≤70)
def pM (c:UInt8):Nat:=if c.toNat≤57 then c.toNat - 48 else if c.toNat≤70 then c.toNat - 55 else c.toNat - 87
def gJ (l:List UInt8):Nat:=l.foldl (fun n c=>16*n+pM c) 0
theorem aNc (c:Int) (w:World):Calls Tryz.prog 103 #[.int .u8 c] w fun e w'=>e = .returned (.int .u8 (bits BinOp.or IntKind.u8 c 32))∧w'=w:=by
 go_enter Tryz.func103,Tryz.ntmps103
 go_wp2
 go_ret
 exact ⟨rfl,rfl⟩
theorem aZ0:∀ q:_root_.Fin 256,97≤q.val→q.val≤102→bits BinOp.or IntKind.u8 (q.val:Int) 32=(q.val:Int):=by decide
theorem aZ1:∀ q:_root_.Fin 256,65≤q.val→q.val≤70→bits BinOp.or IntKind.u8 (q.val:Int) 32=(q.val:Int)+32:=by decide
theorem aOb {c:UInt8} (h:jB c=true):pM c < 16:=by
 unfold jB at h; unfold pM
 simp only [Bool.or_eq_true,Bool.and_eq_true,decide_eq_true_eq] at h
 split
 ·omega
 ·split <;> omega
theorem aS1 {l : List UInt8} {k : Nat} {c : UInt8} (h : l[k]? = some c) : gJ (l.take (k + 1)) = 16 * gJ (l.take k) + pM c:=by
 rw [List.take_add_one,h]
 simp [gJ,List.foldl_append]
theorem aBx:∀ {l:List UInt8},(∀ c ∈ l,jB c=true)→l.length≤4→gJ l < 65536:=by
 intro l h h4
 have h1:∀ c ∈ l,pM c < 16:=fun c hc=>aOb (h c hc)
 match l,h4 with
 | [],_=>decide
 | [a],_=>have:=h1 a (by simp); simp [gJ]; omega
 | [a,b],_=>have:=h1 a (by simp); have:=h1 b (by simp); simp [gJ]; omega
 | [a,b,c],_=>have:=h1 a (by simp); have:=h1 b (by simp); have:=h1 c (by simp); simp [gJ]; omega
 | [a,b,c,d],_=>have:=h1 a (by simp); have:=h1 b (by simp); have:=h1 c (by simp); have:=h1 d (by simp); simp [gJ]; omega
set_option maxHeartbeats 3200000 in
theorem aQp {l:List UInt8} (h4:l.length=4) (hx:∀ c ∈ l,jB c=true) (w:World) :
  Calls Tryz.prog 93 #[.string ⟨⟨l⟩⟩,.int .i64 16,.int .i64 32] w fun e w'=>e = .returned (.tuple #[.int .u64 (gJ l),.nilIface])∧pU w.heap.size w w':=by
 have hss:(⟨⟨l⟩⟩:ByteArray).size=4:=h4
 have hemp:(⟨⟨l⟩⟩:ByteArray).toList.isEmpty=false:=by
  rw [← decide_eq_emptyBytes]
  exact decide_eq_false (fun h=>absurd hss (by rw [h]; decide))
 have hcv:=Lib.run_convert_string_bytes (P:=Tryz.prog) w 9 43 5 ⟨⟨l⟩⟩ (u:=.string) Tryz.underlying9 Tryz.underlying43 Tryz.underlying5
 have hB : ∀ j,j < 4 → (Lib.bytesWorld w 5 ⟨⟨l⟩⟩).cell? ⟨w.heap.size,j,none⟩ = some (.int .u8 (l.getD j 0).toNat):=fun j hj=>Lib.bytesWorld_cell w 5 ⟨⟨l⟩⟩ j (by rw [hss]; exact hj)
 have hbel:pU w.heap.size w (Lib.bytesWorld w 5 ⟨⟨l⟩⟩):=⟨rfl,rfl,by rw [Lib.bytesWorld_size]; omega,fun k hk=>Lib.bytesWorld_at_old w 5 _ k hk⟩
 rw [hss] at hcv
 obtain ⟨W1,hW1⟩:∃ W1,W1=Lib.bytesWorld w 5 ⟨⟨l⟩⟩:=⟨_,rfl⟩
 rw [← hW1] at hcv hB hbel
 clear hW1
 have hle:l.isEmpty=false:=by cases l with | nil=>simp at h4 | cons a b=>rfl
 go_enter Tryz.func93,Tryz.ntmps93
 go_wp2
 go_loop [12,13,101] (fun vu vn vi=>∃ (k:Nat) (a:Int),vu = .bool false∧vn = .int .u64 a∧vi = .int .i64 k∧k≤4∧a=(gJ (l.take k):Int)) (fun _ _ vi=>4 - (RowKit.intOf vi).toNat)
 case atStart=>exact ⟨0,0,rfl,rfl,rfl,by omega,rfl⟩
 case round =>
  obtain ⟨k,a,rfl,rfl,rfl,hk,ha⟩:=hrel
  have hlt:=aBx (l:=l.take k) (fun c hc=>hx c (List.mem_of_mem_take hc)) (by rw [List.length_take]; omega)
  have a0:0≤a:=by omega
  have a1:a < 65536:=by omega
  by_cases hkn:k < 4
  ·have hc:=hB k hkn
   have hg : l[k]? = some (l.getD k 0):=by rw [List.getD_eq_getElem?_getD,List.getElem?_eq_getElem (by omega)]; rfl
   have hn:=aS1 hg
   have hxc:=hx _ (List.mem_of_getElem? hg)
   have hlt2:=aBx (l:=l.take (k+1)) (fun c hc=>hx c (List.mem_of_mem_take hc)) (by rw [List.length_take]; omega)
   generalize l.getD k 0=c at hc hg hn hxc
   have hv:=aOb hxc
   have hc256:c.toNat < 256:=c.toNat_lt
   clear hB hx hg
   rw [hn] at hlt2
   have hres:((gJ (l.take (k+1)):Nat):Int)=a*16+(pM c:Int):=by rw [hn,ha]; omega
   unfold jB at hxc
   simp only [Bool.or_eq_true,Bool.and_eq_true,decide_eq_true_eq] at hxc
   by_cases hdig:48≤c.toNat∧c.toNat≤57
   ·obtain ⟨hd0,hd1⟩:=hdig
    have e1:(pM c:Int)=(c.toNat:Int) - 48:=by unfold pM; rw [if_pos hd1]; omega
    rw [e1] at hres
    have d0:(48:Int)≤(c.toNat:Int):=by omega
    have d1:(c.toNat:Int)≤57:=by omega
    clear hlt hlt2 ha hn hxc hv e1 hd0 hd1
    go_wp2
    exact ⟨⟨k+1,_,rfl,rfl,(by first | rfl | (congr 1; omega)),by omega,by rw [hres]⟩,by simp [RowKit.intOf]; omega⟩
   ·have d0:¬ (c.toNat:Int)≤57:=by omega
    obtain ⟨x,hx1,hx2,hx3,hx4⟩:∃ x:Int,bits BinOp.or IntKind.u8 (c.toNat:Int) 32=x∧97≤x∧x≤102∧(pM c:Int)=x - 87:=by
     rcases hxc with (h | h) | h
     ·omega
     ·refine ⟨_,aZ0 ⟨c.toNat,hc256⟩ h.1 h.2,by show (97:Int)≤(c.toNat:Int); omega,by show (c.toNat:Int)≤102; omega,?_⟩
      unfold pM
      rw [if_neg (by omega),if_neg (by omega)]
      show _=(c.toNat:Int) - 87
      omega
     ·refine ⟨_,aZ1 ⟨c.toNat,hc256⟩ h.1 h.2,by show (97:Int)≤(c.toNat:Int)+32; omega,by show (c.toNat:Int)+32≤102; omega,?_⟩
      unfold pM
      rw [if_neg (by omega),if_pos (by omega)]
      show _=(c.toNat:Int)+32 - 87
      omega
    have d2:¬ (c.toNat:Int)=95:=by rcases hxc with (h | h) | h <;> omega
    have d2':((c.toNat:Int) == 95)=false:=by simpa using d2
    have d3:x≤122:=by omega
    rw [hx4] at hres
    have w1:IntKind.u8.wrap (x - 97)=x - 97:=by simp [IntKind.wrap,IntKind.signed,IntKind.bits]; omega
    have w2:IntKind.u8.wrap (x - 97+10)=x - 87:=by simp [IntKind.wrap,IntKind.signed,IntKind.bits]; omega
    have hlow:=aNc (c.toNat:Int)
    rw [hx1] at hlow
    clear hlt hlt2 ha hn hxc hv hx4 hdig
    go_wp2_with (go_at_call 103; refine (hlow _).mono ?_; rintro _ W2 ⟨rfl,rfl⟩)
    exact ⟨⟨k+1,_,rfl,rfl,(by first | rfl | (congr 1; omega)),by omega,by rw [hres]⟩,by simp [RowKit.intOf]; omega⟩
  ·obtain rfl:k=4:=by omega
   rw [List.take_of_length_le (by omega)] at ha
   subst ha
   go_wp2
   go_ret2
   exact ⟨rfl,hbel⟩
set_option maxHeartbeats 1600000 in
theorem aS2 {l:List UInt8} (h4:l.length=4) (hx:∀ c ∈ l,jB c=true) (w:World) :
  Calls Tryz.prog 81 #[.string ⟨⟨l⟩⟩,.int .i64 16,.int .i64 32] w fun e w'=>e = .returned (.tuple #[.int .i64 (gJ l),.nilIface])∧pU w.heap.size w w':=by
 have hss:(⟨⟨l⟩⟩:ByteArray).size=4:=h4
 have hle:l.isEmpty=false:=by cases l with | nil=>simp at h4 | cons a b=>rfl
 have hemp:(⟨⟨l⟩⟩:ByteArray).toList.isEmpty=false:=by
  rw [← decide_eq_emptyBytes]
  exact decide_eq_false (fun h=>absurd hss (by rw [h]; decide))
 have h0:0 < (⟨⟨l⟩⟩:ByteArray).size:=by omega
 have hlt:=aBx hx (by omega)
 have hc:=hx (l[0]'(by omega)) (List.getElem_mem _)
 have hv:(((⟨⟨l⟩⟩:ByteArray)[0]'h0).toNat:Int)=((l[0]'(by omega)).toNat:Int):=rfl
 generalize l[0]'(by omega)=c at hc hv
 unfold jB at hc
 simp only [Bool.or_eq_true,Bool.and_eq_true,decide_eq_true_eq] at hc
 have n43:((c.toNat:Int) == 43)=false:=by
  have:¬ (c.toNat:Int)=43:=by rcases hc with (h | h) | h <;> omega
  simpa using this
 have n45:((c.toNat:Int) == 45)=false:=by
  have:¬ (c.toNat:Int)=45:=by rcases hc with (h | h) | h <;> omega
  simpa using this
 have hu:=aQp h4 hx w
 obtain ⟨n,hn⟩:∃ n:Int,n=(gJ l:Int):=⟨_,rfl⟩
 rw [← hn] at hu ⊢
 have n0:0≤n:=by omega
 have n1:n < 2147483648:=by omega
 have n2:¬ 2147483648≤n:=by omega
 have hw:IntKind.i64.wrap n=n:=by simp [IntKind.wrap,IntKind.signed,IntKind.bits]; omega
 clear hn hlt hc hx
 go_enter Tryz.func81,Tryz.ntmps81
 go_wp2_with (go_at_call 93; refine hu.mono ?_; rintro _ W2 ⟨rfl,hb⟩)
 go_ret2
 exact ⟨rfl,hb⟩
set_option maxHeartbeats 1600000 in
theorem aQq {l:List UInt8} (h4:l.length=4) (hx:∀ c ∈ l,jB c=true) (w:World) :
  Calls Tryz.prog 69 #[.string ⟨⟨l⟩⟩,.int .i64 16,.int .i64 32] w fun e w'=>e = .returned (.tuple #[.int .i64 (gJ l),.nilIface])∧pU w.heap.size w w':=by
 have hu:=aS2 h4 hx w
 go_enter Tryz.func69,Tryz.ntmps69
 go_wp2_with (go_at_call 81; refine hu.mono ?_; rintro _ W2 ⟨rfl,hb⟩)
 go_ret2
 exact ⟨rfl,hb⟩
def mC:Spec
 | [.str l,.int .i64 16,.int .i64 32]=>if l.length=4∧l.all jB=true then some (.tup [.int .i64 (gJ l),.any]) else none
 | _=>none
theorem a9l:cZ Tryz.prog oZ mC:=by
 refine ⟨⟨_,_,Tryz.func69,rfl,by kernel_rfl⟩,fun args v hv=>?_⟩
 unfold mC at hv
 split at hv <;> simp only [Option.ite_none_right_eq_some,Option.some.injEq,reduceCtorEq] at hv
 rename_i l
 obtain ⟨⟨h4,hx⟩,rfl⟩:=hv
 refine ⟨fun m=>a8n fun κ w xs r=>?_,rfl⟩
 obtain ⟨x,ys,rfl,r1,r2⟩:=r.inv_cons
 obtain ⟨y,zs,rfl,r3,r4⟩:=r2.inv_cons
 obtain ⟨z,us,rfl,r5,r6⟩:=r4.inv_cons
 obtain rfl:=r6.inv_nil
 obtain rfl:=rep_str r1
 obtain rfl:=rep_int r3
 obtain rfl:=rep_int r5
 refine ⟨_,aQq h4 (List.all_eq_true.1 hx) w,fun h'=>?_⟩
 exact .tup _ [.int .i64 (gJ l),.nilIface] rfl fun i c x hc hx=>by
  match i,hc,hx with
  | 0,hc,hx=>cases hc; cases hx; exact .int _ _
  | 1,hc,hx=>cases hc; cases hx; exact .any _
def l8:Spec
 | [.str s,.int .u8 c]=>some (.int .i64 (Lib.indexByte s c.toNat.toUInt8))
 | _=>none
theorem a8p:cZ Tryz.prog nS l8:=by
 refine ⟨⟨_,_,Tryz.func74,rfl,by kernel_rfl⟩,fun args v hv=>?_⟩
 unfold l8 at hv
 split at hv <;> simp only [Option.some.injEq,reduceCtorEq] at hv
 rename_i s c
 subst hv
 refine ⟨fun m=>a8n fun κ w xs r=>?_,rfl⟩
 obtain ⟨x,ys,rfl,r1,r2⟩:=r.inv_cons
 obtain ⟨y,zs,rfl,r3,r4⟩:=r2.inv_cons
 obtain rfl:=r4.inv_nil
 obtain rfl:=rep_str r1
 obtain rfl:=rep_int r3
 exact ⟨_,(Any.strings_IndexByte Tryz.aZv ⟨⟨s⟩⟩ c w).mono fun e w' ⟨h1,h2⟩=>⟨h1,by rw [h2]; exact pU.refl _ _⟩,fun _=>.int _ _⟩
def nW:List UInt8:=[48,49,50,51,52,53,54,55,56,57,97,98,99,100,101,102]
def qP:Spec
 | [.str s,.str c]=>if c=nW∧s.length≤1000000 then some (.str (Lib.trimS s c)) else none
 | _=>none
theorem aFf:cZ Tryz.prog uZ qP:=by
 refine ⟨⟨_,_,Tryz.func67,rfl,by kernel_rfl⟩,fun args v hv=>?_⟩
 unfold qP at hv
 split at hv <;> simp only [Option.ite_none_right_eq_some,Option.some.injEq,reduceCtorEq] at hv
 rename_i s c
 obtain ⟨⟨rfl,hl⟩,rfl⟩:=hv
 refine ⟨fun m=>a8n fun κ w xs r=>⟨_,(by rw [aHg r]; exact (Any.strings_Trim_laid Tryz.aZw (by kernel_rfl) ⟨⟨s⟩⟩ ⟨⟨nW⟩⟩ w (by show s.length≤_; omega) (by decide) (ascii_of_all (by decide))).mono fun e w' ⟨h1,h2⟩=>⟨h1,pU.of h2⟩),fun _=>.str _⟩,rfl⟩
theorem Tryz.aCg:Go.Proofs.Builder.Extra Tryz.prog Tryz.tC:={ sizeBuilder:=by kernel_rfl,liesBuilder:=by kernel_rfl,t5:=Tryz.underlying5,a5:=Tryz.isAgg5,z5:=Tryz.sizeOf5,v5:=Tryz.zeroValue5,infoByte:=by kernel_rfl,cellsByte:=by kernel_rfl,sizeByte:=by kernel_rfl,neB5:=by decide }
def mP:Spec
 | [.str s]=>if s.length≤1000000 then some (.str (Lib.toLowerD s)) else none
 | _=>none
theorem aA1:cZ Tryz.prog pZ mP:=by
 refine ⟨⟨_,_,Tryz.func68,rfl,by kernel_rfl⟩,fun args v hv=>?_⟩
 unfold mP at hv
 split at hv <;> simp only [Option.ite_none_right_eq_some,Option.some.injEq,reduceCtorEq] at hv
 rename_i s
 obtain ⟨hl,rfl⟩:=hv
 refine ⟨fun m=>aC5 fun κ w xs hT r=>?_,rfl⟩
 obtain ⟨x,ys,rfl,r1,r2⟩:=r.inv_cons
 obtain rfl:=r2.inv_nil
 obtain rfl:=rep_str r1
 obtain ⟨hV,hU⟩:=aV9 hT
 exact ⟨_,(Any.strings_ToLower_any Tryz.aGt Tryz.aCg ⟨⟨s⟩⟩ w (by show s.length < _; omega) hV hU).mono fun e w' ⟨h1,h2⟩=>⟨h1,pU.of h2⟩,fun _=>.str _⟩
end Go.Fbs

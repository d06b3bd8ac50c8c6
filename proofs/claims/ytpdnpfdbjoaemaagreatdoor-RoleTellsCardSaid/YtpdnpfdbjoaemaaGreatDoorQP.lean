import Derived.Test.YtpdnpfdbjoaemaaGreatDoorQO
import Derived.Test.YtpdnpfdbjoaemaaGreatDoorS3
import Derived.Test.YtpdnpfdbjoaemaaGreatDoorS2
import Derived.Test.YtpdnpfdbjoaemaaGreatDoorNShelf
set_option linter.unusedSimpArgs false
set_option linter.unusedVariables false
set_option linter.unusedSectionVars false
set_option maxRecDepth 100000
namespace Go.Fbs
open Go.Proofs
theorem lays_check : Lays.n240 Tryz.prog Tryz.lays156_ren:={ Tryz.lays156 with }
theorem lays_string : Lays.n169 Tryz.prog Tryz.lays169_ren:=Tryz.lays169
theorem bdW_canos {u : Bool} {es : List V} (h : canos es = true) : canos [bdW u es] = true:=by
 simp only [bdW,canos,V.cano,h,Bool.and_self]
theorem bdW_shape {t : Nat} {u : Bool} {es : List V} (r : List AK) (hr : boxKs r = []) : shapeB (outKs (.b 0 [.self t,.gr 1 false] :: r)) [bdW u es] = true:=by
 simp only [outKs,boxKs,hr,List.map_cons,List.map_nil,CK.out,bdW,shapeB,shapeC,List.all_cons,List.all_nil,sc,Bool.and_self]
def F_x_strings_Builder_copyCheck : Spec
 | [.agg [.bool u,.sl .ro es]]=>if canos es = true then some (.tup [bdW true es]) else none
 | _=>none
theorem okx_strings_Builder_copyCheck : SpecE Tryz.prog n_strings_Builder_copyCheck s_x_strings_Builder_copyCheck F_x_strings_Builder_copyCheck:=by
 refine ⟨⟨_,_,Tryz.func40,rfl,by kernel_rfl⟩,fun words v hv=>?_⟩
 unfold F_x_strings_Builder_copyCheck at hv
 split at hv <;> simp only [Option.ite_none_right_eq_some,Option.some.injEq,reduceCtorEq] at hv
 rename_i u es
 obtain ⟨hc,rfl⟩:=hv
 exact ⟨_,rfl,Nat.zero_le _,bdW_canos hc,bdW_canos hc,bdW_shape [] rfl,bd_check lays_check Tryz.Builder_Extra_156.toX72 u hc⟩
def unB : V → Option UInt8
 | .int .u8 n=>if 0 ≤ n ∧ n < 256 then some (UInt8.ofNat n.toNat) else none
 | _=>none
def unBs : List V → Option (List UInt8)
 | []=>some []
 | v :: vs=>match unB v,unBs vs with | some b,some bs=>some (b :: bs) | _,_=>none
theorem unBs_bytV : ∀ (l : List UInt8),unBs (bytV l) = some l
 | []=>rfl
 | c :: l=>by
  have h1 : unB (.int .u8 c.toNat) = some c:=by
   have h2:=c.toNat_lt
   simp only [unB]
   rw [if_pos ⟨by omega,by omega⟩]; simp
  show (match unB (.int .u8 c.toNat),unBs (bytV l) with | some b,some bs=>some (b :: bs) | _,_=>none) = _
  rw [h1,unBs_bytV l]
theorem bytV_unBs : ∀ {vs : List V} {l : List UInt8},unBs vs = some l → vs = bytV l
 | [],l,h=>by simp only [unBs,Option.some.injEq] at h; subst h; rfl
 | v :: vs,l,h=>by
  simp only [unBs] at h
  split at h
  ·rename_i b bs h1 h2
   simp only [Option.some.injEq] at h
   subst h
   have h3:=bytV_unBs h2
   unfold unB at h1
   split at h1
   ·rename_i n
    split at h1
    ·rename_i hn
     simp only [Option.some.injEq] at h1
     subst h1
     show _ = V.int .u8 _ :: bytV bs
     rw [← h3]
     congr 2
     simp
     omega
    ·simp at h1
   ·simp at h1
  ·simp at h
def F_x_strings_Builder_WriteString : Spec
 | [.agg [.bool u,.sl .ro es],.str s] =>
  match unBs es with
  | some l=>if (l.length + s.length) * 2 ≤ 70368744177664 then some (.tup [vI s.length,.any,bdW true (bytV (l ++ s))]) else none
  | none=>none
 | _=>none
theorem bytV_app (l s : List UInt8) : bytV (l ++ s) = bytV l ++ bytV s:=List.map_append ..
theorem bytV_one (l : List UInt8) : (bytV l).all (fun e=>e.cells.length == 1) = true:=List.all_eq_true.2 fun v hv=>by
 obtain ⟨c,_,rfl⟩:=List.mem_map.1 hv
 rfl
theorem appSK_bytV {l s : List UInt8} (h : (l.length + s.length) * 2 ≤ 70368744177664) : appSK 1 (.sl .ro (bytV l)) (.str s) = some (.sl .ro (bytV (l ++ s))):=by
 show appK 1 1 (.sl .ro (bytV l)) (.sl .ro (bytV s)) = _
 unfold appK
 simp only
 rw [if_pos ⟨by simpa [bytV] using h,bytV_one l,bytV_one s⟩,bytV_app]
theorem okx_strings_Builder_WriteString : SpecE Tryz.prog n_strings_Builder_WriteString s_x_strings_Builder_WriteString F_x_strings_Builder_WriteString:=by
 refine go_x_strings_Builder_WriteString (T:=[(x_strings_Builder_copyCheck,F_x_strings_Builder_copyCheck)]) (TabOk.consE okx_strings_Builder_copyCheck TabOk.nil) fun words v hv=>?_
 have c_check : ∀ args,tab [(x_strings_Builder_copyCheck,F_x_strings_Builder_copyCheck)] x_strings_Builder_copyCheck args = F_x_strings_Builder_copyCheck args:=fun _=>rfl
 unfold F_x_strings_Builder_WriteString at hv
 split at hv <;> (try simp only [reduceCtorEq] at hv)
 rename_i u es s
 split at hv <;> simp only [Option.ite_none_right_eq_some,Option.some.injEq,reduceCtorEq] at hv
 rename_i l hl
 obtain ⟨hlen,rfl⟩:=hv
 obtain rfl:=bytV_unBs hl
 refine ⟨_,rfl,rfl,?_,?_,rfl,?_,?_⟩
 ·simp only [canos,V.cano,bytV_canos,Bool.and_self]
 ·simp only [canos,V.cano,bytV_canos,bdW,vI,Bool.and_self]
 ·exact bdW_shape [.v] rfl
 ·rw [e_x_strings_Builder_WriteString]
  simp [sS,if_true,if_false,reduceCtorEq,c_check,F_x_strings_Builder_copyCheck,bytV_canos,bdW,aggK,sc,preK,extractV,chkK,cellD,V.cells,appSK_bytV hlen,vI]
def F_x_strings_Builder_Len : Spec
 | [.agg [.bool u,.sl .ro es]]=>if canos es = true then some (.tup [vI es.length,bdW u es]) else none
 | _=>none
theorem okx_strings_Builder_Len : SpecE Tryz.prog n_strings_Builder_Len s_x_strings_Builder_Len F_x_strings_Builder_Len:=by
 refine go_x_strings_Builder_Len (T:=[]) TabOk.nil fun words v hv=>?_
 unfold F_x_strings_Builder_Len at hv
 split at hv <;> simp only [Option.ite_none_right_eq_some,Option.some.injEq,reduceCtorEq] at hv
 rename_i u es
 obtain ⟨hc,rfl⟩:=hv
 refine ⟨_,rfl,rfl,?_,?_,rfl,?_,?_⟩
 ·exact bdW_canos hc
 ·simp only [canos,V.cano,hc,bdW,vI,Bool.and_self]
 ·exact bdW_shape [] rfl
 ·rw [e_x_strings_Builder_Len]
  simp [sS,if_true,if_false,reduceCtorEq,bdW,aggK,sc,vI]
def F_x_strings_Builder_String : Spec
 | [.agg [.bool u,.sl .ro es]] =>
  match unBs es with
  | some l=>if l ≠ [] ∧ l.length ≤ 140737488355328 then some (.tup [.str l,bdW u (bytV l)]) else none
  | none=>none
 | _=>none
theorem okx_strings_Builder_String : SpecE Tryz.prog n_strings_Builder_String s_x_strings_Builder_String F_x_strings_Builder_String:=by
 refine ⟨⟨_,_,Tryz.func26,rfl,by kernel_rfl⟩,fun words v hv=>?_⟩
 unfold F_x_strings_Builder_String at hv
 split at hv <;> (try simp only [reduceCtorEq] at hv)
 rename_i u es
 split at hv <;> simp only [Option.ite_none_right_eq_some,Option.some.injEq,reduceCtorEq] at hv
 rename_i l hl
 obtain ⟨⟨h0,h63⟩,rfl⟩:=hv
 obtain rfl:=bytV_unBs hl
 refine ⟨_,rfl,Nat.le_succ 1,bdW_canos (bytV_canos l),?_,bdW_shape [] rfl,bd_string lays_string Tryz.Builder_Extra_169 rfl u h0 h63⟩
 simp only [canos,V.cano,bytV_canos,bdW,Bool.and_self]
end Go.Fbs
namespace Go.Fbs
open Go.Proofs
def unS : V → Option (List UInt8)
 | .str s=>some s
 | _=>none
def unSs : List V → Option (List (List UInt8))
 | []=>some []
 | v :: vs=>match unS v,unSs vs with | some b,some bs=>some (b :: bs) | _,_=>none
theorem unSs_txtsV : ∀ (l : List (List UInt8)),unSs (txtsV l) = some l
 | []=>rfl
 | c :: l=>by
  show (match unS (.str c),unSs (txtsV l) with | some b,some bs=>some (b :: bs) | _,_=>none) = _
  rw [unSs_txtsV l]; rfl
theorem txtsV_unSs : ∀ {vs : List V} {l : List (List UInt8)},unSs vs = some l → vs = txtsV l
 | [],l,h=>by simp only [unSs,Option.some.injEq] at h; subst h; rfl
 | v :: vs,l,h=>by
  simp only [unSs] at h
  split at h
  ·rename_i b bs h1 h2
   simp only [Option.some.injEq] at h
   subst h
   have h3:=txtsV_unSs h2
   unfold unS at h1
   split at h1
   ·simp only [Option.some.injEq] at h1
    subst h1
    rw [h3]; rfl
   ·simp at h1
  ·simp at h
def F_strings_Join : Spec
 | [.sl .ro es,.str sep] =>
  match unSs es with
  | some l=>if l.length ≤ 140737488355328 ∧ (Lib.join l sep).length ≤ 140737488355328 then some (.str (Lib.join l sep)) else none
  | none=>none
 | _=>none
theorem ok_strings_Join : SpecL Tryz.prog n_strings_Join F_strings_Join:=by
 refine ⟨⟨_,_,Tryz.func58,rfl,by kernel_rfl⟩,fun args v hv=>?_⟩
 unfold F_strings_Join at hv
 split at hv <;> (try simp only [reduceCtorEq] at hv)
 rename_i es sep
 split at hv <;> simp only [Option.ite_none_right_eq_some,Option.some.injEq,reduceCtorEq] at hv
 rename_i l hl
 obtain ⟨⟨h1,h2⟩,rfl⟩:=hv
 obtain rfl:=txtsV_unSs hl
 exact ⟨fun m=>join_call Tryz.lays156 Tryz.Builder_Extra_156 h1 h2 m,rfl⟩
end Go.Fbs

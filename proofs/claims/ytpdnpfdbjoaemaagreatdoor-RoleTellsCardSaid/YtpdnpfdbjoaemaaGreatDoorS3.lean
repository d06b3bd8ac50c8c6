/- Common texts: values, words, what they answer; no statement of the seat. -/
import Derived.Test.YtpdnpfdbjoaemaaGreatDoorS2
import Derived.Shelf.Strings.Builder1
import Derived.Shelf.Strings.OnBuilder
import Derived.Below
set_option linter.unusedSimpArgs false
set_option linter.unusedVariables false
set_option linter.unusedSectionVars false
/- A text's builder: what its check leaves. -/
namespace Go.Fbs
open Go.Proofs Go.Shelf
def bdSig (t n : Nat) (r : List AK) : Sig:=⟨n,.b 0 [.self t,.gr 1 false] :: r,[]⟩
def bdW (u : Bool) (es : List V) : V:=.agg [.bool u,.sl .ro es]
abbrev bdM (t : Nat) (u : Bool) (es : List V) : Hp:=⟨[.cells (some t) [selfV 0 (.bool u),.sl (.own 0) es]],[(es.length,1)]⟩
theorem bd_open {κ : Ctx} {w : World} {t : Nat} {u : Bool} {es : List V} {xs : List Value} (k : Mem κ w.heap (bdM t u es)) (ra : Reps κ w.heap [.ptr 0 0] xs) :
  ∃ b p v,κ.box 0 = some b ∧ xs = [.pointer (some ⟨b,0,none⟩)] ∧ w.heap[b]? = some (.cells ⟨[p,v]⟩ t (0,0)) ∧ (p = bif u then .pointer (some ⟨b,0,none⟩) else .pointer none) ∧ Rep κ w.heap (.sl (.own 0) es) v ∧ v.oneCell' = true:=by
 obtain ⟨x,_,rfl,rx,r0⟩:=ra.inv_cons
 obtain rfl:=r0.inv_nil
 obtain ⟨b,hb,rfl⟩:=rep_ptr rx
 obtain ⟨_,h1,ys,E,rfl,h2,h3,h4⟩:=k.2.1.2 0 b _ hb rfl
 have hE:=h4 _ rfl
 subst hE
 obtain ⟨p,_,rfl,rp,r1⟩:=h2.inv_cons
 obtain ⟨v,_,rfl,rv,r2⟩:=r1.inv_cons
 obtain rfl:=r2.inv_nil
 refine ⟨b,p,v,hb,rfl,h1,?_,rv,h3 v (by simp)⟩
 cases u with
 | true =>
  have rp : Rep κ w.heap (.ptr 0 0) p:=rp
  obtain ⟨b',hb',rfl⟩:=rep_ptr rp
  rw [hb] at hb'
  simp only [Option.some.injEq] at hb'
  rw [hb']; rfl
 | false=>exact rep_nilp rp
theorem bd_end {t : Nat} {u : Bool} {es : List V} (hc : canos es = true) (n : Nat) (r : List AK) (hr : boxKs r = []) : EndOk (bdM t u es) (outKs (bdSig t n r).as) [bdW u es]:=by
 refine ⟨[.own 0],?_,fun i j n h1 h2=>?_⟩
 ·have he : es.map V.erA = es:=by rw [← erAs_map]; exact (canos_plain hc).2
  simp only [outKs,bdSig,boxKs,hr,List.map_cons,List.map_nil,CK.out,endB,List.getElem?_cons_zero,inCT,tyFit,tyK,beq_self_eq_true,if_true]
  cases u <;> simp [selfV,inC,he,bdW]
 ·cases i <;> cases j <;> simp at h1 h2 ⊢
theorem bd_check {P : Program} {ρ : Ren} (L : Lays.n240 P ρ) (X : Builder.X72 P ρ) (u : Bool) {es : List V} (hc : canos es = true) :
  Callee P (ρ.f 240) (bdSig (ρ.t 72) 0 []) [bdW u es] [bdW true es]:=by
 intro κ w xs k ra
 have k : Mem κ w.heap (bdM (ρ.t 72) u es):=k
 obtain ⟨b,p,v,hb,rfl,h1,hp,rv,ho⟩:=bd_open k ra
 cases u with
 | true =>
  have h0 : w.cell? ⟨b,0,none⟩ = some (.pointer (some ⟨b,0,none⟩)):=by rw [Lib.cell_of_heap h1,hp]; rfl
  refine (Any.Builder_copyCheck_used L X b w h0).mono ?_
  rintro e w' ⟨rfl,rfl⟩
  exact ⟨_,κ,_,rfl,Ext.refl k,.tup [] [] rfl (fun i c x h=>by simp at h),bd_end hc 0 [] rfl⟩
 | false =>
  have h0 : w.cell? ⟨b,0,none⟩ = some (.pointer none):=by rw [Lib.cell_of_heap h1,hp]; rfl
  have hsh : w.shape? b = some (ρ.t 72,2):=by simp [World.shape?,h1]
  have hfz : w.frozen? ⟨b,0,none⟩ = false:=Lib.frozen_of_heap h1 0
  refine (Any.Builder_copyCheck_fresh L X b w h0 hsh hfz).mono ?_
  rintro e w' ⟨rfl,rfl⟩
  obtain ⟨g1,g2⟩:=setCells_heap b (ρ.t 72) [.pointer (some ⟨b,0,none⟩)] 0 w ⟨[p,v]⟩ h1 (by simp)
  have hsc : w.setCells b 0 [.pointer (some ⟨b,0,none⟩)] = w.setCell ⟨b,0,none⟩ (.pointer (some ⟨b,0,none⟩)):=rfl
  rw [hsc] at g1 g2
  obtain ⟨l1,l2⟩:=mem_store (c:=.cells (some (ρ.t 72)) [.ptr 0 0,.sl (.own 0) es]) k hb g2 g1 ⟨_,_,rfl,by
   exact Reps.cons (.ptr 0 0 b hb) (Reps.cons rv Reps.nil),fun x hx=>by
    simp only [List.take_zero,List.nil_append,List.length_singleton,Nat.zero_add,List.cons_append,List.drop_succ_cons,List.drop_zero,List.mem_cons,List.not_mem_nil,or_false] at hx
    rcases hx with rfl | rfl
    ·rfl
    ·exact ho,fun q hq=>by simpa using hq⟩
  exact ⟨_,κ,_,rfl,LeW.ext ⟨l1,rfl,⟨rfl,by simp [World.setCell]⟩⟩ l2 (Nat.le_refl 1),.tup [] [] rfl (fun i c x h=>by simp at h),bd_end (t:=ρ.t 72) (u:=true) hc 0 [] rfl⟩
end Go.Fbs
namespace Go.Fbs
open Go.Proofs Go.Shelf
theorem freeze_heap (w : World) (p : Addr) (n : Nat) : (w.drew.freeze p n).heap = (w.freeze p n).heap:=by
 unfold World.freeze
 split <;> rfl
set_option maxHeartbeats 1000000 in
set_option maxRecDepth 100000 in
theorem bd_str_row {P : Program} {ρ : Ren} (L : Lays.n169 P ρ) (X : Builder.Extra P ρ) (b g cap : Nat) (p : Value) (l : List UInt8) (cur : Array Value) (fr : Nat × Nat) (w : World) (h0 : l ≠ []) (h63 : l.length ≤ 140737488355328)
  (hbk : w.heap[b]? = some (.cells #[p,.slice (some ⟨g,0,none⟩) l.length cap] (ρ.t 72) (0,0))) (hg : w.heap[g]? = some (.cells cur (ρ.t 5) fr)) (hnc : l.length ≤ cap) (hcs : cap ≤ cur.size)
  (hcell : ∀ j x,l[j]? = some x → w.cell? ((⟨g,0,none⟩ : Addr).add j) = some (.int .u8 x.toNat)) :
  Calls P (ρ.f 169) #[.pointer (some ⟨b,0,none⟩)] w fun e w'=>e = .returned (.string ⟨l.toArray⟩) ∧ w'.heap = (w.freeze ⟨g,0,none⟩ l.length).heap ∧ w'.os = w.os ∧ w'.output = w.output:=by
 have hl0 : l.length ≠ 0:=by simpa using h0
 have c1 : w.drew.cell? ⟨b,1,none⟩ = some (.slice (some ⟨g,0,none⟩) l.length cap):=by
  have : w.drew.heap[b]? = some (.cells #[p,.slice (some ⟨g,0,none⟩) l.length cap] (ρ.t 72) (0,0)):=hbk
  rw [Lib.cell_of_heap this]; rfl
 have hSD : (Builtin.unsafeSliceData_ #[(ρ.t 37)] (ρ.t 127) #[.slice (some ⟨g,0,none⟩) l.length cap]).run P w.drew = .ok (.pointer (some ⟨g,0,none⟩)) w.drew :=
  Lib.run_unsafeSliceData_row _ _ _ _ _ _ (by omega)
 have hUS : (Builtin.unsafeString_ #[(ρ.t 127),(ρ.t 3)] (ρ.t 9) #[.pointer (some ⟨g,0,none⟩),.int .i64 l.length]).run P w.drew = .ok (.string ⟨l.toArray⟩) (w.drew.freeze ⟨g,0,none⟩ l.length):=by
  refine Lib.run_unsafeString_row w.drew (ρ.t 127) (ρ.t 3) (ρ.t 9) (ρ.t 5) L.t127 X.cellsByte g cur.size (by have hg' : w.drew.heap[g]? = some (.cells cur (ρ.t 5) fr):=hg; simp [World.shape?,hg']) l h0 (by omega) (by omega) ?_
  intro j x hx
  exact hcell j x hx
 have mixed:=L.mixed
 have t72:=L.t72; have a72:=L.a72; have z72:=L.z72; have v72:=L.v72; have u72:=run_underlying L.t72
 have t70:=L.t70; have a70:=L.a70; have z70:=L.z70; have v70:=L.v70; have u70:=run_underlying L.t70
 have t37:=L.t37; have a37:=L.a37; have z37:=L.z37; have v37:=L.v37; have u37:=run_underlying L.t37
 have t127:=L.t127; have a127:=L.a127; have z127:=L.z127; have v127:=L.v127; have u127:=run_underlying L.t127
 have t3:=L.t3; have a3:=L.a3; have z3:=L.z3; have v3:=L.v3; have u3:=run_underlying L.t3
 have t9:=L.t9; have a9:=L.a9; have z9:=L.z9; have v9:=L.v9; have u9:=run_underlying L.t9
 have t5:=X.t5; have a5:=X.a5; have z5:=X.z5; have v5:=X.v5; have u5:=run_underlying X.t5
 go_enter L.f169,Body.n169_ntmps ρ
 go_wp2
 go_region_o
 all_goals (go_wp2; go_ret; exact ⟨rfl,freeze_heap w _ _,by unfold World.freeze; split <;> rfl,by unfold World.freeze; split <;> rfl⟩)
end Go.Fbs
namespace Go.Fbs
open Go.Proofs Go.Shelf
theorem mem_frozen {κ : Ctx} {h h' : Heap} {m : Hp} (k : Mem κ h m) {i : Nat} {L : Lease} (hL : κ.lease[i]? = some L) (hk : L.kind = .real) (o : Only h h' L.blk) {c : Array Value} {E : TypeId} {fr fr' : Nat × Nat}
  (h1 : h[L.blk]? = some (.cells c E fr)) (h2 : h'[L.blk]? = some (.cells c E fr')) (hfr : fr'.2 ≤ L.n * L.sz) : LeB κ h κ h' ∧ Mem κ h' m:=by
 obtain ⟨ok,hp,hT⟩:=k
 have hmem:=List.mem_of_getElem? hL
 have le : Le κ h κ h':=by
  refine ⟨by rw [o.size]; exact Nat.le_refl _,fun b hb hn=>o.same b (fun e=>hn (.inr ⟨L,hmem,hk,e.symm⟩)),fun _ _ _=>rfl,fun b j x hj hc=>?_,fun _=>Nat.le_refl _,fun _ _ h=>h,fun _ h=>.inl h,fun _ M h=>⟨M,h,.inl rfl⟩,fun M h hk=>.inl ⟨M,h,hk,rfl⟩⟩
  by_cases hb : b = L.blk
  ·subst hb
   unfold hcell at hc ⊢
   rw [h1] at hc; rw [h2]; exact hc
  ·unfold hcell; rw [o.same b hb]; exact hc
 refine ⟨⟨le,rfl⟩,⟨?_,hp.mono le rfl (fun b hb=>o.same b (fun (e : b = L.blk)=>ok.lbox L hmem hk (by rw [← e]; exact hb))),hT⟩⟩
 refine ⟨fun b hb=>by rw [o.size]; exact ok.boxlt b hb,ok.boxhw,ok.boxnd,fun M hM hMk=>by rw [o.size]; exact ok.lblt M hM hMk,ok.lhw,ok.lnd,ok.lbox,fun M hM hMk=>?_,fun b hb=>ok.fresh b (by rw [← o.size]; exact hb),ok.lfull,ok.lbt,ok.tbs.le le⟩
 obtain ⟨c',E',f',q1,q2,q3,q4⟩:=ok.lcells M hM hMk
 by_cases hb : M.blk = L.blk
 ·obtain ⟨j,hj⟩:=List.mem_iff_getElem?.1 hM
  have:=ok.lnd j i M L hj hL hMk hk hb
  subst this
  rw [hL] at hj
  simp only [Option.some.injEq] at hj
  subst hj
  rw [h1] at q1
  simp only [Option.some.injEq,Obj.cells.injEq] at q1
  obtain ⟨rfl,rfl,rfl⟩:=q1
  exact ⟨c,E,fr',h2,q2,hfr,q4⟩
 ·exact ⟨c',E',f',by rw [o.same _ hb]; exact q1,q2,q3,q4⟩
def bytV (l : List UInt8) : List V:=l.map fun c=>V.int .u8 c.toNat
theorem bytV_flat (l : List UInt8) : flat (bytV l) = bytV l:=by
 unfold flat bytV
 induction l with
 | nil=>rfl
 | cons c l ih=>simp only [List.map_cons,List.flatMap_cons,ih]; rfl
theorem bytV_canos (l : List UInt8) : canos (bytV l) = true:=canos_iff.2 fun v hv=>by
 obtain ⟨c,_,rfl⟩:=List.mem_map.1 hv
 rfl
theorem freeze_only {w : World} {g n : Nat} {c : Array Value} {E : TypeId} {fr : Nat × Nat} (hn : n ≠ 0) (hg : w.heap[g]? = some (.cells c E fr)) (hfr : fr.2 ≤ n) :
  Only w.heap (w.freeze ⟨g,0,none⟩ n).heap g ∧ ∃ fr',(w.freeze ⟨g,0,none⟩ n).heap[g]? = some (.cells c E fr') ∧ fr'.2 ≤ n:=by
 obtain ⟨lo,hi⟩:=fr
 unfold World.freeze
 rw [if_neg hn]
 refine ⟨⟨by simp,fun i hi=>?_⟩,?_⟩
 ·simp only
  rw [Array.getElem?_modify,if_neg (fun e=>hi e.symm)]
 ·simp only
  rw [Array.getElem?_modify,if_pos rfl,hg]
  simp only [Option.map_some]
  refine ⟨_,rfl,?_⟩
  split
  ·simp
  ·simp only; omega
theorem bd_string {P : Program} {ρ : Ren} (L : Lays.n169 P ρ) (X : Builder.Extra P ρ) (h5 : ρ.t 5 = tyB) (u : Bool) {l : List UInt8} (h0 : l ≠ []) (h63 : l.length ≤ 140737488355328) :
  Callee P (ρ.f 169) (bdSig (ρ.t 72) 1 []) [bdW u (bytV l)] [.str l,bdW u (bytV l)]:=by
 intro κ w xs k ra
 have k : Mem κ w.heap (bdM (ρ.t 72) u (bytV l)):=k
 obtain ⟨b,p,v,hb,rfl,h1,hp,rv,ho⟩:=bd_open k ra
 have hlen : (bytV l).length = l.length:=List.length_map ..
 obtain ⟨M,hM,hMt⟩ : ∃ M,κ.lease[0]? = some M ∧ M.told = (l.length,1):=by
  have h2 : (κ.lease.map Lease.told)[0]? = some ((bytV l).length,1):=by rw [k.2.2]; rfl
  rw [List.getElem?_map,Option.map_eq_some_iff,hlen] at h2
  exact h2
 have hl0 : l.length ≠ 0:=by simpa using h0
 have hMm:=List.mem_of_getElem? hM
 have hMd : M.kind ≠ .dead:=fun hk=>by
  unfold Lease.told at hMt
  rw [if_pos hk] at hMt
  simp only [Prod.mk.injEq] at hMt
  omega
 unfold Lease.told at hMt
 rw [if_neg hMd] at hMt
 simp only [Prod.mk.injEq] at hMt
 have hbt:=cd_one hMt.2
 have hsz:=k.1.lbt M hMm hbt
 have hMr : M.kind = .real:=by
  cases hk : M.kind with
  | real=>rfl
  | dead=>exact absurd hk hMd
  | full=>have:=k.1.lfull M hMm hk hbt; omega
 rcases rep_sl rv with ⟨he,_,_⟩ | ⟨g,off,cap,sz',zs,hx,hun,hr,hcap,htag,rfl⟩
 ·exact absurd (congrArg List.length he) (by rw [hlen]; simpa using hl0)
 obtain ⟨M',hM',hreal,_⟩:=htag
 rw [hM] at hM'
 simp only [Option.some.injEq] at hM'
 subst hM'
 obtain ⟨_,hat⟩:=hreal hMr
 obtain ⟨rfl,rfl,rfl,rfl⟩:=hat (by rw [hlen]; exact hMt.1.symm)
 obtain ⟨c,E,fr,q1,q2,q3,q4,q5⟩:=k.1.lcells M hMm hMr
 have hE:=q2 hbt
 rw [← h5] at hE
 subst hE
 rw [hsz,Nat.mul_one] at q3 q4
 rw [hMt.1] at q3
 rw [hlen] at h1 hcap
 have hcell : ∀ j x,l[j]? = some x → w.cell? ((⟨M.blk,0,none⟩ : Addr).add j) = some (.int .u8 x.toNat):=by
  intro j x hj
  have hfl:=bytV_flat l
  rw [hfl] at hr
  have hj' : (bytV l)[j]? = some (.int .u8 x.toNat):=by unfold bytV; rw [List.getElem?_map,hj]; rfl
  have hlt : j < zs.length:=by rw [hr.1]; exact (List.getElem?_eq_some_iff.1 hj').1
  have hz:=List.getElem?_eq_getElem hlt
  have r2:=hr.2 j _ _ hj' hz
  obtain ⟨_,hc,_⟩:=hx j _ hz
  have : (⟨M.blk,0,none⟩ : Addr).add j = ⟨M.blk,0 + j,none⟩:=by unfold Addr.add; split <;> simp_all
  rw [this,cell?_eq,hc,rep_int r2]
 refine (bd_str_row L X b M.blk M.cap p l c fr w h0 h63 h1 q1 hcap q4 hcell).mono ?_
 rintro e w' ⟨rfl,hh,hos,hout⟩
 obtain ⟨f1,fr',f2,f3⟩:=freeze_only hl0 q1 q3
 rw [← hh] at f1 f2
 obtain ⟨l1,l2⟩:=mem_frozen k hM hMr f1 q1 f2 (by rw [hsz,Nat.mul_one,hMt.1]; exact f3)
 exact ⟨_,κ,_,rfl,LeW.ext ⟨l1,hos,⟨hout,by rw [f1.size]; exact Nat.le_refl _⟩⟩ l2 (Nat.le_refl _),.str l,bd_end (bytV_canos l) 1 [] rfl⟩
end Go.Fbs
namespace Go.Fbs
open Go.Proofs Go.Shelf Go.RowKit
theorem le_below {κ : Ctx} {h h' : Heap} (hs : h.size ≤ h'.size) (hb : ∀ k,k < h.size → h'[k]? = h[k]?) : Le κ h κ h' where
 size:=hs
 same b hb' _:=hb b hb'
 hwsame _ _ _:=rfl
 sealed b i x _ hc:=by
  have hlt : b < h.size:=hcell_lt hc
  unfold hcell at hc ⊢
  rw [hb b hlt]; exact hc
 hw _:=Nat.le_refl _
 box _ _ h:=h
 newbox _ h:=.inl h
 lease _ L h:=⟨L,h,.inl rfl⟩
 newlease L h hk:=.inl ⟨L,h,hk,rfl⟩
theorem mem_below {κ : Ctx} {h h' : Heap} {m : Hp} (k : Mem κ h m) (hs : h.size ≤ h'.size) (hb : ∀ k,k < h.size → h'[k]? = h[k]?) : Mem κ h' m:=by
 obtain ⟨ok,hp,ht⟩:=k
 refine ⟨⟨fun b h=>Nat.lt_of_lt_of_le (ok.boxlt b h) hs,ok.boxhw,ok.boxnd,fun L h hk=>Nat.lt_of_lt_of_le (ok.lblt L h hk) hs,ok.lhw,ok.lnd,ok.lbox,fun L h hv=>?_,fun b h=>ok.fresh b (Nat.le_trans hs h),ok.lfull,ok.lbt,ok.tbs.le (le_below hs hb)⟩,?_,ht⟩
 ·obtain ⟨c,E,fr,h1,h2⟩:=ok.lcells L h hv
  exact ⟨c,E,fr,by rw [hb _ (ok.lblt L h (nf hv))]; exact h1,h2⟩
 ·exact hp.mono (le_below hs hb) rfl fun b h=>hb b (ok.boxlt b h)
theorem callOk_below {P : Program} {f : FuncId} {args : List V} {m : Hp} {v : V} (h : ∀ (κ : Ctx) (w : World) (xs : List Value),Reps κ w.heap args xs → ∃ x,Calls P f ⟨xs⟩ w (fun e w'=>e = .returned x ∧ Below w.heap.size w w') ∧ ∀ h',Rep κ h' v x) : CallOk P f args m v m:=by
 intro κ w xs k r
 obtain ⟨x,c,rx⟩:=h κ w xs r
 refine c.mono fun e w' ⟨he,hw⟩=>?_
 exact ⟨x,κ,he,⟨le_below hw.size hw.block,mem_below k hw.size hw.block,Nat.le_refl _,fun _ _ h=>h,hw.os,hw.output,hw.size⟩,rx _⟩
def txtsV (l : List (List UInt8)) : List V:=l.map V.str
theorem txtsV_flat (l : List (List UInt8)) : flat (txtsV l) = txtsV l:=by
 unfold flat txtsV
 induction l with
 | nil=>rfl
 | cons c l ih=>simp only [List.map_cons,List.flatMap_cons,ih]; rfl
theorem join_call {P : Program} {ρ : Ren} (L : Lays.n156 P ρ) (X : Builder.Extra P ρ) {l : List (List UInt8)} {sep : List UInt8} (hN : l.length ≤ 140737488355328) (hlen : (Lib.join l sep).length ≤ 140737488355328) (m : Hp) :
  CallOk P (ρ.f 156) [.sl .ro (txtsV l),.str sep] m (.str (Lib.join l sep)) m:=by
 refine callOk_below fun κ w xs r=>?_
 obtain ⟨x,ys,rfl,r1,r2⟩:=r.inv_cons
 obtain ⟨y,zs,rfl,r3,r4⟩:=r2.inv_cons
 obtain rfl:=r4.inv_nil
 obtain rfl:=rep_str r3
 have hl : (txtsV l).length = l.length:=List.length_map ..
 have none_ : ∀ a c,l = [] → x = .slice a 0 c → ∃ x',Calls P (ρ.f 156) ⟨[x,.string ⟨⟨sep⟩⟩]⟩ w (fun e w'=>e = .returned x' ∧ Below w.heap.size w w') ∧ ∀ h',Rep κ h' (.str (Lib.join l sep)) x':=by
  rintro a c rfl rfl
  refine ⟨.string ⟨#[]⟩,(Any.strings_Join_none L X a c ⟨⟨sep⟩⟩ w).mono fun e w' ⟨he,hw⟩=>⟨he,by rw [hw]; exact Below.refl _ _⟩,fun h'=>.str []⟩
 rcases rep_sl r1 with ⟨he,hx,_⟩ | ⟨b,off,cap,sz,vs,hb,_,hr,hcap,_,hx⟩
 ·exact none_ none 0 (List.map_eq_nil_iff.1 he) hx
 by_cases h0 : l = []
 ·exact none_ (some ⟨b,off,none⟩) cap h0 (by rw [hx,h0]; rfl)
 have hcell : ∀ (j : Nat) s,(l.map fun s=>(⟨⟨s⟩⟩ : ByteArray))[j]? = some s → w.cell? ⟨b,off + j,none⟩ = some (.string s):=by
  intro j s hj
  rw [List.getElem?_map,Option.map_eq_some_iff] at hj
  obtain ⟨s0,hj,rfl⟩:=hj
  rw [txtsV_flat] at hr
  have hj' : (txtsV l)[j]? = some (.str s0):=by unfold txtsV; rw [List.getElem?_map,hj]; rfl
  have hlt : j < vs.length:=by rw [hr.1]; exact (List.getElem?_eq_some_iff.1 hj').1
  have hz:=List.getElem?_eq_getElem hlt
  have r5:=hr.2 j _ _ hj' hz
  obtain ⟨_,hc,_⟩:=hb j _ hz
  rw [cell?_eq,hc,rep_str r5]
 have hbk : b < w.heap.size:=by
  obtain ⟨s0,t,rfl⟩:=List.exists_cons_of_ne_nil h0
  have:=hcell 0 _ rfl
  rw [cell?_eq] at this
  exact hcell_lt this
 have hmm : (l.map fun s=>(⟨⟨s⟩⟩ : ByteArray)).map (·.data.toList) = l:=by
  rw [List.map_map]; exact List.map_id l
 have c:=Any.strings_Join L X b off cap (l.map fun s=>⟨⟨s⟩⟩) ⟨⟨sep⟩⟩ w hcell hbk (by rw [List.length_map]; exact hN) (by rw [List.length_map,← hl]; exact hcap) (by rw [hmm]; exact hlen)
 rw [hmm,List.length_map] at c
 rw [hl] at hx
 rw [hx]
 exact ⟨_,c,fun h'=>.str _⟩
end Go.Fbs

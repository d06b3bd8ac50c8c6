import Derived.Test.YtnmcilaebamncaaPA
import Derived.Test.YtnmcilaebamncaaLT
import Derived.Test.YtnmcilaebamncaaS3
import Derived.Test.YtnmcilaebamncaaS2
import Derived.WalkKit
import Derived.WalkSpells
import Derived.WalkSmall
import Derived.StillTactics
import Derived.OwnWalk
import Derived.Laws.Pointers
import Derived.Laws.OwnMore
import Derived.Deep.RegionHeld3
import Derived.Deep.AppendLies
import Derived.Deep.RegionLaw
import Derived.Test.YtnmcilaebamncaaKA
set_option maxRecDepth 100000
namespace Go.Fbs
open Go.Proofs Go.RowKit
structure Bel (B : Nat) (w w' : World) : Prop where
 os : w'.os = w.os
 output : w'.output = w.output
 size : w.heap.size ≤ w'.heap.size
 block : ∀ k,k < B → w'.heap[k]? = w.heap[k]?
theorem Bel.refl (B : Nat) (w : World) : Bel B w w:=⟨rfl,rfl,Nat.le_refl _,fun _ _=>rfl⟩
theorem Bel.trans {B : Nat} {a b c : World} (h : Bel B a b) (k : Bel B b c) : Bel B a c :=
 ⟨k.os.trans h.os,k.output.trans h.output,Nat.le_trans h.size k.size,fun i hi=>(k.block i hi).trans (h.block i hi)⟩
theorem Bel.mono {B C : Nat} {a b : World} (h : Bel C a b) (hb : B ≤ C) : Bel B a b:=⟨h.os,h.output,h.size,fun k hk=>h.block k (by omega)⟩
theorem Bel.of {B : Nat} {a b : World} (h : Below B a b) : Bel B a b:=⟨h.os,h.output,h.size,h.block⟩
theorem Bel.cell {w w' : World} (h : Bel w.heap.size w w') {a : Addr} (ha : a.block < w.heap.size) : w'.cell? a = w.cell? a:=World.cell?_of_block (h.block _ ha)
theorem callOk_bel {P : Program} {f : FuncId} {args : List V} {m : Hp} {v : V} (h : ∀ (κ : Ctx) (w : World) (xs : List Value),Reps κ w.heap args xs → ∃ x,Calls P f ⟨xs⟩ w (fun e w'=>e = .returned x ∧ Bel w.heap.size w w') ∧ ∀ h',Rep κ h' v x) : CallOk P f args m v m:=by
 intro κ w xs k r
 obtain ⟨x,c,rx⟩:=h κ w xs r
 refine c.mono fun e w' ⟨he,hw⟩=>?_
 exact ⟨x,κ,he,⟨le_below hw.size hw.block,mem_below k hw.size hw.block,Nat.le_refl _,fun _ _ h=>h,hw.os,hw.output,hw.size⟩,rx _⟩
def pcX (q : Pce) : Value:=.agg #[.string ⟨⟨q.1⟩⟩,.int .i64 q.2]
def pcC (st : List Pce) : List Value:=st.flatMap fun q=>[.string ⟨⟨q.1⟩⟩,.int .i64 q.2]
theorem pcC_app (a b : List Pce) : pcC (a ++ b) = pcC a ++ pcC b:=by simp [pcC]
theorem pcC_len : ∀ l : List Pce,(pcC l).length = l.length * 2
 | []=>rfl
 | q :: l=>by
  have:=pcC_len l
  have e : pcC (q :: l) = [.string ⟨⟨q.1⟩⟩,.int .i64 q.2] ++ pcC l:=by simp [pcC]
  rw [e,List.length_append,this,List.length_cons]
  simp; omega
theorem rep_pce {κ : Ctx} {h : Heap} {q : Pce} {x : Value} (r : Rep κ h (pceV q) x) : x = pcX q:=by
 cases r with
 | agg _ xs hl ho hr =>
  match xs,hl with
  | [a,b],_ =>
   have h0:=rep_str (hr 0 _ a rfl rfl)
   have h1:=rep_int (hr 1 _ b rfl rfl)
   rw [h0,h1]; rfl
theorem reps_pce (κ : Ctx) (h : Heap) (q : Pce) : Rep κ h (pceV q) (pcX q):=by
 refine .agg [.str q.1,vI q.2] [.string ⟨⟨q.1⟩⟩,.int .i64 q.2] rfl (fun x hx=>?_) fun i c x hc hx=>?_
 ·simp only [List.mem_cons,List.not_mem_nil,or_false] at hx
  rcases hx with rfl | rfl <;> rfl
 ·match i,hc,hx with
  | 0,hc,hx=>cases hc; cases hx; exact .str _
  | 1,hc,hx=>cases hc; cases hx; exact .int _ _
theorem joint_calls (a b : Pce) (k : Int) (ha : a.1.length ≤ 1000000) (hb : b.1.length ≤ 1000000) (w : World) :
  Calls Try.prog 92 #[pcX a,pcX b,.int .i64 k] w fun e w'=>e = .returned (pcX (jointM a b k)) ∧ Bel w.heap.size w w':=by
 have hF : F_sche_joint [pceV a,pceV b,.int .i64 k] = some (pceV (jointM a b k)):=if_pos ⟨by omega,by omega⟩
 have hr : Reps (sealedCtx w.heap) w.heap [pceV a,pceV b,.int .i64 k] [pcX a,pcX b,.int .i64 k] :=
  Reps.cons (reps_pce _ _ _) (Reps.cons (reps_pce _ _ _) (Reps.cons (.int _ _) Reps.nil))
 refine ((ok_sche_joint.call _ _ hF).1 empty (sealedCtx w.heap) w _ (sealed_mem _) hr).mono ?_
 rintro e w' ⟨x,κ',he,hx,hv⟩
 exact ⟨by rw [he,rep_pce hv],hx.os,hx.out.output,hx.out.size,fun i hi=>hx.le.same i hi sealed_owned⟩
theorem Try.info147 : (Try.prog.info? 147).map (fun i=>(i.zero,i.size,i.bytes)) = some (some (.agg #[.string ⟨#[]⟩,.int .i64 0]),2,24):=by kernel_rfl
theorem ownsRow_cut {w : World} {base : Nat} {e : TypeId} {size g cap n m : Nat} {xs last : List Value} (hx : xs.length = n * size) (hm : n ≤ m)
  (h : w.ownsRow base e size (.slice (some ⟨g,0,none⟩) m cap) m (xs ++ last)) : w.ownsRow base e size (.slice (some ⟨g,0,none⟩) n cap) n xs:=by
 obtain ⟨_,h2⟩:=h
 rcases h2 with ⟨h0,_⟩ | ⟨g',cap',cur,hv,hg,hh,hn,hcap,hsz,htake⟩
 ·cases h0
 ·cases hv
  refine ⟨hx,.inr ⟨g,cap,cur,rfl,hg,hh,by omega,hcap,hsz,?_⟩⟩
  have h3 : (cur.toList.take (m * size)).take (n * size) = (xs ++ last).take (n * size):=by rw [htake]
  rw [List.take_take,Nat.min_eq_left (Nat.mul_le_mul_right _ hm)] at h3
  rw [h3,← hx]
  exact List.take_left
def tot (st : List Pce) : Nat:=(st.map fun q=>q.1.length + 7).sum
end Go.Fbs
namespace Go.Fbs
open Go.Proofs Go.RowKit
theorem own_form {w : World} {base : Nat} {e : TypeId} {size n : Nat} {v : Value} {xs : List Value} (h : w.ownsRow base e size v n xs) : ∃ ad cp,v = .slice ad n cp:=by
 obtain ⟨_,h2⟩:=h
 rcases h2 with ⟨rfl,rfl⟩ | ⟨g',cap',cur,rfl,_⟩
 ·exact ⟨none,0,rfl⟩
 ·exact ⟨_,_,rfl⟩
theorem own_some {w : World} {base : Nat} {e : TypeId} {size n : Nat} {v : Value} {xs : List Value} (h : w.ownsRow base e size v n xs) (h0 : n ≠ 0) : ∃ g cp,v = .slice (some ⟨g,0,none⟩) n cp ∧ base ≤ g ∧ g < w.heap.size:=by
 obtain ⟨_,h2⟩:=h
 rcases h2 with ⟨rfl,h⟩ | ⟨g',cap',cur,rfl,h1,h2,_⟩
 ·exact absurd h h0
 ·exact ⟨_,_,rfl,h1,(Array.getElem?_eq_some_iff.1 h2).1⟩
theorem pc_news (w : World) (s : ByteArray) (k : Int) : ∀ j u,[Value.string s,.int .i64 k][j]? = some u → (w.alloc (.cells #[.string s,.int .i64 k] 147)).cell? ((⟨w.heap.size,0,none⟩ : Addr).add j) = some u :=
 World.news_of_block (cs:=#[.string s,.int .i64 k]) (heap_alloc_new w _)
theorem cat3 (a b c : List UInt8) : (⟨⟨a⟩⟩ ++ ⟨⟨b⟩⟩ ++ ⟨⟨c⟩⟩ : ByteArray) = ⟨⟨a ++ b ++ c⟩⟩:=by
 apply ByteArray.ext
 simp
theorem rel_push {w : World} {B : Nat} {v : Value} {st : List Pce} {s : List UInt8} {k : Int} (h : w.ownsRow B 147 2 v (st.length + 1) (pcC st.reverse ++ [.string ⟨⟨s⟩⟩,.int .i64 k])) : w.ownsRow B 147 2 v ((s,k) :: st).length (pcC ((s,k) :: st).reverse):=by
 rw [List.reverse_cons,pcC_app]; exact h
theorem bel_grown {B : Nat} {w X w' : World} {row : Option Nat} (h : Bel B w X) (g : X.grownBy w' row) (hb : B ≤ X.heap.size) (hr : ∀ k,row = some k → B ≤ k) : Bel B w w':=by
 refine h.trans ⟨g.os,g.output,g.size,fun k hk=>g.block k (by omega) fun e=>?_⟩
 have:=hr k e.symm
 omega
theorem bel_alloc {B : Nat} {w X : World} (h : Bel B w X) (hb : B ≤ X.heap.size) (o : Obj) : Bel B w (X.alloc o) :=
 h.trans ⟨rfl,rfl,by simp,fun k hk=>heap_alloc_old X _ (by omega)⟩
theorem bel_drew {B : Nat} {w X : World} (h : Bel B w X) : Bel B w X.drew:=h.trans ⟨rfl,rfl,Nat.le_refl _,fun _ _=>rfl⟩
theorem own_base {w : World} {base : Nat} {e : TypeId} {size n : Nat} {v : Value} {xs : List Value} (h : w.ownsRow base e size v n xs) : ∀ k,v.ownBlock = some k → base ≤ k:=by
 obtain ⟨_,h2⟩:=h
 rcases h2 with ⟨rfl,rfl⟩ | ⟨g',cap',cur,rfl,h1,_⟩
 ·intro k hk; cases hk
 ·intro k hk; cases hk; exact h1
theorem own_bel {w w' : World} {C base : Nat} {e : TypeId} {size n g cap : Nat} {xs : List Value} (h : w.ownsRow base e size (.slice (some ⟨g,0,none⟩) n cap) n xs) (b : Bel C w w') (hg : g < C) : w'.ownsRow base e size (.slice (some ⟨g,0,none⟩) n cap) n xs:=by
 obtain ⟨h1,h2⟩:=h
 rcases h2 with ⟨h0,_⟩ | ⟨g',cap',cur,hv,hg',hh,hn,hcap,hsz,htake⟩
 ·cases h0
 ·cases hv
  exact ⟨h1,.inr ⟨g,cap,cur,rfl,hg',by rw [b.block g hg]; exact hh,hn,hcap,hsz,htake⟩⟩
theorem tot_len : ∀ st : List Pce,7 * st.length ≤ tot st
 | []=>by simp [tot]
 | q :: st=>by
  have:=tot_len st
  have e : tot (q :: st) = (q.1.length + 7) + tot st:=by simp [tot]
  rw [e,List.length_cons]; omega
theorem tot_cons (q : Pce) (st : List Pce) : tot (q :: st) = (q.1.length + 7) + tot st:=by simp [tot]
theorem told_op {kd : Int} {A B : List UInt8} {r : List Stp} {st : List Pce} {q : Pce} (h1 : ¬ kd = 1) (h2 : ¬ kd = 2) (h : toldGo ((kd,A,B) :: r) st = some [q]) :
  ∃ y x st',st = y :: x :: st' ∧ 3 ≤ kd ∧ kd ≤ 5 ∧ toldGo r (jointM x y kd :: st') = some [q]:=by
 unfold toldGo at h
 rw [if_neg h1,if_neg h2] at h
 split at h
 ·cases h
 ·split at h
  ·exact ⟨_,_,_,rfl,by omega,by omega,h⟩
  ·cases h
theorem own_two {w : World} {B : Nat} {v : Value} {x y : Pce} {st : List Pce} (h : w.ownsRow B 147 2 v (y :: x :: st).length (pcC (y :: x :: st).reverse)) :
  ∃ g cp m,st.length = m ∧ v = .slice (some ⟨g,0,none⟩) (m + 2) cp ∧ B ≤ g ∧ g < w.heap.size ∧ w.ownsRow B 147 2 (.slice (some ⟨g,0,none⟩) m cp) m (pcC st.reverse) ∧ m + 2 ≤ cp ∧
   w.cell? ⟨g,m * 2,none⟩ = some (.string ⟨⟨x.1⟩⟩) ∧ w.cell? ⟨g,m * 2 + 1,none⟩ = some (.int .i64 x.2) ∧ w.cell? ⟨g,(m + 1) * 2,none⟩ = some (.string ⟨⟨y.1⟩⟩) ∧ w.cell? ⟨g,(m + 1) * 2 + 1,none⟩ = some (.int .i64 y.2):=by
 obtain ⟨g,cp,rfl,h1,h2⟩:=own_some h (by simp)
 have e : pcC (y :: x :: st).reverse = pcC st.reverse ++ [.string ⟨⟨x.1⟩⟩,.int .i64 x.2,.string ⟨⟨y.1⟩⟩,.int .i64 y.2]:=by
  rw [List.reverse_cons,List.reverse_cons,pcC_app,pcC_app,List.append_assoc]; rfl
 rw [e] at h
 have hl : (pcC st.reverse).length = st.length * 2:=by rw [pcC_len,List.length_reverse]
 have hcp : st.length + 2 ≤ cp:=by
  rcases h.2 with ⟨h0,_⟩ | ⟨g',cap',cur,hv,_,_,hn,_⟩
  ·cases h0
  ·cases hv; exact hn
 have at_ : ∀ j,j < 4 → w.cell? ⟨g,st.length * 2 + j,none⟩ = [Value.string ⟨⟨x.1⟩⟩,.int .i64 x.2,.string ⟨⟨y.1⟩⟩,.int .i64 y.2][j]?:=fun j hj=>by
  rw [h.cellAt (st.length * 2 + j) (by simp only [List.length_cons]; omega),List.getElem?_append_right (by omega),hl]
  congr 1
  omega
 refine ⟨g,cp,st.length,rfl,rfl,h1,h2,ownsRow_cut (by rw [pcC_len,List.length_reverse]) (by simp only [List.length_cons]; omega) h,hcp,at_ 0 (by omega),at_ 1 (by omega),?_,?_⟩
 ·have:=at_ 2 (by omega); rw [show (st.length + 1) * 2 = st.length * 2 + 2 by omega]; exact this
 ·have:=at_ 3 (by omega); rw [show (st.length + 1) * 2 + 1 = st.length * 2 + 3 by omega]; exact this
theorem joint_agg (a b : Pce) (k : Int) (ha : a.1.length ≤ 1000000) (hb : b.1.length ≤ 1000000) (w : World) :
  Calls Try.prog 92 #[.agg #[.string ⟨⟨a.1⟩⟩,.int .i64 a.2],.agg #[.string ⟨⟨b.1⟩⟩,.int .i64 b.2],.int .i64 k] w fun e w'=>e = .returned (.agg #[.string ⟨⟨(jointM a b k).1⟩⟩,.int .i64 (jointM a b k).2]) ∧ Bel w.heap.size w w' :=
 joint_calls a b k ha hb w
theorem rel_joint {w : World} {B m : Nat} {v : Value} {st : List Pce} {s : List UInt8} {k : Int} (hm : st.length = m) (h : w.ownsRow B 147 2 v (m + 1) (pcC st.reverse ++ [.string ⟨⟨s⟩⟩,.int .i64 k])) : w.ownsRow B 147 2 v ((s,k) :: st).length (pcC ((s,k) :: st).reverse):=by
 subst hm; exact rel_push h
theorem own_one {w : World} {B : Nat} {v : Value} {q : Pce} (h : w.ownsRow B 147 2 v [q].length (pcC [q].reverse)) : ∃ g cp,v = .slice (some ⟨g,0,none⟩) 1 cp ∧ w.cell? ⟨g,0,none⟩ = some (.string ⟨⟨q.1⟩⟩):=by
 obtain ⟨g,cp,rfl,_,_⟩:=own_some h (by simp)
 exact ⟨g,cp,rfl,h.cellAt 0 (by simp)⟩
theorem tot_joint {x y : Pce} {kd : Int} {st : List Pce} {k : Nat} (h : y.1.length + 7 + (x.1.length + 7 + tot st) ≤ 69 * k) : tot (jointM x y kd :: st) ≤ 69 * (k + 1):=by
 have:=joint_len x y kd
 rw [tot_cons]; omega
set_option maxHeartbeats 6400000 in
theorem told_walk (b off n cap : Nat) (L : List Stp) (q : Pce) (w : World) (hn : L.length = n) (h0 : 0 < n) (h200 : n ≤ 200) (hcap : n ≤ cap) (hbk : b < w.heap.size)
  (hcell : ∀ i p,L[i]? = some p → w.cell? ⟨b,off + i * 3,none⟩ = some (.int .i64 p.1) ∧ w.cell? ⟨b,off + i * 3 + 1,none⟩ = some (.string ⟨⟨p.2.1⟩⟩) ∧ w.cell? ⟨b,off + i * 3 + 2,none⟩ = some (.string ⟨⟨p.2.2⟩⟩))
  (hlen : ∀ p ∈ L,p.2.1.length ≤ 30 ∧ p.2.2.length ≤ 30) (htold : toldGo L [] = some [q]) :
  Calls Try.prog 66 #[.slice (some ⟨b,off,none⟩) n cap] w fun e w'=>e = .returned (.tuple #[.string ⟨⟨q.1⟩⟩,.bool true]) ∧ Bel w.heap.size w w':=by
 obtain ⟨i0,hi,hz0,hz1,hz2⟩:=info_parts Try.info147
 have hmin : min (n : Int) 201 = n:=by omega
 go_enter Try.func66,Try.ntmps66
 go_wp2
 go_loopw [4,14] (fun v i wr=>∃ (k : Nat) (st : List Pce),k ≤ n ∧ i = .int .i64 k ∧ wr.ownsRow w.heap.size 147 2 v st.length (pcC st.reverse) ∧ toldGo (L.drop k) st = some [q] ∧ tot st ≤ 69 * k ∧ Bel w.heap.size w wr)
  (fun _ i _=>n - (intOf i).toNat)
 case atStart=>exact ⟨0,[],Nat.zero_le _,rfl,World.ownsRow_nil _ _ _ _,by simpa using htold,by simp [tot],Bel.refl _ _⟩
 case round =>
  obtain ⟨k,st,hk,rfl,hown,htg,htot,hbel⟩:=hrel
  have hk0 : (0 : Int) ≤ (k : Int):=Int.natCast_nonneg _
  have hbs:=hbel.size
  have hsl:=tot_len st
  by_cases hkn : k < n
  ·have hk1 : (k : Int) < (n : Int):=by omega
   obtain ⟨⟨kd,A,B⟩,hp⟩ : ∃ p,L[k]? = some p:=⟨L[k],List.getElem?_eq_getElem (by omega)⟩
   obtain ⟨c0,c1,c2⟩:=hcell k _ hp
   have c0:=(hbel.cell (a:=⟨b,off + k * 3,none⟩) hbk).trans c0
   have c1:=(hbel.cell (a:=⟨b,off + k * 3 + 1,none⟩) hbk).trans c1
   have c2:=(hbel.cell (a:=⟨b,off + k * 3 + 2,none⟩) hbk).trans c2
   obtain ⟨l1,l2⟩:=hlen _ (List.mem_of_getElem? hp)
   simp only at c0 c1 c2 l1 l2
   have hbw : b < wr.heap.size:=by omega
   have hdrop : L.drop k = (kd,A,B) :: L.drop (k + 1):=by
    obtain ⟨h9,e9⟩:=List.getElem?_eq_some_iff.1 hp
    rw [List.drop_eq_getElem_cons h9,e9]
   rw [hdrop] at htg
   clear hcell hlen htold hdrop hmin
   have hob:=own_base hown
   by_cases h1 : kd = 1
   ·subst h1
    obtain ⟨ad,cp,rfl⟩ : ∃ ad cp,u4 = .slice ad st.length cp:=own_form hown
    have htg : toldGo (L.drop (k + 1)) ((A,3) :: st) = some [q]:=htg
    go_wp2_with (first
     | (at_builtin; refine wpList_append_lies _ rfl _ _ 145 rfl w.heap.size 147 i0 _ 2 24 Try.underlying145 hi hz0 hz1 hz2 rfl (by decide) _ _ _ rfl ((hown.alloc _).alloc _) ⟨wr.heap.size + 1,0,none⟩ 1 1 [.string ⟨⟨A⟩⟩,.int .i64 3] rfl rfl (by simpa using pc_news (wr.alloc _) ⟨⟨A⟩⟩ 3) (by intro u hu; simp at hu; rcases hu with rfl | rfl <;> rfl) (by decide) (by unfold maxLen; omega) (by omega) (by simp; omega) (wr.heap.size + 2) (by simp) ?_; intro g cp' w1 hown' hgrow hat hlt)
     | go_in)
    have R1:=rel_push hown'
    have R2:=bel_grown (bel_alloc (bel_alloc hbel hbs _) (by simp; omega) _) hgrow (by simp; omega) hob
    clear hown' hgrow hown hat
    go_wp2
    go_roundw
    case rel=>exact ⟨k + 1,(A,3) :: st,by omega,by go_num,R1,htg,by rw [tot_cons]; simp only; omega,R2⟩
    case measure=>simp [intOf]; omega
   ·by_cases h2 : kd = 2
    ·subst h2
     obtain ⟨ad,cp,rfl⟩ : ∃ ad cp,u4 = .slice ad st.length cp:=own_form hown
     have htg : toldGo (L.drop (k + 1)) ((A ++ [45,62] ++ B,3) :: st) = some [q]:=htg
     have s1 : A.length + 2 ≤ 9223372036854775807:=by omega
     have s2 : A.length + 2 + B.length ≤ 9223372036854775807:=by omega
     go_wp2_with (first
      | (at_builtin; refine wpList_append_lies _ rfl _ _ 145 rfl w.heap.size 147 i0 _ 2 24 Try.underlying145 hi hz0 hz1 hz2 rfl (by decide) _ _ _ rfl ((hown.alloc _).alloc _) ⟨wr.heap.size + 1,0,none⟩ 1 1 [.string (⟨⟨A⟩⟩ ++ ⟨⟨[45,62]⟩⟩ ++ ⟨⟨B⟩⟩),.int .i64 3] rfl rfl (by simpa using pc_news (wr.alloc _) (⟨⟨A⟩⟩ ++ ⟨⟨[45,62]⟩⟩ ++ ⟨⟨B⟩⟩) 3) (by intro u hu; simp at hu; rcases hu with rfl | rfl <;> rfl) (by decide) (by unfold maxLen; omega) (by omega) (by simp; omega) (wr.heap.size + 2) (by simp) ?_; intro g cp' w1 hown' hgrow hat hlt)
      | go_in)
     rw [cat3] at hown'
     have R1:=rel_push hown'
     have R2:=bel_grown (bel_alloc (bel_alloc hbel hbs _) (by simp; omega) _) hgrow (by simp; omega) hob
     clear hown' hgrow hown hat
     go_wp2
     go_roundw
     case rel=>exact ⟨k + 1,(A ++ [45,62] ++ B,3) :: st,by omega,by go_num,R1,htg,by rw [tot_cons]; simp only [List.length_append,List.length_cons,List.length_nil]; omega,R2⟩
     case measure=>simp [intOf]; omega
    ·obtain ⟨y,x,st',rfl,h3,h5,htg⟩:=told_op h1 h2 htg
     obtain ⟨g,cp,m,hm,rfl,hg1,hg2,hown,hcp,x0,x1,y0,y1⟩:=own_two hown
     rw [tot_cons,tot_cons] at htot
     have e1 : (m : Int) + 2 - 1 = m + 1:=by omega
     have e2 : (m : Int) + 2 - 2 = m:=by omega
     have m0 : (0 : Int) ≤ (m : Int):=Int.natCast_nonneg _
     have m1 : (m : Int) < (m : Int) + 2:=by omega
     have m2 : (m : Int) + 1 < (m : Int) + 2:=by omega
     have m3 : m ≤ 13800:=by have:=tot_len st'; omega
     clear hsl
     have w1 : IntKind.i64.wrap (m : Int) = m:=by simp [IntKind.wrap,IntKind.signed,IntKind.bits]; omega
     have w2 : IntKind.i64.wrap ((m : Int) + 1) = m + 1:=by simp [IntKind.wrap,IntKind.signed,IntKind.bits]; omega
     have m4 : (m : Int) ≤ (cp : Int):=by omega
     have m5 : (0 : Int) ≤ (m : Int) + 1:=by omega
     go_wp2_with fail
     have k0 : (wr.alloc (.cells #[.int .i64 kd,.string ⟨⟨A⟩⟩,.string ⟨⟨B⟩⟩] 125)).cell? ⟨wr.heap.size,0,none⟩ = some (.int .i64 kd):=by simp
     go_region_law (first
      | (refine step_append_lies _ (by rfl) _ _ _ (by rfl) w.heap.size 147 i0 _ 2 24 Try.underlying145 hi hz0 hz1 hz2 rfl (by omega) (.slice (some ⟨g,0,none⟩) m cp) m (pcC st'.reverse) (by rfl) ((own_bel ((hown.alloc _).drew) hb2 (by simp; omega)).alloc _) ⟨w2.heap.size,0,none⟩ 1 1 [.string ⟨⟨(jointM x y kd).1⟩⟩,.int .i64 (jointM x y kd).2] (by rfl) (by rfl) (pc_news w2 _ _) (by intro u hu; simp at hu; rcases hu with rfl | rfl <;> rfl) (by decide) (by unfold maxLen; omega) (by omega) (by have:=hb2.size; simp at this ⊢; omega) (w2.heap.size + 1) (by simp) ?_; intro g2 cp2 w3 hown3 hgrow3 hat3 hlt3)
      | (go_simp; go_at_call 92; refine (joint_agg x y kd (by omega) (by omega) _).mono ?_; rintro e w2 ⟨rfl,hb2⟩))
     go_wp2
     all_goals exact ⟨⟨k + 1,jointM x y kd :: st',by omega,by go_num,rel_joint hm hown3,htg,tot_joint htot,bel_grown (bel_alloc ((bel_drew (bel_alloc hbel hbs _)).trans (hb2.mono (by simp; omega))) (by have:=hb2.size; simp at this; omega) _) hgrow3 (by have:=hb2.size; simp at this ⊢; omega) (fun k hk=>by cases hk; exact hg1)⟩,by simp [intOf]; omega⟩
  ·obtain rfl : k = n:=by omega
   rw [List.drop_eq_nil_of_le (by omega)] at htg
   simp only [toldGo,Option.some.injEq] at htg
   subst htg
   obtain ⟨g,cp,rfl,x0⟩:=own_one hown
   clear hcell hlen htold hmin hown
   have hnn : ¬ (k : Int) < (k : Int):=by omega
   go_wp2
   go_ret2
   exact ⟨rfl,hbel⟩
end Go.Fbs
namespace Go.Fbs
open Go.Proofs Go.RowKit
theorem flat_stp (p : Stp) (L : List Stp) : flat ((p :: L).map stpW) = [vI p.1,.str p.2.1,.str p.2.2] ++ flat (L.map stpW):=rfl
theorem flat3 : ∀ (L : List Stp) (i : Nat) (p : Stp),L[i]? = some p → (flat (L.map stpW))[i * 3]? = some (vI p.1) ∧ (flat (L.map stpW))[i * 3 + 1]? = some (.str p.2.1) ∧ (flat (L.map stpW))[i * 3 + 2]? = some (.str p.2.2)
 | [],i,p,h=>by simp at h
 | q :: L,0,p,h=>by
  simp only [List.getElem?_cons_zero,Option.some.injEq] at h
  subst h
  rw [flat_stp]
  exact ⟨rfl,rfl,rfl⟩
 | q :: L,i + 1,p,h=>by
  rw [List.getElem?_cons_succ] at h
  obtain ⟨h1,h2,h3⟩:=flat3 L i p h
  rw [flat_stp]
  have e : ∀ j,([vI q.1,.str q.2.1,.str q.2.2] ++ flat (L.map stpW))[(i + 1) * 3 + j]? = (flat (L.map stpW))[i * 3 + j]?:=fun j=>by
   rw [List.getElem?_append_right (by simp; omega)]
   congr 1
   simp only [List.length_cons,List.length_nil]; omega
  exact ⟨(e 0).trans h1,(e 1).trans h2,(e 2).trans h3⟩
theorem steps_short : ∀ {t : Tr},t.good → ∀ p ∈ t.steps,p.2.1.length ≤ 30 ∧ p.2.2.length ≤ 30
 | .nm a,h,p,hp=>by
  simp only [Tr.steps,List.mem_singleton] at hp; subst hp
  exact ⟨nm_len h,by simp⟩
 | .ar a b,h,p,hp=>by
  simp only [Tr.steps,List.mem_singleton] at hp; subst hp
  exact ⟨nm_len h.1,nm_len h.2⟩
 | .op k x y,h,p,hp=>by
  simp only [Tr.steps,List.mem_append,List.mem_singleton] at hp
  rcases hp with hp | hp | rfl
  ·exact steps_short h.1 p hp
  ·exact steps_short h.2 p hp
  ·exact ⟨by simp,by simp⟩
theorem told_call (t : Tr) (ho : t.ok) (hg : t.good) (hl : t.steps.length ≤ 200) (m : Hp) : CallOk Try.prog 66 [stpsV t.steps] m (.tup [.str t.pce.1,.bool true]) m:=by
 refine callOk_bel fun κ w xs r=>?_
 obtain ⟨x,ys,rfl,r1,r2⟩:=r.inv_cons
 obtain rfl:=r2.inv_nil
 refine ⟨.tuple #[.string ⟨⟨t.pce.1⟩⟩,.bool true],?_,fun h'=>.tup [.str t.pce.1,.bool true] [.string ⟨⟨t.pce.1⟩⟩,.bool true] rfl fun i c x hc hx=>by
  match i,hc,hx with
  | 0,hc,hx=>cases hc; cases hx; exact .str _
  | 1,hc,hx=>cases hc; cases hx; exact .bool _⟩
 have hlen : (t.steps.map stpW).length = t.steps.length:=List.length_map ..
 have hne : 0 < t.steps.length:=List.length_pos_iff.2 (steps_ne t)
 rcases rep_sl r1 with ⟨he,_,_⟩ | ⟨b,off,cap,sz,vs,hb,_,hr,hcap,_,hx⟩
 ·have:=congrArg List.length he
  rw [hlen] at this
  simp only [List.length_nil] at this
  omega
 subst hx
 rw [hlen] at hcap ⊢
 have at_ : ∀ j v,(flat (t.steps.map stpW))[j]? = some v → ∃ z,hcell w.heap b (off + j) = some z ∧ Rep κ w.heap v z:=fun j v hj=>by
  have hlt : j < vs.length:=by rw [hr.1]; exact (List.getElem?_eq_some_iff.1 hj).1
  have hz:=List.getElem?_eq_getElem hlt
  exact ⟨_,(hb j _ hz).2.1,hr.2 j _ _ hj hz⟩
 have htold : toldGo t.steps [] = some [t.pce]:=by
  have:=toldGo_tr (r:=[]) (st:=[]) ho
  rw [List.append_nil] at this
  rw [this]; rfl
 refine told_walk b off t.steps.length cap t.steps t.pce w rfl hne hl hcap ?_ (fun i p hp=>?_) (fun p hp=>steps_short hg p hp) htold
 ·obtain ⟨p,hp⟩ : ∃ p,t.steps[0]? = some p:=⟨_,List.getElem?_eq_getElem hne⟩
  obtain ⟨z,hz,_⟩:=at_ (0 * 3) _ (flat3 _ 0 p hp).1
  exact hcell_lt hz
 ·obtain ⟨h1,h2,h3⟩:=flat3 _ i p hp
  obtain ⟨z1,g1,q1⟩:=at_ _ _ h1
  obtain ⟨z2,g2,q2⟩:=at_ _ _ h2
  obtain ⟨z3,g3,q3⟩:=at_ _ _ h3
  refine ⟨?_,?_,?_⟩
  ·rw [cell?_eq,g1,rep_int q1]
  ·rw [cell?_eq,show off + i * 3 + 1 = off + (i * 3 + 1) by omega,g2,rep_str q2]
  ·rw [cell?_eq,show off + i * 3 + 2 = off + (i * 3 + 2) by omega,g3,rep_str q3]
noncomputable def F_sche_told : Spec:=specOf (fun L : List Stp=>[stpsV L]) (fun L=>∃ t : Tr,t.ok ∧ t.good ∧ t.steps = L ∧ L.length ≤ 200) (fun L=>.tup [.str ((toldM L).getD []),.bool true])
theorem stpsV_inj {a b : List Stp} (h : stpsV a = stpsV b) : a = b:=by
 simp only [stpsV,V.sl.injEq,true_and] at h
 exact map_injV (fun _ _=>stpW_inj) h
theorem Ftold {t : Tr} (h1 : t.ok) (h2 : t.good) (h3 : t.steps.length ≤ 200) : F_sche_told [stpsV t.steps] = some (.tup [.str ((toldM t.steps).getD []),.bool true]) :=
 specOf_eq (a:=t.steps) (fun a b h=>stpsV_inj (by simpa using h)) ⟨t,h1,h2,rfl,h3⟩
theorem ok_sche_told : SpecL Try.prog n_sche_told F_sche_told:=by
 refine ⟨⟨_,_,Try.func66,rfl,by kernel_rfl⟩,fun args v hv=>?_⟩
 obtain ⟨L,rfl,⟨t,h1,h2,rfl,h3⟩,rfl⟩:=specOf_inv hv
 have e : (toldM t.steps).getD [] = t.pce.1:=by rw [toldM_tr h1 h3]; rfl
 rw [e]
 exact ⟨fun m=>told_call t h1 h2 h3 m,rfl⟩
end Go.Fbs

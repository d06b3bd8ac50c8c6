import Derived.Test.YtpnflpbamlbpeaaGreatDoorVZG
set_option linter.unusedSimpArgs false
set_option linter.unusedVariables false
set_option linter.unusedSectionVars false
set_option maxRecDepth 100000
namespace Go.Fbs
open Go.Proofs Go.RowKit Go.Shelf Go.Sort Go.Maps
theorem le_kept {κ : Ctx} {h h' : Heap} (hs : h.size ≤ h'.size) (ho : ∀ b,b < h.size → h'[b]? = h[b]?) : Le κ h κ h' where
 size:=hs
 same b hb _:=ho b hb
 hwsame _ _ _:=rfl
 sealed b i x _ hx:=by
  have hb : b < h.size:=by
   unfold hcell at hx
   rcases Nat.lt_or_ge b h.size with g | g
   ·exact g
   ·rw [Array.getElem?_eq_none g] at hx; cases hx
  unfold hcell at hx ⊢
  rw [ho b hb]; exact hx
 hw _:=Nat.le_refl _
 box _ _ e:=e
 newbox _ e:=.inl e
 lease i L e:=⟨L,e,.inl rfl⟩
 newlease L hL hk:=.inl ⟨L,hL,hk,rfl⟩
structure FM where
 kind : Int
 name : List UInt8
 owner : List UInt8
 group : List UInt8
 ents : List Ent
 pos : Int
def proj (p : FR × List Ent) : FM:=⟨p.1.kind,p.1.name,p.1.owner,p.1.group,p.2,p.1.pos⟩
def factW (f : FM) : V:=.agg [vI f.kind,.str f.name,.sl .ro [],.str f.owner,.str f.group,entsV f.ents,vI f.pos]
def factsV (l : List FM) : V:=.sl .ro (l.map factW)
theorem factW_inj {a b : FM} (h : factW a = factW b) : a = b:=by
 cases a; cases b
 simp only [factW,vI,V.agg.injEq,List.cons.injEq,V.int.injEq,V.str.injEq,true_and,and_true] at h
 obtain ⟨rfl,rfl,rfl,rfl,he,rfl⟩:=h
 rw [entsV_inj he]
theorem factsV_inj {a b : List FM} (h : factsV a = factsV b) : a = b:=by
 simp only [factsV,V.sl.injEq,true_and] at h
 exact (List.map_inj_right (fun _ _=>factW_inj)).1 h
structure FRep (κ : Ctx) (w : World) (p : FR × List Ent) : Prop where
 un : p.1.un = 0
 flat : Flat p.1.ua
 ents : EntsAt w p.1 p.2
 acl : Rep κ w.heap (entsV p.2) (.slice p.1.aa p.1.an p.1.ac)
theorem facts_flat {κ : Ctx} {w : World} : ∀ {l : List FM} {xs : List Value},Reps κ w.heap (flat (l.map factW)) xs → ∃ fs : List (FR × List Ent),fs.map proj = l ∧ xs = flatF (fs.map Prod.fst) ∧ ∀ p ∈ fs,FRep κ w p
 | [],xs,r=>⟨[],rfl,r.inv_nil,fun p hp=>by cases hp⟩
 | f :: l,xs,r=>by
  have r : Reps κ w.heap (vI f.kind :: .str f.name :: .sl .ro [] :: .str f.owner :: .str f.group :: entsV f.ents :: vI f.pos :: flat (l.map factW)) xs:=r
  obtain ⟨z1,y1,e1,s1,r1⟩:=r.inv_cons
  obtain ⟨z2,y2,e2,s2,r2⟩:=r1.inv_cons
  obtain ⟨z3,y3,e3,s3,r3⟩:=r2.inv_cons
  obtain ⟨z4,y4,e4,s4,r4⟩:=r3.inv_cons
  obtain ⟨z5,y5,e5,s5,r5⟩:=r4.inv_cons
  obtain ⟨z6,y6,e6,s6,r6⟩:=r5.inv_cons
  obtain ⟨z7,y7,e7,s7,r7⟩:=r6.inv_cons
  obtain ⟨fs,h1,h2,h3⟩:=facts_flat (l:=l) r7
  obtain ⟨ua,uc,e8,hu⟩ : ∃ ua uc,z3 = .slice ua 0 uc ∧ Flat ua:=by
   rcases rep_sl s3 with ⟨_,hx,_⟩ | ⟨b,off,cap,sz,vs,_,_,_,_,_,hx⟩
   ·exact ⟨none,0,hx,.inl rfl⟩
   ·exact ⟨_,cap,hx,.inr ⟨b,off,rfl⟩⟩
  obtain ⟨aa,an,ac,e9,ha⟩ : ∃ aa an ac,z6 = .slice aa an ac ∧ EntsAt w ⟨f.kind,f.name,ua,0,uc,f.owner,f.group,aa,an,ac,f.pos⟩ f.ents:=by
   rcases rep_sl s6 with ⟨he,hx,_⟩ | ⟨b,off,cap,sz,vs,hb,_,hr,_,_,hx⟩
   ·have he : f.ents = []:=by simpa using he
    exact ⟨none,0,0,hx,by rw [he]; exact ⟨rfl,.inl rfl⟩⟩
   ·obtain rfl:=flat_uniq hr
    refine ⟨some ⟨b,off,none⟩,f.ents.length,cap,by simpa using hx,rfl,.inr ⟨b,off,rfl,fun i e he c v hv=>?_⟩⟩
    have h5:=flatE_at he hv
    have h6:=(hb _ _ h5).2.1
    rw [Nat.add_assoc]
    exact h6
  subst e8 e9
  rw [rep_int s1] at e1
  rw [rep_str s2] at e2
  rw [rep_str s4] at e4
  rw [rep_str s5] at e5
  rw [rep_int s7] at e7
  refine ⟨(⟨f.kind,f.name,ua,0,uc,f.owner,f.group,aa,an,ac,f.pos⟩,f.ents) :: fs,by rw [List.map_cons,h1]; rfl,?_,fun p hp=>?_⟩
  ·rw [e1,e2,e3,e4,e5,e6,e7,h2,List.map_cons,flatF_cons]; rfl
  ·rcases List.mem_cons.1 hp with rfl | hp
   ·exact ⟨rfl,hu,ha,s6⟩
   ·exact h3 p hp
theorem facts_rep {κ : Ctx} {w : World} {l : List FM} {v : Value} (hl : l ≠ []) (r : Rep κ w.heap (factsV l) v) : ∃ b off cap,∃ fs : List (FR × List Ent),v = .slice (some ⟨b,off,none⟩) l.length cap ∧ l.length ≤ cap ∧ b < w.heap.size ∧ fs.map proj = l ∧ FactsAt w b off (fs.map Prod.fst) ∧ ∀ p ∈ fs,FRep κ w p:=by
 rcases rep_sl r with ⟨he,hx,_⟩ | ⟨b,off,cap,sz,vs,hb,hu,hr,hcap,_,hx⟩
 ·exact absurd (by simpa using he) hl
 ·obtain ⟨fs,h1,rfl,h3⟩:=facts_flat hr
  have hF : FactsAt w b off (fs.map Prod.fst):=fun j x hj c v hv=>by
   have h5:=flatF_at hj hv
   have h6:=(hb _ _ h5).2.1
   rw [Nat.add_assoc]
   exact h6
  refine ⟨b,off,cap,fs,by simpa using hx,by simpa using hcap,?_,h1,hF,h3⟩
  cases fs with
  | nil=>exact absurd h1.symm hl
  | cons p fs =>
   have:=hF 0 p.1 rfl 0 _ rfl
   unfold World.cell? at this
   rcases Nat.lt_or_ge b w.heap.size with h | h
   ·exact h
   ·rw [Array.getElem?_eq_none h] at this; cases this
def S1m (l : List FM) (k : Int) : List (List UInt8):=toldN k (l.map fun f=>(f.kind,f.name))
theorem S1m_proj (fs : List (FR × List Ent)) (k : Int) : S1of (fs.map Prod.fst) k = S1m (fs.map proj) k:=by
 unfold S1of S1m
 rw [List.map_map,List.map_map]; rfl
def toFR (f : FM) : FR:=⟨f.kind,f.name,none,0,0,f.owner,f.group,none,0,0,f.pos⟩
def oneM (S1 S2 : List (List UInt8)) (f : FM) : Int:=oneE S1 S2 (toFR f) f.ents
def errM (S1 S2 : List (List UInt8)) : List FM → Option (Int × Int)
 | []=>none
 | f :: r=>if oneM S1 S2 f = 0 then errM S1 S2 r else some (f.pos,oneM S1 S2 f)
theorem errM_proj (S1 S2 : List (List UInt8)) : ∀ fs : List (FR × List Ent),errF S1 S2 fs = errM S1 S2 (fs.map proj)
 | []=>rfl
 | p :: r=>by
  rw [errF,List.map_cons,errM,errM_proj S1 S2 r]
  rfl
structure FMok (f : FM) : Prop where
 name : f.name.length ≤ 1000
 owner : f.owner.length ≤ 1000
 group : f.group.length ≤ 1000
 small : SmallE f.ents
 no24 : ∀ e ∈ f.ents,e.kind ≠ 2 ∧ e.kind ≠ 4
 file : f.kind = 4 → f.ents ≠ []
structure FsOk (l : List FM) : Prop where
 ne : l ≠ []
 le : l.length < 20
 dis : (l.map (·.name)).Nodup
 all : ∀ f ∈ l,FMok f
def placeM (l : List FM) : Prop:=∀ f ∈ l,isF f.kind = true → (f.name = [47] ∧ f.kind ≠ 4) ∨ (f.name = [47,97] ∧ (S1m l 3).contains [47] = true)
def errL (l : List FM) : Option (Int × Int):=errM (S1m l 1) (S1m l 2) l
noncomputable def F_mask_Valid : Spec:=specOf (fun l : List FM=>[factsV l]) (fun l=>FsOk l ∧ (errL l = none → placeM l)) (fun l=>.tup [vI (resF (errL l)).1,vI (resF (errL l)).2])
noncomputable def F_mask_Normal : Spec:=specOf (fun l : List FM=>[factsV l]) FsOk (fun l=>.sl .ro (List.replicate l.length (.agg (List.replicate 7 .any))))
theorem acl_sam {κ : Ctx} {w : World} {l : List Ent} {v : Value} (hl : SmallE l) (r : Rep κ w.heap (entsV l) v) (X : World) (hX : Sam w X) : Calls Tryz.prog 7 #[v] X fun e w'=>Sam X w' ∧ ∃ v',e = .returned (aclR v' (aclM l)) ∧ ∃ ad n c,aclR v' (aclM l) = .tuple #[.slice ad n c,.bool (aclM l).isSome]:=by
 refine (acl_walk hl (r.mono (le_kept hX.size hX.same))).mono ?_
 rintro e w' ⟨hb,v',rfl,ho⟩
 refine ⟨⟨hb.os,hb.output,hb.size,hb.block⟩,v',rfl,?_⟩
 cases hA : aclM l with
 | none=>exact ⟨none,0,0,rfl⟩
 | some a =>
  obtain ⟨ad,cp,rfl⟩:=own_form (ho a hA)
  exact ⟨_,_,_,rfl⟩
theorem frep_ok {κ : Ctx} {w : World} {p : FR × List Ent} (r : FRep κ w p) (h : FMok (proj p)) : FOk w p.1 p.2 where
 un:=r.un
 name:=h.name
 owner:=h.owner
 group:=h.group
 ents:=r.ents
 no24:=h.no24
 le:=by have:=h.small.1; show p.2.length ≤ 1000; exact Nat.le_trans this (by decide)
 file:=h.file
 acl X hX:=(acl_sam h.small r.acl X hX).mono fun _ _ ⟨h1,v',h2,_⟩=>⟨h1,v',h2⟩
theorem frep_n {κ : Ctx} {w : World} {p : FR × List Ent} (r : FRep κ w p) (h : FMok (proj p)) : NOk w p.1 where
 un:=r.un
 flat:=r.flat
 acl X hX:=(acl_sam h.small r.acl X hX).mono fun _ _ ⟨h1,v',h2,ad,n,c,h3⟩=>⟨h1,ad,n,c,(aclM (proj p).ents).isSome,h2.trans (congrArg Ending.returned h3)⟩
theorem ok_mask_Valid : SpecL Tryz.prog n_mask_Valid F_mask_Valid:=by
 refine ⟨⟨_,_,Tryz.func12,rfl,by kernel_rfl⟩,fun args v hv=>?_⟩
 obtain ⟨l,rfl,⟨hl,hp⟩,rfl⟩:=specOf_inv hv
 refine ⟨fun m κ w xs k r=>?_,(cano_plain (by rfl)).2⟩
 obtain ⟨x,ys,rfl,r1,r2⟩:=r.inv_cons
 obtain rfl:=r2.inv_nil
 obtain ⟨b,off,cap,fs,rfl,hcap,hb,rfl,hF,hrep⟩:=facts_rep hl.ne r1
 have hlen : (fs.map proj).length = fs.length:=List.length_map ..
 have hle:=hl.le
 have hcon:=valid_calls (fs:=fs) (cap:=cap) (n:=(fs.map proj).length) hlen.symm (by omega) hcap hb hF (fun p hp=>frep_ok (hrep p hp) (hl.all _ (List.mem_map_of_mem hp)))
  (by have:=hl.dis; rwa [List.map_map] at this) (fun he p hpm hf=>by
   rw [S1m_proj,S1m_proj,errM_proj] at he
   rw [S1m_proj]
   rcases hp he (proj p) (List.mem_map_of_mem hpm) hf with h | ⟨h1,h2⟩
   ·exact .inl h
   ·refine .inr ⟨by rw [show p.1.name = [47,97] from h1]; decide,[47],h2,by decide,fun X _=>?_⟩
    rw [show p.1.name = [47,97] from h1]
    exact parent_calls X)
 rw [S1m_proj,S1m_proj,errM_proj] at hcon
 refine hcon.mono ?_
 rintro e w' ⟨rfl,hs⟩
 refine ⟨_,_,rfl,newHw_ext k hs.size hs.same hs.os hs.output,?_⟩
 refine .tup _ [_,_] rfl fun i c x h1 h2=>?_
 match i,h1,h2 with
 | 0,h1,h2=>cases h1; cases h2; exact .int _ _
 | 1,h1,h2=>cases h1; cases h2; exact .int _ _
theorem flat_rep7 (n : Nat) : (flat (List.replicate n (V.agg (List.replicate 7 .any)))) = List.replicate (n * 7) .any:=by
 induction n with
 | zero=>rfl
 | succ n ih =>
  have : flat (List.replicate (n + 1) (V.agg (List.replicate 7 .any))) = List.replicate 7 .any ++ flat (List.replicate n (V.agg (List.replicate 7 .any))):=rfl
  rw [this,ih,List.replicate_append_replicate,Nat.add_mul,Nat.one_mul,Nat.add_comm]
theorem cano_rep7 (n : Nat) : (V.sl .ro (List.replicate n (.agg (List.replicate 7 .any)))).cano = true:=by
 rw [V.cano]
 induction n with
 | zero=>rfl
 | succ n ih=>rw [List.replicate_succ,canos,ih]; rfl
theorem ok_mask_Normal : SpecL Tryz.prog n_mask_Normal F_mask_Normal:=by
 refine ⟨⟨_,_,Tryz.func11,rfl,by kernel_rfl⟩,fun args v hv=>?_⟩
 obtain ⟨l,rfl,hl,rfl⟩:=specOf_inv hv
 refine ⟨fun m κ w xs k r=>?_,(cano_plain (cano_rep7 _)).2⟩
 obtain ⟨x,ys,rfl,r1,r2⟩:=r.inv_cons
 obtain rfl:=r2.inv_nil
 obtain ⟨b,off,cap,fs,rfl,hcap,hb,rfl,hF,hrep⟩:=facts_rep hl.ne r1
 have hlen : (fs.map proj).length = fs.length:=List.length_map ..
 have hle:=hl.le
 have hne : 0 < (fs.map proj).length:=List.length_pos_iff.2 hl.ne
 have hcon:=normal_calls (l:=fs.map Prod.fst) (cap:=cap) (n:=(fs.map proj).length) (by simp) hne hle hb hF (fun f hf=>by
   obtain ⟨p,hp,rfl⟩:=List.mem_map.1 hf
   exact frep_n (hrep p hp) (hl.all _ (List.mem_map_of_mem hp)))
  (by have:=hl.dis; rw [List.map_map] at this ⊢; exact this)
 refine hcon.mono ?_
 rintro e w' ⟨hs,v',out,rfl,ho1,ho⟩
 refine ⟨_,_,rfl,newHw_ext k hs.size hs.same hs.os hs.output,?_⟩
 obtain ⟨_,⟨rfl,h0⟩ | ⟨g,cp,cur,rfl,hbg,hg,hn,_,hsz,ht⟩⟩:=ho
 ·omega
 ·rw [ho1] at ht hn ⊢
  have e : (fs.map proj).length = (List.replicate (fs.map proj).length (V.agg (List.replicate 7 .any))).length:=by simp
  have hx : (flatF out).length = (fs.map proj).length * 7:=by rw [flatF_len,ho1]
  generalize (fs.map proj).length = n at *
  rw [show Value.slice (some ⟨g,0,none⟩) n cp = .slice (some ⟨g,0,none⟩) (List.replicate n (V.agg (List.replicate 7 .any))).length cp by rw [← e]]
  refine .sl .ro _ g 0 cp 7 (flatF out) (fun i x hx=>?_) (fun e he=>?_) (by rw [flat_rep7,hx]; simp) (fun i c x hc _=>?_) (by rw [← e]; exact hn) trivial
  ·have hc : cur[i]? = some x:=by
    rw [← ht,List.getElem?_take] at hx
    split at hx
    ·rw [← Array.getElem?_toList]; exact hx
    ·cases hx
   rw [Nat.zero_add]
   refine ⟨?_,?_,?_⟩
   ·rw [newHw_new hbg hg]; exact (Array.getElem?_eq_some_iff.1 hc).1
   ·unfold hcell; rw [hg]; exact hc
   ·obtain ⟨f,_,hf⟩:=List.mem_flatMap.1 (List.mem_of_getElem? hx)
    exact encF_one f x hf
  ·rw [List.eq_of_mem_replicate he]; rfl
  ·rw [flat_rep7] at hc
   rw [List.eq_of_mem_replicate (List.mem_of_getElem? hc)]
   exact .any _
end Go.Fbs

import Derived.Test.YtpnflpbamlbpeaaGreatDoorVB
set_option linter.unusedSimpArgs false
set_option linter.unusedVariables false
set_option linter.unusedSectionVars false
set_option maxRecDepth 100000
namespace Go.Fbs
def mskE (d : Bool) (s : List Ent) : List Ent:=if hasE s d 5 then [] else [maskE d s]
theorem addM_eq (d : Bool) (s : List Ent) : addM d s = s ++ mskE d s:=by unfold addM mskE; split <;> simp
theorem msk_mem {d : Bool} {s : List Ent} {y : Ent} (h : y ∈ mskE d s) : hasE s d 5 = false ∧ y = maskE d s:=by
 unfold mskE at h
 split at h
 ·cases h
 ·rename_i hh; exact ⟨by simpa using hh,by simpa using h⟩
theorem bears_mask {b d : Bool} {s : List Ent} : bearsE b (maskE d s) = false:=by unfold bearsE maskE; simp
theorem or_msk {b d : Bool} {s : List Ent} {n : Int} : orB b (mskE d s) n = n:=by
 unfold mskE; split
 ·rfl
 ·show (if bearsE b (maskE d s) then _ else n) = n
  rw [bears_mask]; rfl
theorem has_app {a b : List Ent} {d : Bool} {k : Int} : hasE (a ++ b) d k = (hasE a d k || hasE b d k):=List.any_append
theorem has_msk {d e : Bool} {s : List Ent} (h : e ≠ d) {k : Int} : hasE (mskE d s) e k = false:=by
 unfold mskE; split
 ·rfl
 ·unfold hasE maskE
  cases d <;> cases e <;> simp at h ⊢
theorem msk_app (s : List Ent) : mskE true (s ++ mskE false s) = mskE true s:=by
 unfold mskE
 have h1 : hasE (s ++ mskE false s) true 5 = hasE s true 5:=by rw [has_app,has_msk (by decide),Bool.or_false]
 have h2 : maskE true (s ++ mskE false s) = maskE true s:=by unfold maskE; rw [or_app,or_msk]
 unfold mskE at h1 h2
 rw [h1,h2]
def addedE (s : List Ent) : List Ent:=mskE false s ++ (if lastD s then mskE true s else [])
theorem masks_eq (s : List Ent) : masksM s = s ++ addedE s:=by
 unfold masksM addedE
 rw [addM_eq,addM_eq]
 split
 ·rw [msk_app,List.append_assoc]
 ·rw [List.append_nil]
theorem added_mem {s : List Ent} {y : Ent} (h : y ∈ addedE s) : ∃ d,y ∈ mskE d s ∧ (d = true → lastD s = true):=by
 unfold addedE at h
 rcases List.mem_append.1 h with h | h
 ·exact ⟨false,h,fun e=>by cases e⟩
 ·split at h
  ·rename_i hl; exact ⟨true,h,fun _=>hl⟩
  ·cases h
theorem mem_msk {d : Bool} {s : List Ent} (h : hasE s d 5 = false) : maskE d s ∈ mskE d s:=by unfold mskE; rw [h]; simp
theorem mem_added {d : Bool} {s : List Ent} (h : hasE s d 5 = false) (hd : d = true → lastD s = true) : maskE d s ∈ addedE s:=by
 unfold addedE
 cases d
 ·exact List.mem_append_left _ (mem_msk h)
 ·rw [hd rfl]; exact List.mem_append_right _ (mem_msk h)
theorem or_added {b : Bool} {s : List Ent} {n : Int} : orB b (addedE s) n = n:=by
 unfold addedE
 rw [or_app,or_msk]
 split
 ·rw [or_msk]
 ·rfl
theorem or_oct {b : Bool} : ∀ {s : List Ent} {n : Int},octB n = true → s.all goodE = true → octB (orB b s n) = true
 | [],_,h,_=>h
 | x :: s,n,h,hg=>by
  simp only [List.all_cons,Bool.and_eq_true] at hg
  show octB (orB b s (if bearsE b x then bitO n x.bits else n)) = true
  refine or_oct ?_ hg.2
  split
  ·have:=hg.1
   unfold goodE at this
   simp only [Bool.and_eq_true] at this
   exact bitO_small h this.2
  ·exact h
theorem good_mask {d : Bool} {s : List Ent} (hg : s.all goodE = true) : goodE (maskE d s) = true:=by
 unfold goodE maskE
 simp [or_oct (b:=d) (show octB 0 = true by decide) hg]
theorem good5 {x : Ent} (h : goodE x = true) (h5 : x.kind = 5) : x.name = []:=by
 unfold goodE at h
 simp only [h5] at h
 simp at h
 exact h.1
theorem good_bits {x : Ent} (h : goodE x = true) : 0 ≤ x.bits ∧ x.bits ≤ 7:=by
 unfold goodE octB at h
 simp only [Bool.and_eq_true,decide_eq_true_eq] at h
 exact h.2
theorem has_iff {s : List Ent} {d : Bool} (hg : s.all goodE = true) : hasE s d 5 = true ↔ ∃ x ∈ s,x.dflt = d ∧ x.kind = 5:=by
 unfold hasE
 rw [List.any_eq_true]
 constructor
 ·rintro ⟨x,h1,h2⟩
  simp only [Bool.and_eq_true,decide_eq_true_eq,beq_iff_eq] at h2
  exact ⟨x,h1,h2.1.1,h2.1.2⟩
 ·rintro ⟨x,h1,h2,h3⟩
  refine ⟨x,h1,?_⟩
  rw [good5 (List.all_eq_true.1 hg x h1) h3]
  simp [h2,h3]
theorem dis_app {s t : List Ent} : Dis (s ++ t) ↔ Dis s ∧ Dis t ∧ ∀ x ∈ s,∀ y ∈ t,cmpE x y ≠ 0:=List.pairwise_append
theorem dis_msk {d : Bool} {s : List Ent} : Dis (mskE d s):=by unfold mskE; split; exact .nil; exact List.pairwise_singleton _ _
theorem masks_dis {s : List Ent} (h : Dis s) : Dis (masksM s):=by
 rw [masks_eq,dis_app]
 refine ⟨h,?_,fun x hx y hy e=>?_⟩
 ·unfold addedE
  split
  ·rw [dis_app]
   refine ⟨dis_msk,dis_msk,fun x hx y hy e=>?_⟩
   have h1:=(msk_mem hx).2
   have h2:=(msk_mem hy).2
   rw [h1,h2,cmpE_0] at e
   exact absurd e.1 (by simp [maskE])
  ·rw [List.append_nil]; exact dis_msk
 ·obtain ⟨d,hy,_⟩:=added_mem hy
  obtain ⟨h1,rfl⟩:=msk_mem hy
  rw [cmpE_0] at e
  have : hasE s d 5 = true:=by
   unfold hasE
   rw [List.any_eq_true]
   refine ⟨x,hx,?_⟩
   simp [e.1,e.2.1,e.2.2,maskE]
  rw [h1] at this; cases this
theorem masks_good {s : List Ent} (hg : s.all goodE = true) : (masksM s).all goodE = true:=by
 rw [masks_eq,List.all_append,hg,Bool.true_and,List.all_eq_true]
 intro y hy
 obtain ⟨d,hy,_⟩:=added_mem hy
 rw [(msk_mem hy).2]
 exact good_mask hg
theorem masks_some {s : List Ent} (hs : s.Pairwise leE) : (masksM s).any (·.dflt) = s.any (·.dflt):=by
 rw [masks_eq,List.any_append]
 cases h : s.any (·.dflt)
 ·rw [Bool.false_or,List.any_eq_false]
  intro y hy
  obtain ⟨d,hy,hd⟩:=added_mem hy
  rw [(msk_mem hy).2]
  cases d
  ·simp [maskE]
  ·have:=hd rfl
   rw [last_some hs,h] at this; cases this
 ·rfl
theorem masks_whole {s : List Ent} {d : Bool} (h : wholeM s d = true) : wholeM (masksM s) d = true:=by
 unfold wholeM at *
 simp only [Bool.and_eq_true] at h
 rw [masks_eq,has_app,has_app,has_app,h.1.1,h.1.2,h.2]; rfl
theorem masks_has {s : List Ent} {d : Bool} (hd : d = true → lastD s = true) : hasE (masksM s) d 5 = true:=by
 rw [masks_eq,has_app]
 cases h : hasE s d 5
 ·rw [Bool.false_or]
  unfold hasE
  rw [List.any_eq_true]
  exact ⟨_,mem_added h hd,by simp [maskE]⟩
 ·rfl
theorem sort_self {a : List Ent} (h : a.Pairwise leE) (hd : Dis a) : sortE a = a:=(sort_one (.refl _) h hd).symm
theorem acl_self {l : List Ent} (h : Fine l) : aclM (sortE (masksM (sortE l))) = some (sortE (masksM (sortE l))):=by
 have f:=h.perm (sortE_perm l)
 have hs:=sortE_sorted l
 have p:=sortE_perm (masksM (sortE l))
 have ha:=sortE_sorted (masksM (sortE l))
 have hd:=(dis_perm p).2 (masks_dis f.dis)
 have h98:=masksM_len (sortE l)
 have hl:=p.length_eq
 have hf:=f.len
 have g : (sortE (masksM (sortE l))).all goodE = true:=by rw [all_perm p]; exact masks_good f.good
 have hm : (sortE (masksM (sortE l))).any (·.dflt) = (sortE l).any (·.dflt):=by rw [any_perm p]; exact masks_some hs
 have hw : wholeM (sortE (masksM (sortE l))) false = true:=by rw [whole_perm p]; exact masks_whole f.whole
 have hw2 : (sortE l).any (·.dflt) = true → wholeM (sortE (masksM (sortE l))) true = true:=fun e=>by rw [whole_perm p]; exact masks_whole (f.some_ e)
 have hh : ∀ d,(d = true → (sortE l).any (·.dflt) = true) → hasE (sortE (masksM (sortE l))) d 5 = true:=fun d e=>by rw [has_perm p]; exact masks_has (by rw [last_some hs]; exact e)
 generalize sortE (masksM (sortE l)) = a at *
 have hsa:=sort_self ha hd
 have hla : lastD a = (sortE l).any (·.dflt):=by rw [last_some ha,hm]
 have h0:=hh false (fun e=>by cases e)
 have hma : masksM a = a:=by
  unfold masksM
  have e0 : addM false a = a:=by unfold addM; rw [h0]; rfl
  rw [e0]
  split
  ·rename_i e
   unfold addM
   rw [hh true (fun _=>by rw [← hla]; exact e)]; rfl
  ·rfl
 unfold aclM
 rw [hsa,hma,hsa]
 have h1 : okE a = true:=by unfold okE; rw [g,(adj_dis ha).2 hd]; rfl
 have h2 : wholeL a = true:=by
  unfold wholeL
  rw [hw,hla]
  cases e : (sortE l).any (·.dflt)
  ·rfl
  ·rw [hw2 e]; rfl
 rw [h1,h2]
 have h5 : a.length ≤ 100:=by omega
 simp [h5]
def isM (d : Bool) (x : Ent) : Bool:=x.dflt == d && decide (x.kind = 5)
def toldE (d : Bool) (l : List Ent) (t : Int) : Int:=l.foldl (fun t x=>if isM d x then x.bits else t) t
theorem told_none {d : Bool} : ∀ {l : List Ent} {t : Int},(∀ x ∈ l,isM d x = false) → toldE d l t = t
 | [],_,_=>rfl
 | x :: l,t,h=>by
  show toldE d l (if isM d x then x.bits else t) = t
  rw [h x (by simp)]
  exact told_none fun y hy=>h y (by simp [hy])
theorem told_all {d : Bool} {b : Int} : ∀ {l : List Ent} {t : Int},(∀ x ∈ l,isM d x = true → x.bits = b) → ((∃ x ∈ l,isM d x = true) ∨ t = b) → toldE d l t = b
 | [],t,_,h=>by rcases h with ⟨x,hx,_⟩ | rfl; cases hx; rfl
 | x :: l,t,h,g=>by
  show toldE d l (if isM d x then x.bits else t) = b
  refine told_all (fun y hy=>h y (by simp [hy])) ?_
  cases hx : isM d x
  ·rcases g with ⟨y,hy,hm⟩ | rfl
   ·rcases List.mem_cons.1 hy with rfl | hy
    ·rw [hm] at hx; cases hx
    ·exact .inl ⟨y,hy,hm⟩
   ·exact .inr rfl
  ·exact .inr (h x (by simp) hx)
theorem isM_iff {d : Bool} {x : Ent} : isM d x = true ↔ x.dflt = d ∧ x.kind = 5:=by unfold isM; simp
theorem mask_law {l : List Ent} (h : Fine l) (d : Bool) (hs : (sortE (masksM (sortE l))).any (·.dflt == d) = true) :
  (0 ≤ toldE d l (-1) → toldE d (sortE (masksM (sortE l))) (-1) = toldE d l (-1)) ∧ (toldE d l (-1) < 0 → toldE d (sortE (masksM (sortE l))) (-1) = orB d (sortE (masksM (sortE l))) 0):=by
 have q:=sortE_perm l
 have f:=h.perm q
 have p:=sortE_perm (masksM (sortE l))
 have hso:=sortE_sorted l
 have hmem : ∀ y,y ∈ sortE (masksM (sortE l)) ↔ y ∈ sortE l ∨ y ∈ addedE (sortE l):=fun y=>by rw [p.mem_iff,masks_eq,List.mem_append]
 have hor : orB d (sortE (masksM (sortE l))) 0 = orB d (sortE l) 0:=by rw [or_perm p,masks_eq,or_app,or_added]
 cases hh : hasE (sortE l) d 5
 ·have hn : ∀ x ∈ sortE l,isM d x = false:=fun x hx=>by
   rw [Bool.eq_false_iff]
   intro e
   have:=(has_iff (d:=d) f.good).2 ⟨x,hx,isM_iff.1 e⟩
   rw [hh] at this; cases this
  have h1 : toldE d l (-1) = -1:=told_none fun x hx=>hn x (q.mem_iff.2 hx)
  rw [h1]
  refine ⟨fun e=>by omega,fun _=>?_⟩
  rw [hor]
  have hd : d = true → lastD (sortE l) = true:=by
   rintro rfl
   rw [last_some hso,List.any_eq_true]
   rw [List.any_eq_true] at hs
   obtain ⟨y,hy,he⟩:=hs
   have he : y.dflt = true:=by simpa using he
   rcases (hmem y).1 hy with hy | hy
   ·exact ⟨y,hy,he⟩
   ·obtain ⟨e,hy,hl⟩:=added_mem hy
    rw [(msk_mem hy).2] at he
    have:=hl he
    rw [last_some hso,List.any_eq_true] at this
    exact this
  refine told_all (fun x hx hm=>?_) (.inl ⟨_,(hmem _).2 (.inr (mem_added hh hd)),isM_iff.2 ⟨rfl,rfl⟩⟩)
  rcases (hmem x).1 hx with hx | hx
  ·rw [hn x hx] at hm; cases hm
  ·obtain ⟨e,hy,_⟩:=added_mem hx
   have e1:=(msk_mem hy).2
   have e2 : e = d:=by have:=(isM_iff.1 hm).1; rw [e1] at this; exact this
   rw [e1,e2]; rfl
 ·obtain ⟨x,hx,hxm⟩:=(has_iff f.good).1 hh
  have hu : ∀ y ∈ sortE l,isM d y = true → y.bits = x.bits:=fun y hy hm=>by
   obtain ⟨e1,e2⟩:=isM_iff.1 hm
   have : y = x:=dis_eq f.dis hy hx (cmpE_0.2 ⟨by rw [e1,hxm.1],by rw [e2,hxm.2],by rw [good5 (List.all_eq_true.1 f.good y hy) e2,good5 (List.all_eq_true.1 f.good x hx) hxm.2]⟩)
   rw [this]
  have h1 : toldE d l (-1) = x.bits:=told_all (fun y hy=>hu y (q.mem_iff.2 hy)) (.inl ⟨x,q.mem_iff.1 hx,isM_iff.2 hxm⟩)
  have hb:=(good_bits (List.all_eq_true.1 f.good x hx)).1
  rw [h1]
  refine ⟨fun _=>told_all (fun y hy hm=>?_) (.inl ⟨x,(hmem x).2 (.inl hx),isM_iff.2 hxm⟩),fun e=>by omega⟩
  rcases (hmem y).1 hy with hy | hy
  ·exact hu y hy hm
  ·obtain ⟨e,hy,_⟩:=added_mem hy
   obtain ⟨g1,g2⟩:=msk_mem hy
   have e2 : e = d:=by have:=(isM_iff.1 hm).1; rw [g2] at this; exact this
   rw [e2,hh] at g1; cases g1
end Go.Fbs

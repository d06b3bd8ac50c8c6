import Derived.Test.YthakklikgmcgdaaGreatDoorQD
set_option linter.unusedSimpArgs false
set_option linter.unusedVariables false
set_option linter.unusedSectionVars false
set_option maxRecDepth 100000
namespace Go.Fbs
open Go.Proofs
def qN (w:World) (B:Nat):Prop:=∃ S:Nat→Bool,(∀ b,S b=true→b < w.heap.size∧b≠B)∧aUf (a5d S w.heap)
theorem qN.aJg {w:World} {B:Nat} (h:qN w B):tD w.heap:=by
 obtain ⟨S,h1,h2⟩:=h
 exact ⟨S,fun b hb=>(h1 b hb).1,h2⟩
theorem qN.same {w w' : World} {B : Nat} (h : qN w B) (hz : w.heap.size ≤ w'.heap.size) (hs : ∀ b,b < w.heap.size → b ≠ B → w'.heap[b]? = w.heap[b]?) : qN w' B:=by
 obtain ⟨S,h1,h2⟩:=h
 refine ⟨S,fun b hb=>⟨Nat.lt_of_lt_of_le (h1 b hb).1 hz,(h1 b hb).2⟩,?_⟩
 rw [a36 fun b hb=>hs b (h1 b hb).1 (h1 b hb).2]; exact h2
def yP (κ:Ctx) (B:Nat):Ctx:=⟨κ.hw,fun l=>if l=0 then some B else none,[]⟩
theorem qN.tP {κ:Ctx} {w:World} {B:Nat} (h:qN w B):Tbs (yP κ B) w.heap:=by
 obtain ⟨S,h1,h2⟩:=h
 refine ⟨S,fun b hb=>⟨(h1 b hb).1,?_⟩,h2⟩
 rintro (⟨l,hl⟩ | ⟨L,hL,_⟩)
 ·simp only [yP] at hl
  split at hl
  ·exact (h1 b hb).2 (Option.some.inj hl).symm
  ·cases hl
 ·cases hL
theorem aHx {κ:Ctx} {B:Nat} {h:Heap} {vs:List V} {xs:List Value} (r:Reps κ h vs xs) (hp:bT vs=true):Reps (yP κ B) h vs xs:=qM (κ:=κ) (κ':=yP κ B) (fun b i y h1 h2=>⟨h1,h2⟩) r fun v hv=>bS.1 hp v hv
theorem a2n {κ:Ctx} {B b:Nat} (h:owned (yP κ B) b):b=B:=by
 rcases h with ⟨l,hl⟩ | ⟨L,hL,_⟩
 ·simp only [yP] at hl
  split at hl
  ·exact (Option.some.inj hl).symm
  ·cases hl
 ·cases hL
theorem aVx {κ : Ctx} {B : Nat} {h : Heap} {cs : List V} {ys : List Value} {E : TypeId} (k : Mem κ h empty) (hB : κ.hw B = 0) (hc : h[B]? = some (.cells ⟨ys⟩ E (0,0))) (r : Reps κ h cs ys) (hp : bT cs = true) (ho : ∀ y ∈ ys,y.oneCell' = true)
  (ht:Tbs (yP κ B) h):Mem (yP κ B) h ⟨[.cells none cs],[]⟩:=by
 have hlt:B < h.size:=(Array.getElem?_eq_some_iff.1 hc).1
 refine ⟨⟨?_,?_,?_,?_,?_,?_,?_,?_,k.1.fresh,?_,?_,ht⟩,⟨?_,?_⟩,rfl⟩
 ·intro b hb; rw [a2n (.inl hb)]; exact hlt
 ·intro b hb; rw [a2n (.inl hb)]; exact hB
 ·intro i j b h1 h2
  simp only [yP] at h1 h2
  split at h1 <;> split at h2 <;> simp_all
 ·intro L hL; cases hL
 ·intro L hL; cases hL
 ·intro i j L L' h1; cases h1
 ·intro L hL; cases hL
 ·intro L hL; cases hL
 ·intro L hL; cases hL
 ·intro L hL; cases hL
 ·intro l b hl
  simp only [yP] at hl
  split at hl
  ·rename_i h0; subst h0; exact Nat.one_pos
  ·cases hl
 ·intro l b c hl h2
  have hb:=a2n (.inl ⟨l,hl⟩)
  subst hb
  simp only [yP] at hl
  split at hl
  ·rename_i h0
   subst h0
   cases h2
   exact ⟨_,hc,ys,E,rfl,aHx r hp,ho,fun q hq=>by cases hq⟩
  ·cases hl
structure aX4 (κ:Ctx) (w:World) (B:Nat) (κ':Ctx) (w':World) (cs':List V):Prop where
 os:w'.os=w.os
 output:w'.output=w.output
 size:w.heap.size≤w'.heap.size
 same : ∀ b,b < w.heap.size → b ≠ B → w'.heap[b]? = w.heap[b]?
 hw:∀ b,b < w.heap.size→b≠B→κ'.hw b=κ.hw b
 hwB:κ'.hw B=0
 fresh:∀ b,w'.heap.size≤b→κ'.hw b=0
 cells : ∃ ys E,w'.heap[B]? = some (.cells ⟨ys⟩ E (0,0)) ∧ Reps κ' w'.heap cs' ys ∧ ∀ y ∈ ys,y.oneCell' = true
theorem aSp {l:Nat} {T:List (Nat×Nat)} : ∀ {n:Nat} {cs:List V} {q:List V×List GA},fV l T (List.replicate n .pl) cs=some q→q.1=cs.map V.aI
 | 0,[],q,h=>by cases h; rfl
 | 0,c::cs,q,h=>by cases h
 | n+1,[],q,h=>by cases h
 | n+1,c::cs,q,h=>by
  rw [List.replicate_succ,fV] at h
  obtain ⟨q',h1,rfl⟩:=Option.map_eq_some_iff.1 h
  rw [List.map_cons,← aSp h1]
theorem aSq {l:Nat} {T:List (Nat×Nat)} : ∀ {n:Nat} {cs:List V},cs.length=n→fV l T (List.replicate n .pl) cs=some (cs.map V.aI,[])
 | 0,[],_=>rfl
 | 0,c::cs,h=>by simp at h
 | n+1,[],h=>by simp at h
 | n+1,c::cs,h=>by
  rw [List.replicate_succ,fV,aSq (by simpa using h)]; rfl
theorem aSr:∀ n:Nat,tyK (List.replicate n .pl)=none
 | 0=>rfl
 | n+1=>by
  show tyK (.pl::List.replicate n .pl)=none
  exact aSr n
theorem aSs {P:Program} {f:FuncId} {sg:gY} {F:Spec} (h:dX P f sg F) {words rs args cs cs':List V} {n:Nat} (hF:F words=some (.tup rs))
  (hin:iD 0 0 sg.as words=(.ptr 0 0::args,[.cells none cs],[])) (hgr:sg.gr=[]) (hout:eN sg.as=[List.replicate n .pl]) (hrs:rs.drop sg.bF=[.agg cs']) (hcs:bT cs=true) (hargs:bT args=true)
  {κ : Ctx} {w : World} {B : Nat} {ys xs : List Value} {E : TypeId} (k : Mem κ w.heap empty) (hB : κ.hw B = 0) (hc : w.heap[B]? = some (.cells ⟨ys⟩ E (0,0))) (r : Reps κ w.heap cs ys) (ho : ∀ y ∈ ys,y.oneCell' = true) (ra : Reps κ w.heap args xs)
  (ht:Tbs (yP κ B) w.heap) :
  Calls P f ⟨.pointer (some ⟨B,0,none⟩)::xs⟩ w fun e w'=>∃ x κ',e = .returned x∧Rep κ' w'.heap (pack (rs.take sg.bF)) x∧aX4 κ w B κ' w' cs':=by
 obtain ⟨rs',e,hn,hw1,hw2,hsh,hcall⟩:=h.call words _ hF
 have e:rs=rs':=by simpa using e
 subst e
 have hlt:B < w.heap.size:=(Array.getElem?_eq_some_iff.1 hc).1
 have hm:=aVx k hB hc r hcs ho ht
 have:=hcall (yP κ B) w (.pointer (some ⟨B,0,none⟩)::xs) (by rw [hin]; exact hm) (by
  rw [hin,hgr]
  exact Reps.cons (.ptr 0 0 B rfl) (aHx ra hargs))
 rw [hin] at this
 refine this.mono ?_
 rintro e w' ⟨x,κ',m1,he,hx,hr,gs,hend,_⟩
 refine ⟨x,κ',he,hr,?_⟩
 have hown:∀ b,b < w.heap.size→b≠B→¬ owned (yP κ B) b:=fun b _ hb ho=>hb (a2n ho)
 have hbox:κ'.box 0=some B:=hx.le.box 0 B rfl
 rw [hout,hrs] at hend
 simp only [vV] at hend
 split at hend
 ·rename_i e1 cs1 hH
  split at hend
  ·rename_i w1 mF q h1 h2
   simp only [Option.some.injEq,Prod.mk.injEq,List.cons.injEq,V.agg.injEq] at hend
   obtain ⟨⟨rfl,_⟩,_⟩:=hend
   have hpl:=aSp (uA h1).1
   obtain ⟨_,g1,ys',E',rfl,g2,g3,_⟩:=hx.mem.2.1.2 0 B _ hbox hH
   refine ⟨hx.os,hx.out.output,hx.le.size,fun b hb hne=>hx.le.same b hb (hown b hb hne),fun b hb hne=>hx.le.sM b hb (hown b hb hne),hx.mem.1.nP B ⟨0,hbox⟩,hx.mem.1.fresh,ys',E',g1,?_,g3⟩
   simp only at hpl
   rw [hpl]
   refine ⟨by rw [List.length_map]; exact g2.1,fun i c x h1 h2=>?_⟩
   rw [List.getElem?_map] at h1
   obtain ⟨c0,h3,rfl⟩:=Option.map_eq_some_iff.1 h1
   exact a2x (g2.2 i c0 x h3 h2)
  ·cases hend
 ·cases hend
theorem aSt {P:Program} {f:FuncId} {sg:gY} {words rs args cs cs':List V} {n:Nat}
  (hin:iD 0 0 sg.as words=(.ptr 0 0::args,[.cells none cs],[])) (hgr:sg.gr=[]) (hout:eN sg.as=[List.replicate n .pl]) (hrs:rs.drop sg.bF=[.agg cs']) (hcs:bT cs=true) (hargs:bT args=true) (hcs':aJ cs'=true) (hn:cs'.length=n) (hres:(pack (rs.take sg.bF)).plain=true)
  (h : ∀ (κ : Ctx) (w : World) (B : Nat) (ys xs : List Value) (E : TypeId),Mem κ w.heap empty → κ.hw B = 0 → w.heap[B]? = some (.cells ⟨ys⟩ E (0,0)) → Reps κ w.heap cs ys → (∀ y ∈ ys,y.oneCell' = true) → Reps κ w.heap args xs → qN w B →
   Calls P f ⟨.pointer (some ⟨B,0,none⟩)::xs⟩ w fun e w'=>∃ x κ',e = .returned x∧Rep κ' w'.heap (pack (rs.take sg.bF)) x∧aX4 κ w B κ' w' cs'):Callee P f sg words rs:=by
 intro κ0 w xs k ra
 rw [hin] at k ra ⊢
 rw [hgr] at ra
 obtain ⟨x,xs,rfl,rx,ra2⟩:=(show Reps κ0 w.heap (.ptr 0 0::args) xs from ra).inv_cons
 obtain ⟨B,hbox,rfl⟩:=rep_ptr rx
 obtain ⟨_,hc,ys,E,rfl,h2,h3,_⟩:=k.2.1.2 0 B _ hbox rfl
 have hB0:κ0.hw B=0:=k.1.nP B ⟨0,hbox⟩
 have hlt:B < w.heap.size:=(Array.getElem?_eq_some_iff.1 hc).1
 have hle:κ0.aN=[]:=by have:=k.2.2; simpa using this
 have hbx:∀ l b,κ0.box l=some b→l=0∧b=B:=fun l b e=>by
  have h1:=k.2.1.1 l b e
  have h0:l=0:=by simpa using h1
  subst h0
  rw [hbox] at e
  exact ⟨rfl,(Option.some.inj e).symm⟩
 let κ:Ctx:=⟨κ0.hw,fun _=>none,[]⟩
 have km:Mem κ w.heap empty:=by
  refine ⟨⟨?_,?_,?_,?_,?_,?_,?_,?_,k.1.fresh,?_,?_,k.1.tP.aJg.tP fun b=>by rintro (⟨l,hl⟩ | ⟨L,hL,_⟩); cases hl; cases hL⟩,⟨?_,?_⟩,rfl⟩
  ·rintro b ⟨l,hl⟩; cases hl
  ·rintro b ⟨l,hl⟩; cases hl
  ·intro i j b h1; cases h1
  ·intro L hL; cases hL
  ·intro L hL; cases hL
  ·intro i j L L' h1; cases h1
  ·intro L hL; cases hL
  ·intro L hL; cases hL
  ·intro L hL; cases hL
  ·intro L hL; cases hL
  ·intro l b hl; cases hl
  ·intro l b c hl; cases hl
 have toκ:∀ {vs:List V} {zs:List Value},bT vs=true→Reps κ0 w.heap vs zs→Reps κ w.heap vs zs:=fun hp r=>qM (κ:=κ0) (κ':=κ) (fun b i y h1 h2=>⟨h1,h2⟩) r fun v hv=>bS.1 hp v hv
 have hTB:qN w B:=by
  obtain ⟨S,q1,q2⟩:=k.1.tP
  exact ⟨S,fun b hb=>⟨(q1 b hb).1,fun e=>(q1 b hb).2 (.inl ⟨0,by rw [e]; exact hbox⟩)⟩,q2⟩
 refine (h κ w B ys xs E km hB0 hc (toκ hcs h2) h3 (toκ hargs ra2) hTB).mono ?_
 rintro e w' ⟨x,κ',he,hr,ha⟩
 obtain ⟨ys',E',c1,c2,c3⟩:=ha.cells
 let κ1:Ctx:=⟨κ'.hw,κ0.box,[]⟩
 have hne:∀ b,¬ owned κ0 b→b≠B:=fun b hn e=>hn (.inl ⟨0,by rw [e]; exact hbox⟩)
 have toκ1:∀ {v:V} {z:Value},v.plain=true→Rep κ' w'.heap v z→Rep κ1 w'.heap v z:=fun hp r=>a1g (κ:=κ') (κ':=κ1) (fun b i y h1 h2=>⟨h1,h2⟩) r hp
 have hpl:=(jM hcs').1
 have hle':Le κ0 w.heap κ1 w'.heap:=by
  refine ⟨ha.size,fun b hb hn=>ha.same b hb (hne b hn),fun b hb hn=>ha.hw b hb (hne b hn),fun b i x hi hx=>?_,fun b=>?_,fun l b e=>e,fun b hb=>.inl hb,fun i L e=>?_,fun L hL=>?_⟩
  ·have hlt':=gW hx
   have hbB:b≠B:=fun e=>by rw [e,hB0] at hi; omega
   unfold aW at hx ⊢
   rw [ha.same b hlt' hbB]; exact hx
  ·show κ0.hw b≤κ'.hw b
   by_cases hb:b < w.heap.size
   ·by_cases e:b=B
    ·rw [e,hB0]; exact Nat.zero_le _
    ·exact Nat.le_of_eq (ha.hw b hb e).symm
   ·rw [k.1.fresh b (by omega)]; exact Nat.zero_le _
  ·rw [hle] at e; cases e
  ·cases hL
 have hmem':Mem κ1 w'.heap ⟨[.cells none cs'],[]⟩:=by
  refine ⟨⟨?_,?_,?_,?_,?_,?_,?_,?_,ha.fresh,?_,?_,k.1.tP.le hle'⟩,⟨?_,?_⟩,rfl⟩
  ·rintro b ⟨l,hl⟩; rw [(hbx l b hl).2]; exact Nat.lt_of_lt_of_le hlt ha.size
  ·rintro b ⟨l,hl⟩; rw [(hbx l b hl).2]; exact ha.hwB
  ·exact k.1.rE
  ·intro L hL; cases hL
  ·intro L hL; cases hL
  ·intro i j L L' h1; cases h1
  ·intro L hL; cases hL
  ·intro L hL; cases hL
  ·intro L hL; cases hL
  ·intro L hL; cases hL
  ·intro l b hl; rw [(hbx l b hl).1]; exact Nat.one_pos
  ·intro l b c hl h2
   obtain ⟨rfl,rfl⟩:=hbx l b hl
   cases h2
   exact ⟨_,c1,ys',E',rfl,⟨c2.1,fun i c x h1 h2=>toκ1 (bS.1 hpl c (List.mem_of_getElem? h1)) (c2.2 i c x h1 h2)⟩,c3,fun q hq=>by cases hq⟩
 refine ⟨x,κ1,⟨[.cells none cs'],[]⟩,he,⟨hle',hmem',Nat.le_refl _,fun l _ e=>e,ha.os,⟨ha.output,ha.size⟩⟩,toκ1 hres hr,[],?_,fun i j n h1=>by simp at h1⟩
 rw [hout,hrs]
 have h1:aDh none 0 [] (List.replicate n .pl) cs'=some (cs',[]):=by
  refine aGe ?_ ?_
  ·rw [aSq hn,← bP,(jM hcs').2]
  ·unfold a0u; rw [aSr]
 simp only [vV,List.getElem?_cons_zero,h1,List.append_nil]
end Go.Fbs

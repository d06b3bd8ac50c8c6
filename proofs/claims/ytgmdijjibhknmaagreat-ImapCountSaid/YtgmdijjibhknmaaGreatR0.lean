/- Common texts: values, words, what they answer; no statement of the seat. -/
import Derived.Calls
import Derived.Tactics
import Derived.Orders
import Derived.RowKit3
import Derived.Deep.MidRow
import Derived.Deep.AppendSrc
import Derived.Laws.StructEq
import Derived.Laws.AppendOwn
import Derived.WalkKit
import Derived.Laws.MakeOwn
import Derived.Laws.BytesString
import Derived.Laws.IdiomStrings
import Derived.Deep.Upon
set_option linter.unusedVariables false
set_option linter.unusedSimpArgs false
set_option linter.unusedSectionVars false
/- Abstract values, and what it means that a value of the machine reads as one: a slice is the list of its elements. -/
namespace Go.Fbs

/-- What is known of a slice's room behind its end. -/
inductive Tag where
  | ro
  | full
  | own (i : Nat)
  deriving DecidableEq, Inhabited

/-- An abstract value. -/
inductive V where
  | bool (b : Bool)
  | int (k : IntKind) (n : Int)
  | str (s : List UInt8)
  | ptr (l off : Nat)
  | ro (cs : List V)
  | nilp
  | sl (g : Tag) (es : List V)
  | map (l : Option Nat)
  | slr (l off n : Nat) (c : Option Nat)
  | func (f : Nat) (caps : List V)
  | agg (cs : List V)
  | tup (vs : List V)
  | undef
  | any
  deriving Inhabited

/-- The cells that a value takes in memory. -/
def V.cells : V → List V
  | .agg cs => cs
  | v => [v]

/-- What is known of a slice's room is forgotten. -/
def V.er1 : V → V
  | .sl (.own _) es => .sl .ro es
  | v => v

/-- The same, of a struct's cells, of several results. -/
def V.er : V → V
  | .agg cs => .agg (cs.map V.er1)
  | .tup vs => .tup (vs.map V.er1)
  | v => v.er1

/-- A value that may lie in cells. -/
def V.ok1 : V → Bool
  | .undef | .any | .tup _ => false
  | _ => true

def flat (es : List V) : List V := es.flatMap V.cells

/-- What is told of a slice that may grow: nothing; its block and its room; that it has no room. -/
inductive LKind where
  | dead | real | full
  deriving DecidableEq

/-- A place that grows by append: its block, its room, an element's cells, how many elements are taken. -/
structure Lease where
  blk : Nat
  cap : Nat
  sz : Nat
  n : Nat
  kind : LKind

/-- What is told of a lease: how many elements, of how many cells; a dead one tells nothing. -/
def Lease.told (L : Lease) : Nat × Nat := if L.kind = .dead then (0, 0) else (L.n, L.sz)

/-- The ghost of a run: how far each block is sealed; the boxes' blocks; the leases. -/
structure Ctx where
  hw : Nat → Nat
  box : Nat → Option Nat
  lease : List Lease

abbrev Heap := Array Obj

def hcell (h : Heap) (b i : Nat) : Option Value :=
  match h[b]? with
  | some (.cells c _ _) => c[i]?
  | _ => none

theorem cell?_eq (w : World) (b i : Nat) : w.cell? ⟨b, i, none⟩ = hcell w.heap b i := by
  unfold World.cell? hcell
  cases h : w.heap[b]? with
  | none => simp
  | some o => cases o <;> simp

def boxed (κ : Ctx) (b : Nat) : Prop := ∃ l, κ.box l = some b

def owned (κ : Ctx) (b : Nat) : Prop := boxed κ b ∨ ∃ L ∈ κ.lease, L.kind = .real ∧ L.blk = b

/-- The cells 'xs' stand from off on in block b, sealed. -/
def Block (κ : Ctx) (h : Heap) (b off : Nat) (xs : List Value) : Prop :=
  ∀ (i : Nat) x, xs[i]? = some x → off + i < κ.hw b ∧ hcell h b (off + i) = some x ∧ x.oneCell' = true

def TagOk (κ : Ctx) (g : Tag) (n b off cap sz : Nat) : Prop :=
  match g with
  | .ro => True
  | .full => cap = n
  | .own i => ∃ L, κ.lease[i]? = some L ∧ (L.kind = .real → n ≤ L.n ∧ (n = L.n → b = L.blk ∧ off = 0 ∧ cap = L.cap ∧ sz = L.sz)) ∧ (L.kind = .full → n ≤ L.n ∧ (n = L.n → cap = n))

inductive Rep (κ : Ctx) (h : Heap) : V → Value → Prop
  | bool (b : Bool) : Rep κ h (.bool b) (.bool b)
  | int (k : IntKind) (n : Int) : Rep κ h (.int k n) (.int k n)
  | str (s : List UInt8) : Rep κ h (.str s) (.string ⟨⟨s⟩⟩)
  | ptr (l off b : Nat) (hb : κ.box l = some b) : Rep κ h (.ptr l off) (.pointer (some ⟨b, off, none⟩))
  | ro (cs : List V) (b off : Nat) (xs : List Value) (hx : Block κ h b off xs) (hl : xs.length = cs.length)
      (hr : ∀ (i : Nat) c x, cs[i]? = some c → xs[i]? = some x → Rep κ h c x) : Rep κ h (.ro cs) (.pointer (some ⟨b, off, none⟩))
  | nilp : Rep κ h .nilp (.pointer none)
  | slnil (g : Tag) (hg : ∀ i, g = .own i → ∃ L, κ.lease[i]? = some L ∧ (L.kind = .real → 0 < L.n)) : Rep κ h (.sl g []) (.slice none 0 0)
  | sl (g : Tag) (es : List V) (b off cap sz : Nat) (xs : List Value) (hx : Block κ h b off xs) (hu : ∀ e ∈ es, e.cells.length = sz)
      (hl : xs.length = (flat es).length) (hr : ∀ (i : Nat) c x, (flat es)[i]? = some c → xs[i]? = some x → Rep κ h c x) (hc : es.length ≤ cap)
      (ht : TagOk κ g es.length b off cap sz) : Rep κ h (.sl g es) (.slice (some ⟨b, off, none⟩) es.length cap)
  | mapnil : Rep κ h (.map none) (.map none)
  | map (l b : Nat) (hb : κ.box l = some b) : Rep κ h (.map (some l)) (.map (some b))
  | slr (l off n : Nat) (c : Option Nat) (b cap : Nat) (hb : κ.box l = some b) (hn : n ≤ cap) (hc : ∀ k, c = some k → cap = k) : Rep κ h (.slr l off n c) (.slice (some ⟨b, off, none⟩) n cap)
  | func (f : Nat) (caps : List V) (xs : List Value) (hl : xs.length = caps.length)
      (hr : ∀ (i : Nat) c x, caps[i]? = some c → xs[i]? = some x → Rep κ h c x) : Rep κ h (.func f caps) (.func (.func f) #[] ⟨xs⟩)
  | agg (cs : List V) (xs : List Value) (hl : xs.length = cs.length) (ho : ∀ x ∈ xs, x.oneCell' = true)
      (hr : ∀ (i : Nat) c x, cs[i]? = some c → xs[i]? = some x → Rep κ h c x) : Rep κ h (.agg cs) (.agg ⟨xs⟩)
  | tup (cs : List V) (xs : List Value) (hl : xs.length = cs.length)
      (hr : ∀ (i : Nat) c x, cs[i]? = some c → xs[i]? = some x → Rep κ h c x) : Rep κ h (.tup cs) (.tuple ⟨xs⟩)
  | undef : Rep κ h .undef Go.undef
  | any (x : Value) : Rep κ h .any x

/-- Lists, element by element. -/
def Reps (κ : Ctx) (h : Heap) (cs : List V) (xs : List Value) : Prop :=
  xs.length = cs.length ∧ ∀ (i : Nat) c x, cs[i]? = some c → xs[i]? = some x → Rep κ h c x

/-- How a run may go on: what is not owned stands; what is sealed stands; boxes and leases stay, new ones are in new memory. -/
structure Le (κ : Ctx) (h : Heap) (κ' : Ctx) (h' : Heap) : Prop where
  size : h.size ≤ h'.size
  same : ∀ b, b < h.size → ¬ owned κ b → h'[b]? = h[b]?
  hwsame : ∀ b, b < h.size → ¬ owned κ b → κ'.hw b = κ.hw b
  sealed : ∀ b i x, i < κ.hw b → hcell h b i = some x → hcell h' b i = some x
  hw : ∀ b, κ.hw b ≤ κ'.hw b
  box : ∀ (l b : Nat), κ.box l = some b → κ'.box l = some b
  newbox : ∀ b, boxed κ' b → boxed κ b ∨ h.size ≤ b
  lease : ∀ (i : Nat) (L : Lease), κ.lease[i]? = some L → ∃ L', κ'.lease[i]? = some L' ∧ (L' = L ∨ L'.kind = .dead ∨ (L.kind ≠ .dead ∧ L.n < L'.n))
  newlease : ∀ L' ∈ κ'.lease, L'.kind = .real → (∃ L ∈ κ.lease, L.kind = .real ∧ L.blk = L'.blk) ∨ h.size ≤ L'.blk

theorem Le.refl (κ : Ctx) (h : Heap) : Le κ h κ h :=
  ⟨Nat.le_refl _, fun _ _ _ => rfl, fun _ _ _ => rfl, fun _ _ _ _ h => h, fun _ => Nat.le_refl _, fun _ _ h => h, fun _ h => .inl h,
    fun _ L h => ⟨L, h, .inl rfl⟩, fun L h hk => .inl ⟨L, h, hk, rfl⟩⟩

theorem Le.owned {κ κ' : Ctx} {h h' : Heap} (l : Le κ h κ' h') {b : Nat} (hb : b < h.size) (ho : ¬ owned κ b) : ¬ Fbs.owned κ' b := by
  rintro (h1 | ⟨L, h1, hk, rfl⟩)
  · rcases l.newbox b h1 with h2 | h2
    · exact ho (.inl h2)
    · omega
  · rcases l.newlease L h1 hk with ⟨L0, h2, h3⟩ | h2
    · exact ho (.inr ⟨L0, h2, h3⟩)
    · omega

theorem Le.trans {κ κ' κ'' : Ctx} {h h' h'' : Heap} (a : Le κ h κ' h') (b : Le κ' h' κ'' h'') : Le κ h κ'' h'' where
  size := Nat.le_trans a.size b.size
  same i hi ho := by rw [b.same i (Nat.lt_of_lt_of_le hi a.size) (a.owned hi ho), a.same i hi ho]
  hwsame i hi ho := by rw [b.hwsame i (Nat.lt_of_lt_of_le hi a.size) (a.owned hi ho), a.hwsame i hi ho]
  sealed bl i x hi hc := b.sealed bl i x (Nat.lt_of_lt_of_le hi (a.hw bl)) (a.sealed bl i x hi hc)
  hw i := Nat.le_trans (a.hw i) (b.hw i)
  box l bl hb := b.box l bl (a.box l bl hb)
  newbox bl hb := by
    rcases b.newbox bl hb with h1 | h1
    · exact a.newbox bl h1
    · exact .inr (Nat.le_trans a.size h1)
  lease i L hL := by
    obtain ⟨L', h1, h2⟩ := a.lease i L hL
    obtain ⟨L'', h3, h4⟩ := b.lease i L' h1
    refine ⟨L'', h3, ?_⟩
    rcases h4 with rfl | h4 | ⟨h4, h5⟩
    · exact h2
    · exact .inr (.inl h4)
    · rcases h2 with rfl | h2 | ⟨h2, h6⟩
      · exact .inr (.inr ⟨h4, h5⟩)
      · exact absurd h2 h4
      · exact .inr (.inr ⟨h2, Nat.lt_trans h6 h5⟩)
  newlease L hL hk := by
    rcases b.newlease L hL hk with ⟨L1, h1, hk1, h2⟩ | h1
    · rcases a.newlease L1 h1 hk1 with ⟨L0, h3, hk0, h4⟩ | h3
      · exact .inl ⟨L0, h3, hk0, by rw [h4, h2]⟩
      · exact .inr (by omega)
    · exact .inr (Nat.le_trans a.size h1)

/-- The boxes stay as they are. -/
structure LeB (κ : Ctx) (h : Heap) (κ' : Ctx) (h' : Heap) : Prop extends Le κ h κ' h' where
  same_box : κ'.box = κ.box

instance {κ κ' : Ctx} {h h' : Heap} : CoeOut (LeB κ h κ' h') (Le κ h κ' h') := ⟨LeB.toLe⟩

theorem LeB.refl (κ : Ctx) (h : Heap) : LeB κ h κ h := ⟨Le.refl κ h, rfl⟩

theorem Block.mono {κ κ' : Ctx} {h h' : Heap} (l : Le κ h κ' h') {b off : Nat} {xs : List Value} (hb : Block κ h b off xs) : Block κ' h' b off xs :=
  fun i x hx => let ⟨h1, h2, h3⟩ := hb i x hx; ⟨Nat.lt_of_lt_of_le h1 (l.hw b), l.sealed b _ x h1 h2, h3⟩

theorem TagOk.mono {κ κ' : Ctx} {h h' : Heap} (l : Le κ h κ' h') {g : Tag} {n b off cap sz : Nat} (ht : TagOk κ g n b off cap sz) : TagOk κ' g n b off cap sz := by
  cases g with
  | ro => trivial
  | full => exact ht
  | own i =>
    obtain ⟨L, h1, h2⟩ := ht
    obtain ⟨L', h4, h5⟩ := l.lease i L h1
    refine ⟨L', h4, ?_⟩
    rcases h5 with rfl | h5 | ⟨h5, h6⟩
    · exact h2
    · rw [h5]; simp
    · have h7 : n ≤ L.n := by
        cases hk : L.kind with
        | dead => exact absurd hk h5
        | real => exact (h2.1 hk).1
        | full => exact (h2.2 hk).1
      exact ⟨fun _ => ⟨by omega, fun hn => by omega⟩, fun _ => ⟨by omega, fun hn => by omega⟩⟩

theorem Rep.mono {κ κ' : Ctx} {h h' : Heap} (l : Le κ h κ' h') {v : V} {x : Value} (r : Rep κ h v x) : Rep κ' h' v x := by
  induction r with
  | bool b => exact .bool b
  | int k n => exact .int k n
  | str s => exact .str s
  | ptr i off b hb => exact .ptr i off b (l.box i b hb)
  | ro cs b off xs hx hl _ ih => exact .ro cs b off xs (hx.mono l) hl ih
  | nilp => exact .nilp
  | slnil g hg =>
    refine .slnil g fun i hi => ?_
    obtain ⟨L, h1, h2⟩ := hg i hi
    obtain ⟨L', h3, h4⟩ := l.lease i L h1
    refine ⟨L', h3, ?_⟩
    rcases h4 with rfl | h4 | ⟨_, h4⟩
    · exact h2
    · intro h; rw [h4] at h; simp at h
    · intro _; omega
  | sl g es b off cap sz xs hx hu hl _ hc ht ih => exact .sl g es b off cap sz xs (hx.mono l) hu hl ih hc (ht.mono l)
  | mapnil => exact .mapnil
  | map i b hb => exact .map i b (l.box i b hb)
  | slr i off n c b cap hb hn hc => exact .slr i off n c b cap (l.box i b hb) hn hc
  | func f caps xs hl _ ih => exact .func f caps xs hl ih
  | agg cs xs hl ho _ ih => exact .agg cs xs hl ho ih
  | tup cs xs hl _ ih => exact .tup cs xs hl ih
  | undef => exact .undef
  | any x => exact .any x

theorem Reps.mono {κ κ' : Ctx} {h h' : Heap} (l : Le κ h κ' h') {cs : List V} {xs : List Value} (r : Reps κ h cs xs) : Reps κ' h' cs xs :=
  ⟨r.1, fun i c x h1 h2 => (r.2 i c x h1 h2).mono l⟩

theorem nf {L : Lease} (h : L.kind = .real) : L.kind = .real := h

/-- What holds of the ghost at each moment. -/
structure Ok (κ : Ctx) (h : Heap) : Prop where
  boxlt : ∀ b, boxed κ b → b < h.size
  boxhw : ∀ b, boxed κ b → κ.hw b = 0
  boxnd : ∀ (i j b : Nat), κ.box i = some b → κ.box j = some b → i = j
  lblt : ∀ L ∈ κ.lease, L.kind = .real → L.blk < h.size
  lhw : ∀ L ∈ κ.lease, L.kind = .real → κ.hw L.blk = L.n * L.sz
  lnd : ∀ (i j : Nat) (L L' : Lease), κ.lease[i]? = some L → κ.lease[j]? = some L' → L.kind = .real → L'.kind = .real → L.blk = L'.blk → i = j
  lbox : ∀ L ∈ κ.lease, L.kind = .real → ¬ boxed κ L.blk
  lcells : ∀ L ∈ κ.lease, L.kind = .real → ∃ c E, h[L.blk]? = some (.cells c E (0, 0)) ∧ L.cap * L.sz ≤ c.size ∧ L.n ≤ L.cap
  fresh : ∀ b, h.size ≤ b → κ.hw b = 0

/-- What a box holds: cells, or a map's entries. -/
inductive LO where
  | cells (cs : List V)
  | map (es : List (V × V))
  | arr (cs : List V)
  | dead
  deriving Inhabited

/-- An object of the machine's memory is such a box. -/
def ORep (κ : Ctx) (h : Heap) : LO → Obj → Prop
  | .cells cs, o => ∃ xs E, o = .cells ⟨xs⟩ E (0, 0) ∧ Reps κ h cs xs ∧ ∀ x ∈ xs, x.oneCell' = true
  | .arr cs, o => ∃ xs E, o = .cells ⟨xs⟩ E (0, 0) ∧ cs.length ≤ xs.length ∧ Reps κ h cs (xs.take cs.length) ∧ ∀ x ∈ xs.take cs.length, x.oneCell' = true
  | .dead, _ => True
  | .map es, o => ∃ (en : List MapEntry) (clock : Nat), o = .map ⟨en⟩ clock ∧ Reps κ h (es.map (·.1)) (en.map (·.key)) ∧ Reps κ h (es.map (·.2)) (en.map (·.val)) ∧ ∀ e ∈ en, e.born < clock

/-- The boxes' contents. -/
def HeapOk (κ : Ctx) (h : Heap) (H : List LO) : Prop :=
  (∀ l b, κ.box l = some b → l < H.length) ∧ ∀ (l b : Nat) c, κ.box l = some b → H[l]? = some c → ∃ o, h[b]? = some o ∧ ORep κ h c o

/-- The abstract memory: boxes; of each lease how many elements are taken, and an element's cells. -/
structure Hp where
  H : List LO
  T : List (Nat × Nat)

def Mem (κ : Ctx) (h : Heap) (m : Hp) : Prop := Ok κ h ∧ HeapOk κ h m.H ∧ κ.lease.map Lease.told = m.T

/-- The output is kept. -/
structure Kept (w w' : World) : Prop where
  output : w'.output = w.output
  size : w.heap.size ≤ w'.heap.size
theorem Kept.refl (w : World) : Kept w w := ⟨rfl, Nat.le_refl _⟩
theorem Kept.trans {w w' w'' : World} (a : Kept w w') (b : Kept w' w'') : Kept w w'' := ⟨b.output.trans a.output, Nat.le_trans a.size b.size⟩
theorem kept_alloc (w : World) (c : Array Value) (t : TypeId) : Kept w (w.alloc (.cells c t)) := ⟨rfl, by simp⟩
theorem kept_drew_alloc (w : World) (c : Array Value) (t : TypeId) : Kept w (w.drew.alloc (.cells c t)) := ⟨rfl, by simp⟩
theorem kept_push (w : World) (c : Array Value) (t : TypeId) : Kept w { w with heap := w.heap.push (.cells c t (0, 0)) } := kept_alloc w c t

/-- The memory goes on from m to m'; places that are kept for boxes stay kept; nothing is said outside. -/
structure Ext (κ : Ctx) (w : World) (m : Hp) (κ' : Ctx) (w' : World) (m' : Hp) : Prop where
  le : Le κ w.heap κ' w'.heap
  mem : Mem κ' w'.heap m'
  grow : m.H.length ≤ m'.H.length
  hole : ∀ l, l < m.H.length → κ.box l = none → κ'.box l = none
  os : w'.os = w.os
  out : Kept w w'

theorem Ext.refl {κ : Ctx} {w : World} {m : Hp} (k : Mem κ w.heap m) : Ext κ w m κ w m := ⟨Le.refl _ _, k, Nat.le_refl _, fun _ _ e => e, rfl, Kept.refl _⟩

theorem Ext.trans {κ κ' κ'' : Ctx} {h h' h'' : World} {m m' m'' : Hp} (a : Ext κ h m κ' h' m') (b : Ext κ' h' m' κ'' h'' m'') : Ext κ h m κ'' h'' m'' :=
  ⟨a.le.trans b.le, b.mem, Nat.le_trans a.grow b.grow, fun l hl e => b.hole l (Nat.lt_of_lt_of_le hl a.grow) (a.hole l hl e), b.os.trans a.os, a.out.trans b.out⟩

/-- As LeB, of worlds. -/
structure LeW (κ : Ctx) (w : World) (κ' : Ctx) (w' : World) : Prop where
  leB : LeB κ w.heap κ' w'.heap
  os : w'.os = w.os
  out : Kept w w'

theorem LeW.ext {κ κ' : Ctx} {h h' : World} {m m' : Hp} (l : LeW κ h κ' h') (k : Mem κ' h'.heap m') (hl : m.H.length ≤ m'.H.length) : Ext κ h m κ' h' m' :=
  ⟨l.leB.toLe, k, hl, fun i _ e => by rw [l.leB.same_box]; exact e, l.os, l.out⟩

/-- A frame's slots: how many, and what they hold. -/
structure Env where
  n : Nat
  f : Nat → V

def Env.get (e : Env) (t : Nat) : Option V := if t < e.n then some (e.f t) else none

def Env.put (e : Env) (d : Nat) (v : V) : Env := ⟨e.n, fun i => bif Nat.beq i d then v else e.f i⟩

theorem Env.put_f (e : Env) (d : Nat) (v : V) (i : Nat) : (e.put d v).f i = if i = d then v else e.f i := by
  simp only [Env.put]
  by_cases h : i = d
  · subst h; simp
  · have : Nat.beq i d = false := by
      cases hb : Nat.beq i d with
      | false => rfl
      | true => exact absurd (Nat.eq_of_beq_eq_true hb) h
    rw [this, if_neg h]; rfl

theorem Env.get_put (e : Env) (d : Nat) (v : V) (i : Nat) : (e.put d v).get i = if d = i then (if i < e.n then some v else none) else e.get i := by
  unfold Env.get
  rw [Env.put_f]
  show (if i < e.n then _ else _) = _
  by_cases h : d = i
  · subst h; simp
  · have : ¬ i = d := fun e => h e.symm
    simp [h, this]

theorem Env.get_lt {e : Env} {t : Nat} {v : V} (h : e.get t = some v) : t < e.n := by
  unfold Env.get at h
  split at h
  · assumption
  · simp at h

/-- The abstract state of a frame. -/
structure St where
  env : Env
  m : Hp

def EnvOk (κ : Ctx) (h : Heap) (env : Env) (a : Act) : Prop :=
  a.defers = [] ∧ a.tmps.size = env.n ∧ ∀ (i : Nat) v x, env.get i = some v → a.tmps[i]? = some x → Rep κ h v x

def Real (κ : Ctx) (h : Heap) (s : St) (a : Act) : Prop := Mem κ h s.m ∧ EnvOk κ h s.env a

theorem EnvOk.mono {κ κ' : Ctx} {h h' : Heap} (l : Le κ h κ' h') {env : Env} {a : Act} (r : EnvOk κ h env a) : EnvOk κ' h' env a :=
  ⟨r.1, r.2.1, fun i v x h1 h2 => (r.2.2 i v x h1 h2).mono l⟩

theorem EnvOk.put {κ : Ctx} {h : Heap} {env : Env} {a : Act} (r : EnvOk κ h env a) {dst : Option Tmp} {v : V} {x : Value} (hv : Rep κ h v x) :
    EnvOk κ h (match dst with | some d => env.put d v | none => env) (a.put dst x) := by
  cases dst with
  | none => exact r
  | some d =>
    refine ⟨r.1, by simp [Act.put, r.2.1, Env.put], fun i u y h1 h2 => ?_⟩
    simp only [Act.put] at h2
    simp only [Env.get_put] at h1
    by_cases hd : d = i
    · subst hd
      rw [if_pos rfl] at h1
      rw [Array.getElem?_setIfInBounds, if_pos rfl] at h2
      split at h1 <;> split at h2 <;> simp_all
    · rw [if_neg hd] at h1
      rw [Array.getElem?_setIfInBounds_ne hd] at h2
      exact r.2.2 i u y h1 h2

end Go.Fbs

/- The evaluator: operations, regions, code, over abstract values. -/
namespace Go.Fbs

def V.ofScalar : Value → Option V
  | .bool b => some (.bool b)
  | .int k n => some (.int k n)
  | .string s => some (.str s.data.toList)
  | .pointer none => some .nilp
  | .slice none 0 0 => some (.sl .full [])
  | _ => none

def V.ofVal : Value → Option V
  | .agg cs => (cs.toList.mapM V.ofScalar).map V.agg
  | v => V.ofScalar v

/-- The callees: what a call answers that only reads; and one that writes, with what it leaves. -/
structure Callees where
  isEff : FuncId → Bool
  pure : FuncId → List V → Option V
  eff : FuncId → List V → Hp → Option (V × Hp)

def ev (env : Env) : Operand → Option V
  | .tmp t => env.get t
  | .const v => V.ofVal v
  | .func f => some (.func f [])
  | .global _ => none

def evs (env : Env) : List Operand → Option (List V)
  | [] => some []
  | x :: xs =>
    match ev env x, evs env xs with
    | some v, some vs => some (v :: vs)
    | _, _ => none

section types
variable (P : Program)

def szT (t : TypeId) : Option Nat := (P.info? t).map (·.size)
def bytesT (t : TypeId) : Option Nat := (P.info? t).map (·.bytes)
def zeroT (t : TypeId) : Option V := ((P.info? t).bind (·.zero)).bind V.ofVal
def aggT (t : TypeId) : Option Bool :=
  match P.underlying t with
  | some (.struct _) | some (.array _ _) => some true
  | some _ => some false
  | none => none

/-- What a variable of type t holds whose cells, and more, are these. -/
def loadT (t : TypeId) (cs : List V) : Option V :=
  match aggT P t, szT P t with
  | some true, some n => if n ≤ cs.length then some (.agg (cs.take n)) else none
  | some false, some _ => cs[0]?
  | _, _ => none

/-- A part of a struct's or an array's cells. -/
def partT (t : TypeId) (cs : List V) (off : Nat) : Option V :=
  match aggT P t, szT P t with
  | some true, some n => if off + n ≤ cs.length then some (.agg ((cs.drop off).take n)) else none
  | some false, some _ => cs[off]?
  | _, _ => none

/-- Equality, field by field. -/
def eqFs (eq : TypeId → V → V → Option Bool) (xs ys : List V) : List Field → Option Bool
  | [] => some true
  | f :: fs =>
    if f.name = "_" then none else
    match partT P f.type xs f.offset, partT P f.type ys f.offset with
    | some a, some b =>
      match eq f.type a b with
      | some r => if r then eqFs eq xs ys fs else some false
      | none => none
    | _, _ => none

def eqT : Nat → TypeId → V → V → Option Bool
  | 0, _, _, _ => none
  | d + 1, t, x, y =>
    match P.underlying t, x, y with
    | some .bool, .bool a, .bool b => some (a == b)
    | some (.int _), .int k a, .int k' b => if k = k' then some (a == b) else none
    | some .string, .str a, .str b => some (a == b)
    | some (.pointer _), .nilp, .nilp => some true
    | some (.pointer _), .nilp, .ptr _ _ => some false
    | some (.pointer _), .ptr _ _, .nilp => some false
    | some (.struct fs), .agg xs, .agg ys => if P.stoodInHeld t then none else eqFs P (eqT d) xs ys fs.toList
    | _, _, _ => none

end types

def intBin (op : BinOp) (k : IntKind) (a b : Int) : Option V :=
  match op with
  | .add => some (.int k (k.wrap (a + b)))
  | .sub => some (.int k (k.wrap (a - b)))
  | .mul => some (.int k (k.wrap (a * b)))
  | .quo => if b = 0 then none else some (.int k (k.wrap (a.tdiv b)))
  | .rem => if b = 0 then none else some (.int k (a.tmod b))
  | .and => some (.int k (k.wrap (BitVec.ofInt k.bits a &&& BitVec.ofInt k.bits b).toNat))
  | .or => some (.int k (k.wrap (BitVec.ofInt k.bits a ||| BitVec.ofInt k.bits b).toNat))
  | .xor => some (.int k (k.wrap (BitVec.ofInt k.bits a ^^^ BitVec.ofInt k.bits b).toNat))
  | .eql => some (.bool (a == b))
  | .neq => some (.bool (a != b))
  | .lss => some (.bool (a < b))
  | .leq => some (.bool (a ≤ b))
  | .gtr => some (.bool (a > b))
  | .geq => some (.bool (a ≥ b))
  | _ => none

def strBin (op : BinOp) (a b : List UInt8) : Option V :=
  match op with
  | .add => if ((a.length + b.length : Nat) : Int) ≤ 9223372036854775807 then some (.str (a ++ b)) else none
  | .eql => some (.bool (a == b))
  | .neq => some (.bool !(a == b))
  | .lss => some (.bool (Op.bytesLess a b))
  | .leq => some (.bool (Op.bytesLess a b || a == b))
  | .gtr => some (.bool !(Op.bytesLess a b || a == b))
  | .geq => some (.bool !(Op.bytesLess a b))
  | _ => none

def shiftBin (op : BinOp) (k : IntKind) (a b : Int) : Option V :=
  if b < 0 then none else
  match op with
  | .shl => some (.int k (k.wrap (a * 2 ^ min b.toNat k.bits)))
  | .shr => some (.int k (a.fdiv (2 ^ min b.toNat k.bits)))
  | _ => none

def binV (P : Program) (op : BinOp) (t : TypeId) (x y : V) : Option V :=
  match x, y with
  | .int k a, .int k' b =>
    match op with
    | .shl | .shr => shiftBin op k a b
    | _ => if k = k' then intBin op k a b else none
  | .str a, .str b => strBin op a b
  | x, y =>
    match op with
    | .eql => if P.eqGuardType P.depth t then none else (eqT P 20 t x y).map V.bool
    | .neq => if P.eqGuardType P.depth t then none else (eqT P 20 t x y).map fun b => V.bool (!b)
    | _ => none

def unV (op : UnOp) (x : V) : Option V :=
  match op, x with
  | .neg, .int k n => some (.int k (k.wrap (0 - n)))
  | .not, .bool b => some (.bool !b)
  | _, _ => none

/-- The parts laid over the zero cells. -/
def fillV (place : Nat → Option (Nat × Nat)) (cells : List V) : List (Nat × V) → Option (List V)
  | [] => some cells
  | (i, v) :: rest =>
    match place i with
    | none => none
    | some (off, size) =>
      if v.cells.length ≠ size || off + v.cells.length > cells.length then none
      else fillV place (cells.take off ++ v.cells ++ cells.drop (off + v.cells.length)) rest

def partsV (env : Env) : List (Nat × Operand) → Option (List (Nat × V))
  | [] => some []
  | (i, x) :: rest =>
    match ev env x, partsV env rest with
    | some v, some vs => some ((i, v) :: vs)
    | _, _ => none

def partsOk (ps : List (Nat × V)) : Bool := ps.all fun p => p.2.ok1

def placesT (P : Program) : List Field → Option (List (Nat × Nat))
  | [] => some []
  | f :: fs =>
    match szT P f.type, placesT P fs with
    | some n, some r => some ((f.offset, n) :: r)
    | _, _ => none

def buildV (P : Program) (t : TypeId) (parts : List (Nat × V)) : Option V :=
  match P.underlying t, zeroT P t with
  | some (.struct fs), some z =>
    match placesT P fs.toList with
    | some ps => (fillV (fun i => ps[i]?) z.cells parts).map V.agg
    | none => none
  | some (.array _ e), some z =>
    match szT P e with
    | some n => (fillV (fun i => some (i * n, n)) z.cells parts).map V.agg
    | none => none
  | _, _ => none

/-- A slice literal's elements: each part in its place, in order, none left out. -/
def elemsV : Nat → List (Nat × V) → Option (List V)
  | _, [] => some []
  | k, (i, v) :: rest => if i = k then (elemsV (k + 1) rest).map (v :: ·) else none

def buildSliceV (P : Program) (t : TypeId) (len : Nat) (parts : List (Nat × V)) : Option V :=
  match P.underlying t with
  | some (.slice e) =>
    match szT P e, zeroT P e, elemsV 0 parts with
    | some n, some z, some es =>
      if es.length = len ∧ len * n ≤ 1000000 ∧ z.cells.length = n ∧ 0 < n ∧ es.all (fun e => e.cells.length == n) = true then some (.sl .full (es.map V.er)) else none
    | _, _, _ => none
  | _ => none

/-- The bounds of a slice expression. -/
def boundV (x : Option V) (dflt top : Nat) : Option Nat :=
  match x with
  | none => some dflt
  | some (.int _ i) => if 0 ≤ i ∧ i ≤ top then some i.toNat else none
  | some _ => none

def sliceTag (g : Tag) (l : Nat) (hiGiven : Bool) : Tag :=
  match g with
  | .full => if hiGiven then .ro else .full
  | .own i => if hiGiven || l != 0 then .ro else .own i
  | .ro => .ro

def sliceV (P : Program) (t : TypeId) (x : V) (lo hi : Option V) : Option V :=
  match P.underlying t, x with
  | some .string, .str s =>
    match boundV hi s.length s.length with
    | some h =>
      match boundV lo 0 h with
      | some l => some (.str ((s.take h).drop l))
      | none => none
    | none => none
  | some (.slice e), .sl g es =>
    match szT P e, boundV hi es.length es.length with
    | some n, some h =>
      match boundV lo 0 h with
      | some l => if 0 < n ∧ es.all (fun e => e.cells.length == n) = true then some (.sl (sliceTag g l hi.isSome) ((es.take h).drop l)) else none
      | none => none
    | _, _ => none
  | _, _ => none

def optEv (env : Env) : Option Operand → Option (Option V)
  | none => some none
  | some x => (ev env x).map some

def indexV (P : Program) (t : TypeId) (x i : V) : Option V :=
  match P.underlying t, x, i with
  | some .string, .str s, .int _ n => if 0 ≤ n then s[n.toNat]?.map fun b => .int .u8 b.toNat else none
  | some (.array len e), .agg cs, .int _ n =>
    match szT P e with
    | some sz => if 0 ≤ n ∧ n < len then partT P e cs (n.toNat * sz) else none
    | none => none
  | _, _, _ => none

def fieldAddrV (P : Program) (s : TypeId) (x : V) (f : Nat) : Option V :=
  match P.underlying s with
  | some (.struct fs) =>
    match fs[f]? with
    | some fd =>
      match szT P fd.type, x with
      | some (_ + 1), .ptr l off => some (.ptr l (off + fd.offset))
      | some (_ + 1), .ro cs => some (.ro (cs.drop fd.offset))
      | _, _ => none
    | none => none
  | _ => none

def fieldV (P : Program) (s : TypeId) (x : V) (f : Nat) : Option V :=
  match P.underlying s, x with
  | some (.struct fs), .agg cs =>
    match fs[f]? with
    | some fd => partT P fd.type cs fd.offset
    | none => none
  | _, _ => none

def indexAddrV (P : Program) (t : TypeId) (x i : V) : Option V :=
  match P.underlying t, x, i with
  | some (.slice e), .sl _ es, .int _ n =>
    match szT P e with
    | some (sz + 1) => if 0 ≤ n then (es[n.toNat]?).bind fun e => if e.cells.length = sz + 1 then some (.ro e.cells) else none else none
    | _ => none
  | some (.array len e), .ptr l off, .int _ n =>
    match szT P e with
    | some sz => if 0 ≤ n ∧ n < len ∧ 1 < len then some (.ptr l (off + n.toNat * sz)) else none
    | _ => none
  | _, _, _ => none

def convertV (P : Program) (src dst : TypeId) (x : V) : Option V :=
  match P.underlying src, P.underlying dst, x with
  | some _, some (.int k), .int _ n => some (.int k (k.wrap n))
  | some .string, some .string, .str s => some (.str s)
  | some (.slice e), some .string, .sl _ es =>
    match P.underlying e, es.mapM (fun v => match v with | .int .u8 n => some (UInt8.ofNat n.toNat) | _ => none) with
    | some (.int .u8), some bs => some (.str bs)
    | _, _ => none
  | _, _, _ => none

def makeSliceV (P : Program) (t : TypeId) (l c : V) (m : Hp) : Option (V × Hp) :=
  match P.underlying t, l, c with
  | some (.slice e), .int _ n, .int _ k =>
    match szT P e, zeroT P e, bytesT P e with
    | some sz, some z, some by_ =>
      if 0 ≤ n ∧ n ≤ k ∧ k ≤ 9223372036854775807 ∧ by_ * k ≤ 140737488355328 ∧ z.cells.length = sz ∧ 0 < sz then
        if n = k then some (.sl .full (List.replicate n.toNat z), m)
        else some (.sl (.own m.T.length) (List.replicate n.toNat z), { m with T := m.T ++ [(n.toNat, sz)] })
      else none
    | _, _, _ => none
  | _, _, _ => none

/-- 'append': onto a slice at its tip, or one without room. -/
def appendV (P : Program) (t : TypeId) (x : V) (ys : List V) (m : Hp) : Option (V × Hp) :=
  match P.underlying t, x with
  | some (.slice e), .sl g es =>
    match szT P e, zeroT P e, bytesT P e with
    | some sz, some z, some by_ =>
      if (es.length + ys.length) * (by_ + 1) ≤ 70368744177664 ∧ z.cells.length = sz ∧ 0 < sz ∧ es.all (fun e => e.cells.length == sz) = true ∧ ys.all (fun e => e.cells.length == sz) = true then
        if ys = [] then some (.sl g es, m) else
        match g with
        | .full => some (.sl (.own m.T.length) (es ++ ys), { m with T := m.T ++ [(es.length + ys.length, sz)] })
        | .own i => if m.T[i]? = some (es.length, sz) then some (.sl (.own i) (es ++ ys), { m with T := m.T.set i (es.length + ys.length, sz) }) else none
        | .ro => none
      else none
    | _, _, _ => none
  | _, _ => none

def lenV : V → Option Nat
  | .str s => some s.length
  | .sl _ es => some es.length
  | _ => none

def builtinQ (P : Program) (b : Builtin) (ts : List TypeId) (xs : List V) : Option V :=
  match b, ts, xs with
  | .len, [t], [x] =>
    match P.underlying t, x with
    | some .string, .str s => some (.int .i64 s.length)
    | some (.slice _), .sl _ es => some (.int .i64 es.length)
    | _, _ => none
  | .min, _, [.int k a, .int _ b] => some (.int k (if b < a then b else a))
  | .max, _, [.int k a, .int _ b] => some (.int k (if b > a then b else a))
  | _, _, _ => none

def builtinE (P : Program) (b : Builtin) (ts : List TypeId) (xs : List V) (m : Hp) : Option (V × Hp) :=
  match b, ts, xs with
  | .append, [t, u], [x, y] =>
    match P.underlying u, P.underlying t, y with
    | some (.slice _), _, .sl _ ys => appendV P t x ys m
    | some .string, some (.slice e), .str s => if szT P e = some 1 then appendV P t x (s.map fun b => .int .u8 b.toNat) m else none
    | _, _, _ => none
  | _, _, _ => none

/-- Cells laid into a box. -/
def splice (cells new : List V) (off : Nat) : List V := cells.take off ++ new ++ cells.drop (off + new.length)

/-- A string's bytes as a new slice. -/
def bytesV (_ : Program) (_ _ : TypeId) (_ : V) : Option V := none

/-- A variable is read. -/
def loadV (P : Program) (t : TypeId) (H : List LO) (x : V) : Option V :=
  match x with
  | .ptr l off =>
    match H[l]? with
    | some (.cells cs) => loadT P t (cs.drop off)
    | _ => none
  | .ro cs => loadT P t cs
  | _ => none

def pickV (c a b : V) : Option V :=
  match c with
  | .bool t => some (if t then a else b)
  | _ => none

def buildQ (P : Program) (t : TypeId) (ps : List (Nat × V)) : Option V := if partsOk ps then buildV P t ps else none
def buildSliceQ (P : Program) (t : TypeId) (len : Nat) (ps : List (Nat × V)) : Option V := if partsOk ps then buildSliceV P t len ps else none

def nilV (x : V) : Option V :=
  match x with
  | .ptr l off => some (.ptr l off)
  | .ro cs => some (.ro cs)
  | .func f cs => some (.func f cs)
  | _ => none

def convQ (P : Program) (src dst : TypeId) (x : V) : Option V :=
  match bytesV P src dst x with
  | some r => some r
  | none => convertV P src dst x

def extractV (x : V) (i : Nat) : Option V :=
  match x with
  | .tup vs => vs[i]?
  | _ => none

def callQ (C : Callees) (f : V) (vs : List V) : Option V :=
  match f with
  | .func g caps => C.pure g (vs ++ caps)
  | _ => none

def ev1 (env : Env) (x : Operand) (f : V → Option V) : Option V :=
  match ev env x with
  | some v => f v
  | none => none

def ev2 (env : Env) (x y : Operand) (f : V → V → Option V) : Option V :=
  match ev env x, ev env y with
  | some u, some v => f u v
  | _, _ => none

/-- Operations that leave the memory as it is (but for new blocks that nobody else writes). -/
def evalQ (P : Program) (C : Callees) (env : Env) (H : List LO) : Op → Option V
  | .move x | .assign x => ev env x
  | .pick c a b =>
    match ev env c, ev env a, ev env b with
    | some t, some u, some v => pickV t u v
    | _, _, _ => none
  | .build t parts =>
    match partsV env parts.toList with
    | some ps => buildQ P t ps
    | none => none
  | .buildSlice t len parts =>
    match partsV env parts.toList with
    | some ps => buildSliceQ P t len ps
    | none => none
  | .load t x => ev1 env x fun u => loadV P t H u
  | .nilCheck x => ev1 env x nilV
  | .binOp op t x y _ => ev2 env x y fun u v => binV P op t u v
  | .unOp op _ x => ev1 env x fun u => unV op u
  | .convert src dst x => ev1 env x fun u => convQ P src dst u
  | .makeFunc (.func f) first captured =>
    match evs env captured.toList with
    | some vs => if first = #[] then some (.func f vs) else none
    | none => none
  | .slice t x lo hi none =>
    match ev env x, optEv env lo, optEv env hi with
    | some v, some l, some h => sliceV P t v l h
    | _, _, _ => none
  | .fieldAddr s x f => ev1 env x fun u => fieldAddrV P s u f
  | .field s x f => ev1 env x fun u => fieldV P s u f
  | .indexAddr t x i => ev2 env x i fun u v => indexAddrV P t u v
  | .index t x i => ev2 env x i fun u v => indexV P t u v
  | .extract x i => ev1 env x fun u => extractV u i
  | .call c =>
    match c.callee, evs env c.args.toList with
    | .builtin b, some vs => builtinQ P b c.argTypes.toList vs
    | .value f, some vs => ev1 env f fun u => callQ C u vs
    | _, _ => none
  | _ => none

/-- Operations that make a box. -/
def evalA (P : Program) (env : Env) : Op → Option (List V)
  | .alloc t => (zeroT P t).map V.cells
  | .box _ x =>
    match ev env x with
    | some v => if v.ok1 then some v.cells else none
    | none => none
  | _ => none

/-- A box is written. -/
def storeV (P : Program) (t : TypeId) (x y : V) (m : Hp) : Option (V × Hp) :=
  match x, szT P t with
  | .ptr l off, some n =>
    match m.H[l]? with
    | some (.cells cs) => if y.ok1 = true ∧ y.cells.length = n ∧ off + n ≤ cs.length then some (.undef, { m with H := m.H.set l (.cells (splice cs y.cells off)) }) else none
    | _ => none
  | _, _ => none

/-- Operations that write. -/
def evalW (P : Program) (C : Callees) (env : Env) (m : Hp) : Op → Option (V × Hp)
  | .store t x y =>
    match ev env x, ev env y with
    | some u, some v => storeV P t u v m
    | _, _ => none
  | .makeSlice t l c =>
    match ev env l, ev env c with
    | some u, some v => makeSliceV P t u v m
    | _, _ => none
  | .call c =>
    match c.callee, evs env c.args.toList with
    | .builtin b, some vs => builtinE P b c.argTypes.toList vs m
    | .value f, some vs =>
      match ev env f with
      | some (.func g caps) => C.eff g (vs ++ caps) m
      | _ => none
    | _, _ => none
  | _ => none

/-- Is it one that leaves the memory as it is? -/
def isQ (C : Callees) : Op → Bool
  | .alloc _ | .box .. | .store .. | .makeSlice .. => false
  | .call { callee := .builtin .append, .. } => false
  | .call { callee := .value (.func f), .. } => !C.isEff f
  | _ => true

def isA : Op → Bool
  | .alloc _ | .box .. => true
  | _ => false

def evalOp (P : Program) (C : Callees) (env : Env) (m : Hp) (o : Op) : Option (V × Hp) :=
  if isQ C o then (evalQ P C env m.H o).map (·, m)
  else if isA o then (evalA P env o).map fun cs => (.ptr m.H.length 0, { m with H := m.H ++ [.cells cs] })
  else evalW P C env m o

/-- Is the operation wanted? -/
def wantedV (ops : List Oper) (env : Env) (o : Oper) : Option Bool :=
  match o.guard with
  | none => some true
  | some (j, want) =>
    match ((ops[j]?).bind (·.dst)).bind env.get with
    | some (.bool b) => some (b == want)
    | some .undef => some false
    | _ => none

def putV (env : Env) (dst : Option Tmp) (v : V) : Env :=
  match dst with
  | some d => env.put d v
  | none => env

/-- Operations one behind the other. -/
def evalOps (P : Program) (C : Callees) (ops : List Oper) : List Oper → Env → Hp → Option (Env × Hp)
  | [], env, m => some (env, m)
  | o :: rest, env, m =>
    match wantedV ops env o with
    | some true =>
      match evalOp P C env m o.op with
      | some (v, m') => evalOps P C ops rest (putV env o.dst v) m'
      | none => none
    | some false => evalOps P C ops rest (putV env o.dst .undef) m
    | none => none

end Go.Fbs

/- What the evaluator's small functions say of the machine's. -/
namespace Go.Fbs
section
variable {κ : Ctx} {h : Heap}

theorem rep_bool {b : Bool} {x : Value} (r : Rep κ h (.bool b) x) : x = .bool b := by cases r; rfl
theorem rep_int {k : IntKind} {n : Int} {x : Value} (r : Rep κ h (.int k n) x) : x = .int k n := by cases r; rfl
theorem rep_str {s : List UInt8} {x : Value} (r : Rep κ h (.str s) x) : x = .string ⟨⟨s⟩⟩ := by cases r; rfl
theorem rep_nilp {x : Value} (r : Rep κ h .nilp x) : x = .pointer none := by cases r; rfl
theorem rep_undef {x : Value} (r : Rep κ h .undef x) : x = Go.undef := by cases r; rfl
theorem rep_ptr {l off : Nat} {x : Value} (r : Rep κ h (.ptr l off) x) : ∃ b, κ.box l = some b ∧ x = .pointer (some ⟨b, off, none⟩) := by
  cases r; exact ⟨_, by assumption, rfl⟩
theorem rep_ro {cs : List V} {x : Value} (r : Rep κ h (.ro cs) x) : ∃ b off xs, Block κ h b off xs ∧ Reps κ h cs xs ∧ x = .pointer (some ⟨b, off, none⟩) := by
  cases r with
  | ro _ b off xs hx hl hr => exact ⟨b, off, xs, hx, ⟨hl, hr⟩, rfl⟩
theorem rep_func {f : Nat} {cs : List V} {x : Value} (r : Rep κ h (.func f cs) x) : ∃ xs, Reps κ h cs xs ∧ x = .func (.func f) #[] ⟨xs⟩ := by
  cases r with
  | func _ _ xs hl hr => exact ⟨xs, ⟨hl, hr⟩, rfl⟩
theorem rep_agg {cs : List V} {x : Value} (r : Rep κ h (.agg cs) x) : ∃ xs, Reps κ h cs xs ∧ (∀ x ∈ xs, x.oneCell' = true) ∧ x = .agg ⟨xs⟩ := by
  cases r with
  | agg _ xs hl ho hr => exact ⟨xs, ⟨hl, hr⟩, ho, rfl⟩
theorem rep_tup {cs : List V} {x : Value} (r : Rep κ h (.tup cs) x) : ∃ xs, Reps κ h cs xs ∧ x = .tuple ⟨xs⟩ := by
  cases r with
  | tup _ xs hl hr => exact ⟨xs, ⟨hl, hr⟩, rfl⟩

theorem Reps.nil : Reps κ h [] [] := ⟨rfl, fun i c x h1 => by simp at h1⟩
theorem Reps.cons {c : V} {cs : List V} {x : Value} {xs : List Value} (a : Rep κ h c x) (b : Reps κ h cs xs) : Reps κ h (c :: cs) (x :: xs) :=
  ⟨by simp [b.1], fun i d y h1 h2 => by
    cases i with
    | zero => simp at h1 h2; subst h1; subst h2; exact a
    | succ i => simp at h1 h2; exact b.2 i d y h1 h2⟩
theorem Reps.inv_cons {c : V} {cs : List V} {ys : List Value} (r : Reps κ h (c :: cs) ys) : ∃ x xs, ys = x :: xs ∧ Rep κ h c x ∧ Reps κ h cs xs := by
  obtain ⟨hl, hr⟩ := r
  cases ys with
  | nil => simp at hl
  | cons x xs => exact ⟨x, xs, rfl, hr 0 c x rfl rfl, by simpa using hl, fun i d y h1 h2 => hr (i + 1) d y (by simpa using h1) (by simpa using h2)⟩
theorem Reps.inv_nil {ys : List Value} (r : Reps κ h [] ys) : ys = [] := by
  have := r.1; simpa using this
theorem Reps.drop {cs : List V} {xs : List Value} (r : Reps κ h cs xs) (n : Nat) : Reps κ h (cs.drop n) (xs.drop n) :=
  ⟨by simp [r.1], fun i c x h1 h2 => r.2 (n + i) c x (by simpa using h1) (by simpa using h2)⟩
theorem Reps.take {cs : List V} {xs : List Value} (r : Reps κ h cs xs) (n : Nat) : Reps κ h (cs.take n) (xs.take n) :=
  ⟨by simp [r.1], fun i c x h1 h2 => by
    rw [List.getElem?_take] at h1 h2
    split at h1 <;> simp_all
    exact r.2 i c x h1 h2⟩
theorem Reps.append {cs ds : List V} {xs ys : List Value} (a : Reps κ h cs xs) (b : Reps κ h ds ys) : Reps κ h (cs ++ ds) (xs ++ ys) := by
  refine ⟨by simp [a.1, b.1], fun i c x h1 h2 => ?_⟩
  rw [List.getElem?_append] at h1 h2
  rw [a.1] at h2
  split at h1
  · rename_i hi; rw [if_pos hi] at h2; exact a.2 i c x h1 h2
  · rename_i hi; rw [if_neg hi] at h2; exact b.2 _ c x h1 h2
theorem Reps.get {cs : List V} {xs : List Value} (r : Reps κ h cs xs) {i : Nat} {c : V} (hc : cs[i]? = some c) : ∃ x, xs[i]? = some x ∧ Rep κ h c x := by
  have hi : i < xs.length := by rw [r.1]; exact (List.getElem?_eq_some_iff.1 hc).1
  exact ⟨xs[i], List.getElem?_eq_getElem hi, r.2 i c _ hc (List.getElem?_eq_getElem hi)⟩
theorem Reps.set {cs : List V} {xs : List Value} (r : Reps κ h cs xs) {i : Nat} {c : V} {x : Value} (hc : Rep κ h c x) : Reps κ h (cs.set i c) (xs.set i x) := by
  refine ⟨by simp [r.1], fun j d y h1 h2 => ?_⟩
  rw [List.getElem?_set] at h1 h2
  rw [r.1] at h2
  split at h1
  · rename_i hij
    rw [if_pos hij] at h2
    split at h1 <;> simp_all
  · rename_i hij
    rw [if_neg hij] at h2
    exact r.2 j d y h1 h2

theorem rep_ofScalar {x : Value} {v : V} (e : V.ofScalar x = some v) : Rep κ h v x := by
  unfold V.ofScalar at e
  split at e <;> simp at e <;> subst e
  · exact .bool _
  · exact .int _ _
  · rename_i s; exact .str _
  · exact .nilp
  · exact .slnil .full (by simp)

theorem reps_ofScalars : ∀ {xs : List Value} {vs : List V}, xs.mapM V.ofScalar = some vs → Reps κ h vs xs ∧ ∀ x ∈ xs, x.oneCell' = true
  | [], vs, e => by simp at e; subst e; exact ⟨Reps.nil, by simp⟩
  | x :: xs, vs, e => by
    simp only [List.mapM_cons, Option.bind_eq_bind, Option.bind_eq_some_iff, Option.pure_def, Option.some.injEq] at e
    obtain ⟨v, h1, vs', h2, rfl⟩ := e
    obtain ⟨h3, h4⟩ := reps_ofScalars h2
    refine ⟨Reps.cons (rep_ofScalar h1) h3, fun y hy => ?_⟩
    rcases List.mem_cons.1 hy with rfl | hy
    · unfold V.ofScalar at h1
      split at h1 <;> simp at h1 <;> rfl
    · exact h4 y hy

theorem rep_ofVal {x : Value} {v : V} (e : V.ofVal x = some v) : Rep κ h v x := by
  unfold V.ofVal at e
  split at e
  · rename_i cs
    simp only [Option.map_eq_some_iff] at e
    obtain ⟨vs, h1, rfl⟩ := e
    obtain ⟨h2, h3⟩ := reps_ofScalars (κ := κ) (h := h) h1
    obtain ⟨l⟩ := cs
    exact .agg vs l h2.1 h3 h2.2
  · exact rep_ofScalar e

theorem ok1_ofVal {x : Value} {v : V} (e : V.ofVal x = some v) : v.ok1 = true := by
  unfold V.ofVal at e
  split at e
  · simp only [Option.map_eq_some_iff] at e
    obtain ⟨vs, h1, rfl⟩ := e
    rfl
  · unfold V.ofScalar at e
    split at e <;> simp at e <;> subst e <;> rfl

/-- A value's cells. -/
theorem rep_cells {v : V} {x : Value} (r : Rep κ h v x) (ho : v.ok1 = true) : Reps κ h v.cells x.cells.toList ∧ ∀ y ∈ x.cells.toList, y.oneCell' = true := by
  cases r with
  | agg cs xs hl h1 hr => exact ⟨⟨hl, hr⟩, h1⟩
  | tup => simp [V.ok1] at ho
  | undef => simp [V.ok1] at ho
  | any => simp [V.ok1] at ho
  | bool b => exact ⟨Reps.cons (.bool b) Reps.nil, by simp [Value.cells, Value.oneCell']⟩
  | int k n => exact ⟨Reps.cons (.int k n) Reps.nil, by simp [Value.cells, Value.oneCell']⟩
  | str s => exact ⟨Reps.cons (.str s) Reps.nil, by simp [Value.cells, Value.oneCell']⟩
  | ptr l off b hb => exact ⟨Reps.cons (.ptr l off b hb) Reps.nil, by simp [Value.cells, Value.oneCell']⟩
  | ro cs b off xs hx hl hr => exact ⟨Reps.cons (.ro cs b off xs hx hl hr) Reps.nil, by simp [Value.cells, Value.oneCell']⟩
  | nilp => exact ⟨Reps.cons .nilp Reps.nil, by simp [Value.cells, Value.oneCell']⟩
  | slnil g hg => exact ⟨Reps.cons (.slnil g hg) Reps.nil, by simp [Value.cells, Value.oneCell']⟩
  | sl g es b off cap sz xs hx hu hl hr hc ht => exact ⟨Reps.cons (.sl g es b off cap sz xs hx hu hl hr hc ht) Reps.nil, by simp [Value.cells, Value.oneCell']⟩
  | mapnil => exact ⟨Reps.cons .mapnil Reps.nil, by simp [Value.cells, Value.oneCell']⟩
  | map l b hb => exact ⟨Reps.cons (.map l b hb) Reps.nil, by simp [Value.cells, Value.oneCell']⟩
  | slr l off n c b cap hb hn hc => exact ⟨Reps.cons (.slr l off n c b cap hb hn hc) Reps.nil, by simp [Value.cells, Value.oneCell']⟩
  | func f caps xs hl hr => exact ⟨Reps.cons (.func f caps xs hl hr) Reps.nil, by simp [Value.cells, Value.oneCell']⟩

theorem rep_er1 {v : V} {x : Value} (r : Rep κ h v x) : Rep κ h v.er1 x := by
  cases r with
  | slnil g hg => cases g <;> exact .slnil _ (by simp)
  | sl g es b off cap sz xs hx hu hl hr hc ht =>
    cases g with
    | own i => exact .sl .ro es b off cap sz xs hx hu hl hr hc trivial
    | ro => exact .sl .ro es b off cap sz xs hx hu hl hr hc ht
    | full => exact .sl .full es b off cap sz xs hx hu hl hr hc ht
  | bool b => exact .bool b
  | int k n => exact .int k n
  | str s => exact .str s
  | ptr l off b hb => exact .ptr l off b hb
  | ro cs b off xs hx hl hr => exact .ro cs b off xs hx hl hr
  | nilp => exact .nilp
  | mapnil => exact .mapnil
  | map l b hb => exact .map l b hb
  | slr l off n c b cap hb hn hc => exact .slr l off n c b cap hb hn hc
  | func f caps xs hl hr => exact .func f caps xs hl hr
  | agg cs xs hl ho hr => exact .agg cs xs hl ho hr
  | tup cs xs hl hr => exact .tup cs xs hl hr
  | undef => exact .undef
  | any x => exact .any x

theorem reps_er1 {cs : List V} {xs : List Value} (r : Reps κ h cs xs) : Reps κ h (cs.map V.er1) xs :=
  ⟨by simp [r.1], fun i c x h1 h2 => by
    simp only [List.getElem?_map, Option.map_eq_some_iff] at h1
    obtain ⟨d, h3, rfl⟩ := h1
    exact rep_er1 (r.2 i d x h3 h2)⟩

theorem rep_er {v : V} {x : Value} (r : Rep κ h v x) : Rep κ h v.er x := by
  cases v with
  | agg cs =>
    obtain ⟨xs, h1, h2, rfl⟩ := rep_agg r
    have := reps_er1 h1
    exact .agg _ _ this.1 h2 this.2
  | tup cs =>
    obtain ⟨xs, h1, rfl⟩ := rep_tup r
    have := reps_er1 h1
    exact .tup _ _ this.1 this.2
  | _ => exact rep_er1 r

theorem er_cells {v : V} (h : v.ok1 = true) : v.er.cells = v.cells.map V.er1 := by
  cases v with
  | sl g es => cases g <;> rfl
  | tup vs => simp [V.ok1] at h
  | _ => rfl

theorem er_flat : ∀ {es : List V}, (∀ e ∈ es, e.ok1 = true) → flat (es.map V.er) = (flat es).map V.er1
  | [], _ => rfl
  | e :: es, h => by
    have h1 := er_cells (h e (by simp))
    have h2 := er_flat (es := es) (fun e' he => h e' (by simp [he]))
    simp only [flat, List.map_cons, List.flatMap_cons, List.map_append] at h2 ⊢
    rw [h1, h2]

theorem EnvOk.ev {env : Env} {a : Act} (r : EnvOk κ h env a) {x : Operand} {v : V} (e : Fbs.ev env x = some v) : Rep κ h v (a.eval x) := by
  cases x with
  | tmp t =>
    simp only [Fbs.ev] at e
    have ht : t < a.tmps.size := by rw [r.2.1]; exact Env.get_lt e
    have := r.2.2 t v a.tmps[t] e (Array.getElem?_eq_getElem ht)
    simpa [Act.eval, Array.getD, ht] using this
  | const x => exact rep_ofVal e
  | func f =>
    simp only [Fbs.ev, Option.some.injEq] at e
    subst e
    exact .func f [] [] rfl (by simp)
  | global g => simp [Fbs.ev] at e

theorem EnvOk.evs {env : Env} {a : Act} (r : EnvOk κ h env a) : ∀ {xs : List Operand} {vs : List V}, Fbs.evs env xs = some vs → Reps κ h vs (xs.map a.eval)
  | [], vs, e => by simp [Fbs.evs] at e; subst e; exact Reps.nil
  | x :: xs, vs, e => by
    simp only [Fbs.evs] at e
    split at e <;> simp at e
    rename_i v vs' h1 h2
    subst e
    exact Reps.cons (r.ev h1) (r.evs h2)
end

section types
variable {P : Program} {κ : Ctx} {h : Heap} (w : World)

theorem szT_run {t : TypeId} {n : Nat} (e : szT P t = some n) : (sizeOf t).run P w = .ok n w := by
  unfold szT at e
  cases hi : P.info? t with
  | none => simp [hi] at e
  | some i => simp [hi] at e; subst e; simp [sizeOf, typeInfo, hi]

theorem szT_info {t : TypeId} {n : Nat} (e : szT P t = some n) : ∃ i, P.info? t = some i ∧ i.size = n := by
  unfold szT at e
  cases hi : P.info? t with
  | none => simp [hi] at e
  | some i => simp [hi] at e; exact ⟨i, rfl, e⟩

theorem zeroT_info {t : TypeId} {z : V} (e : zeroT P t = some z) : ∃ i x, P.info? t = some i ∧ i.zero = some x ∧ V.ofVal x = some z := by
  unfold zeroT at e
  cases hi : P.info? t with
  | none => simp [hi] at e
  | some i =>
    simp only [hi, Option.bind_some, Option.bind_eq_some_iff] at e
    obtain ⟨x, h1, h2⟩ := e
    exact ⟨i, x, rfl, h1, h2⟩

theorem zeroT_run {t : TypeId} {z : V} (e : zeroT P t = some z) : ∃ x, (zeroValue t).run P w = .ok x w ∧ V.ofVal x = some z := by
  obtain ⟨i, x, h1, h2, h3⟩ := zeroT_info e
  exact ⟨x, by simp [zeroValue, typeInfo, h1, h2], h3⟩

theorem aggT_run {t : TypeId} {b : Bool} (e : aggT P t = some b) : (isAgg t).run P w = .ok b w := by
  unfold aggT at e
  unfold isAgg
  cases hu : P.underlying t with
  | none => simp [hu] at e
  | some d =>
    rw [Sem.run_bind, run_underlying hu w]
    cases d <;> simp [hu] at e <;> subst e <;> rfl

theorem getElem?_take_cells {xs : List Value} {n j : Nat} {v : Value} (e : (xs.take n)[j]? = some v) : xs[j]? = some v := by
  rw [List.getElem?_take] at e
  split at e
  · exact e
  · simp at e

/-- A variable is read. -/
theorem loadT_run {t : TypeId} {cs : List V} {v : V} {b off : Nat} {xs : List Value} (hc : ∀ (i : Nat) x, xs[i]? = some x → hcell w.heap b (off + i) = some x ∧ x.oneCell' = true)
    (hr : Reps κ h cs xs) (e : loadT P t cs = some v) : ∃ x, (loadVar t ⟨b, off, none⟩).run P w = .ok x w ∧ Rep κ h v x := by
  unfold loadT at e
  split at e
  · rename_i n h1 h2
    split at e <;> simp at e
    rename_i hn
    subst e
    refine ⟨.agg ⟨xs.take n⟩, ?_, .agg _ _ (by simp [hr.1]) (fun x hx => ?_) (hr.take n).2⟩
    · have hl : (loadCells ⟨b, off, none⟩ n).run P w = .ok (xs.take n).toArray w := by
        have := run_loadCells_list (P := P) w ⟨b, off, none⟩ (xs.take n) (fun j v hv => by
          rw [Addr.add_mid, cell?_eq]; exact (hc j v (getElem?_take_cells hv)).1)
        have hlen : (xs.take n).length = n := by rw [List.length_take, hr.1]; omega
        rwa [hlen] at this
      simp [loadVar, aggT_run w h1, szT_run w h2, hl]
    · obtain ⟨i, hi, rfl⟩ := List.mem_iff_getElem.1 hx
      exact (hc i _ (getElem?_take_cells (List.getElem?_eq_getElem hi))).2
  · rename_i n h1 h2
    obtain ⟨x, hx, hrx⟩ := hr.get e
    refine ⟨x, ?_, hrx⟩
    have := (hc 0 x hx).1
    simp [loadVar, aggT_run w h1, cell?_eq]
    simp at this
    rw [this]
  · simp at e

theorem partT_run {t : TypeId} {cs : List V} {off : Nat} {v : V} {xs : List Value} (ho : ∀ x ∈ xs, x.oneCell' = true) (hr : Reps κ h cs xs) (e : partT P t cs off = some v) :
    ∃ x, (part t ⟨xs⟩ off).run P w = .ok x w ∧ Rep κ h v x := by
  unfold partT at e
  split at e
  · rename_i n h1 h2
    split at e <;> simp at e
    rename_i hn
    subst e
    refine ⟨.agg ⟨(xs.drop off).take n⟩, ?_, .agg _ _ (by simp [hr.1]) (fun x hx => ho x (List.mem_of_mem_drop (List.mem_of_mem_take hx))) ((hr.drop off).take n).2⟩
    simp [part, aggT_run w h1, szT_run w h2]
  · rename_i n h1 h2
    obtain ⟨x, hx, hrx⟩ := hr.get e
    refine ⟨x, ?_, hrx⟩
    simp [part, aggT_run w h1, hx]
  · simp at e

end types
end Go.Fbs

/- Memory: new blocks, boxes written, slices that grow. -/
namespace Go.Fbs

theorem hcell_push_lt {h : Heap} {o : Obj} {b : Nat} (hb : b < h.size) (i : Nat) : hcell (h.push o) b i = hcell h b i := by
  unfold hcell; rw [Array.getElem?_push_lt hb, Array.getElem?_eq_getElem hb]

theorem hcell_lt {h : Heap} {b i : Nat} {x : Value} (e : hcell h b i = some x) : b < h.size := by
  unfold hcell at e
  split at e
  · rename_i hh
    exact (Array.getElem?_eq_some_iff.1 hh).1
  · simp at e

theorem hcell_new {h : Heap} {c : Array Value} {E : TypeId} {f : Nat × Nat} (i : Nat) : hcell (h.push (.cells c E f)) h.size i = c[i]? := by
  unfold hcell; simp

def updF (f : Nat → Nat) (b n : Nat) : Nat → Nat := fun i => if i = b then n else f i

@[simp] theorem updF_same (f : Nat → Nat) (b n : Nat) : updF f b n b = n := by simp [updF]
theorem updF_ne (f : Nat → Nat) {b i : Nat} (n : Nat) (hi : i ≠ b) : updF f b n i = f i := by simp [updF, hi]

/-- A new block, whoever owns it. -/
theorem le_push {κ κ' : Ctx} {h : Heap} (o : Obj) (k : Ok κ h) (hhw : ∀ b, b ≠ h.size → κ'.hw b = κ.hw b)
    (hbox : κ'.box = κ.box ∨ ∃ l, κ.box l = none ∧ κ'.box = fun i => if i = l then some h.size else κ.box i) (hl : κ'.lease = κ.lease ∨ ∃ L : Lease, L.blk = h.size ∧ κ'.lease = κ.lease ++ [L]) : Le κ h κ' (h.push o) where
  size := by simp
  same b hb _ := by rw [Array.getElem?_push_lt hb, Array.getElem?_eq_getElem hb]
  hwsame b hb _ := hhw b (by omega)
  sealed b i x _ hc := by rw [hcell_push_lt (hcell_lt hc)]; exact hc
  hw b := by
    by_cases hb : b = h.size
    · subst hb; rw [k.fresh _ (Nat.le_refl _)]; exact Nat.zero_le _
    · rw [hhw b hb]; exact Nat.le_refl _
  box l b hb := by
    rcases hbox with e | ⟨q, hq, e⟩ <;> rw [e]
    · exact hb
    · have : l ≠ q := fun h => by subst h; rw [hq] at hb; simp at hb
      simp [this, hb]
  newbox b hb := by
    obtain ⟨l, hb⟩ := hb
    rcases hbox with e | ⟨q, hq, e⟩ <;> rw [e] at hb
    · exact .inl ⟨l, hb⟩
    · simp only at hb
      split at hb
      · simp at hb; exact .inr (by omega)
      · exact .inl ⟨l, hb⟩
  lease i L hL := by
    refine ⟨L, ?_, .inl rfl⟩
    rcases hl with e | ⟨L0, _, e⟩ <;> rw [e]
    · exact hL
    · rw [List.getElem?_append_left (List.getElem?_eq_some_iff.1 hL).1]; exact hL
  newlease L hL hk := by
    rcases hl with e | ⟨L0, h0, e⟩ <;> rw [e] at hL
    · exact .inl ⟨L, hL, hk, rfl⟩
    · rcases List.mem_append.1 hL with h1 | h1
      · exact .inl ⟨L, h1, hk, rfl⟩
      · simp at h1; subst h1; exact .inr (by omega)

theorem ORep.mono {κ κ' : Ctx} {h h' : Heap} (l : Le κ h κ' h') {c : LO} {o : Obj} (r : ORep κ h c o) : ORep κ' h' c o := by
  cases c with
  | cells cs => obtain ⟨xs, E, h1, h2, h3⟩ := r; exact ⟨xs, E, h1, h2.mono l, h3⟩
  | map es => obtain ⟨en, cl, h1, h2, h3, h4⟩ := r; exact ⟨en, cl, h1, h2.mono l, h3.mono l, h4⟩
  | arr cs => obtain ⟨xs, E, h1, h2, h3, h4⟩ := r; exact ⟨xs, E, h1, h2, h3.mono l, h4⟩
  | dead => trivial

theorem HeapOk.mono {κ κ' : Ctx} {h h' : Heap} {H : List LO} (l : Le κ h κ' h') (hb : κ'.box = κ.box) (hs : ∀ b, boxed κ b → h'[b]? = h[b]?) (m : HeapOk κ h H) : HeapOk κ' h' H := by
  refine ⟨by rw [hb]; exact m.1, fun i b cs h1 h2 => ?_⟩
  rw [hb] at h1
  obtain ⟨o, h3, h4⟩ := m.2 i b cs h1 h2
  exact ⟨o, by rw [hs b ⟨i, h1⟩]; exact h3, h4.mono l⟩

/-- A new box, in a place that is kept for it. -/
theorem mem_box_at {κ : Ctx} {h : Heap} {m : Hp} (k : Mem κ h m) {l : Nat} {c : LO} (hl : m.H[l]? = some c) (hn : κ.box l = none) {o : Obj} (hr : ORep κ h c o) :
    ∃ κ', Le κ h κ' (h.push o) ∧ Mem κ' (h.push o) m ∧ κ'.box = (fun i => if i = l then some h.size else κ.box i) := by
  obtain ⟨ok, hp, hT⟩ := k
  let κ' : Ctx := { κ with box := fun i => if i = l then some h.size else κ.box i }
  have le : Le κ h κ' (h.push o) := le_push _ ok (fun _ _ => rfl) (.inr ⟨l, hn, rfl⟩) (.inl rfl)
  have cas : ∀ i b, κ'.box i = some b → (i = l ∧ b = h.size) ∨ (i ≠ l ∧ κ.box i = some b) := by
    intro i b hb
    simp only [κ'] at hb
    split at hb
    · rename_i hi; simp at hb; exact .inl ⟨hi, hb.symm⟩
    · rename_i hi; exact .inr ⟨hi, hb⟩
  refine ⟨κ', le, ⟨?_, ⟨fun i b hb => ?_, fun i b d h1 h2 => ?_⟩, hT⟩, rfl⟩
  · constructor
    · rintro b ⟨i, hb⟩
      rcases cas i b hb with ⟨_, rfl⟩ | ⟨_, h1⟩
      · simp
      · have := ok.boxlt b ⟨i, h1⟩; simp; omega
    · rintro b ⟨i, hb⟩
      rcases cas i b hb with ⟨_, rfl⟩ | ⟨_, h1⟩
      · exact ok.fresh _ (Nat.le_refl _)
      · exact ok.boxhw b ⟨i, h1⟩
    · intro i j b h1 h2
      rcases cas i b h1 with ⟨e1, e2⟩ | ⟨e1, e2⟩ <;> rcases cas j b h2 with ⟨e3, e4⟩ | ⟨e3, e4⟩
      · rw [e1, e3]
      · have := ok.boxlt b ⟨j, e4⟩; omega
      · have := ok.boxlt b ⟨i, e2⟩; omega
      · exact ok.boxnd i j b e2 e4
    · intro L hL hk; have := ok.lblt L hL hk; simp; omega
    · exact ok.lhw
    · exact ok.lnd
    · rintro L hL hk ⟨i, hb⟩
      rcases cas i _ hb with ⟨_, e⟩ | ⟨_, h1⟩
      · have := ok.lblt L hL hk; omega
      · exact ok.lbox L hL hk ⟨i, h1⟩
    · intro L hL hlv
      obtain ⟨c, E', h1, h2⟩ := ok.lcells L hL hlv
      exact ⟨c, E', by rw [Array.getElem?_push_lt (ok.lblt L hL (nf hlv)), ← Array.getElem?_eq_getElem]; exact h1, h2⟩
    · intro b hb; simp at hb; exact ok.fresh b (by omega)
  · rcases cas i b hb with ⟨rfl, _⟩ | ⟨_, h1⟩
    · exact (List.getElem?_eq_some_iff.1 hl).1
    · exact hp.1 i b h1
  · rcases cas i b h1 with ⟨rfl, rfl⟩ | ⟨_, h3⟩
    · rw [hl] at h2; simp at h2; subst h2
      exact ⟨o, by simp, hr.mono le⟩
    · obtain ⟨o', h4, h5⟩ := hp.2 i b d h3 h2
      have hb := ok.boxlt b ⟨i, h3⟩
      exact ⟨o', by rw [Array.getElem?_push_lt hb, ← Array.getElem?_eq_getElem]; exact h4, h5.mono le⟩

/-- Places may be kept for boxes to come. -/
theorem mem_keep {κ : Ctx} {h : Heap} {m : Hp} (k : Mem κ h m) (cs : List LO) : Mem κ h { m with H := m.H ++ cs } := by
  obtain ⟨ok, hp, hT⟩ := k
  refine ⟨ok, ⟨fun l b hb => by have := hp.1 l b hb; simp; omega, fun l b c h1 h2 => ?_⟩, hT⟩
  simp only at h2
  rw [List.getElem?_append_left (hp.1 l b h1)] at h2
  exact hp.2 l b c h1 h2

theorem mem_none {κ : Ctx} {h : Heap} {m : Hp} (k : Mem κ h m) {l : Nat} (hl : m.H.length ≤ l) : κ.box l = none := by
  cases hb : κ.box l with
  | none => rfl
  | some b => have := k.2.1.1 l b hb; omega

/-- A new box. -/
theorem mem_box {κ : Ctx} {h : Heap} {m : Hp} (k : Mem κ h m) {c : LO} {o : Obj} (hr : ORep κ h c o) :
    ∃ κ', Le κ h κ' (h.push o) ∧ Mem κ' (h.push o) { m with H := m.H ++ [c] } ∧ κ'.box m.H.length = some h.size := by
  obtain ⟨κ', h1, h2, h3⟩ := mem_box_at (mem_keep k [c]) (l := m.H.length) (by simp) (mem_none k (Nat.le_refl _)) hr
  exact ⟨κ', h1, h2, by rw [h3]; simp⟩

/-- A new block that is sealed from its head on. -/
theorem mem_sealed {κ : Ctx} {h : Heap} {m : Hp} (k : Mem κ h m) (c : Array Value) (E : TypeId) (f : Nat × Nat) (n : Nat) (hn : ∀ x ∈ c.toList.take n, x.oneCell' = true) :
    ∃ κ', LeB κ h κ' (h.push (.cells c E f)) ∧ Mem κ' (h.push (.cells c E f)) m ∧ Block κ' (h.push (.cells c E f)) h.size 0 (c.toList.take n) := by
  obtain ⟨ok, hp, hT⟩ := k
  let κ' : Ctx := { κ with hw := updF κ.hw h.size n }
  have l : Le κ h κ' (h.push (.cells c E f)) := le_push _ ok (fun b hb => updF_ne _ _ hb) (.inl rfl) (.inl rfl)
  have old : ∀ b, b < h.size → (h.push (.cells c E f))[b]? = h[b]? := fun b hb => by rw [Array.getElem?_push_lt hb, ← Array.getElem?_eq_getElem]
  refine ⟨κ', ⟨l, rfl⟩, ⟨?_, hp.mono l rfl (fun b hb => old b (ok.boxlt b hb)), hT⟩, fun i x hx => ?_⟩
  · constructor
    · intro b hb; have := ok.boxlt b hb; simp; omega
    · intro b hb; have := ok.boxlt b hb; show updF κ.hw h.size n b = 0; rw [updF_ne _ _ (by omega)]; exact ok.boxhw b hb
    · exact ok.boxnd
    · intro L hL hk; have := ok.lblt L hL hk; simp; omega
    · intro L hL hlv; have := ok.lblt L hL (nf hlv); show updF κ.hw h.size n L.blk = _; rw [updF_ne _ _ (by omega)]; exact ok.lhw L hL hlv
    · exact ok.lnd
    · exact ok.lbox
    · intro L hL hlv
      obtain ⟨d, E', h1, h2⟩ := ok.lcells L hL hlv
      exact ⟨d, E', by rw [old _ (ok.lblt L hL (nf hlv))]; exact h1, h2⟩
    · intro b hb; simp at hb; show updF κ.hw h.size n b = 0; rw [updF_ne _ _ (by omega)]; exact ok.fresh b (by omega)
  · refine ⟨?_, ?_, hn x (List.mem_of_getElem? hx)⟩
    · show 0 + i < updF κ.hw h.size n h.size
      have := (List.getElem?_eq_some_iff.1 hx).1
      rw [List.length_take] at this
      simp; omega
    · rw [hcell_new, Nat.zero_add, ← Array.getElem?_toList]; exact getElem?_take_cells hx

/-- A new block with room behind its end. -/
theorem mem_lease {κ : Ctx} {h : Heap} {m : Hp} (k : Mem κ h m) (c : Array Value) (E : TypeId) (n cap sz : Nat) (hc : cap * sz ≤ c.size) (hcap : n ≤ cap) (hsz : 0 < sz)
    (hn : ∀ x ∈ c.toList.take (n * sz), x.oneCell' = true) :
    ∃ κ', LeB κ h κ' (h.push (.cells c E (0, 0))) ∧ Mem κ' (h.push (.cells c E (0, 0))) { m with T := m.T ++ [(n, sz)] } ∧ Block κ' (h.push (.cells c E (0, 0))) h.size 0 (c.toList.take (n * sz)) ∧
      TagOk κ' (.own m.T.length) n h.size 0 cap sz := by
  obtain ⟨ok, hp, hT⟩ := k
  let L0 : Lease := ⟨h.size, cap, sz, n, .real⟩
  let κ' : Ctx := { κ with hw := updF κ.hw h.size (n * sz), lease := κ.lease ++ [L0] }
  have l : Le κ h κ' (h.push (.cells c E (0, 0))) := le_push _ ok (fun b hb => updF_ne _ _ hb) (.inl rfl) (.inr ⟨L0, rfl, rfl⟩)
  have old : ∀ b, b < h.size → (h.push (.cells c E (0, 0)))[b]? = h[b]? := fun b hb => by rw [Array.getElem?_push_lt hb, ← Array.getElem?_eq_getElem]
  have hTl : m.T.length = κ.lease.length := by rw [← hT]; simp
  refine ⟨κ', ⟨l, rfl⟩, ⟨?_, hp.mono l rfl (fun b hb => old b (ok.boxlt b hb)), by simp [κ', hT, L0, Lease.told]⟩, fun i x hx => ?_, ?_⟩
  · constructor
    · intro b hb; have := ok.boxlt b hb; simp; omega
    · intro b hb; have := ok.boxlt b hb; show updF κ.hw h.size (n * sz) b = 0; rw [updF_ne _ _ (by omega)]; exact ok.boxhw b hb
    · exact ok.boxnd
    · intro L hL hk
      rcases List.mem_append.1 hL with h1 | h1
      · have := ok.lblt L h1 hk; simp; omega
      · simp at h1; subst h1; simp [L0]
    · intro L hL hlv
      rcases List.mem_append.1 hL with h1 | h1
      · have := ok.lblt L h1 (nf hlv); show updF κ.hw h.size (n * sz) L.blk = _; rw [updF_ne _ _ (by omega)]; exact ok.lhw L h1 hlv
      · simp at h1; subst h1; show updF κ.hw h.size (n * sz) h.size = _; simp [L0]
    · intro i j L L' h1 h2 v1 v2 he
      simp only [κ', List.getElem?_append] at h1 h2
      split at h1 <;> split at h2
      · exact ok.lnd i j L L' h1 h2 v1 v2 he
      · have := ok.lblt L (List.mem_of_getElem? h1) (nf v1)
        have h3 := List.mem_of_getElem? h2; simp at h3; subst h3; simp [L0] at he; omega
      · have := ok.lblt L' (List.mem_of_getElem? h2) (nf v2)
        have h3 := List.mem_of_getElem? h1; simp at h3; subst h3; simp [L0] at he; omega
      · have h3 := (List.getElem?_eq_some_iff.1 h1).1
        have h4 := (List.getElem?_eq_some_iff.1 h2).1
        simp at h3 h4
        omega
    · intro L hL hk hb
      rcases List.mem_append.1 hL with h1 | h1
      · exact ok.lbox L h1 hk hb
      · simp at h1; subst h1; have := ok.boxlt _ hb; simp [L0] at this
    · intro L hL hlv
      rcases List.mem_append.1 hL with h1 | h1
      · obtain ⟨d, E', h2, h3⟩ := ok.lcells L h1 hlv
        exact ⟨d, E', by rw [old _ (ok.lblt L h1 (nf hlv))]; exact h2, h3⟩
      · simp at h1; subst h1; exact ⟨c, E, by simp [L0], hc, hcap⟩
    · intro b hb; simp at hb; show updF κ.hw h.size (n * sz) b = 0; rw [updF_ne _ _ (by omega)]; exact ok.fresh b (by omega)
  · refine ⟨?_, ?_, hn x (List.mem_of_getElem? hx)⟩
    · show 0 + i < updF κ.hw h.size (n * sz) h.size
      have := (List.getElem?_eq_some_iff.1 hx).1
      rw [List.length_take] at this
      simp; omega
    · rw [hcell_new, Nat.zero_add, ← Array.getElem?_toList]; exact getElem?_take_cells hx
  · refine ⟨L0, by simp [κ', hTl], fun _ => ⟨Nat.le_refl _, fun _ => ⟨rfl, rfl, rfl, rfl⟩⟩, fun h => by simp [L0] at h⟩

/-- A world that differs from another at one block alone. -/
structure Only (h h' : Heap) (b : Nat) : Prop where
  size : h'.size = h.size
  same : ∀ i, i ≠ b → h'[i]? = h[i]?

/-- A box is written. -/
theorem mem_store {κ : Ctx} {h h' : Heap} {m : Hp} (k : Mem κ h m) {l b : Nat} (hb : κ.box l = some b) {c : LO} {ob : Obj} (o : Only h h' b)
    (hx : h'[b]? = some ob) (hr : ORep κ h c ob) : LeB κ h κ h' ∧ Mem κ h' { m with H := m.H.set l c } := by
  obtain ⟨ok, hp, hT⟩ := k
  have hmem : boxed κ b := ⟨l, hb⟩
  have le : Le κ h κ h' := by
    refine ⟨by rw [o.size]; exact Nat.le_refl _, fun i hi hn => o.same i (fun e => hn (.inl (e ▸ hmem))), fun _ _ _ => rfl, fun i j x hi hc => ?_, fun _ => Nat.le_refl _, fun _ _ h => h,
      fun _ h => .inl h, fun _ L h => ⟨L, h, .inl rfl⟩, fun L h hk => .inl ⟨L, h, hk, rfl⟩⟩
    have hne : i ≠ b := fun e => by subst e; rw [ok.boxhw i hmem] at hi; omega
    unfold hcell; rw [o.same i hne]; exact hc
  refine ⟨⟨le, rfl⟩, ⟨?_, ⟨fun i d hd => by simpa using hp.1 i d hd, fun i d ds h1 h2 => ?_⟩, hT⟩⟩
  · constructor
    · intro i hi; rw [o.size]; exact ok.boxlt i hi
    · exact ok.boxhw
    · exact ok.boxnd
    · intro L hL hk; rw [o.size]; exact ok.lblt L hL hk
    · exact ok.lhw
    · exact ok.lnd
    · exact ok.lbox
    · intro L hL hlv
      rw [o.same L.blk (fun e => ok.lbox L hL (nf hlv) (e ▸ hmem))]; exact ok.lcells L hL hlv
    · intro i hi; rw [o.size] at hi; exact ok.fresh i hi
  · simp only at h2
    rw [List.getElem?_set] at h2
    split at h2
    · rename_i hli
      subst hli
      split at h2 <;> simp at h2
      subst h2
      obtain rfl : d = b := by rw [hb] at h1; simpa using h1.symm
      exact ⟨ob, hx, hr.mono le⟩
    · rename_i hli
      have hne : d ≠ b := fun e => hli (ok.boxnd l i b hb (e ▸ h1))
      obtain ⟨o', h3, h4⟩ := hp.2 i d ds h1 h2
      exact ⟨o', by rw [o.same d hne]; exact h3, h4.mono le⟩

/-- A slice at its tip grows in place. -/
theorem mem_grow {κ : Ctx} {h h' : Heap} {m : Hp} (k : Mem κ h m) {i : Nat} {L : Lease} (hL : κ.lease[i]? = some L) (hlv : L.kind = .real) {n : Nat} (hn : 0 < n) (hcap : L.n + n ≤ L.cap) (o : Only h h' L.blk)
    {c' : Array Value} {E : TypeId} (hx : h'[L.blk]? = some (.cells c' E (0, 0))) (hsz : L.cap * L.sz ≤ c'.size)
    (hold : ∀ j x, j < L.n * L.sz → hcell h L.blk j = some x → c'[j]? = some x) :
    ∃ κ', LeB κ h κ' h' ∧ Mem κ' h' { m with T := m.T.set i (L.n + n, L.sz) } ∧ κ'.hw L.blk = (L.n + n) * L.sz ∧ κ'.lease[i]? = some { L with n := L.n + n } := by
  obtain ⟨ok, hp, hT⟩ := k
  have hmem := List.mem_of_getElem? hL
  have hi := (List.getElem?_eq_some_iff.1 hL).1
  let κ' : Ctx := { κ with hw := updF κ.hw L.blk ((L.n + n) * L.sz), lease := κ.lease.set i { L with n := L.n + n } }
  have hge : κ'.lease[i]? = some { L with n := L.n + n } := by simp [κ', hi]
  have hother : ∀ j, j ≠ i → κ'.lease[j]? = κ.lease[j]? := fun j hj => by simp only [κ']; rw [List.getElem?_set_ne (fun e => hj e.symm)]
  have hmem' : ∀ M ∈ κ'.lease, ∃ j M0, κ.lease[j]? = some M0 ∧ M.blk = M0.blk ∧ M.cap = M0.cap ∧ M.sz = M0.sz ∧ M.kind = M0.kind ∧ κ'.lease[j]? = some M ∧ ((j = i ∧ M.n = L.n + n ∧ M0 = L) ∨ (j ≠ i ∧ M = M0)) := by
    intro M hM
    obtain ⟨j, hj⟩ := List.mem_iff_getElem?.1 hM
    by_cases hji : j = i
    · subst hji
      rw [hge] at hj
      simp at hj; subst hj
      exact ⟨j, L, hL, rfl, rfl, rfl, rfl, hge, .inl ⟨rfl, rfl, rfl⟩⟩
    · have hj' := hj
      rw [hother j hji] at hj'
      exact ⟨j, M, hj', rfl, rfl, rfl, rfl, hj, .inr ⟨hji, rfl⟩⟩
  have le : Le κ h κ' h' := by
    refine ⟨by rw [o.size]; exact Nat.le_refl _, fun b hb hn => o.same b (fun e => hn (.inr ⟨L, hmem, nf hlv, e.symm⟩)), fun b hb hn => updF_ne _ _ (fun e => hn (.inr ⟨L, hmem, nf hlv, e.symm⟩)), fun b j x hj hc => ?_, fun b => ?_, fun _ _ h => h,
      fun _ h => .inl h, fun j M hM => ?_, fun M hM hk => ?_⟩
    · by_cases hb : b = L.blk
      · subst hb
        rw [ok.lhw L hmem hlv] at hj
        unfold hcell; rw [hx]; exact hold j x hj hc
      · unfold hcell; rw [o.same b hb]; exact hc
    · by_cases hb : b = L.blk
      · subst hb
        rw [ok.lhw L hmem hlv]
        show _ ≤ updF κ.hw L.blk ((L.n + n) * L.sz) L.blk
        rw [updF_same]; exact Nat.mul_le_mul_right _ (by omega)
      · show _ ≤ updF κ.hw L.blk ((L.n + n) * L.sz) b
        rw [updF_ne _ _ hb]; exact Nat.le_refl _
    · by_cases hji : j = i
      · subst hji
        rw [hL] at hM; simp at hM; subst hM
        exact ⟨_, hge, .inr (.inr ⟨by rw [hlv]; simp, by simp; omega⟩)⟩
      · exact ⟨M, by rw [hother j hji]; exact hM, .inl rfl⟩
    · obtain ⟨j, M0, h1, h2, _, _, h5, _⟩ := hmem' M hM
      exact .inl ⟨M0, List.mem_of_getElem? h1, h5 ▸ hk, h2.symm⟩
  refine ⟨κ', ⟨le, rfl⟩, ⟨?_, hp.mono le rfl (fun b hb => o.same b (fun (e : b = L.blk) => ok.lbox L hmem (nf hlv) (by rw [← e]; exact hb))), ?_⟩, updF_same _ _ _, hge⟩
  · constructor
    · intro b hb; rw [o.size]; exact ok.boxlt b hb
    · intro b hb
      show updF κ.hw L.blk ((L.n + n) * L.sz) b = 0
      rw [updF_ne _ _ (fun (e : b = L.blk) => ok.lbox L hmem (nf hlv) (by rw [← e]; exact hb))]; exact ok.boxhw b hb
    · exact ok.boxnd
    · intro M hM hk
      obtain ⟨j, M0, h1, h2, _, _, h5, _⟩ := hmem' M hM
      rw [o.size, h2]; exact ok.lblt M0 (List.mem_of_getElem? h1) (h5 ▸ hk)
    · intro M hM mlv
      obtain ⟨j, M0, h1, h2, h3, h4, h4v, h5, h6⟩ := hmem' M hM
      show updF κ.hw L.blk ((L.n + n) * L.sz) M.blk = _
      rcases h6 with ⟨rfl, h7, h8⟩ | ⟨h7, h8⟩
      · rw [h2, h8, updF_same, h7, h4, h8]
      · have hne : M.blk ≠ L.blk := fun e => h7 (ok.lnd j i M0 L h1 hL (h4v ▸ mlv) hlv (by rw [← h2]; exact e))
        rw [updF_ne _ _ hne, h8]; exact ok.lhw M0 (List.mem_of_getElem? h1) (h4v ▸ mlv)
    · intro j j' M M' h1 h2 v1 v2 he
      have g : ∀ (j : Nat) M, κ'.lease[j]? = some M → ∃ M0, κ.lease[j]? = some M0 ∧ M.blk = M0.blk ∧ M.kind = M0.kind := by
        intro j M hM
        by_cases hji : j = i
        · subst hji; rw [hge] at hM; simp at hM; subst hM; exact ⟨L, hL, rfl, rfl⟩
        · rw [hother j hji] at hM; exact ⟨M, hM, rfl, rfl⟩
      obtain ⟨N, b1, b2, b3⟩ := g j M h1
      obtain ⟨N', c1, c2, c3⟩ := g j' M' h2
      exact ok.lnd j j' N N' b1 c1 (b3 ▸ v1) (c3 ▸ v2) (by rw [← b2, ← c2]; exact he)
    · intro M hM hk
      obtain ⟨j, M0, h1, h2, _, _, h5, _⟩ := hmem' M hM
      rw [h2]; exact ok.lbox M0 (List.mem_of_getElem? h1) (h5 ▸ hk)
    · intro M hM mlv
      obtain ⟨j, M0, h1, h2, h3, h4, h4v, h5, h6⟩ := hmem' M hM
      rcases h6 with ⟨rfl, h7, h8⟩ | ⟨h7, h8⟩
      · exact ⟨c', E, by rw [h2, h8]; exact hx, by rw [h3, h4, h8]; exact hsz, by rw [h7, h3, h8]; exact hcap⟩
      · have hne : M.blk ≠ L.blk := fun e => h7 (ok.lnd j i M0 L h1 hL (h4v ▸ mlv) hlv (by rw [← h2]; exact e))
        rw [o.same _ hne, h8]; exact ok.lcells M0 (List.mem_of_getElem? h1) (h4v ▸ mlv)
    · intro b hb
      rw [o.size] at hb
      have hlt := ok.lblt L hmem (nf hlv)
      show updF κ.hw L.blk ((L.n + n) * L.sz) b = 0
      rw [updF_ne _ _ (by omega)]; exact ok.fresh b hb
  · rw [← hT]; simp [κ', List.map_set, Lease.told, hlv]

/-- A slice at its tip grows into a new block. -/
theorem mem_regrow {κ : Ctx} {h : Heap} {m : Hp} (k : Mem κ h m) {i : Nat} {L : Lease} (hL : κ.lease[i]? = some L) (hlv : L.kind ≠ .dead) {n cap : Nat} (hn : 0 < n) (hcap : L.n + n ≤ cap) (hsz : 0 < L.sz)
    (c : Array Value) (E : TypeId) (hc : cap * L.sz ≤ c.size) (ho : ∀ x ∈ c.toList.take ((L.n + n) * L.sz), x.oneCell' = true) :
    ∃ κ', LeB κ h κ' (h.push (.cells c E (0, 0))) ∧ Mem κ' (h.push (.cells c E (0, 0))) { m with T := m.T.set i (L.n + n, L.sz) } ∧
      Block κ' (h.push (.cells c E (0, 0))) h.size 0 (c.toList.take ((L.n + n) * L.sz)) ∧ TagOk κ' (.own i) (L.n + n) h.size 0 cap L.sz := by
  obtain ⟨ok, hp, hT⟩ := k
  have hmem := List.mem_of_getElem? hL
  have hi := (List.getElem?_eq_some_iff.1 hL).1
  let L0 : Lease := ⟨h.size, cap, L.sz, L.n + n, .real⟩
  let κ' : Ctx := { κ with hw := updF κ.hw h.size ((L.n + n) * L.sz), lease := κ.lease.set i L0 }
  have hge : κ'.lease[i]? = some L0 := by simp [κ', hi]
  have hother : ∀ j, j ≠ i → κ'.lease[j]? = κ.lease[j]? := fun j hj => by simp only [κ']; rw [List.getElem?_set_ne (fun e => hj e.symm)]
  have old : ∀ b, b < h.size → (h.push (.cells c E (0, 0)))[b]? = h[b]? := fun b hb => by rw [Array.getElem?_push_lt hb, ← Array.getElem?_eq_getElem]
  have g : ∀ (j : Nat) M, κ'.lease[j]? = some M → (j = i ∧ M = L0) ∨ (j ≠ i ∧ κ.lease[j]? = some M) := by
    intro j M hM
    by_cases hji : j = i
    · subst hji; rw [hge] at hM; simp at hM; exact .inl ⟨rfl, hM.symm⟩
    · rw [hother j hji] at hM; exact .inr ⟨hji, hM⟩
  have gm : ∀ M ∈ κ'.lease, M = L0 ∨ ∃ j, j ≠ i ∧ κ.lease[j]? = some M := by
    intro M hM
    obtain ⟨j, hj⟩ := List.mem_iff_getElem?.1 hM
    rcases g j M hj with ⟨_, h1⟩ | ⟨h1, h2⟩
    · exact .inl h1
    · exact .inr ⟨j, h1, h2⟩
  have le : Le κ h κ' (h.push (.cells c E (0, 0))) := by
    refine ⟨by simp, fun b hb _ => old b hb, fun b hb _ => updF_ne _ _ (by omega), fun b j x _ hx => by rw [hcell_push_lt (hcell_lt hx)]; exact hx, fun b => ?_, fun _ _ h => h,
      fun _ h => .inl h, fun j M hM => ?_, fun M hM hk => ?_⟩
    · by_cases hb : b = h.size
      · subst hb; rw [ok.fresh _ (Nat.le_refl _)]; exact Nat.zero_le _
      · show _ ≤ updF κ.hw h.size ((L.n + n) * L.sz) b
        rw [updF_ne _ _ hb]; exact Nat.le_refl _
    · by_cases hji : j = i
      · subst hji
        rw [hL] at hM; simp at hM; subst hM
        exact ⟨_, hge, .inr (.inr ⟨hlv, by simp [L0]; omega⟩)⟩
      · exact ⟨M, by rw [hother j hji]; exact hM, .inl rfl⟩
    · rcases gm M hM with rfl | ⟨j, _, h2⟩
      · exact .inr (Nat.le_refl _)
      · exact .inl ⟨M, List.mem_of_getElem? h2, hk, rfl⟩
  refine ⟨κ', ⟨le, rfl⟩, ⟨?_, hp.mono le rfl (fun b hb => old b (ok.boxlt b hb)), by rw [← hT]; simp [κ', List.map_set, L0, Lease.told]⟩, fun j x hx => ?_, ?_⟩
  · constructor
    · intro b hb; have := ok.boxlt b hb; simp; omega
    · intro b hb; have := ok.boxlt b hb; show updF κ.hw h.size _ b = 0; rw [updF_ne _ _ (by omega)]; exact ok.boxhw b hb
    · exact ok.boxnd
    · intro M hM hk
      rcases gm M hM with rfl | ⟨j, _, h2⟩
      · simp [L0]
      · have := ok.lblt M (List.mem_of_getElem? h2) hk; simp; omega
    · intro M hM mlv
      rcases gm M hM with rfl | ⟨j, _, h2⟩
      · show updF κ.hw h.size _ h.size = _; simp [L0]
      · have := ok.lblt M (List.mem_of_getElem? h2) (nf mlv); show updF κ.hw h.size _ M.blk = _; rw [updF_ne _ _ (by omega)]; exact ok.lhw M (List.mem_of_getElem? h2) mlv
    · intro j j' M M' h1 h2 v1 v2 he
      rcases g j M h1 with ⟨e1, e2⟩ | ⟨e1, e2⟩ <;> rcases g j' M' h2 with ⟨e3, e4⟩ | ⟨e3, e4⟩
      · rw [e1, e3]
      · have := ok.lblt M' (List.mem_of_getElem? e4) (nf v2); rw [e2] at he; simp [L0] at he; omega
      · have := ok.lblt M (List.mem_of_getElem? e2) (nf v1); rw [e4] at he; simp [L0] at he; omega
      · exact ok.lnd j j' M M' e2 e4 v1 v2 he
    · intro M hM hk hb
      rcases gm M hM with rfl | ⟨j, _, h2⟩
      · have := ok.boxlt _ hb; simp [L0] at this
      · exact ok.lbox M (List.mem_of_getElem? h2) hk hb
    · intro M hM mlv
      rcases gm M hM with rfl | ⟨j, _, h2⟩
      · exact ⟨c, E, by simp [L0], hc, hcap⟩
      · obtain ⟨d, E', h3, h4⟩ := ok.lcells M (List.mem_of_getElem? h2) mlv
        exact ⟨d, E', by rw [old _ (ok.lblt M (List.mem_of_getElem? h2) (nf mlv))]; exact h3, h4⟩
    · intro b hb; simp at hb; show updF κ.hw h.size _ b = 0; rw [updF_ne _ _ (by omega)]; exact ok.fresh b (by omega)
  · refine ⟨?_, ?_, ho x (List.mem_of_getElem? hx)⟩
    · show 0 + j < updF κ.hw h.size ((L.n + n) * L.sz) h.size
      have := (List.getElem?_eq_some_iff.1 hx).1
      rw [List.length_take] at this
      simp; omega
    · rw [hcell_new, Nat.zero_add, ← Array.getElem?_toList]; exact getElem?_take_cells hx
  · exact ⟨L0, hge, fun _ => ⟨Nat.le_refl _, fun _ => ⟨rfl, rfl, rfl, rfl⟩⟩, fun h => by simp [L0] at h⟩

end Go.Fbs

/- Each operation of the evaluator is the machine's: those that compute, read, build. -/
namespace Go.Fbs
section
variable {P : Program} {κ : Ctx} {w : World} {m : Hp}

/-- The operation is done: what it yields, and where it leaves the memory. -/
def OpDone (κ : Ctx) (w : World) (r : Result Next) (v : V) (m' : Hp) : Prop :=
  ∃ (y : Value) (κ' : Ctx) (w' : World), (r = .ok (.value y) w' ∨ (r = .ok .skip w' ∧ y = Go.undef)) ∧ LeW κ w κ' w' ∧ Mem κ' w'.heap m' ∧ Rep κ' w'.heap v y

theorem OpDone.same {r : Result Next} {v : V} {y : Value} (hr : r = .ok (.value y) w) (k : Mem κ w.heap m) (rep : Rep κ w.heap v y) : OpDone κ w r v m :=
  ⟨y, κ, w, .inl hr, ⟨LeB.refl _ _, rfl, Kept.refl _⟩, k, rep⟩

theorem eqFs_run {xs ys : List V} {as bs : List Value} (ra : Reps κ w.heap xs as) (rb : Reps κ w.heap ys bs) (oa : ∀ x ∈ as, x.oneCell' = true) (ob : ∀ x ∈ bs, x.oneCell' = true)
    {eq : TypeId → V → V → Option Bool} {D : Nat} (heq : ∀ t x y r a b, eq t x y = some r → Rep κ w.heap x a → Rep κ w.heap y b → (Op.equalIn D t a b).run P w = .ok r w) :
    ∀ (fs : List Field) (r : Bool), eqFs P eq xs ys fs = some r → (Op.eqFields D ⟨as⟩ ⟨bs⟩ fs).run P w = .ok r w
  | [], r, e => by simp [eqFs] at e; subst e; simp [Op.eqFields]
  | f :: fs, r, e => by
    simp only [eqFs] at e
    split at e
    · simp at e
    rename_i hname
    split at e
    · rename_i a b h1 h2
      split at e
      · rename_i q h3
        obtain ⟨x, hx, rx⟩ := partT_run w oa ra h1
        obtain ⟨y, hy, ry⟩ := partT_run w ob rb h2
        have h4 := heq _ _ _ _ _ _ h3 rx ry
        simp only [Op.eqFields, ne_eq, hname, not_false_eq_true, if_true, Sem.run_bind, hx, hy, h4, Result.andThen_ok]
        cases q with
        | true =>
          simp at e ⊢
          exact eqFs_run ra rb oa ob heq fs r e
        | false => simp at e ⊢; exact e
      · simp at e
    · simp at e

theorem eqT_run : ∀ (d : Nat) (D : Nat), d ≤ D → ∀ (t : TypeId) (x y : V) (r : Bool) (a b : Value), eqT P d t x y = some r → Rep κ w.heap x a → Rep κ w.heap y b →
    (Op.equalIn D t a b).run P w = .ok r w
  | 0, _, _, t, x, y, r, a, b, e, _, _ => by simp [eqT] at e
  | d + 1, D, hD, t, x, y, r, a, b, e, ra, rb => by
    obtain ⟨D, rfl⟩ : ∃ D', D = D' + 1 := ⟨D - 1, by omega⟩
    unfold eqT at e
    split at e
    · rename_i hu
      obtain rfl := rep_bool ra; obtain rfl := rep_bool rb
      simp at e; subst e
      exact run_equalIn_bool' w D t _ _ hu
    · rename_i hu
      obtain rfl := rep_int ra; obtain rfl := rep_int rb
      split at e <;> simp at e
      rename_i hk
      subst hk; subst e
      exact run_equalIn_int w D t _ _ _ _ hu
    · rename_i hu
      obtain rfl := rep_str ra; obtain rfl := rep_str rb
      simp at e; subst e
      rw [run_equalIn_string w D t _ _ hu]
      simp [ByteArray.toList_eq]
    · rename_i hu
      obtain rfl := rep_nilp ra; obtain rfl := rep_nilp rb
      simp at e; subst e
      simp [Op.equalIn, run_underlying hu]
    · rename_i hu
      obtain rfl := rep_nilp ra; obtain ⟨b', _, rfl⟩ := rep_ptr rb
      simp at e; subst e
      simp [Op.equalIn, run_underlying hu]
    · rename_i hu
      obtain ⟨b', _, rfl⟩ := rep_ptr ra; obtain rfl := rep_nilp rb
      simp at e; subst e
      simp [Op.equalIn, run_underlying hu]
    · rename_i fs xs ys hu
      obtain ⟨as, ra', oa, rfl⟩ := rep_agg ra
      obtain ⟨bs, rb', ob, rfl⟩ := rep_agg rb
      split at e
      · simp at e
      rename_i hs
      have hf : P.fieldsOf t = fs := by simp [Program.fieldsOf, hu]
      rw [run_equalIn_struct w D t _ _ (by rw [hf]; exact hu) (by simpa using hs), hf]
      exact eqFs_run ra' rb' oa ob (fun t x y r a b h1 h2 h3 => eqT_run d D (by omega) t x y r a b h1 h2 h3) fs.toList r e
    · simp at e

theorem intBin_run {op : BinOp} {k : IntKind} {a b : Int} {v : V} {t : TypeId} (hs : op ≠ .shl) (hs' : op ≠ .shr) (e : intBin op k a b = some v) :
    ∃ z, (binOp op t (.int k a) (.int k b)).run P w = .ok z w ∧ Rep κ w.heap v z := by
  cases op <;> simp [intBin] at e <;> first | contradiction | skip
  case add => subst e; exact ⟨_, by simp [binOp, Op.intArith], .int _ _⟩
  case sub => subst e; exact ⟨_, by simp [binOp, Op.intArith], .int _ _⟩
  case mul => subst e; exact ⟨_, by simp [binOp, Op.intArith], .int _ _⟩
  case quo => obtain ⟨hb, rfl⟩ := e; exact ⟨_, by simp [binOp, Op.intDiv, hb], .int _ _⟩
  case rem => obtain ⟨hb, rfl⟩ := e; exact ⟨_, by simp [binOp, Op.intDiv, hb], .int _ _⟩
  case and => subst e; exact ⟨_, by simp [binOp, Op.intBits], .int _ _⟩
  case or => subst e; exact ⟨_, by simp [binOp, Op.intBits], .int _ _⟩
  case xor => subst e; exact ⟨_, by simp [binOp, Op.intBits], .int _ _⟩
  case eql => subst e; exact ⟨_, by simp [binOp, Op.intCmp], .bool _⟩
  case neq => subst e; exact ⟨_, by simp [binOp, Op.intCmp], .bool _⟩
  case lss => subst e; exact ⟨_, by simp [binOp, Op.intCmp], .bool _⟩
  case leq => subst e; exact ⟨_, by simp [binOp, Op.intCmp], .bool _⟩
  case gtr => subst e; exact ⟨_, by simp [binOp, Op.intCmp], .bool _⟩
  case geq => subst e; exact ⟨_, by simp [binOp, Op.intCmp], .bool _⟩

theorem strBin_run {op : BinOp} {a b : List UInt8} {v : V} {t : TypeId} (e : strBin op a b = some v) :
    ∃ z, (binOp op t (.string ⟨⟨a⟩⟩) (.string ⟨⟨b⟩⟩)).run P w = .ok z w ∧ Rep κ w.heap v z := by
  have e1 : ∀ l : List UInt8, (ByteArray.mk ⟨l⟩).toList = l := fun l => by rw [ByteArray.toList_eq]
  cases op <;> simp only [strBin] at e <;> first | (simp at e; done) | skip
  case add =>
    split at e <;> simp at e
    rename_i hn
    subst e
    refine ⟨.string ⟨⟨a ++ b⟩⟩, ?_, .str _⟩
    have : ¬ ((((ByteArray.mk ⟨a⟩).size + (ByteArray.mk ⟨b⟩).size : Nat) : Int) > IntKind.i64.max) := by
      have h1 : (ByteArray.mk ⟨a⟩).size = a.length := rfl
      have h2 : (ByteArray.mk ⟨b⟩).size = b.length := rfl
      rw [h1, h2]
      have h3 : IntKind.i64.max = 9223372036854775807 := by decide
      omega
    simp only [binOp, Op.stringOp, Sem.run_ite, if_neg this, Sem.run_pure]
    congr 2
  case eql => simp at e; subst e; exact ⟨_, by simp [binOp, Op.stringOp, e1], .bool _⟩
  case neq => simp at e; subst e; exact ⟨_, by simp [binOp, Op.stringOp, e1], .bool _⟩
  case lss => simp at e; subst e; exact ⟨_, by simp [binOp, Op.stringOp, e1], .bool _⟩
  case leq => simp at e; subst e; exact ⟨_, by simp [binOp, Op.stringOp, e1], .bool _⟩
  case gtr => simp at e; subst e; exact ⟨_, by simp [binOp, Op.stringOp, e1], .bool _⟩
  case geq => simp at e; subst e; exact ⟨_, by simp [binOp, Op.stringOp, e1], .bool _⟩

theorem shiftBin_run {op : BinOp} {k k' : IntKind} {a b : Int} {v : V} {t : TypeId} (ho : op = .shl ∨ op = .shr) (e : shiftBin op k a b = some v) :
    ∃ z, (binOp op t (.int k a) (.int k' b)).run P w = .ok z w ∧ Rep κ w.heap v z := by
  unfold shiftBin at e
  split at e
  · simp at e
  rename_i hb
  rcases ho with rfl | rfl
  · simp at e; subst e
    exact ⟨_, by simp [binOp, Op.shift, hb], .int _ _⟩
  · simp at e; subst e
    exact ⟨_, by simp [binOp, Op.shift, hb], .int _ _⟩

theorem eqGuard_run {op : BinOp} {t : TypeId} {ox oy : Operand} {x y : V} {a b : Value} {r : Bool} {d : Nat} (hg : P.eqGuardType P.depth t = false) (e : eqT P d t x y = some r)
    (ra : Rep κ w.heap x a) (rb : Rep κ w.heap y b) : (eqGuard op t ox oy a b).run P w = .ok () w := by
  cases d with
  | zero => simp [eqT] at e
  | succ d =>
    unfold eqT at e
    split at e
    · obtain rfl := rep_bool ra; obtain rfl := rep_bool rb; cases op <;> simp [eqGuard]
    · obtain rfl := rep_int ra; obtain rfl := rep_int rb; cases op <;> simp [eqGuard]
    · obtain rfl := rep_str ra; obtain rfl := rep_str rb; cases op <;> simp [eqGuard]
    · obtain rfl := rep_nilp ra; obtain rfl := rep_nilp rb; cases op <;> simp [eqGuard]
    · obtain rfl := rep_nilp ra; obtain ⟨_, _, rfl⟩ := rep_ptr rb; cases op <;> simp [eqGuard]
    · obtain ⟨_, _, rfl⟩ := rep_ptr ra; obtain rfl := rep_nilp rb; cases op <;> simp [eqGuard]
    · obtain ⟨as, _, _, rfl⟩ := rep_agg ra
      obtain ⟨bs, _, _, rfl⟩ := rep_agg rb
      exact run_eqGuard_agg w op t ox oy _ _ hg
    · simp at e

theorem eql_run {t : TypeId} {x y : V} {a b : Value} {r : Bool} (e : eqT P 20 t x y = some r) (ra : Rep κ w.heap x a) (rb : Rep κ w.heap y b)
    (hn : (∀ k n, x ≠ .int k n) ∧ (∀ s, x ≠ .str s)) :
    (binOp .eql t a b).run P w = .ok (.bool r) w ∧ (binOp .neq t a b).run P w = .ok (.bool !r) w := by
  have key := eqT_run (κ := κ) 20 10000 (by omega) t x y r a b e ra rb
  have : ∀ q : Sem Bool, q.run P w = .ok r w → (do pure (.bool (← q)) : Sem Value).run P w = .ok (.bool r) w ∧ (do pure (.bool (!(← q))) : Sem Value).run P w = .ok (.bool !r) w := fun q hq => by simp [hq]
  have := this (Op.equal t a b) (by unfold Op.equal Op.maxDepth; exact key)
  cases ra with
  | int k n => exact absurd rfl (hn.1 k n)
  | str s => exact absurd rfl (hn.2 s)
  | any x => exfalso; unfold eqT at e; split at e <;> simp_all
  | _ => cases b <;> exact this

theorem binV_run {op : BinOp} {t : TypeId} {ox oy : Operand} {x y v : V} {a b : Value} (e : binV P op t x y = some v) (ra : Rep κ w.heap x a) (rb : Rep κ w.heap y b) :
    ∃ z, (do eqGuard op t ox oy a b; binOp op t a b : Sem Value).run P w = .ok z w ∧ Rep κ w.heap v z := by
  unfold binV at e
  split at e
  · rename_i k n k' n'
    obtain rfl := rep_int ra; obtain rfl := rep_int rb
    have hg : (eqGuard op t ox oy (.int k n) (.int k' n')).run P w = .ok () w := by cases op <;> simp [eqGuard]
    simp only [Sem.run_bind, hg, Result.andThen_ok]
    split at e
    · exact shiftBin_run (.inl rfl) e
    · exact shiftBin_run (.inr rfl) e
    · rename_i h1 h2
      split at e
      · rename_i hk; subst hk; exact intBin_run h1 h2 e
      · simp at e
  · rename_i s s'
    obtain rfl := rep_str ra; obtain rfl := rep_str rb
    have hg : (eqGuard op t ox oy (.string ⟨⟨s⟩⟩) (.string ⟨⟨s'⟩⟩)).run P w = .ok () w := by cases op <;> simp [eqGuard]
    simp only [Sem.run_bind, hg, Result.andThen_ok]
    exact strBin_run e
  · rename_i hni hns
    split at e
    · split at e
      · simp at e
      rename_i hg
      simp only [Option.map_eq_some_iff] at e
      obtain ⟨r, h1, rfl⟩ := e
      have hg' := eqGuard_run (op := .eql) (ox := ox) (oy := oy) (by simpa using hg) h1 ra rb
      refine ⟨.bool r, ?_, .bool r⟩
      simp only [Sem.run_bind, hg', Result.andThen_ok]
      have hx : (∀ k n, x ≠ .int k n) ∧ (∀ s, x ≠ .str s) := by
        constructor
        · rintro k n rfl
          cases y <;> simp [eqT] at h1
          · exact hni _ _ _ _ rfl rfl
        · rintro s rfl
          cases y <;> simp [eqT] at h1
          · exact hns _ _ rfl rfl
      exact (eql_run h1 ra rb hx).1
    · split at e
      · simp at e
      rename_i hg
      simp only [Option.map_eq_some_iff] at e
      obtain ⟨r, h1, rfl⟩ := e
      have hg' := eqGuard_run (op := .neq) (ox := ox) (oy := oy) (by simpa using hg) h1 ra rb
      refine ⟨.bool !r, ?_, .bool _⟩
      simp only [Sem.run_bind, hg', Result.andThen_ok]
      have hx : (∀ k n, x ≠ .int k n) ∧ (∀ s, x ≠ .str s) := by
        constructor
        · rintro k n rfl
          cases y <;> simp [eqT] at h1
          · exact hni _ _ _ _ rfl rfl
        · rintro s rfl
          cases y <;> simp [eqT] at h1
          · exact hns _ _ rfl rfl
      exact (eql_run h1 ra rb hx).2
    · simp at e

end
end Go.Fbs

/- Each operation of the evaluator is the machine's: reading, building, cutting. -/
namespace Go.Fbs
section
variable {P : Program} {κ : Ctx} {w : World} {m : Hp}

theorem reps_block {cs : List V} {xs : List Value} {b off : Nat} (hx : Block κ w.heap b off xs) (hr : Reps κ w.heap cs xs) (k : Nat) :
    Block κ w.heap b (off + k) (xs.drop k) ∧ Reps κ w.heap (cs.drop k) (xs.drop k) :=
  ⟨fun i x h => by
    have := hx (k + i) x (by simpa using h)
    rwa [← Nat.add_assoc] at this, hr.drop k⟩

theorem load_run {t : TypeId} {x : V} {a : Value} {v : V} (k : Mem κ w.heap m) (ra : Rep κ w.heap x a)
    (e : loadV P t m.H x = some v) : ∃ y, (Instr.loadAt t a).run P w = .ok y w ∧ Rep κ w.heap v y := by
  cases x with
  | ptr l off =>
    obtain ⟨b, hb, rfl⟩ := rep_ptr ra
    simp only [loadV] at e
    split at e
    · rename_i cs hcs
      obtain ⟨_, h1, xs, E, rfl, h2, h3⟩ := k.2.1.2 l b _ hb hcs
      obtain ⟨y, hy, ry⟩ := loadT_run (κ := κ) w (b := b) (off := off) (xs := xs.drop off) (fun i x hx => by
        have hx' : xs[off + i]? = some x := by simpa using hx
        refine ⟨?_, h3 x (List.mem_of_getElem? hx')⟩
        unfold hcell; rw [h1]; simpa using hx') (h2.drop off) e
      exact ⟨y, by simp [Instr.loadAt, Instr.sureAddr, hy], ry⟩
    · simp at e
  | ro cs =>
    obtain ⟨b, off, xs, hx, hr, rfl⟩ := rep_ro ra
    obtain ⟨y, hy, ry⟩ := loadT_run (κ := κ) w (b := b) (off := off) (xs := xs) (fun i x h => ⟨(hx i x h).2.1, (hx i x h).2.2⟩) hr e
    exact ⟨y, by simp [Instr.loadAt, Instr.sureAddr, hy], ry⟩
  | _ => simp [loadV] at e

theorem fieldPlace_run {b off : Nat} {f : Field} {n : Nat} (hn : szT P f.type = some (n + 1)) :
    (fieldPlace ⟨b, off, none⟩ f).run P w = .ok ⟨b, off + f.offset, none⟩ w := by
  simp [fieldPlace, szT_run w hn, Addr.add_mid]

theorem fieldAddr_run {s : TypeId} {x v : V} {f : Nat} {a : Value} (ra : Rep κ w.heap x a) (e : fieldAddrV P s x f = some v) :
    ∃ y, (Instr.fieldAt s a f).run P w = .ok y w ∧ Rep κ w.heap v y := by
  unfold fieldAddrV at e
  split at e
  · rename_i fs hu
    split at e
    · rename_i fd hf
      split at e
      · rename_i n l off hn
        simp at e; subst e
        obtain ⟨b, hb, rfl⟩ := rep_ptr ra
        exact ⟨.pointer (some ⟨b, off + fd.offset, none⟩), by simp [Instr.fieldAt, run_underlying hu, hf, Instr.sureAddr, fieldPlace_run hn], .ptr _ _ _ hb⟩
      · rename_i n cs hn
        simp at e; subst e
        obtain ⟨b, off, xs, hx, hr, rfl⟩ := rep_ro ra
        obtain ⟨h1, h2⟩ := reps_block hx hr fd.offset
        exact ⟨.pointer (some ⟨b, off + fd.offset, none⟩), by simp [Instr.fieldAt, run_underlying hu, hf, Instr.sureAddr, fieldPlace_run hn], .ro _ b _ _ h1 h2.1 h2.2⟩
      · simp at e
    · simp at e
  · simp at e

theorem field_run {s : TypeId} {x v : V} {f : Nat} {a : Value} (ra : Rep κ w.heap x a) (e : fieldV P s x f = some v) :
    ∃ y, (Instr.field s a f).run P w = .ok y w ∧ Rep κ w.heap v y := by
  unfold fieldV at e
  split at e
  · rename_i fs cs hu
    split at e
    · rename_i fd hf
      obtain ⟨xs, hr, ho, rfl⟩ := rep_agg ra
      obtain ⟨y, hy, ry⟩ := partT_run w ho hr e
      exact ⟨y, by simp [Instr.field, run_underlying hu, hf, asAgg, hy], ry⟩
    · simp at e
  · simp at e

theorem uniform_flat : ∀ {es : List V} {sz : Nat}, (∀ e ∈ es, e.cells.length = sz) → (flat es).length = es.length * sz
  | [], _, _ => by simp [flat]
  | e :: es, sz, hu => by
    have h1 := hu e (by simp)
    have h2 := uniform_flat (es := es) (sz := sz) (fun e' he => hu e' (by simp [he]))
    simp only [flat, List.flatMap_cons, List.length_append, List.length_cons] at h2 ⊢
    rw [h1, h2, Nat.succ_mul]; omega

theorem flat_get : ∀ {es : List V} {sz : Nat}, (∀ e ∈ es, e.cells.length = sz) → ∀ (i j : Nat) e, es[i]? = some e → j < sz → (flat es)[i * sz + j]? = e.cells[j]?
  | [], _, _, i, j, e, he, _ => by simp at he
  | e0 :: es, sz, hu, 0, j, e, he, hj => by
    simp at he; subst he
    have h1 := hu e0 (by simp)
    simp only [flat, List.flatMap_cons, Nat.zero_mul, Nat.zero_add]
    rw [List.getElem?_append_left (by omega)]
  | e0 :: es, sz, hu, i + 1, j, e, he, hj => by
    have h1 := hu e0 (by simp)
    have h2 := flat_get (es := es) (sz := sz) (fun e' he => hu e' (by simp [he])) i j e (by simpa using he) hj
    simp only [flat, List.flatMap_cons]
    rw [List.getElem?_append_right (by rw [h1, Nat.succ_mul]; omega), h1, show (i + 1) * sz + j - sz = i * sz + j by rw [Nat.succ_mul]; omega]
    exact h2

theorem flat_drop : ∀ {es : List V} {sz : Nat}, (∀ e ∈ es, e.cells.length = sz) → ∀ (i : Nat), (flat es).drop (i * sz) = flat (es.drop i)
  | [], _, _, i => by simp [flat]
  | e0 :: es, sz, hu, 0 => by simp
  | e0 :: es, sz, hu, i + 1 => by
    have h1 := hu e0 (by simp)
    have h2 := flat_drop (es := es) (sz := sz) (fun e' he => hu e' (by simp [he])) i
    simp only [flat, List.flatMap_cons, List.drop_succ_cons] at h2 ⊢
    rw [← h2, List.drop_append, h1, List.drop_eq_nil_of_le (by rw [h1, Nat.succ_mul]; omega), show (i + 1) * sz - sz = i * sz by rw [Nat.succ_mul]; omega]
    rfl

theorem flat_take : ∀ {es : List V} {sz : Nat}, (∀ e ∈ es, e.cells.length = sz) → ∀ (i : Nat), (flat es).take (i * sz) = flat (es.take i)
  | [], _, _, i => by simp [flat]
  | e0 :: es, sz, hu, 0 => by simp [flat]
  | e0 :: es, sz, hu, i + 1 => by
    have h1 := hu e0 (by simp)
    have h2 := flat_take (es := es) (sz := sz) (fun e' he => hu e' (by simp [he])) i
    simp only [flat, List.flatMap_cons, List.take_succ_cons] at h2 ⊢
    rw [← h2, List.take_append, h1, List.take_of_length_le (by rw [h1, Nat.succ_mul]; omega), show (i + 1) * sz - sz = i * sz by rw [Nat.succ_mul]; omega]

theorem flat_append (xs ys : List V) : flat (xs ++ ys) = flat xs ++ flat ys := by simp [flat]

/-- What a slice's value says. -/
theorem rep_sl {g : Tag} {es : List V} {x : Value} (r : Rep κ w.heap (.sl g es) x) :
    (es = [] ∧ x = .slice none 0 0 ∧ ∀ i, g = .own i → ∃ L, κ.lease[i]? = some L ∧ (L.kind = .real → 0 < L.n)) ∨
    ∃ b off cap sz xs, Block κ w.heap b off xs ∧ (∀ e ∈ es, e.cells.length = sz) ∧ Reps κ w.heap (flat es) xs ∧ es.length ≤ cap ∧ TagOk κ g es.length b off cap sz ∧ x = .slice (some ⟨b, off, none⟩) es.length cap := by
  cases r with
  | slnil _ hg => exact .inl ⟨rfl, rfl, hg⟩
  | sl _ _ b off cap sz xs hx hu hl hr hc ht => exact .inr ⟨b, off, cap, sz, xs, hx, hu, ⟨hl, hr⟩, hc, ht, rfl⟩

theorem indexAddr_run {t : TypeId} {x i v : V} {a n : Value} (ra : Rep κ w.heap x a) (rn : Rep κ w.heap i n) (e : indexAddrV P t x i = some v) :
    ∃ y, (Instr.indexAt t a n).run P w = .ok y w ∧ Rep κ w.heap v y := by
  unfold indexAddrV at e
  split at e
  · rename_i et g es k i hu
    obtain rfl := rep_int rn
    split at e
    · rename_i sz hsz
      split at e
      · rename_i hi
        simp only [Option.bind_eq_some_iff] at e
        obtain ⟨el, hel, e⟩ := e
        split at e <;> simp at e
        rename_i hcl
        subst e
        have hlt := (List.getElem?_eq_some_iff.1 hel).1
        rcases rep_sl ra with ⟨rfl, _, _⟩ | ⟨b, off, cap, sz', xs, hx, hun, hr, hc, ht, rfl⟩
        · simp at hel
        · have hs' : sz' = sz + 1 := by rw [← hun el (List.mem_of_getElem? hel)]; exact hcl
          subst hs'
          obtain ⟨h1, h2⟩ := reps_block hx hr (i.toNat * (sz + 1))
          refine ⟨.pointer (some ⟨b, off + i.toNat * (sz + 1), none⟩), ?_, .ro _ b _ ((xs.drop (i.toNat * (sz + 1))).take (sz + 1)) (fun j x hj => h1 j x (getElem?_take_cells hj)) ?_ ?_⟩
          · have : 0 ≤ i ∧ i < (es.length : Int) := ⟨hi, by omega⟩
            simp [Instr.indexAt, run_underlying hu, asIntOf, this, szT_run w hsz, Addr.add_mid]
          · have : (flat es).length = es.length * (sz + 1) := uniform_flat hun
            rw [List.length_take, List.length_drop, hr.1, this, hcl]
            have : (i.toNat + 1) * (sz + 1) ≤ es.length * (sz + 1) := Nat.mul_le_mul_right _ hlt
            rw [Nat.succ_mul] at this
            omega
          · intro j c x hj hx'
            have hjl : j < sz + 1 := by rw [← hcl]; exact (List.getElem?_eq_some_iff.1 hj).1
            refine h2.2 j c x ?_ (getElem?_take_cells hx')
            rw [List.getElem?_drop, flat_get hun _ _ _ hel hjl]; exact hj
      · simp at e
    · simp at e
  · rename_i len et l off k i hu
    obtain rfl := rep_int rn
    obtain ⟨b, hb, rfl⟩ := rep_ptr ra
    split at e
    · rename_i sz hsz
      split at e <;> simp at e
      rename_i hi
      subst e
      refine ⟨.pointer (some ⟨b, off + i.toNat * sz, none⟩), ?_, .ptr _ _ _ hb⟩
      have h1 : 0 ≤ i ∧ i < (len : Int) := ⟨hi.1, hi.2.1⟩
      simp [Instr.indexAt, run_underlying hu, asIntOf, h1, szT_run w hsz, Addr.add_mid, Instr.sureAddr]
    · simp at e
  · simp at e

theorem index_run {t : TypeId} {x i v : V} {a n : Value} (ra : Rep κ w.heap x a) (rn : Rep κ w.heap i n) (e : indexV P t x i = some v) :
    ∃ y, (Instr.index t a n).run P w = .ok y w ∧ Rep κ w.heap v y := by
  unfold indexV at e
  split at e
  · rename_i s k i hu
    obtain rfl := rep_int rn
    obtain rfl := rep_str ra
    split at e
    · rename_i hi
      simp only [Option.map_eq_some_iff] at e
      obtain ⟨c, hc, rfl⟩ := e
      refine ⟨.int .u8 c.toNat, ?_, .int _ _⟩
      have hlt : i.toNat < s.length := (List.getElem?_eq_some_iff.1 hc).1
      have h2 : (ByteArray.mk ⟨s⟩)[i.toNat]? = some c := by
        rw [show (ByteArray.mk ⟨s⟩)[i.toNat]? = some ((ByteArray.mk ⟨s⟩)[i.toNat]'(by show i.toNat < s.length; exact hlt)) from getElem?_pos _ _ _]
        congr 1
        have := (List.getElem?_eq_some_iff.1 hc).2
        rw [← this]; rfl
      simp [Instr.index, run_underlying hu, asIntOf, hi, h2]
    · simp at e
  · rename_i len et cs k i hu
    obtain rfl := rep_int rn
    obtain ⟨xs, hr, ho, rfl⟩ := rep_agg ra
    split at e
    · rename_i sz hsz
      split at e
      · rename_i hi
        obtain ⟨y, hy, ry⟩ := partT_run w ho hr e
        refine ⟨y, ?_, ry⟩
        simp [Instr.index, run_underlying hu, asIntOf, hi, szT_run w hsz, hy]
      · simp at e
    · simp at e
  · simp at e

theorem extract_run {vs : List V} {i : Nat} {v : V} {a : Value} (ra : Rep κ w.heap (.tup vs) a) (e : vs[i]? = some v) :
    ∃ y, (Instr.extract a i).run P w = .ok y w ∧ Rep κ w.heap v y := by
  obtain ⟨xs, hr, rfl⟩ := rep_tup ra
  obtain ⟨y, hy, ry⟩ := hr.get e
  exact ⟨y, by simp [Instr.extract, hy], ry⟩

def boundSem (a : Option Value) (dflt top : Nat) (code : BoundsCode) : Sem Nat :=
  match a with
  | some v => Instr.sliceBound v top code
  | none => pure dflt

def OptRep (κ : Ctx) (h : Heap) (x : Option V) (a : Option Value) : Prop :=
  match x, a with
  | none, none => True
  | some x, some a => Rep κ h x a
  | _, _ => False

theorem sliceBounds_two (isSlice : Bool) (len cap : Nat) (alo ahi : Option Value) :
    Instr.sliceBounds isSlice len cap alo ahi none = (do
      let h ← boundSem ahi len cap (if isSlice then .sliceAcap else .sliceAlen)
      let l ← boundSem alo 0 h .sliceB
      pure (l, h, cap)) := by
  cases alo <;> cases ahi <;> simp [Instr.sliceBounds, boundSem]

theorem bound_run {x : Option V} {a : Option Value} {dflt top n : Nat} {code : BoundsCode} (hx : OptRep κ w.heap x a)
    (e : boundV x dflt top = some n) : (∀ top', top ≤ top' → (boundSem a dflt top' code).run P w = .ok n w) ∧ (dflt ≤ top → n ≤ top) := by
  unfold boundV at e
  split at e
  · cases a with
    | none => simp at e; subst e; exact ⟨fun _ _ => rfl, id⟩
    | some a => simp [OptRep] at hx
  · rename_i k i
    cases a with
    | none => simp [OptRep] at hx
    | some a =>
      obtain rfl := rep_int hx
      split at e <;> simp at e
      rename_i hi
      subst e
      refine ⟨fun top' ht => ?_, fun _ => by omega⟩
      have : 0 ≤ i ∧ i ≤ (top' : Int) := ⟨hi.1, by omega⟩
      simp [boundSem, Instr.sliceBound, asIntOf, this]
  · simp at e

theorem slice_run {t : TypeId} {x v : V} {lo hi : Option V} {a : Value} {alo ahi : Option Value} (ra : Rep κ w.heap x a)
    (hlo : OptRep κ w.heap lo alo) (hhi : OptRep κ w.heap hi ahi)
    (e : sliceV P t x lo hi = some v) : ∃ y, (Instr.sliceAt t a alo ahi none).run P w = .ok y w ∧ Rep κ w.heap v y := by
  unfold sliceV at e
  split at e
  · rename_i s hu
    obtain rfl := rep_str ra
    split at e
    · rename_i h hh
      split at e
      · rename_i l hl
        simp at e; subst e
        obtain ⟨h1, h1'⟩ := bound_run (P := P) (κ := κ) (w := w) (code := .sliceAlen) hhi hh
        obtain ⟨h2, h2'⟩ := bound_run (P := P) (κ := κ) (w := w) (code := .sliceB) hlo hl
        refine ⟨.string ⟨⟨(s.take h).drop l⟩⟩, ?_, .str _⟩
        have hsz : (ByteArray.mk ⟨s⟩).size = s.length := rfl
        have hb : (Instr.sliceBounds false (ByteArray.mk ⟨s⟩).size (ByteArray.mk ⟨s⟩).size alo ahi none).run P w = .ok (l, h, s.length) w := by
          rw [hsz, sliceBounds_two]
          simp [h1 _ (Nat.le_refl _), h2 _ (Nat.le_refl _)]
        have hext : (ByteArray.mk ⟨s⟩).extract l h = ⟨⟨(s.take h).drop l⟩⟩ := by
          apply ByteArray.ext
          rw [ByteArray.data_extract]
          apply Array.ext'
          simp [List.drop_take]
        simp only [Instr.sliceAt, Instr.slice, Sem.run_bind, run_underlying hu, Result.andThen_ok]
        simp [hb, hext]
      · simp at e
    · simp at e
  · rename_i et g es hu
    split at e
    · rename_i sz h hsz hh
      split at e
      · rename_i l hl
        split at e <;> simp at e
        rename_i hg
        subst e
        obtain ⟨hpos, hall⟩ := hg
        obtain ⟨h1, h1'⟩ := bound_run (P := P) (κ := κ) (w := w) (code := .sliceAcap) hhi hh
        obtain ⟨h2, h2'⟩ := bound_run (P := P) (κ := κ) (w := w) (code := .sliceB) hlo hl
        have hle : h ≤ es.length := h1' (Nat.le_refl _)
        have hle' : l ≤ h := h2' (Nat.zero_le _)
        have big : ∀ (cap : Nat), es.length ≤ cap → (Instr.sliceBounds true es.length cap alo ahi none).run P w = .ok (l, h, cap) w := by
          intro cap hcap
          rw [sliceBounds_two]
          simp [h1 cap hcap, h2 _ (Nat.le_refl _)]
        rcases rep_sl ra with ⟨rfl, rfl, hgg⟩ | ⟨b, off, cap, sz', xs, hx, hun, hr, hc, ht, rfl⟩
        · have hl0 : l = 0 := by simp at hle; omega
          have hh0 : h = 0 := by simp at hle; omega
          subst hl0; subst hh0
          have hb := big 0 (by simp)
          simp at hb
          refine ⟨.slice none 0 0, ?_, ?_⟩
          · simp only [Instr.sliceAt, Instr.slice, Sem.run_bind, run_underlying hu, Result.andThen_ok]
            simp [hb, szT_run w hsz]
          · simp only [List.take_nil, List.drop_nil]
            exact .slnil _ (fun i => by
              cases g with
              | ro => simp [sliceTag]
              | full => simp only [sliceTag]; split <;> simp
              | own j =>
                simp only [sliceTag]
                split
                · simp
                · exact hgg i)
        · have hb := big cap hc
          have hun2 : es ≠ [] → sz' = sz := fun hne => by
            obtain ⟨e0, he0⟩ := List.exists_mem_of_ne_nil es hne
            rw [← hun e0 he0]
            have := List.all_eq_true.1 hall e0 he0
            simpa using this
          have hun' : ∀ e ∈ (es.take h).drop l, e.cells.length = sz := fun e he => by
            have hm : e ∈ es := List.mem_of_mem_take (List.mem_of_mem_drop he)
            have := List.all_eq_true.1 hall e hm
            simpa using this
          refine ⟨.slice (if cap = l then some ⟨b, off, none⟩ else some ⟨b, off + l * sz, none⟩) (h - l) (cap - l), ?_, ?_⟩
          · simp only [Instr.sliceAt, Instr.slice, Sem.run_bind, run_underlying hu, Result.andThen_ok]
            simp only [hb, Result.andThen_ok, szT_run w hsz, Sem.run_bind, Sem.run_pure, Option.map_some, Addr.add_mid]
          · have hlen : ((es.take h).drop l).length = h - l := by simp; omega
            rw [show h - l = ((es.take h).drop l).length by omega]
            by_cases hcl : cap = l
            · have he0 : (es.take h).drop l = [] := List.eq_nil_of_length_eq_zero (by omega)
              rw [if_pos hcl, he0]
              refine .sl _ [] b off _ sz' [] (fun i x hx => by simp at hx) (by simp) (by simp [flat]) (by simp) (by simp) ?_
              have hcap0 : cap - l = 0 := by omega
              cases g with
              | ro => trivial
              | full => simp only [sliceTag]; split <;> simp [TagOk, hcap0]
              | own j =>
                simp only [sliceTag]
                split
                · trivial
                · rename_i hcond
                  simp at hcond
                  obtain ⟨hhn, hl0⟩ := hcond
                  obtain ⟨L, h3, h45, h46⟩ := ht
                  have hc0 : cap = 0 := by omega
                  have he : es.length = 0 := by omega
                  refine ⟨L, h3, fun hv => ⟨by simp, fun hn => ?_⟩, fun hv => ⟨by simp, fun hn => by simp; omega⟩⟩
                  obtain ⟨h6, h7, h8, h9⟩ := (h45 hv).2 (by simp at hn; omega)
                  exact ⟨h6, h7, by omega, h9⟩
            · rw [if_neg hcl]
              by_cases hne : es = []
              · subst hne
                have he0 : (([] : List V).take h).drop l = [] := by simp
                rw [he0]
                refine .sl _ [] b _ _ sz' [] (fun i x hx => by simp at hx) (by simp) (by simp [flat]) (by simp) (by simp) ?_
                cases g with
                | ro => trivial
                | full => simp [TagOk] at ht; omega
                | own j =>
                  simp only [sliceTag]
                  split
                  · trivial
                  · rename_i hcond
                    simp at hcond
                    obtain ⟨hhn, hl0⟩ := hcond
                    subst hl0
                    simpa using ht
              · obtain rfl := hun2 hne
                obtain ⟨h3, h4⟩ := reps_block hx hr (l * sz')
                rw [flat_drop hun] at h4
                have h5 : Reps κ w.heap (flat ((es.take h).drop l)) ((xs.drop (l * sz')).take ((h - l) * sz')) := by
                  have := h4.take ((h - l) * sz')
                  rwa [flat_take (fun e he => hun e (List.mem_of_mem_drop he)), ← List.drop_take] at this
                refine .sl _ _ b _ _ sz' _ (fun j x hj => h3 j x (getElem?_take_cells hj)) hun' h5.1 h5.2 (by omega) ?_
                cases g with
                | ro => trivial
                | full =>
                  simp only [sliceTag]
                  split
                  · trivial
                  · rename_i hcond
                    cases hi with
                    | some _ => simp at hcond
                    | none =>
                      simp [boundV] at hh
                      simp only [TagOk] at ht ⊢
                      omega
                | own j =>
                  simp only [sliceTag]
                  split
                  · trivial
                  · rename_i hcond
                    simp at hcond
                    obtain ⟨hhn, hl0⟩ := hcond
                    subst hl0
                    cases hi with
                    | some _ => simp at hhn
                    | none =>
                      simp [boundV] at hh
                      subst hh
                      simpa using ht
      · simp at e
    · simp at e
  · simp at e

end
end Go.Fbs

/- Each operation of the evaluator is the machine's: those that make or write memory. -/
namespace Go.Fbs

theorem setCell_out (w : World) (a : Addr) (v : Value) : (w.setCell a v).os = w.os ∧ Kept w (w.setCell a v) := by
  exact ⟨rfl, rfl, by simp⟩
theorem setCells_out (b : Nat) : ∀ (o : Nat) (vs : List Value) (w : World), (w.setCells b o vs).os = w.os ∧ Kept w (w.setCells b o vs)
  | _, [], _ => ⟨rfl, Kept.refl _⟩
  | o, v :: r, w => by
    have h1 := setCells_out b (o + 1) r (w.setCell ⟨b, o, none⟩ v)
    have h2 := setCell_out w ⟨b, o, none⟩ v
    exact ⟨h1.1.trans h2.1, h2.2.trans h1.2⟩


section
variable {P : Program} {κ : Ctx} {w : World} {m : Hp}

theorem list_ext {l : Array Value} : (⟨l.toList⟩ : Array Value) = l := by cases l; rfl

theorem alloc_run {t : TypeId} {cs : List V} (e : (zeroT P t).map V.cells = some cs) : ∃ xs : List Value,
    (Instr.alloc t true (.tuple #[])).run P w = .ok (.pointer (some ⟨w.heap.size, 0, none⟩)) { w with heap := w.heap.push (.cells ⟨xs⟩ t (0, 0)) } ∧ Reps κ w.heap cs xs ∧ ∀ x ∈ xs, x.oneCell' = true := by
  simp only [Option.map_eq_some_iff] at e
  obtain ⟨z, e, rfl⟩ := e
  obtain ⟨x, h1, h2⟩ := zeroT_run (P := P) w e
  obtain ⟨h3, h4⟩ := rep_cells (κ := κ) (h := w.heap) (rep_ofVal h2) (ok1_ofVal h2)
  exact ⟨x.cells.toList, by simp [Instr.alloc, h1, newVar, newRow], h3, h4⟩

theorem box_run {t : TypeId} {v : V} {x : Value} (r : Rep κ w.heap v x) (ho : v.ok1 = true) : ∃ xs : List Value,
    (Instr.box t x).run P w = .ok (.pointer (some ⟨w.heap.size, 0, none⟩)) { w with heap := w.heap.push (.cells ⟨xs⟩ t (0, 0)) } ∧ Reps κ w.heap v.cells xs ∧ ∀ x ∈ xs, x.oneCell' = true := by
  obtain ⟨h3, h4⟩ := rep_cells r ho
  exact ⟨x.cells.toList, by simp [Instr.box, newVar, newRow], h3, h4⟩

/-! ### Parts laid over zero cells -/
theorem fold_splice : ∀ (vs : List Value) (k off : Nat) (cells : Array Value), off + k + vs.length ≤ cells.size →
    ((vs.zipIdx k).foldl (fun (cs : Array Value) (p : Value × Nat) => cs.setIfInBounds (off + p.2) p.1) cells).toList = cells.toList.take (off + k) ++ vs ++ cells.toList.drop (off + k + vs.length)
  | [], k, off, cells, _ => by simp
  | v :: vs, k, off, cells, hl => by
    simp only [List.length_cons] at hl
    simp only [List.zipIdx_cons, List.foldl_cons]
    rw [fold_splice vs (k + 1) off _ (by simp; omega)]
    simp only [Array.toList_setIfInBounds]
    apply List.ext_getElem?
    intro i
    have hlen : off + k < cells.toList.length := by simp; omega
    simp only [List.getElem?_append, List.getElem?_take, List.getElem?_drop, List.length_append, List.length_take, List.length_set, List.length_cons, List.getElem?_set, Array.length_toList]
    have e1 : min (off + (k + 1)) cells.size = off + k + 1 := by omega
    have e2 : min (off + k) cells.size = off + k := by omega
    rw [e1, e2]
    by_cases h1 : i < off + k
    · have h2 : i < off + k + 1 := by omega
      have h3 : i < off + k + 1 + vs.length := by omega
      have h4 : i < off + k + (vs.length + 1) := by omega
      have h5 : ¬ off + k = i := by omega
      have h6 : i < off + (k + 1) := by omega
      simp [h1, h2, h3, h4, h5, h6]
    · by_cases h7 : i = off + k
      · subst h7
        simp [hlen, show off + k < cells.size by simpa using hlen]
        omega
      · have h2 : ¬ i < off + k + 1 := by omega
        by_cases h3 : i < off + k + 1 + vs.length
        · have h4 : i < off + k + (vs.length + 1) := by omega
          have h5 : i - (off + k) = (i - (off + k + 1)) + 1 := by omega
          simp [h1, h2, h3, h4, h5]
        · have h4 : ¬ i < off + k + (vs.length + 1) := by omega
          have h8 : ¬ off + k = off + (k + 1) + vs.length + (i - (off + k + 1 + vs.length)) := by omega
          simp only [h1, h2, h3, h4, if_false, h8]
          congr 1
          omega

theorem fill_run {place : Nat → Option (Nat × Nat)} : ∀ {parts : List (Nat × V)} {parts' : List (Nat × Value)} {cells : List V} {xs : List Value} {cs : List V},
    parts'.length = parts.length → (∀ (i : Nat) p p', parts[i]? = some p → parts'[i]? = some p' → p.1 = p'.1 ∧ Rep κ w.heap p.2 p'.2 ∧ p.2.ok1 = true) →
    Reps κ w.heap cells xs → (∀ x ∈ xs, x.oneCell' = true) → fillV place cells parts = some cs →
    ∃ ys, Instr.fill place ⟨xs⟩ parts' = some ⟨ys⟩ ∧ Reps κ w.heap cs ys ∧ ∀ y ∈ ys, y.oneCell' = true
  | [], parts', cells, xs, cs, hl, _, hr, ho, e => by
    simp at hl; subst hl
    simp [fillV] at e; subst e
    exact ⟨xs, rfl, hr, ho⟩
  | (i, v) :: rest, parts', cells, xs, cs, hl, hp, hr, ho, e => by
    cases parts' with
    | nil => simp at hl
    | cons p' rest' =>
      obtain ⟨i', x⟩ := p'
      obtain ⟨h1, h2, h3⟩ := hp 0 (i, v) (i', x) rfl rfl
      simp at h1 h2 h3
      subst h1
      simp only [fillV] at e
      split at e
      · simp at e
      rename_i off size hpl
      split at e
      · simp at e
      rename_i hc
      simp at hc
      obtain ⟨hc1, hc2⟩ := hc
      obtain ⟨h4, h5⟩ := rep_cells h2 h3
      have hsz : x.cells.size = size := by
        have := h4.1
        simp at this
        omega
      have hxs : xs.length = cells.length := hr.1
      have hle : ¬ (x.cells.size ≠ size ∨ off + x.cells.size > xs.length) := by
        have := h4.1
        simp at this
        omega
      have hfold : (x.cells.zipIdx.foldl (fun cs (p : Value × Nat) => cs.setIfInBounds (off + p.2) p.1) (⟨xs⟩ : Array Value)) = ⟨xs.take off ++ x.cells.toList ++ xs.drop (off + x.cells.size)⟩ := by
        apply Array.ext'
        have := fold_splice x.cells.toList 0 off ⟨xs⟩ (by simp; omega)
        rw [← Array.foldl_toList]
        simpa using this
      obtain ⟨ys, h6, h7, h8⟩ := fill_run (place := place) (parts := rest) (parts' := rest') (cells := cells.take off ++ v.cells ++ cells.drop (off + v.cells.length))
        (xs := xs.take off ++ x.cells.toList ++ xs.drop (off + x.cells.size)) (cs := cs) (by simpa using hl)
        (fun j p p' a b => hp (j + 1) p p' (by simpa using a) (by simpa using b))
        (by
          have : v.cells.length = x.cells.size := by have := h4.1; simp at this; omega
          rw [this]
          exact ((hr.take off).append h4).append (hr.drop _))
        (fun y hy => by
          rcases List.mem_append.1 hy with hy | hy
          · rcases List.mem_append.1 hy with hy | hy
            · exact ho y (List.mem_of_mem_take hy)
            · exact h5 y hy
          · exact ho y (List.mem_of_mem_drop hy)) e
      refine ⟨ys, ?_, h7, h8⟩
      simp only [Instr.fill, hpl]
      rw [if_neg (by simpa using hle)]
      rw [← h6]
      congr 1

theorem parts_rep {env : Env} {a : Act} (re : EnvOk κ w.heap env a) : ∀ {parts : List (Nat × Operand)} {ps : List (Nat × V)}, partsV env parts = some ps → partsOk ps = true →
    (parts.map fun p => (p.1, a.eval p.2)).length = ps.length ∧ ∀ (i : Nat) p p', ps[i]? = some p → (parts.map fun p => (p.1, a.eval p.2))[i]? = some p' → p.1 = p'.1 ∧ Rep κ w.heap p.2 p'.2 ∧ p.2.ok1 = true
  | [], ps, e, _ => by simp [partsV] at e; subst e; simp
  | (i, x) :: rest, ps, e, ok => by
    simp only [partsV] at e
    split at e <;> simp at e
    rename_i v vs h1 h2
    subst e
    simp only [partsOk, List.all_cons, Bool.and_eq_true] at ok
    obtain ⟨h3, h4⟩ := parts_rep re h2 (by simpa [partsOk] using ok.2)
    refine ⟨by simpa using h3, fun j p p' a b => ?_⟩
    cases j with
    | zero => simp at a b; subst a; subst b; exact ⟨rfl, re.ev h1, ok.1⟩
    | succ j => exact h4 j p p' (by simpa using a) (by simpa using b)

theorem places_run : ∀ {fs : List Field} {ps : List (Nat × Nat)}, placesT P fs = some ps → (fs.mapM (fun f => Prod.mk f.offset <$> sizeOf f.type) : Sem (List (Nat × Nat))).run P w = .ok ps w
  | [], ps, e => by simp [placesT] at e; subst e; simp
  | f :: fs, ps, e => by
    simp only [placesT] at e
    split at e <;> simp at e
    rename_i n r h1 h2
    subst e
    simp [List.mapM_cons, szT_run w h1, places_run h2]

theorem build_done {t : TypeId} {parts : List (Nat × V)} {parts' : List (Nat × Value)} {v : V} (k : Mem κ w.heap m) (hl : parts'.length = parts.length)
    (hp : ∀ (i : Nat) p p', parts[i]? = some p → parts'[i]? = some p' → p.1 = p'.1 ∧ Rep κ w.heap p.2 p'.2 ∧ p.2.ok1 = true) (e : buildV P t parts = some v) :
    OpDone κ w ((do pure (.value (← Instr.build t ⟨parts'⟩)) : Sem Next).run P w) v m := by
  unfold buildV at e
  split at e
  · rename_i fs z hu hz
    split at e
    · rename_i ps hps
      simp only [Option.map_eq_some_iff] at e
      obtain ⟨cs, h1, rfl⟩ := e
      obtain ⟨x, h2, h3⟩ := zeroT_run (P := P) w hz
      obtain ⟨h4, h5⟩ := rep_cells (κ := κ) (h := w.heap) (rep_ofVal h3) (ok1_ofVal h3)
      obtain ⟨ys, h6, h7, h8⟩ := fill_run hl hp h4 h5 h1
      refine OpDone.same (y := .agg ⟨ys⟩) ?_ k (.agg _ _ h7.1 h8 h7.2)
      have hm : (fs.mapM (fun f => do pure (f.offset, ← sizeOf f.type)) : Sem (Array (Nat × Nat))).run P w = .ok ⟨ps⟩ w := by
        rw [Array.mapM_eq_mapM_toList]
        simp [places_run hps]
      have h6' : Instr.fill (fun i => (⟨ps⟩ : Array (Nat × Nat))[i]?) x.cells parts' = some ⟨ys⟩ := by simpa using h6
      simp only [Instr.build, Sem.run_bind, h2, Result.andThen_ok, run_underlying hu, hm, h6', Sem.run_pure]
    · simp at e
  · rename_i n et z hu hz
    split at e
    · rename_i sz hsz
      simp only [Option.map_eq_some_iff] at e
      obtain ⟨cs, h1, rfl⟩ := e
      obtain ⟨x, h2, h3⟩ := zeroT_run (P := P) w hz
      obtain ⟨h4, h5⟩ := rep_cells (κ := κ) (h := w.heap) (rep_ofVal h3) (ok1_ofVal h3)
      obtain ⟨ys, h6, h7, h8⟩ := fill_run hl hp h4 h5 h1
      refine OpDone.same (y := .agg ⟨ys⟩) ?_ k (.agg _ _ h7.1 h8 h7.2)
      have h6' : Instr.fill (fun i => some (i * sz, sz)) x.cells parts' = some ⟨ys⟩ := by simpa using h6
      simp only [Instr.build, Sem.run_bind, h2, Result.andThen_ok, run_underlying hu, szT_run w hsz, h6', Sem.run_pure]
    · simp at e
  · simp at e

/-- The literal's cells: every element laid. -/
theorem fill_elems {sz : Nat} : ∀ {parts : List (Nat × V)} {parts' : List (Nat × Value)} {es : List V} {k : Nat} {base : List Value} {pre : List Value},
    elemsV k parts = some es → parts'.length = parts.length → (∀ (i : Nat) p p', parts[i]? = some p → parts'[i]? = some p' → p.1 = p'.1 ∧ Rep κ w.heap p.2 p'.2 ∧ p.2.ok1 = true) →
    (∀ e ∈ es, e.cells.length = sz) → pre.length = k * sz → base.length = es.length * sz →
    ∃ ys, Instr.fill (fun i => some (i * sz, sz)) ⟨pre ++ base⟩ parts' = some ⟨pre ++ ys⟩ ∧ Reps κ w.heap (flat es) ys ∧ ∀ y ∈ ys, y.oneCell' = true
  | [], parts', es, k, base, pre, e, hl, _, _, _, hb => by
    simp [elemsV] at e; subst e
    simp at hl; subst hl
    simp at hb; subst hb
    exact ⟨[], rfl, Reps.nil, by simp⟩
  | (i, v) :: rest, parts', es, k, base, pre, e, hl, hp, hu, hpre, hb => by
    cases parts' with
    | nil => simp at hl
    | cons p' rest' =>
      obtain ⟨i', x⟩ := p'
      obtain ⟨h1, h2, h3⟩ := hp 0 (i, v) (i', x) rfl rfl
      simp at h1 h2 h3
      subst h1
      simp only [elemsV] at e
      split at e
      · rename_i hik
        subst hik
        simp only [Option.map_eq_some_iff] at e
        obtain ⟨es', h4, rfl⟩ := e
        obtain ⟨h5, h6⟩ := rep_cells h2 h3
        have hvs : v.cells.length = sz := hu v (by simp)
        have hxs : x.cells.size = sz := by have := h5.1; simp at this; omega
        simp only [List.length_cons, Nat.succ_mul] at hb
        obtain ⟨ys, h7, h8, h9⟩ := fill_elems (parts := rest) (parts' := rest') (es := es') (k := i + 1) (base := base.drop sz) (pre := pre ++ x.cells.toList) h4 (by simpa using hl)
          (fun j p p' a b => hp (j + 1) p p' (by simpa using a) (by simpa using b)) (fun e he => hu e (by simp [he])) (by simp [hpre, hxs, Nat.succ_mul]) (by simp; omega)
        refine ⟨x.cells.toList ++ ys, ?_, ?_, ?_⟩
        · have hfold : (x.cells.zipIdx.foldl (fun cs (p : Value × Nat) => cs.setIfInBounds (i * sz + p.2) p.1) (⟨pre ++ base⟩ : Array Value)) = ⟨pre ++ x.cells.toList ++ base.drop sz⟩ := by
            apply Array.ext'
            have := fold_splice x.cells.toList 0 (i * sz) ⟨pre ++ base⟩ (by simp; omega)
            rw [← Array.foldl_toList]
            simp only [Nat.add_zero, Array.length_toList, hxs] at this
            simp only [Array.toList_zipIdx]
            rw [this, ← hpre]
            simp [List.drop_append]
          simp only [Instr.fill]
          rw [if_neg (by simp; omega), hfold]
          simpa using h7
        · simp only [flat, List.flatMap_cons]; exact h5.append h8
        · intro y hy
          rcases List.mem_append.1 hy with hy | hy
          · exact h6 y hy
          · exact h9 y hy
      · simp at e

theorem buildSlice_done {t : TypeId} {len : Nat} {parts : List (Nat × V)} {parts' : List (Nat × Value)} {v : V} (k : Mem κ w.heap m) (hl : parts'.length = parts.length)
    (hp : ∀ (i : Nat) p p', parts[i]? = some p → parts'[i]? = some p' → p.1 = p'.1 ∧ Rep κ w.heap p.2 p'.2 ∧ p.2.ok1 = true) (e : buildSliceV P t len parts = some v) :
    OpDone κ w ((do pure (.value (← Instr.buildSlice t len ⟨parts'⟩)) : Sem Next).run P w) v m := by
  unfold buildSliceV at e
  split at e
  · rename_i et hu
    split at e
    · rename_i sz z es hsz hz hes
      split at e <;> simp at e
      rename_i hc
      obtain ⟨hc1, hc2, hc3, hc4, hc5⟩ := hc
      subst e
      have hun : ∀ e ∈ es, e.cells.length = sz := fun e he => by simpa using List.all_eq_true.1 hc5 e he
      obtain ⟨x, h2, h3⟩ := zeroT_run (P := P) w hz
      obtain ⟨base, hbase⟩ : ∃ base : List Value, ((Array.range (len * sz)).map fun i => (if len * sz = 0 then (#[] : Array Value) else x.cells)[i % (if len * sz = 0 then (#[] : Array Value) else x.cells).size]!) = ⟨base⟩ := ⟨_, list_ext.symm⟩
      have hblen : base.length = es.length * sz := by
        have := congrArg Array.size hbase
        simp at this
        rw [hc1]; omega
      obtain ⟨ys, h4, h5, h6⟩ := fill_elems (κ := κ) (w := w) (sz := sz) (k := 0) (pre := []) (base := base) hes hl hp hun (by simp) hblen
      have hys : ys.length = es.length * sz := by rw [h5.1, uniform_flat hun]
      have hok : ∀ (k : Nat) (ps : List (Nat × V)) (es : List V), elemsV k ps = some es → (∀ p ∈ ps, p.2.ok1 = true) → ∀ e ∈ es, e.ok1 = true := by
        intro k ps
        induction ps generalizing k with
        | nil => intro es he _ e hm; simp [elemsV] at he; subst he; simp at hm
        | cons p ps ih =>
          obtain ⟨i, v⟩ := p
          intro es he hp e hm
          simp only [elemsV] at he
          split at he
          · simp only [Option.map_eq_some_iff] at he
            obtain ⟨es', h1, rfl⟩ := he
            rcases List.mem_cons.1 hm with rfl | hm
            · exact hp (i, e) (by simp)
            · exact ih _ es' h1 (fun q hq => hp q (by simp [hq])) e hm
          · simp at he
      have hoks : ∀ e ∈ es, e.ok1 = true := hok 0 parts es hes (fun p hpm => by
        obtain ⟨i, hi⟩ := List.mem_iff_getElem?.1 hpm
        have hlt : i < parts'.length := by rw [hl]; exact (List.getElem?_eq_some_iff.1 hi).1
        exact (hp i p parts'[i] hi (List.getElem?_eq_getElem hlt)).2.2)
      have h5' : Reps κ w.heap (flat (es.map V.er)) ys := by rw [er_flat hoks]; exact reps_er1 h5
      have hun' : ∀ e ∈ es.map V.er, e.cells.length = sz := fun e he => by
        obtain ⟨e', h1, rfl⟩ := List.mem_map.1 he
        rw [er_cells (hoks e' h1), List.length_map]; exact hun e' h1
      obtain ⟨κ', l, k', hb⟩ := mem_sealed k ⟨ys⟩ et (0, 0) ys.length (fun x hx => h6 x (List.mem_of_mem_take hx))
      have hbt : Block κ' (w.heap.push (.cells ⟨ys⟩ et (0, 0))) w.heap.size 0 ys := by simpa using hb
      refine ⟨.slice (some ⟨w.heap.size, 0, none⟩) es.length es.length, κ', { w with heap := w.heap.push (.cells ⟨ys⟩ et (0, 0)) }, .inl ?_, ⟨l, rfl, kept_push w _ _⟩, k', by
        have hlen : es.length = (es.map V.er).length := by simp
        conv => arg 4; rw [hlen]
        exact .sl .full _ _ 0 _ sz ys hbt hun' h5'.1 (h5'.mono l.toLe).2 (Nat.le_refl _) rfl⟩
      have hlim : ¬ (len * sz > 2 ^ 24) := by omega
      simp only [List.nil_append] at h4
      by_cases h0 : len * sz = 0
      · rw [if_pos h0] at hbase
        simp only [Instr.buildSlice, Sem.run_bind, run_underlying hu, Result.andThen_ok, szT_run w hsz]
        rw [if_neg hlim, if_pos h0]
        simp only [Sem.run_bind, Sem.run_pure, Result.andThen_ok, hbase, h4, newRow, run_newObj, hc1]
      · rw [if_neg h0] at hbase
        simp only [Instr.buildSlice, Sem.run_bind, run_underlying hu, Result.andThen_ok, szT_run w hsz]
        rw [if_neg hlim, if_neg h0]
        simp only [Sem.run_bind, h2, Sem.run_pure, Result.andThen_ok, hbase, h4, newRow, run_newObj, hc1]
    · simp at e
  · simp at e

/-! ### A box is written -/
theorem setCells_heap (b : Nat) (E : TypeId) : ∀ (vs : List Value) (o : Nat) (w : World) (c : Array Value), w.heap[b]? = some (.cells c E (0, 0)) → o + vs.length ≤ c.size →
    (w.setCells b o vs).heap[b]? = some (.cells ⟨c.toList.take o ++ vs ++ c.toList.drop (o + vs.length)⟩ E (0, 0)) ∧ Only w.heap (w.setCells b o vs).heap b
  | [], o, w, c, hc, _ => by
    refine ⟨?_, rfl, fun _ _ => rfl⟩
    simp [World.setCells, hc]
  | v :: vs, o, w, c, hc, hl => by
    simp only [List.length_cons] at hl
    have h1 : (w.setCell ⟨b, o, none⟩ v).heap[b]? = some (.cells (c.setIfInBounds o v) E (0, 0)) := by
      simp [World.setCell, Array.getElem?_modify, hc]
    have h2 : Only w.heap (w.setCell ⟨b, o, none⟩ v).heap b := by
      refine ⟨by simp [World.setCell], fun i hi => ?_⟩
      simp only [World.setCell]
      rw [Array.getElem?_modify]
      simp [Ne.symm hi]
    obtain ⟨h3, h4⟩ := setCells_heap b E vs (o + 1) (w.setCell ⟨b, o, none⟩ v) _ h1 (by simp; omega)
    refine ⟨?_, by show (w.setCells b o (v :: vs)).heap.size = _; rw [World.setCells, h4.size, h2.size], fun i hi => by rw [World.setCells, h4.same i hi, h2.same i hi]⟩
    rw [World.setCells, h3]
    congr 3
    have := fold_splice (v :: vs) 0 o c (by simp; omega)
    have h5 := fold_splice vs 0 (o + 1) (c.setIfInBounds o v) (by simp; omega)
    simp only [Array.toList_setIfInBounds, Nat.add_zero] at h5
    have e1 : o < c.toList.length := by simp; omega
    apply List.ext_getElem?
    intro i
    simp only [Array.toList_setIfInBounds, List.length_cons]
    simp only [List.getElem?_append, List.getElem?_take, List.getElem?_drop, List.length_append, List.length_take, List.length_set, List.length_cons, List.getElem?_set, Array.length_toList]
    have e2 : min (o + 1) c.size = o + 1 := by omega
    have e3 : min o c.size = o := by omega
    rw [e2, e3]
    by_cases h1 : i < o
    · have a1 : i < o + 1 := by omega
      have a2 : i < o + 1 + vs.length := by omega
      have a3 : i < o + (vs.length + 1) := by omega
      have a4 : ¬ o = i := by omega
      simp [h1, a1, a2, a3, a4]
    · by_cases h7 : i = o
      · subst h7
        simp [show i < c.size by simpa using e1]
        omega
      · have a1 : ¬ i < o + 1 := by omega
        by_cases h3 : i < o + 1 + vs.length
        · have a3 : i < o + (vs.length + 1) := by omega
          have a5 : i - o = (i - (o + 1)) + 1 := by omega
          simp [h1, a1, h3, a3, a5]
        · have a3 : ¬ i < o + (vs.length + 1) := by omega
          have a8 : ¬ o = o + 1 + vs.length + (i - (o + 1 + vs.length)) := by omega
          simp only [h1, a1, h3, a3, if_false, a8]
          congr 1
          omega

theorem storeCells_run {b off : Nat} {E : TypeId} {c : Array Value} {vs : List Value} (hc : w.heap[b]? = some (.cells c E (0, 0))) (hl : off + vs.length ≤ c.size) (ho : ∀ v ∈ vs, v.oneCell' = true) :
    (storeCells ⟨b, off, none⟩ vs).run P w = .ok () (w.setCells b off vs) := by
  have h1 : ∀ j, j < vs.length → (w.cell? ⟨b, off + 0 + j, none⟩).isSome = true := fun j hj => by
    rw [cell?_eq]; unfold hcell; rw [hc]
    simp only [Array.getElem?_eq_getElem (show off + 0 + j < c.size by omega), Option.isSome_some]
  have h2 : ∀ j, j < vs.length → w.frozen? ⟨b, off + 0 + j, none⟩ = false := fun j hj => by
    unfold World.frozen?; simp [hc]
  have := run_storeCells_cells (P := P) b off vs 0 w h1 h2 ho
  simpa using this

theorem store_done {t : TypeId} {l off n : Nat} {v : V} {cs : List V} {a x : Value} (k : Mem κ w.heap m) (ra : Rep κ w.heap (.ptr l off) a) (rx : Rep κ w.heap v x) (hn : szT P t = some n)
    (hcs : m.H[l]? = some (.cells cs)) (ho : v.ok1 = true) (hv : v.cells.length = n) (hle : off + n ≤ cs.length) :
    OpDone κ w ((do Instr.storeAt t a x; pure .skip : Sem Next).run P w) .undef { m with H := m.H.set l (.cells (splice cs v.cells off)) } := by
  obtain ⟨b, hb, rfl⟩ := rep_ptr ra
  obtain ⟨_, h1, xs, E, rfl, h2, h3⟩ := k.2.1.2 l b _ hb hcs
  obtain ⟨h4, h5⟩ := rep_cells rx ho
  have hxs : x.cells.size = n := by have := h4.1; simp at this; omega
  have hxl : xs.length = cs.length := h2.1
  have hlen : x.cells.toList.length = n := by simpa using hxs
  obtain ⟨h6, h7⟩ := setCells_heap b E x.cells.toList off w ⟨xs⟩ h1 (by rw [hlen]; show off + n ≤ xs.length; omega)
  have hr : Reps κ w.heap (splice cs v.cells off) (xs.take off ++ x.cells.toList ++ xs.drop (off + x.cells.toList.length)) := by
    unfold splice
    rw [hlen, ← hv]
    exact ((h2.take off).append h4).append (h2.drop _)
  obtain ⟨l1, l2⟩ := mem_store (c := .cells (splice cs v.cells off)) k hb h7 h6 ⟨_, E, rfl, hr, (fun y hy => by
    rcases List.mem_append.1 hy with hy | hy
    · rcases List.mem_append.1 hy with hy | hy
      · exact h3 y (List.mem_of_mem_take hy)
      · exact h5 y hy
    · exact h3 y (List.mem_of_mem_drop hy))⟩
  refine ⟨Go.undef, κ, w.setCells b off x.cells.toList, .inr ⟨?_, rfl⟩, ⟨l1, (setCells_out b off _ w).1, (setCells_out b off _ w).2⟩, l2, .undef⟩
  have hst := storeCells_run (P := P) (vs := x.cells.toList) h1 (by rw [hlen]; show off + n ≤ xs.length; omega) h5
  simp only [Instr.storeAt, Instr.sureAddr, storeVar, Sem.run_bind, Sem.run_pure, Result.andThen_ok, szT_run w hn]
  rw [if_neg (by simp [hxs])]
  simp [hst]

end
end Go.Fbs

/- append, make, conversions, built-ins; then: what the evaluator says of an operation, the machine does. -/
namespace Go.Fbs
section
variable {P : Program} {κ : Ctx} {w : World} {m : Hp}

theorem firstCells_block {ν : Ctx} {b off n sz c : Nat} {xs : List Value} (hx : Block ν w.heap b off xs) (hl : xs.length = n * sz) (w' : World) (hw : w'.heap = w.heap) :
    (Builtin.firstCells sz n (.slice (some ⟨b, off, none⟩) n c)).run P w' = .ok xs.toArray w' :=
  run_firstCells_some w' sz n ⟨b, off, none⟩ n c xs hl (fun j v hv => by rw [Addr.add_mid, cell?_eq, hw]; exact (hx j v hv).2.1)

theorem block_one {b off : Nat} {xs : List Value} (hx : Block κ w.heap b off xs) : ∀ x ∈ xs, x.oneCell' = true := fun x h => by
  obtain ⟨i, hi⟩ := List.mem_iff_getElem?.1 h
  exact (hx i x hi).2.2

/-- What is appended. -/
structure Adds (P : Program) (κ : Ctx) (w : World) (sz : Nat) (tx : TypeId) (y : Value) (ys : List V) (news : List Value) : Prop where
  src : Src P sz tx y ys.length news w
  rep : Reps κ w.heap (flat ys) news

theorem append_done {t tx e ty : TypeId} {x : V} {a y : Value} {ys : List V} {news : List Value} {v : V} {m' : Hp} (k : Mem κ w.heap m) (ra : Rep κ w.heap x a)
    (hadd : ∀ sz, szT P e = some sz → (∀ y ∈ ys, y.cells.length = sz) → Adds P κ w sz tx y ys news) (ht : P.underlying t = some (.slice e)) (ev : appendV P t x ys m = some (v, m')) :
    OpDone κ w ((do pure (.value (← Builtin.append_ #[t, tx] ty #[a, y])) : Sem Next).run P w) v m' := by
  unfold appendV at ev
  rw [ht] at ev
  split at ev
  · rename_i e' g es heq
    simp at heq; subst heq
    split at ev
    · rename_i sz z by_ hsz hz hby
      split at ev
      · rename_i hc
        obtain ⟨hc1, hc2, hc3, hc4, hc5⟩ := hc
        have hyu : ∀ y ∈ ys, y.cells.length = sz := fun y hy => by simpa using List.all_eq_true.1 hc5 y hy
        have heu : ∀ y ∈ es, y.cells.length = sz := fun y hy => by simpa using List.all_eq_true.1 hc4 y hy
        obtain ⟨hsrc, hrn⟩ := hadd sz hsz hyu
        obtain ⟨i, zv, hi, hiz, hzv⟩ := zeroT_info hz
        obtain ⟨i', hi', hisz⟩ := szT_info hsz
        obtain rfl : i = i' := by rw [hi] at hi'; simpa using hi'
        have hiby : i.bytes = by_ := by unfold bytesT at hby; rw [hi] at hby; simpa using hby
        have hzc : zv.cells.size = sz := by
          have := (rep_cells (κ := κ) (h := w.heap) (rep_ofVal hzv) (ok1_ofVal hzv)).1.1
          simp at this; omega
        subst hisz
        split at ev
        · -- nothing
          rename_i hys
          simp at ev
          obtain ⟨rfl, rfl⟩ := ev
          subst hys
          have hn0 : news = [] := by have := hsrc.newsLen; simpa using this
          subst hn0
          rcases rep_sl ra with ⟨rfl, rfl, hg⟩ | ⟨b, off, cap, sz', xs, hx, hun, hr, hcap, htag, rfl⟩
          · exact OpDone.same (by simp [run_append_nothing w t tx ty e i ht hi none 0 0 (Nat.le_refl _) y hsrc]) k ra
          · exact OpDone.same (by simp [run_append_nothing w t tx ty e i ht hi _ _ _ hcap y hsrc]) k ra
        · rename_i hys
          have hpos : 0 < ys.length := List.length_pos_iff.2 hys
          have hnl : news.length = ys.length * i.size := hsrc.newsLen
          have hneed : (es.length + ys.length) * i.bytes ≤ 140737488355328 := by
            rw [hiby]
            have : (es.length + ys.length) * by_ ≤ (es.length + ys.length) * (by_ + 1) := Nat.mul_le_mul_left _ (by omega)
            omega
          have hcount : es.length + ys.length ≤ 70368744177664 := by
            have : (es.length + ys.length) * 1 ≤ (es.length + ys.length) * (by_ + 1) := Nat.mul_le_mul_left _ (by omega)
            omega
          have h63 : ((es.length + ys.length : Nat) : Int) ≤ 9223372036854775807 := by omega
          -- the new row
          have newrow : ∀ (base : Option Addr) (cap : Nat) (olds : List Value), Reps κ w.heap (flat es) olds → olds.length = es.length * i.size → (∀ x ∈ olds, x.oneCell' = true) → cap < es.length + ys.length →
              (Builtin.firstCells i.size es.length (.slice base es.length cap)).run P w.drew = .ok olds.toArray w.drew →
              ∃ (c : Array Value) (nc : Nat), (Builtin.append_ #[t, tx] ty #[.slice base es.length cap, y]).run P w = .ok (.slice (some ⟨w.heap.size, 0, none⟩) (es.length + ys.length) nc) (w.drew.alloc (.cells c e)) ∧
                es.length + ys.length ≤ nc ∧ nc * i.size ≤ c.size ∧ c.toList.take ((es.length + ys.length) * i.size) = olds ++ news := by
            intro base cap olds hro hol hoo hlt hfc
            have hr := run_append_grow_src w t tx ty e i zv ht hi hiz base es.length cap olds hfc y ys.length news hsrc hlt h63 (growslice_fits hlt hneed)
            have hge := grownCap_ge w (es.length + ys.length) cap e
            refine ⟨_, _, hr, hge, ?_, ?_⟩
            · simp only [Array.size_append, List.size_toArray, List.length_append, size_zeroCells, hzc, hol, hnl]
              rw [← Nat.add_mul, ← Nat.add_mul]
              exact Nat.mul_le_mul_right _ (by omega)
            · rw [Array.toList_append]
              have : (olds ++ news).toArray.toList.length = (es.length + ys.length) * i.size := by simp [hol, hnl, Nat.add_mul]
              rw [List.take_append_of_le_length (by omega), List.take_of_length_le (by omega)]
          cases g with
          | ro => simp at ev
          | full =>
            simp at ev
            obtain ⟨rfl, rfl⟩ := ev
            have fin : ∀ (base : Option Addr) (cap : Nat) (olds : List Value), a = .slice base es.length cap → Reps κ w.heap (flat es) olds → olds.length = es.length * i.size → (∀ x ∈ olds, x.oneCell' = true) → cap < es.length + ys.length →
                (Builtin.firstCells i.size es.length (.slice base es.length cap)).run P w.drew = .ok olds.toArray w.drew →
                OpDone κ w ((do pure (.value (← Builtin.append_ #[t, tx] ty #[a, y])) : Sem Next).run P w) (.sl (.own m.T.length) (es ++ ys)) { m with T := m.T ++ [(es.length + ys.length, i.size)] } := by
              intro base cap olds ha h1 h2 h3 h4 h5
              obtain ⟨c, nc, hrun, hnc, hcs, htk⟩ := newrow base cap olds h1 h2 h3 h4 h5
              have hone : ∀ x ∈ c.toList.take ((es.length + ys.length) * i.size), x.oneCell' = true := by
                rw [htk]; intro x hx
                rcases List.mem_append.1 hx with hx | hx
                · exact h3 x hx
                · exact hsrc.one x hx
              obtain ⟨κ', l, k', hb, htg⟩ := mem_lease k c e (es.length + ys.length) nc i.size hcs hnc hc3 hone
              rw [htk] at hb
              refine ⟨.slice (some ⟨w.heap.size, 0, none⟩) (es.length + ys.length) nc, κ', w.drew.alloc (.cells c e), .inl (by subst ha; simp [hrun]), ⟨l, rfl, kept_drew_alloc w _ _⟩, k', ?_⟩
              have : es.length + ys.length = (es ++ ys).length := by simp
              rw [this]
              refine .sl _ _ _ 0 _ i.size (olds ++ news) hb (fun x hx => ?_) (by rw [flat_append]; simp [h1.1, hrn.1]) ?_ (by rw [← this]; exact hnc) (by rw [← this]; exact htg)
              · rcases List.mem_append.1 hx with hx | hx
                · exact heu x hx
                · exact hyu x hx
              · rw [flat_append]; exact ((h1.append hrn).mono l.toLe).2
            rcases rep_sl ra with ⟨rfl, rfl, hg⟩ | ⟨b, off, cap, sz', xs, hx, hun, hr, hcap, htag, rfl⟩
            · exact fin none 0 [] rfl Reps.nil (by simp) (by simp) (by simpa using hpos) (run_firstCells_none _ _ _ _ _)
            · have hxl : xs.length = es.length * i.size := by rw [hr.1, uniform_flat heu]
              exact fin _ cap xs rfl hr hxl (block_one hx) (by simp only [TagOk] at htag; omega) (firstCells_block (w := w) hx hxl w.drew rfl)
          | own j =>
            simp only at ev
            split at ev <;> simp at ev
            rename_i hT
            obtain ⟨rfl, rfl⟩ := ev
            have lease : ∀ L, κ.lease[j]? = some L → L.kind ≠ .dead ∧ L.n = es.length ∧ L.sz = i.size := by
              intro L hL
              have := k.2.2
              rw [← this] at hT
              simp only [List.getElem?_map, hL, Option.map_some, Option.some.injEq, Lease.told] at hT
              by_cases hv : L.kind = .dead
              · rw [if_pos hv] at hT; simp at hT; omega
              · rw [if_neg hv] at hT; simp at hT; exact ⟨hv, hT⟩
            have regrow : ∀ (L : Lease) (base : Option Addr) (cap : Nat) (olds : List Value), κ.lease[j]? = some L → a = .slice base es.length cap → Reps κ w.heap (flat es) olds → olds.length = es.length * i.size → (∀ x ∈ olds, x.oneCell' = true) → cap < es.length + ys.length →
                (Builtin.firstCells i.size es.length (.slice base es.length cap)).run P w.drew = .ok olds.toArray w.drew →
                OpDone κ w ((do pure (.value (← Builtin.append_ #[t, tx] ty #[a, y])) : Sem Next).run P w) (.sl (.own j) (es ++ ys)) { m with T := m.T.set j (es.length + ys.length, i.size) } := by
              intro L base cap olds hL ha h1 h2 h3 h4 h5
              obtain ⟨hLv, hLn⟩ := lease L hL
              obtain ⟨c, nc, hrun, hnc, hcs, htk⟩ := newrow base cap olds h1 h2 h3 h4 h5
              have hone : ∀ x ∈ c.toList.take ((L.n + ys.length) * L.sz), x.oneCell' = true := by
                rw [hLn.1, hLn.2, htk]; intro x hx'
                rcases List.mem_append.1 hx' with hx' | hx'
                · exact h3 x hx'
                · exact hsrc.one x hx'
              obtain ⟨κ', l, k', hb, htg⟩ := mem_regrow k hL hLv hpos (cap := nc) (by rw [hLn.1]; exact hnc) (by rw [hLn.2]; exact hc3) c e (by rw [hLn.2]; exact hcs) hone
              rw [hLn.1, hLn.2, htk] at hb
              rw [hLn.1, hLn.2] at k' htg
              refine ⟨.slice (some ⟨w.heap.size, 0, none⟩) (es.length + ys.length) nc, κ', w.drew.alloc (.cells c e), .inl (by subst ha; simp [hrun]), ⟨l, rfl, kept_drew_alloc w _ _⟩, k', ?_⟩
              have hlen : es.length + ys.length = (es ++ ys).length := by simp
              rw [hlen]
              refine .sl _ _ _ 0 _ i.size (olds ++ news) hb (fun x hx => ?_) (by rw [flat_append]; simp [h1.1, hrn.1]) ?_ (by rw [← hlen]; exact hnc) (by rw [← hlen]; exact htg)
              · rcases List.mem_append.1 hx with hx | hx
                · exact heu x hx
                · exact hyu x hx
              · rw [flat_append]; exact ((h1.append hrn).mono l.toLe).2
            rcases rep_sl ra with ⟨rfl, rfl, hg⟩ | ⟨b, off, cap, sz', xs, hx, hun, hr, hcap, htag, rfl⟩
            · obtain ⟨L, hL, _⟩ := hg j rfl
              exact regrow L none 0 [] hL rfl Reps.nil (by simp) (by simp) (by simpa using hpos) (run_firstCells_none _ _ _ _ _)
            · obtain ⟨L, hL, hreal, hfull⟩ := htag
              obtain ⟨hLv, hLn⟩ := lease L hL
              have hxl : xs.length = es.length * i.size := by rw [hr.1, uniform_flat heu]
              cases hk : L.kind with
              | dead => exact absurd hk hLv
              | full =>
                have hcf := (hfull hk).2 hLn.1.symm
                exact regrow L _ cap xs hL rfl hr hxl (block_one hx) (by omega) (firstCells_block (w := w) hx hxl w.drew rfl)
              | real =>
              have hLv := hk
              obtain ⟨hle, hat⟩ := hreal hk
              obtain ⟨rfl, rfl, rfl, rfl⟩ := hat hLn.1.symm
              have hmemL := List.mem_of_getElem? hL
              by_cases hroom : es.length + ys.length ≤ L.cap
              · -- in place
                obtain ⟨c, E, hc, hcsz, _⟩ := k.1.lcells L hmemL hLv
                have hbound : es.length * i.size + news.length ≤ c.size := by
                  rw [hnl, ← Nat.add_mul]
                  refine Nat.le_trans (Nat.mul_le_mul_right _ hroom) ?_
                  rw [← hLn.2]; exact hcsz
                obtain ⟨h6, h7⟩ := setCells_heap L.blk E news (es.length * i.size) w c hc hbound
                have hold : ∀ q x, q < L.n * L.sz → hcell w.heap L.blk q = some x → (⟨c.toList.take (es.length * i.size) ++ news ++ c.toList.drop (es.length * i.size + news.length)⟩ : Array Value)[q]? = some x := by
                  intro q x hq hcx
                  rw [hLn.1, hLn.2] at hq
                  unfold hcell at hcx; rw [hc] at hcx
                  simp only [← Array.getElem?_toList] at hcx ⊢
                  rw [List.append_assoc, List.getElem?_append_left (by simp; omega), List.getElem?_take_of_lt hq]
                  exact hcx
                obtain ⟨κ', l, k', hhw, hge⟩ := mem_grow k hL hLv hpos (by rw [hLn.1]; exact hroom) h7 h6 (by simp; rw [hnl]; rw [hLn.2] at hcsz ⊢; omega) hold
                have hrun := run_append_room_src w t tx ty e i ht hi L.blk 0 es.length L.cap y ys.length news hsrc hroom
                  (fun q hq => by
                    rw [cell?_eq]; unfold hcell; rw [hc]
                    simp only [Nat.zero_add]
                    rw [Array.getElem?_eq_getElem (by omega)]; rfl)
                  (fun q _ => by unfold World.frozen?; simp [hc])
                rw [Nat.zero_add] at hrun
                refine ⟨.slice (some ⟨L.blk, 0, none⟩) (es.length + ys.length) L.cap, κ', w.setCells L.blk (es.length * i.size) news, .inl (by simp [hrun]), ⟨l, (setCells_out L.blk _ _ w).1, (setCells_out L.blk _ _ w).2⟩, by rw [hLn.1, hLn.2] at k'; exact k', ?_⟩
                have hlen : es.length + ys.length = (es ++ ys).length := by simp
                rw [hlen]
                refine .sl _ _ _ 0 _ i.size (xs ++ news) (fun q x hq => ?_) (fun x hx => ?_) (by rw [flat_append]; simp [hr.1, hrn.1]) ?_ (by rw [← hlen]; exact hroom) ⟨_, hge, fun _ => ⟨by simp [hLn.1], fun _ => ⟨rfl, rfl, rfl, hLn.2.symm⟩⟩, fun h => by simp [hk] at h⟩
                · have hq' := (List.getElem?_eq_some_iff.1 hq).1
                  refine ⟨?_, ?_, ?_⟩
                  · rw [hhw, hLn.1, hLn.2, Nat.add_mul]
                    simp [hxl, hnl] at hq'
                    omega
                  · unfold hcell; rw [h6]
                    simp only [Nat.zero_add, ← Array.getElem?_toList]
                    by_cases hqx : q < xs.length
                    · rw [List.getElem?_append_left hqx] at hq
                      have := (hx q x hq).2.1
                      unfold hcell at this; rw [hc] at this
                      simp only [Nat.zero_add, ← Array.getElem?_toList] at this
                      rw [List.append_assoc, List.getElem?_append_left (by simp; omega), List.getElem?_take_of_lt (by omega)]
                      exact this
                    · rw [List.getElem?_append_right (by omega)] at hq
                      have h1 : (c.toList.take (es.length * i.size)).length = xs.length := by simp; omega
                      rw [List.append_assoc, List.getElem?_append_right (by omega), h1, List.getElem?_append_left (List.getElem?_eq_some_iff.1 hq).1]
                      exact hq
                  · rcases List.mem_append.1 (List.mem_of_getElem? hq) with hx' | hx'
                    · exact block_one hx x hx'
                    · exact hsrc.one x hx'
                · rcases List.mem_append.1 hx with hx | hx
                  · exact heu x hx
                  · exact hyu x hx
                · rw [flat_append]; exact ((hr.append hrn).mono l.toLe).2
              · exact regrow L _ L.cap xs hL rfl hr hxl (block_one hx) (by omega) (firstCells_block (w := w) hx hxl w.drew rfl)
      · simp at ev
    · simp at ev
  · simp at ev

/-! ### make, conversions -/
theorem replicate_flat : ∀ (n : Nat) (z : V), flat (List.replicate n z) = (List.replicate n z.cells).flatten
  | 0, z => rfl
  | n + 1, z => by
    simp only [flat, List.replicate_succ, List.flatMap_cons, List.flatten_cons]
    have := replicate_flat n z
    simp only [flat] at this
    rw [this]

theorem madeCells_get {z : Array Value} {n j : Nat} (hj : j < n) (hz : 0 < z.size) : (madeCells z n)[j]? = z[j % z.size]? := by
  have : j % z.size < z.size := Nat.mod_lt _ hz
  simp [madeCells, hj, this]

theorem replicate_get : ∀ (n : Nat) (l : List V) (j : Nat), j < n * l.length → (List.replicate n l).flatten[j]? = l[j % l.length]?
  | 0, l, j, h => by simp at h
  | n + 1, l, j, h => by
    simp only [List.replicate_succ, List.flatten_cons]
    rw [Nat.succ_mul] at h
    by_cases hj : j < l.length
    · rw [List.getElem?_append_left hj, Nat.mod_eq_of_lt hj]
    · rw [List.getElem?_append_right (by omega), replicate_get n l _ (by omega)]
      congr 1
      exact (Nat.mod_eq_sub_mod (by omega)).symm

theorem made_reps {z : V} {zv : Value} {sz n N : Nat} (hr : Reps κ w.heap z.cells zv.cells.toList) (hs : zv.cells.size = sz) (hsz : 0 < sz) (hn : n * sz ≤ N) :
    Reps κ w.heap (flat (List.replicate n z)) ((madeCells zv.cells N).toList.take (n * sz)) := by
  have hzl : z.cells.length = sz := by have := hr.1; simp at this; omega
  refine ⟨?_, fun j c x h1 h2 => ?_⟩
  · rw [uniform_flat (sz := sz) (by intro e he; rw [List.eq_of_mem_replicate he]; exact hzl)]
    simp [size_madeCells]; omega
  · have hj : j < n * sz := by
      have := (List.getElem?_eq_some_iff.1 h2).1
      rw [List.length_take] at this; omega
    rw [List.getElem?_take_of_lt hj, Array.getElem?_toList, madeCells_get (by omega) (by omega)] at h2
    rw [replicate_flat, replicate_get _ _ _ (by rw [hzl]; exact hj), hzl] at h1
    rw [hs] at h2
    exact hr.2 _ c x h1 (by simpa using h2)

theorem makeSlice_done {t : TypeId} {l c v : V} {al ac : Value} {m' : Hp} (k : Mem κ w.heap m) (rl : Rep κ w.heap l al) (rc : Rep κ w.heap c ac) (ev : makeSliceV P t l c m = some (v, m')) :
    OpDone κ w ((do pure (.value (← Instr.makeSlice t al ac)) : Sem Next).run P w) v m' := by
  unfold makeSliceV at ev
  split at ev
  · rename_i e k1 n k2 q hu
    obtain rfl := rep_int rl; obtain rfl := rep_int rc
    split at ev
    · rename_i sz z by_ hsz hz hby
      split at ev
      · rename_i hc
        obtain ⟨h0, hnq, h63, hb, hzl, hpos⟩ := hc
        obtain ⟨i, zv, hi, hiz, hzv⟩ := zeroT_info hz
        obtain ⟨i', hi', hisz⟩ := szT_info hsz
        obtain rfl : i = i' := by rw [hi] at hi'; simpa using hi'
        have hiby : i.bytes = by_ := by unfold bytesT at hby; rw [hi] at hby; simpa using hby
        subst hisz; subst hiby
        obtain ⟨h3, h4⟩ := rep_cells (κ := κ) (h := w.heap) (rep_ofVal hzv) (ok1_ofVal hzv)
        have hzc : zv.cells.size = i.size := by have := h3.1; simp at this; omega
        have hrun := run_make w t e i zv hu hi hiz k1 k2 n q h0 hnq (by omega) h63
        have hsize : (madeCells zv.cells (q.toNat * i.size)).size = q.toNat * i.size := size_madeCells _ _
        have hle : n.toNat * i.size ≤ q.toNat * i.size := Nat.mul_le_mul_right _ (by omega)
        have hone : ∀ x ∈ (madeCells zv.cells (q.toNat * i.size)).toList.take (n.toNat * i.size), x.oneCell' = true := by
          intro x hx
          have hx' := List.mem_of_mem_take hx
          simp only [madeCells, Array.toList_map, List.mem_map, Array.toList_range, List.mem_range] at hx'
          obtain ⟨j, _, rfl⟩ := hx'
          have : j % zv.cells.size < zv.cells.size := Nat.mod_lt _ (by omega)
          rw [getElem!_pos zv.cells _ this]
          exact h4 _ (by simp)
        have hreps := made_reps (κ := κ) (w := w) (n := n.toNat) h3 hzc hpos hle
        have hun : ∀ e' ∈ List.replicate n.toNat z, e'.cells.length = i.size := fun e' he => by rw [List.eq_of_mem_replicate he]; exact hzl
        split at ev
        · rename_i hq
          subst hq
          simp at ev
          obtain ⟨rfl, rfl⟩ := ev
          obtain ⟨κ', l, k', hbk⟩ := mem_sealed k (madeCells zv.cells (n.toNat * i.size)) e (0, 0) (n.toNat * i.size) hone
          refine ⟨.slice (some ⟨w.heap.size, 0, none⟩) n.toNat n.toNat, κ', w.alloc (.cells (madeCells zv.cells (n.toNat * i.size)) e), .inl (by simp [hrun]), ⟨l, rfl, kept_alloc w _ _⟩, k', ?_⟩
          have hlen : n.toNat = (List.replicate n.toNat z).length := by simp
          conv => arg 4; rw [hlen]
          exact .sl _ _ _ 0 _ i.size _ hbk hun hreps.1 (hreps.mono l.toLe).2 (by simp) (by simp [TagOk])
        · simp at ev
          obtain ⟨rfl, rfl⟩ := ev
          obtain ⟨κ', l, k', hbk, htg⟩ := mem_lease k (madeCells zv.cells (q.toNat * i.size)) e n.toNat q.toNat i.size (by rw [hsize]; exact Nat.le_refl _) (by omega) hpos hone
          refine ⟨.slice (some ⟨w.heap.size, 0, none⟩) n.toNat q.toNat, κ', w.alloc (.cells (madeCells zv.cells (q.toNat * i.size)) e), .inl (by simp [hrun]), ⟨l, rfl, kept_alloc w _ _⟩, k', ?_⟩
          have hlen : n.toNat = (List.replicate n.toNat z).length := by simp
          have htg' : TagOk κ' (.own m.T.length) (List.replicate n.toNat z).length w.heap.size 0 q.toNat i.size := by rw [← hlen]; exact htg
          have := Rep.sl (κ := κ') (h := w.heap.push (.cells (madeCells zv.cells (q.toNat * i.size)) e (0, 0))) (.own m.T.length) (List.replicate n.toNat z) w.heap.size 0 q.toNat i.size _ hbk hun hreps.1 (hreps.mono l.toLe).2 (by simp; omega) htg'
          rw [← hlen] at this
          exact this
      · simp at ev
    · simp at ev
  · simp at ev

theorem mapM_bytes : ∀ {es : List V} {bs : List UInt8}, es.mapM (fun v => match v with | .int .u8 n => some (UInt8.ofNat n.toNat) | _ => none) = some bs →
    ∃ ns : List Int, es = ns.map (V.int .u8) ∧ bs = ns.map (fun n => UInt8.ofNat n.toNat)
  | [], bs, e => by simp at e; subst e; exact ⟨[], rfl, rfl⟩
  | v :: es, bs, e => by
    simp only [List.mapM_cons, Option.bind_eq_bind, Option.bind_eq_some_iff, Option.pure_def, Option.some.injEq] at e
    obtain ⟨b, h1, bs', h2, rfl⟩ := e
    obtain ⟨ns, rfl, rfl⟩ := mapM_bytes h2
    split at h1 <;> simp at h1
    rename_i n
    subst h1
    exact ⟨n :: ns, rfl, rfl⟩

theorem reps_ints {ns : List Int} {xs : List Value} {q : IntKind} (r : Reps κ w.heap (ns.map (V.int q)) xs) : xs = ns.map (Value.int q) := by
  apply List.ext_getElem?
  intro i
  by_cases hi : i < ns.length
  · obtain ⟨x, hx, rx⟩ := r.get (i := i) (c := .int q ns[i]) (by simp [hi])
    rw [hx, rep_int rx]; simp [hi]
  · have := r.1; simp at this
    rw [List.getElem?_eq_none (by omega), List.getElem?_eq_none (by simp; omega)]

theorem foldl_push (ns : List Int) : ∀ acc : ByteArray, ns.foldl (fun r n => r.push (UInt8.ofNat n.toNat)) acc = ⟨⟨acc.data.toList ++ ns.map fun n => UInt8.ofNat n.toNat⟩⟩ := by
  induction ns with
  | nil => intro acc; obtain ⟨⟨l⟩⟩ := acc; simp
  | cons n ns ih =>
    intro acc
    simp only [List.foldl_cons, ih]
    simp [ByteArray.push]

theorem flat_scalars {ns : List Int} {q : IntKind} : flat (ns.map (V.int q)) = ns.map (V.int q) := by
  induction ns with
  | nil => rfl
  | cons n ns ih => simp only [flat, List.map_cons, List.flatMap_cons] at ih ⊢; rw [ih]; rfl

theorem convert_done {src dst : TypeId} {x v : V} {a : Value} (k : Mem κ w.heap m) (ra : Rep κ w.heap x a) (ev : convertV P src dst x = some v) :
    OpDone κ w ((do pure (.value (← convert src dst a)) : Sem Next).run P w) v m := by
  unfold convertV at ev
  split at ev
  · rename_i d q k1 n hs hd
    simp at ev; subst ev
    obtain rfl := rep_int ra
    refine OpDone.same (y := .int q (q.wrap n)) ?_ k (.int _ _)
    simp only [convert, Sem.run_bind, run_underlying hs, run_underlying hd, Result.andThen_ok]
    cases d <;> simp [Conv.intToInt]
  · rename_i s hs hd
    simp at ev; subst ev
    obtain rfl := rep_str ra
    refine OpDone.same (y := .string ⟨⟨s⟩⟩) ?_ k (.str _)
    simp [convert, run_underlying hs, run_underlying hd]
  · rename_i e g es hs hd
    split at ev
    · rename_i bs he hb
      simp at ev; subst ev
      obtain ⟨ns, rfl, rfl⟩ := mapM_bytes hb
      rcases rep_sl ra with ⟨h0, rfl, _⟩ | ⟨b, off, cap, sz, xs, hx, hun, hr, hcap, _, rfl⟩
      · simp at h0; subst h0
        refine OpDone.same (y := .string ⟨⟨[]⟩⟩) ?_ k (.str _)
        simp [convert, run_underlying hs, run_underlying hd, run_underlying he, Conv.bytesToString]
        rfl
      · rw [flat_scalars] at hr
        obtain rfl := reps_ints hr
        refine OpDone.same (y := .string ⟨⟨ns.map fun n => UInt8.ofNat n.toNat⟩⟩) ?_ k (.str _)
        have hl := run_loadCells_list (P := P) w ⟨b, off, none⟩ (ns.map (Value.int .u8)) (fun j v hv => by rw [Addr.add_mid, cell?_eq]; exact (hx j v hv).2.1)
        have := run_bytesToString w ⟨b, off, none⟩ (ns.map (Value.int .u8)).length cap ns hl
        rw [foldl_push] at this
        simp only [List.length_map] at this ⊢
        simp only [convert, Sem.run_bind, run_underlying hs, run_underlying hd, run_underlying he, Result.andThen_ok, this]
        simp
    · simp at ev
  · simp at ev

theorem bytes_done {src dst : TypeId} {x v : V} {a : Value} (k : Mem κ w.heap m) (ra : Rep κ w.heap x a) (ev : bytesV P src dst x = some v) :
    OpDone κ w ((do pure (.value (← convert src dst a)) : Sem Next).run P w) v m := by
  simp [bytesV] at ev

end
end Go.Fbs

/- What the evaluator says of an operation, the machine does; regions; code. -/
namespace Go.Fbs
section
variable {P : Program} {κ : Ctx} {w : World} {m : Hp}

/-- A call answers, and leaves the memory so. -/
def CallOk (P : Program) (f : FuncId) (args : List V) (m : Hp) (v : V) (m' : Hp) : Prop :=
  ∀ (κ : Ctx) (w : World) (xs : List Value), Mem κ w.heap m → Reps κ w.heap args xs →
    Calls P f ⟨xs⟩ w (fun e w' => ∃ x κ', e = .returned x ∧ Ext κ w m κ' w' m' ∧ Rep κ' w'.heap v x)

structure Sound (P : Program) (C : Callees) : Prop where
  enter : ∀ f, ((∃ args v, C.pure f args = some v) ∨ ∃ args m r, C.eff f args m = some r) → ∃ fn c, P.funcs[f]? = some fn ∧ fn.body = some c ∧ (fn.name == "runtime.NumGoroutine") = false
  pure : ∀ f args v, C.pure f args = some v → ∀ m, CallOk P f args m v m
  eff : ∀ f args m v m', C.eff f args m = some (v, m') → CallOk P f args m v m'

/-- The operation is done in the frame: its value lies in its slot. -/
def Does (P : Program) (κ : Ctx) (w : World) (m : Hp) (o : Oper) (a : Act) (v : V) (m' : Hp) : Prop :=
  ∀ Q, o.wp P a w (fun a' w' => ∃ x κ', a' = a.put o.dst x ∧ Ext κ w m κ' w' m' ∧ Rep κ' w'.heap v x) Q

theorem Does.of_done {o : Oper} {a : Act} {v : V} {m' : Hp} (h : OpDone κ w ((execOp a.eval o).run P w) v m') (hl : m.H.length ≤ m'.H.length) : Does P κ w m o a v m' := by
  intro Q
  obtain ⟨y, κ', w', hr, l, k, r⟩ := h
  unfold Oper.wp
  rcases hr with hr | ⟨hr, rfl⟩
  · rw [hr]; exact ⟨y, κ', rfl, l.ext k hl, r⟩
  · rw [hr]; exact ⟨Go.undef, κ', rfl, l.ext k hl, r⟩

theorem Does.of_call {o : Oper} {a : Act} {v : V} {m' : Hp} {f : FuncId} {xs : List Value} {args : List V} (hr : (execOp a.eval o).run P w = .ok (.enter f ⟨xs⟩) w) (hc : CallOk P f args m v m')
    (k : Mem κ w.heap m) (ra : Reps κ w.heap args xs) : Does P κ w m o a v m' := by
  intro Q
  unfold Oper.wp
  rw [hr]
  refine (hc κ w xs k ra).mono fun e w' he => ?_
  obtain ⟨x, κ', rfl, l, r⟩ := he
  exact ⟨x, κ', rfl, l, r⟩

theorem done_value {s : Sem Value} {v : V} {y : Value} (hr : s.run P w = .ok y w) (k : Mem κ w.heap m) (r : Rep κ w.heap v y) : OpDone κ w ((do pure (.value (← s)) : Sem Next).run P w) v m :=
  OpDone.same (y := y) (by simp [hr]) k r

theorem optEv_rep {env : Env} {a : Act} (re : EnvOk κ w.heap env a) {x : Option Operand} {v : Option V} (e : optEv env x = some v) : OptRep κ w.heap v (x.map a.eval) := by
  cases x with
  | none => simp [optEv] at e; subst e; trivial
  | some x =>
    simp only [optEv, Option.map_eq_some_iff] at e
    obtain ⟨u, h1, rfl⟩ := e
    exact re.ev h1

theorem call_run {f : Operand} {args : Array Operand} {ts : Array TypeId} {t : TypeId} {a : Act} {g : FuncId} {cs : List Value} (hf : a.eval f = .func (.func g) #[] ⟨cs⟩) {fn : Func} {c : Code}
    (h1 : P.funcs[g]? = some fn) (h2 : fn.body = some c) (h3 : (fn.name == "runtime.NumGoroutine") = false) :
    (do let d ← resolve a.eval { callee := .value f, args, argTypes := ts } t; invoke d.target d.args : Sem Next).run P w = .ok (.enter g ⟨args.toList.map a.eval ++ cs⟩) w := by
  simp only [resolve, hf, Deferred.ofValue, Sem.run_bind, Sem.run_pure, Result.andThen_ok, invoke]
  have e2 : (#[] ++ Array.map a.eval args ++ { toList := cs } : Array Value) = ⟨args.toList.map a.eval ++ cs⟩ := by apply Array.ext'; simp
  rw [e2]
  have h4 : fn.name ≠ "runtime.NumGoroutine" := by simpa using h3
  simp [callFunc, h1, h2, h4]

theorem builtinQ_run {b : Builtin} {ts : Array TypeId} {t : TypeId} {cs : Array Bool} {vs : List V} {xs : List Value} {v : V} (k : Mem κ w.heap m) (r : Reps κ w.heap vs xs) (e : builtinQ P b ts.toList vs = some v) :
    OpDone κ w ((builtin b ts t cs ⟨xs⟩).run P w) v m := by
  obtain ⟨ts⟩ := ts
  unfold builtinQ at e
  split at e
  · rename_i t x hts
    simp only at hts
    subst hts
    obtain ⟨a, as, rfl, ra, r'⟩ := r.inv_cons
    obtain rfl := r'.inv_nil
    split at e
    · rename_i s hu
      simp at e; subst e
      obtain rfl := rep_str ra
      refine OpDone.same (y := .int .i64 s.length) ?_ k (.int _ _)
      simp [builtin, Builtin.len_, run_underlying hu, goInt]
      rfl
    · rename_i g es hu
      simp at e; subst e
      rename_i el
      rcases rep_sl ra with ⟨rfl, rfl, _⟩ | ⟨b, off, cap, sz, xs, hx, hun, hr, hcap, _, rfl⟩
      · exact OpDone.same (y := .int .i64 0) (by simp [builtin, Builtin.len_, run_underlying hu, goInt]) k (.int _ _)
      · exact OpDone.same (y := .int .i64 es.length) (by simp [builtin, Builtin.len_, run_underlying hu, goInt]) k (.int _ _)
    · simp at e
  · simp at e; subst e
    obtain ⟨a, as, rfl, ra, r'⟩ := r.inv_cons
    obtain ⟨a', as', rfl, ra', r''⟩ := r'.inv_cons
    obtain rfl := r''.inv_nil
    obtain rfl := rep_int ra; obtain rfl := rep_int ra'
    refine OpDone.same ?_ k (.int _ _)
    simp [builtin, Builtin.min_, Builtin.min2]
  · simp at e; subst e
    obtain ⟨a, as, rfl, ra, r'⟩ := r.inv_cons
    obtain ⟨a', as', rfl, ra', r''⟩ := r'.inv_cons
    obtain rfl := r''.inv_nil
    obtain rfl := rep_int ra; obtain rfl := rep_int ra'
    refine OpDone.same ?_ k (.int _ _)
    simp [builtin, Builtin.max_, Builtin.max2]
  · simp at e

theorem adds_slice {tx e' : TypeId} (hk : P.underlying tx = some (.slice e')) {g : Tag} {ys : List V} {y : Value} (r : Rep κ w.heap (.sl g ys) y) :
    ∃ news, ∀ sz, (∀ y ∈ ys, y.cells.length = sz) → Adds P κ w sz tx y ys news := by
  rcases rep_sl r with ⟨rfl, rfl, _⟩ | ⟨b, off, cap, sz', xs, hx, hun, hr, hcap, _, rfl⟩
  · exact ⟨[], fun sz _ => ⟨Src.ofNil w hk 0, Reps.nil⟩⟩
  · refine ⟨xs, fun sz hu => ⟨Src.ofSlice w hk _ _ _ _ ?_ (fun j u hj => ?_) (block_one hx), hr⟩⟩
    · rw [hr.1, uniform_flat hu]
    · rw [Addr.add_mid, cell?_eq]; exact (hx j u hj).2.1

theorem adds_string {tx : TypeId} (hk : P.underlying tx = some .string) (s : List UInt8) : Adds P κ w 1 tx (.string ⟨⟨s⟩⟩) (s.map fun b => .int .u8 b.toNat) (byteCells ⟨⟨s⟩⟩) := by
  have h := Src.ofString w hk ⟨⟨s⟩⟩
  refine ⟨?_, ?_⟩
  · have hl : (s.map fun b => V.int .u8 b.toNat).length = (ByteArray.mk ⟨s⟩).size := by simp; rfl
    rw [hl]; exact h
  · have hfl : flat (s.map fun b => V.int .u8 b.toNat) = s.map fun b => V.int .u8 b.toNat := by
      have := flat_scalars (ns := s.map fun b => (b.toNat : Int)) (q := .u8)
      simpa [List.map_map, Function.comp_def] using this
    rw [hfl]
    refine ⟨by simp [byteCells], fun i c x h1 h2 => ?_⟩
    simp only [byteCells, List.getElem?_map, Option.map_eq_some_iff] at h1 h2
    obtain ⟨b1, e1, rfl⟩ := h1
    obtain ⟨b2, e2, rfl⟩ := h2
    rw [e1] at e2; simp at e2; subst e2
    exact .int _ _

theorem builtinE_run {b : Builtin} {ts : Array TypeId} {t : TypeId} {cs : Array Bool} {vs : List V} {xs : List Value} {v : V} {m' : Hp} (k : Mem κ w.heap m) (r : Reps κ w.heap vs xs)
    (e : builtinE P b ts.toList vs m = some (v, m')) : OpDone κ w ((builtin b ts t cs ⟨xs⟩).run P w) v m' := by
  obtain ⟨ts⟩ := ts
  unfold builtinE at e
  split at e
  · rename_i t1 u x y hts
    simp only at hts
    subst hts
    obtain ⟨a, as, rfl, ra, r'⟩ := r.inv_cons
    obtain ⟨a', as', rfl, ra', r''⟩ := r'.inv_cons
    obtain rfl := r''.inv_nil
    split at e
    · rename_i e' ut g ys hu
      cases hut : P.underlying t1 with
      | none => unfold appendV at e; rw [hut] at e; simp at e
      | some d =>
        cases d with
        | slice el =>
          obtain ⟨news, hn⟩ := adds_slice hu ra'
          exact append_done k ra (fun sz _ h => hn sz h) hut e
        | _ => unfold appendV at e; rw [hut] at e; simp at e
    · rename_i el s hu hut
      split at e
      · rename_i h1
        obtain rfl := rep_str ra'
        refine append_done (news := byteCells ⟨⟨s⟩⟩) k ra (fun sz hsz _ => ?_) hut e
        obtain rfl : sz = 1 := by rw [h1] at hsz; simpa using hsz.symm
        exact adds_string hu s
      · simp at e
    · simp at e
  · simp at e

theorem ev1_some {env : Env} {x : Operand} {f : V → Option V} {v : V} (e : ev1 env x f = some v) : ∃ u, ev env x = some u ∧ f u = some v := by
  unfold ev1 at e
  split at e
  · rename_i u h; exact ⟨u, h, e⟩
  · simp at e

theorem ev2_some {env : Env} {x y : Operand} {f : V → V → Option V} {v : V} (e : ev2 env x y f = some v) : ∃ u u', ev env x = some u ∧ ev env y = some u' ∧ f u u' = some v := by
  unfold ev2 at e
  split at e
  · rename_i u u' h h'; exact ⟨u, u', h, h', e⟩
  · simp at e

theorem evalQ_done {C : Callees} (hC : Sound P C) {env : Env} {a : Act} {o : Oper} {v : V} (k : Mem κ w.heap m) (re : EnvOk κ w.heap env a) (e : evalQ P C env m.H o.op = some v) : Does P κ w m o a v m := by
  obtain ⟨dst, op, ty, pos, after, guard⟩ := o
  simp only at e
  cases op <;> simp only [evalQ] at e
  case move x => exact .of_done (OpDone.same rfl k (re.ev e)) (Nat.le_refl _)
  case assign x => exact .of_done (OpDone.same rfl k (re.ev e)) (Nat.le_refl _)
  case pick c x y =>
    split at e
    · rename_i t u u' h1 h2 h3
      cases t <;> simp only [pickV] at e <;> try (simp at e; done)
      rename_i t
      have hc := rep_bool (re.ev h1)
      simp at e
      subst e
      refine .of_done (OpDone.same (y := if t then a.eval x else a.eval y) ?_ k ?_) (Nat.le_refl _)
      · simp [execOp, hc, asBool]
      · cases t
        · exact re.ev h3
        · exact re.ev h2
    · simp at e
  case build t parts =>
    split at e
    · rename_i ps hps
      unfold buildQ at e
      split at e
      · rename_i hok
        obtain ⟨h1, h2⟩ := parts_rep re hps hok
        have := build_done (P := P) k h1 h2 e
        have e2 : (parts.map fun x => (x.1, a.eval x.2)) = ⟨parts.toList.map fun p => (p.1, a.eval p.2)⟩ := by apply Array.ext'; simp
        refine .of_done ?_ (Nat.le_refl _)
        simp only [execOp, e2]
        exact this
      · simp at e
    · simp at e
  case buildSlice t len parts =>
    split at e
    · rename_i ps hps
      unfold buildSliceQ at e
      split at e
      · rename_i hok
        obtain ⟨h1, h2⟩ := parts_rep re hps hok
        have := buildSlice_done (P := P) k h1 h2 e
        have e2 : (parts.map fun x => (x.1, a.eval x.2)) = ⟨parts.toList.map fun p => (p.1, a.eval p.2)⟩ := by apply Array.ext'; simp
        refine .of_done ?_ (Nat.le_refl _)
        simp only [execOp, e2]
        exact this
      · simp at e
    · simp at e
  case load t x =>
    obtain ⟨u, hx, e⟩ := ev1_some e
    obtain ⟨y, hy, ry⟩ := load_run (P := P) (t := t) (v := v) k (re.ev hx) e
    exact .of_done (done_value hy k ry) (Nat.le_refl _)
  case nilCheck x =>
    obtain ⟨u, hx, e⟩ := ev1_some e
    have rx := re.ev hx
    cases u <;> simp [nilV] at e
    case ptr l off =>
      subst e
      obtain ⟨b, hb, he⟩ := rep_ptr rx
      exact .of_done (OpDone.same (y := .pointer (some ⟨b, off, none⟩)) (by simp [execOp, he]) k (by rw [← he]; exact rx)) (Nat.le_refl _)
    case ro cs =>
      subst e
      obtain ⟨b, off, xs, _, _, he⟩ := rep_ro rx
      exact .of_done (OpDone.same (y := .pointer (some ⟨b, off, none⟩)) (by simp [execOp, he]) k (by rw [← he]; exact rx)) (Nat.le_refl _)
    case func f cs =>
      subst e
      obtain ⟨xs, _, he⟩ := rep_func rx
      exact .of_done (OpDone.same (y := .func (.func f) #[] ⟨xs⟩) (by simp [execOp, he]) k (by rw [← he]; exact rx)) (Nat.le_refl _)
  case binOp op t x y t2 =>
    obtain ⟨u, u', h1, h2, e⟩ := ev2_some e
    obtain ⟨z, hz, rz⟩ := binV_run (P := P) (ox := x) (oy := y) e (re.ev h1) (re.ev h2)
    exact .of_done (done_value hz k rz) (Nat.le_refl _)
  case unOp op t x =>
    obtain ⟨u, h1, e⟩ := ev1_some e
    have rx := re.ev h1
    refine .of_done ?_ (Nat.le_refl _)
    unfold unV at e
    split at e <;> simp at e
    · subst e
      have := rep_int rx
      exact done_value (y := .int _ _) (by simp only [execOp, this]; simp [Op.unary, Op.intArith]) k (.int _ _)
    · subst e
      have := rep_bool rx
      exact done_value (y := .bool _) (by simp only [execOp, this]; simp [Op.unary]) k (.bool _)
  case convert src dst x =>
    obtain ⟨u, h1, e⟩ := ev1_some e
    unfold convQ at e
    split at e
    · rename_i r hr
      simp at e; subst e
      exact .of_done (bytes_done k (re.ev h1) hr) (Nat.le_refl _)
    · exact .of_done (convert_done k (re.ev h1) e) (Nat.le_refl _)
  case makeFunc fn first captured =>
    cases fn <;> simp only at e
    case func f =>
      split at e
      · rename_i vs hvs
        split at e <;> simp at e
        rename_i hf
        subst e; subst hf
        have := re.evs hvs
        refine .of_done (done_value (y := .func (.func f) #[] ⟨captured.toList.map a.eval⟩) ?_ k (.func _ _ _ this.1 this.2)) (Nat.le_refl _)
        simp [Instr.makeFunc]
        apply Array.ext'
        simp
      · simp at e
    all_goals simp at e
  case slice t x lo hi mx =>
    cases mx <;> simp only at e
    case none =>
      split at e
      · rename_i u l h h1 h2 h3
        obtain ⟨y, hy, ry⟩ := slice_run (P := P) (re.ev h1) (optEv_rep re h2) (optEv_rep re h3) e
        exact .of_done (done_value hy k ry) (Nat.le_refl _)
      · simp at e
    case some => simp at e
  case fieldAddr s x f =>
    obtain ⟨u, h1, e⟩ := ev1_some e
    obtain ⟨y, hy, ry⟩ := fieldAddr_run (P := P) (re.ev h1) e
    exact .of_done (done_value hy k ry) (Nat.le_refl _)
  case field s x f =>
    obtain ⟨u, h1, e⟩ := ev1_some e
    obtain ⟨y, hy, ry⟩ := field_run (P := P) (re.ev h1) e
    exact .of_done (done_value hy k ry) (Nat.le_refl _)
  case indexAddr t x i =>
    obtain ⟨u, u', h1, h2, e⟩ := ev2_some e
    obtain ⟨y, hy, ry⟩ := indexAddr_run (P := P) (re.ev h1) (re.ev h2) e
    exact .of_done (done_value hy k ry) (Nat.le_refl _)
  case index t x i =>
    obtain ⟨u, u', h1, h2, e⟩ := ev2_some e
    obtain ⟨y, hy, ry⟩ := index_run (P := P) (re.ev h1) (re.ev h2) e
    exact .of_done (done_value hy k ry) (Nat.le_refl _)
  case extract x i =>
    obtain ⟨u, h1, e⟩ := ev1_some e
    cases u <;> simp only [extractV] at e <;> try (simp at e; done)
    obtain ⟨y, hy, ry⟩ := extract_run (P := P) (i := i) (re.ev h1) e
    exact .of_done (done_value hy k ry) (Nat.le_refl _)
  case call c =>
    obtain ⟨callee, args, ts⟩ := c
    simp only at e
    split at e
    · rename_i b vs hvs
      have r := re.evs hvs
      refine .of_done ?_ (Nat.le_refl _)
      have := builtinQ_run (t := ty) (cs := args.map fun | .const _ => true | _ => false) k r e
      simp only [execOp, resolve, Sem.run_bind, Sem.run_pure, Result.andThen_ok, invoke]
      have e2 : args.map a.eval = ⟨args.toList.map a.eval⟩ := by apply Array.ext'; simp
      rw [e2]
      exact this
    · rename_i f vs hvs
      obtain ⟨u, hf, e⟩ := ev1_some e
      cases u <;> simp only [callQ] at e <;> try (simp at e; done)
      rename_i g caps
      obtain ⟨cs, rc, hfe⟩ := rep_func (re.ev hf)
      obtain ⟨fn, c, h1, h2, h3⟩ := hC.enter g (.inl ⟨_, _, e⟩)
      exact .of_call (call_run hfe h1 h2 h3) (hC.pure g _ _ e m) k ((re.evs hvs).append rc)
    · simp at e
  all_goals simp at e

end
end Go.Fbs

/- Operations that make boxes or write; regions in the order of the text. -/
namespace Go.Fbs
section
variable {P : Program} {κ : Ctx} {w : World} {m : Hp}

theorem alloc_does {env : Env} {a : Act} {o : Oper} {cs : List V} {l : Nat} (k : Mem κ w.heap m) (re : EnvOk κ w.heap env a) (e : evalA P env o.op = some cs)
    (hl : m.H[l]? = some (.cells cs)) (hn : κ.box l = none) (Q : Exit → Act → World → Prop) :
    o.wp P a w (fun a' w' => ∃ x κ', a' = a.put o.dst x ∧ Le κ w.heap κ' w'.heap ∧ Mem κ' w'.heap m ∧ Rep κ' w'.heap (.ptr l 0) x ∧ (κ'.box = fun i => if i = l then some w.heap.size else κ.box i) ∧ w'.os = w.os ∧ Kept w w') Q := by
  have fin : ∀ (t : TypeId) (xs : List Value), Reps κ w.heap cs xs → (∀ x ∈ xs, x.oneCell' = true) →
      (execOp a.eval o).run P w = .ok (.value (.pointer (some ⟨w.heap.size, 0, none⟩))) { w with heap := w.heap.push (.cells ⟨xs⟩ t (0, 0)) } →
      o.wp P a w (fun a' w' => ∃ x κ', a' = a.put o.dst x ∧ Le κ w.heap κ' w'.heap ∧ Mem κ' w'.heap m ∧ Rep κ' w'.heap (.ptr l 0) x ∧ (κ'.box = fun i => if i = l then some w.heap.size else κ.box i) ∧ w'.os = w.os ∧ Kept w w') Q := by
    intro t xs hr ho hrun
    obtain ⟨κ', h1, h2, h3⟩ := mem_box_at k hl hn (o := .cells ⟨xs⟩ t (0, 0)) ⟨xs, t, rfl, hr, ho⟩
    unfold Oper.wp
    rw [hrun]
    exact ⟨_, κ', rfl, h1, h2, .ptr _ _ _ (by rw [h3]; simp), h3, rfl, kept_push w _ _⟩
  obtain ⟨dst, op, ty, pos, after, guard⟩ := o
  simp only at e
  cases op <;> simp only [evalA] at e
  case alloc t =>
    obtain ⟨xs, h1, h2, h3⟩ := alloc_run (P := P) (κ := κ) (w := w) e
    exact fin t xs h2 h3 (by simp only [execOp, Sem.run_bind, h1]; rfl)
  case box t x =>
    split at e
    · rename_i v hv
      split at e <;> simp at e
      rename_i ho
      subst e
      obtain ⟨xs, h1, h2, h3⟩ := box_run (P := P) (t := t) (re.ev hv) ho
      exact fin t xs h2 h3 (by simp only [execOp, Sem.run_bind, h1]; rfl)
    · simp at e
  all_goals simp at e

theorem appendV_len {t : TypeId} {x : V} {ys : List V} {v : V} {m' : Hp} (e : appendV P t x ys m = some (v, m')) : m'.H = m.H := by
  unfold appendV at e
  repeat' split at e
  all_goals first | (simp at e; obtain ⟨_, rfl⟩ := e; rfl) | (simp at e; done)

theorem makeSliceV_len {t : TypeId} {x y : V} {v : V} {m' : Hp} (e : makeSliceV P t x y m = some (v, m')) : m'.H = m.H := by
  unfold makeSliceV at e
  repeat' split at e
  all_goals first | (simp at e; obtain ⟨_, rfl⟩ := e; rfl) | (simp at e; done)

theorem builtinE_len {b : Builtin} {ts : List TypeId} {xs : List V} {v : V} {m' : Hp} (e : builtinE P b ts xs m = some (v, m')) : m'.H = m.H := by
  unfold builtinE at e
  split at e
  · split at e
    · exact appendV_len e
    · split at e
      · exact appendV_len e
      · simp at e
    · simp at e
  · simp at e

theorem evalW_done {C : Callees} (hC : Sound P C) {env : Env} {a : Act} {o : Oper} {v : V} {m' : Hp} (k : Mem κ w.heap m) (re : EnvOk κ w.heap env a) (e : evalW P C env m o.op = some (v, m')) : Does P κ w m o a v m' := by
  obtain ⟨dst, op, ty, pos, after, guard⟩ := o
  simp only at e
  cases op <;> simp only [evalW] at e
  case store t x y =>
    split at e
    · rename_i u' u h1 h2
      unfold storeV at e
      split at e
      · rename_i l off n h3
        split at e
        · rename_i cs hcs
          split at e <;> simp at e
          rename_i hc
          obtain ⟨rfl, rfl⟩ := e
          exact .of_done (store_done k (re.ev h1) (re.ev h2) h3 hcs hc.1 hc.2.1 hc.2.2) (by simp)
        · simp at e
      · simp at e
    · simp at e
  case makeSlice t x y =>
    split at e
    · rename_i u u' h1 h2
      exact .of_done (makeSlice_done k (re.ev h1) (re.ev h2) e) (by rw [makeSliceV_len e]; exact Nat.le_refl _)
    · simp at e
  case call c =>
    obtain ⟨callee, args, ts⟩ := c
    simp only at e
    split at e
    · rename_i b vs hvs
      have r := re.evs hvs
      have := builtinE_run (t := ty) (cs := args.map fun | .const _ => true | _ => false) k r e
      refine .of_done ?_ (by rw [builtinE_len e]; exact Nat.le_refl _)
      simp only [execOp, resolve, Sem.run_bind, Sem.run_pure, Result.andThen_ok, invoke]
      have e2 : args.map a.eval = ⟨args.toList.map a.eval⟩ := by apply Array.ext'; simp
      rw [e2]
      exact this
    · rename_i f vs hvs
      split at e
      · rename_i g caps hf
        obtain ⟨cs, rc, hfe⟩ := rep_func (re.ev hf)
        obtain ⟨fn, c, h1, h2, h3⟩ := hC.enter g (.inr ⟨_, _, _, e⟩)
        exact .of_call (call_run hfe h1 h2 h3) (hC.eff g _ _ _ _ e) k ((re.evs hvs).append rc)
      · simp at e
    · simp at e
  all_goals simp at e

theorem evalOp_done {C : Callees} (hC : Sound P C) {env : Env} {a : Act} {o : Oper} {v : V} {m' : Hp} (k : Mem κ w.heap m) (re : EnvOk κ w.heap env a) (e : evalOp P C env m o.op = some (v, m')) : Does P κ w m o a v m' := by
  unfold evalOp at e
  split at e
  · simp only [Option.map_eq_some_iff] at e
    obtain ⟨u, h1, e⟩ := e
    simp at e; obtain ⟨rfl, rfl⟩ := e
    exact evalQ_done hC k re h1
  · split at e
    · simp only [Option.map_eq_some_iff] at e
      obtain ⟨cs, h1, e⟩ := e
      simp at e; obtain ⟨rfl, rfl⟩ := e
      intro Q
      have k' := mem_keep k [.cells cs]
      refine Oper.wp_mono ?_ (alloc_does (l := m.H.length) k' re h1 (by simp) (mem_none k (Nat.le_refl _)) Q)
      rintro a' w' ⟨x, κ', h2, h3, h4, h5, h6, hos, hout⟩
      refine ⟨x, κ', h2, ⟨h3, h4, by simp, fun l hl hb => ?_, hos, hout⟩, h5⟩
      rw [h6]
      simp only
      rw [if_neg (by omega)]; exact hb
    · exact evalW_done hC k re e

theorem wantedV_run {ops : List Oper} {env : Env} {a : Act} {o : Oper} {b : Bool} (re : EnvOk κ w.heap env a) (e : wantedV ops env o = some b) :
    Region.wanted o (yielded ops.toArray a.tmps) = b := by
  unfold wantedV at e
  unfold Region.wanted
  split at e
  · rename_i hg
    rw [hg]; simpa using e
  · rename_i j want hg
    rw [hg]
    simp only
    have get : ∀ v, ((ops[j]?).bind (·.dst)).bind env.get = some v → ∃ x, ((ops.toArray[j]?).bind (·.dst)).bind (a.tmps[·]?) = some x ∧ Rep κ w.heap v x := by
      intro v hv
      rw [Option.bind_eq_some_iff] at hv
      obtain ⟨t, h1, h2⟩ := hv
      have ht : t < a.tmps.size := by rw [re.2.1]; exact Env.get_lt h2
      refine ⟨a.tmps[t], ?_, re.2.2 t v _ h2 (Array.getElem?_eq_getElem ht)⟩
      rw [List.getElem?_toArray, h1]
      simp [ht]
    split at e
    · rename_i b' hb
      simp at e; subst e
      obtain ⟨x, h1, h2⟩ := get _ hb
      obtain rfl := rep_bool h2
      simp only [yielded, h1]
      cases b' <;> cases want <;> rfl
    · rename_i hb
      simp at e; subst e
      obtain ⟨x, h1, h2⟩ := get _ hb
      obtain rfl := rep_undef h2
      simp only [yielded, h1]
      rfl
    · simp at e

theorem EnvOk.ext {κ' : Ctx} {w' : World} {m' : Hp} {env : Env} {a : Act} (re : EnvOk κ w.heap env a) (x : Ext κ w m κ' w' m') : EnvOk κ' w'.heap env a := re.mono x.le

theorem ops_sound {C : Callees} (hC : Sound P C) {ops : List Oper} {Q : Exit → Act → World → Prop} : ∀ {rest : List Oper} {env : Env} {m : Hp} {env' : Env} {m' : Hp},
    evalOps P C ops rest env m = some (env', m') → ∀ (κ : Ctx) (w : World) (a : Act), Mem κ w.heap m → EnvOk κ w.heap env a →
    (∀ κ' w' a', Ext κ w m κ' w' m' → EnvOk κ' w'.heap env' a' → Q .normal a' w') → wpList P ops.toArray Q rest a w
  | [], env, m, env', m', e, κ, w, a, k, re, hQ => by
    simp [evalOps] at e
    obtain ⟨rfl, rfl⟩ := e
    exact hQ κ w a (Ext.refl k) re
  | o :: rest, env, m, env', m', e, κ, w, a, k, re, hQ => by
    simp only [evalOps] at e
    split at e
    · rename_i hw
      split at e
      · rename_i v m1 h1
        unfold wpList
        rw [if_pos (wantedV_run re hw)]
        refine .inl (Oper.wp_mono ?_ (evalOp_done hC k re h1 Q))
        rintro a1 w1 ⟨x, κ1, rfl, hx, hr⟩
        refine ops_sound hC e κ1 w1 _ hx.mem ?_ (fun κ' w' a' h2 h3 => hQ κ' w' a' (hx.trans h2) h3)
        have := (re.mono hx.le).put (dst := o.dst) hr
        unfold putV
        exact this
      · simp at e
    · rename_i hw
      unfold wpList
      rw [if_neg (by rw [wantedV_run re hw]; simp)]
      refine ops_sound hC e κ w _ k ?_ hQ
      have := re.put (dst := o.dst) (v := .undef) (x := Go.undef) .undef
      unfold putV
      exact this
    · simp at e

end
end Go.Fbs

/- Regions whose order is drawn: what only reads may come in any order; what writes comes behind all else. -/
namespace Go.Fbs

/-- Which operations must have come up before an operation may: a bit each. -/
def maskOf (acc : List Nat) (o : Oper) : Nat :=
  o.after.toList.foldl (fun s e => if Region.binds .any e then s ||| 2 ^ e.on ||| acc.getD e.on 0 else s) 0

def masksFrom (acc : List Nat) : List Oper → List Nat
  | [] => acc
  | o :: rest => masksFrom (acc ++ [maskOf acc o]) rest

def edgesBack (j : Nat) (o : Oper) : Bool := o.after.toList.all fun e => !Region.binds .any e || e.on < j

def pairOk (ops : List Oper) (ms : List Nat) (i j : Nat) : Bool :=
  (ms.getD j 0).testBit i || (match ops[i]?, ops[j]? with | some x, some y => Oper.apart ops.toArray x y | _, _ => false)

def noDup : List (Option Tmp) → Bool
  | [] => true
  | none :: r => noDup r
  | some d :: r => !(r.contains (some d)) && noDup r

/-- The first n operations may come in any order, the others come behind all that stands ahead. -/
def drawOk (ops : List Oper) (n : Nat) : Bool :=
  let ms := masksFrom [] ops
  decide (n ≤ ops.length) && noDup ((ops.take n).map (·.dst)) && (List.range ops.length).all (fun j => edgesBack j (ops.getD j default)) &&
  (List.range n).all (fun j => (List.range j).all fun i => pairOk ops ms i j) && (List.range ops.length).all (fun j => j < n || (List.range j).all fun i => (ms.getD j 0).testBit i)

/-- One operation of the part that may come in any order. -/
def drStep (P : Program) (C : Callees) (ops : List Oper) (s : Env × List LO) (o : Oper) : Option ((Env × List LO) × V) :=
  match wantedV ops s.1 o with
  | some true =>
    if isQ C o.op then (evalQ P C s.1 s.2 o.op).map fun v => ((putV s.1 o.dst v, s.2), v)
    else (evalA P s.1 o.op).map fun cs => ((putV s.1 o.dst (.ptr s.2.length 0), s.2 ++ [.cells cs]), .ptr s.2.length 0)
  | some false => some ((putV s.1 o.dst .undef, s.2), .undef)
  | none => none

def evalDr (P : Program) (C : Callees) (ops : List Oper) : List Oper → Env × List LO → Option (Env × List LO)
  | [], s => some s
  | o :: rest, s =>
    match drStep P C ops s o with
    | some (s', _) => evalDr P C ops rest s'
    | none => none

def evalDrawn (P : Program) (C : Callees) (ops : List Oper) (n : Nat) (env : Env) (m : Hp) : Option (Env × Hp) :=
  match evalDr P C ops (ops.take n) (env, m.H) with
  | some (env', H') => evalOps P C ops (ops.drop n) env' { m with H := H' }
  | none => none

/-! ### What the masks say -/
theorem foldl_mask {acc : List Nat} (i : Nat) : ∀ (es : List Edge) (s : Nat), (es.foldl (fun s e => if Region.binds .any e then s ||| 2 ^ e.on ||| acc.getD e.on 0 else s) s).testBit i = true →
    s.testBit i = true ∨ ∃ e ∈ es, Region.binds .any e = true ∧ (e.on = i ∨ (acc.getD e.on 0).testBit i = true)
  | [], s, h => .inl h
  | e :: es, s, h => by
    rw [List.foldl_cons] at h
    rcases foldl_mask i es _ h with h1 | ⟨e', h1, h2⟩
    · split at h1
      · rename_i hb
        simp only [Nat.testBit_or, Bool.or_eq_true, Nat.testBit_two_pow, decide_eq_true_eq] at h1
        rcases h1 with (h1 | h1) | h1
        · exact .inl h1
        · exact .inr ⟨e, by simp, hb, .inl h1⟩
        · exact .inr ⟨e, by simp, hb, .inr h1⟩
      · exact .inl h1
    · exact .inr ⟨e', by simp [h1], h2⟩

def Closed (ops : List Oper) (S : Nat → Bool) : Prop := ∀ j o, ops[j]? = some o → S j = true → ∀ e ∈ o.after, Region.binds .any e = true → S e.on = true

def MaskSays (ops : List Oper) (j m : Nat) : Prop := ∀ o, ops[j]? = some o → ∀ S : Nat → Bool, Closed ops S → (∀ e ∈ o.after, Region.binds .any e = true → S e.on = true) → ∀ i, m.testBit i = true → S i = true

theorem masksFrom_spec (ops : List Oper) : ∀ (rest : List Oper) (acc : List Nat), (∀ k, rest[k]? = ops[acc.length + k]?) → (∀ j, j < acc.length → MaskSays ops j (acc.getD j 0)) →
    ∀ j, j < acc.length + rest.length → MaskSays ops j ((masksFrom acc rest).getD j 0)
  | [], acc, _, h, j, hj => h j (by simpa using hj)
  | o :: rest, acc, hr, h, j, hj => by
    simp only [masksFrom]
    refine masksFrom_spec ops rest (acc ++ [maskOf acc o]) (fun k => ?_) (fun q hq => ?_) j (by simp at hj ⊢; omega)
    · have := hr (k + 1)
      simp only [List.getElem?_cons_succ] at this
      rw [this]; simp; congr 1; omega
    · simp only [List.length_append, List.length_singleton] at hq
      by_cases hq' : q < acc.length
      · rw [List.getD_eq_getElem?_getD, List.getElem?_append_left hq', ← List.getD_eq_getElem?_getD]; exact h q hq'
      · obtain rfl : q = acc.length := by omega
        have he : (acc ++ [maskOf acc o]).getD acc.length 0 = maskOf acc o := by simp [List.getD]
        rw [he]
        intro o' ho' S hS hS' i hi
        have h0 := hr 0
        simp at h0
        rw [← h0] at ho'
        simp at ho'; subst ho'
        rcases foldl_mask i o.after.toList 0 hi with h1 | ⟨e, h1, h2, h3⟩
        · simp at h1
        · have h1' : e ∈ o.after := by simpa using h1
          have h4 := hS' e h1' h2
          rcases h3 with rfl | h3
          · exact h4
          · have hlt : e.on < acc.length := by
              refine Nat.lt_of_not_le fun hle => ?_
              rw [List.getD_eq_getElem?_getD, List.getElem?_eq_none hle] at h3
              simp at h3
            cases hoe : ops[e.on]? with
            | none =>
              exfalso
              have := List.getElem?_eq_none_iff.1 hoe
              have h5 := hr 0
              simp at h5
              have := (List.getElem?_eq_some_iff.1 h5.symm).1
              omega
            | some oe => exact h e.on hlt oe hoe S hS (fun e' he' hb' => hS e.on oe hoe h4 e' he' hb') i h3

theorem mask_listed {ops : List Oper} {j : Nat} {o : Oper} (ho : ops[j]? = some o) {S : Nat → Bool} (hS : Closed ops S) (hr : ∀ e ∈ o.after, Region.binds .any e = true → S e.on = true) {i : Nat}
    (hb : ((masksFrom [] ops).getD j 0).testBit i = true) : S i = true :=
  masksFrom_spec ops ops [] (by simp) (by simp) j (by simpa using (List.getElem?_eq_some_iff.1 ho).1) o ho S hS hr i hb

/-! ### An operation looks at its own slots alone -/
def Agree (env env' : Env) (xs : List Operand) : Prop := ∀ x ∈ xs, ∀ u, ev env x = some u → ev env' x = some u

theorem Agree.evs {env env' : Env} : ∀ {xs : List Operand} {vs : List V}, Agree env env' xs → evs env xs = some vs → evs env' xs = some vs
  | [], vs, _, e => e
  | x :: xs, vs, h, e => by
    simp only [Fbs.evs] at e ⊢
    split at e <;> simp at e
    rename_i v vs' h1 h2
    rw [h x (by simp) _ h1, Agree.evs (fun y hy => h y (by simp [hy])) h2]
    simpa using e

theorem Agree.parts {env env' : Env} : ∀ {xs : List (Nat × Operand)} {vs : List (Nat × V)}, Agree env env' (xs.map (·.2)) → partsV env xs = some vs → partsV env' xs = some vs
  | [], vs, _, e => e
  | (i, x) :: xs, vs, h, e => by
    simp only [partsV] at e ⊢
    split at e
    · rename_i v vs' h1 h2
      rw [h x (by simp) _ h1, Agree.parts (fun y hy => h y (by simp [hy])) h2]
      exact e
    · simp at e

theorem Agree.opt {env env' : Env} {x : Option Operand} {v : Option V} (h : Agree env env' x.toList) (e : optEv env x = some v) : optEv env' x = some v := by
  cases x with
  | none => exact e
  | some x =>
    simp only [optEv, Option.map_eq_some_iff] at e ⊢
    obtain ⟨u, h1, h2⟩ := e
    exact ⟨u, h x (by simp) _ h1, h2⟩

theorem loadV_grow {P : Program} {t : TypeId} {H H' : List LO} (hH : ∀ (l : Nat) c, H[l]? = some c → H'[l]? = some c) {x v : V} (e : loadV P t H x = some v) : loadV P t H' x = some v := by
  cases x <;> simp only [loadV] at e ⊢ <;> try exact e
  split at e
  · rename_i cs h1
    rw [hH _ _ h1]; exact e
  · simp at e

theorem Agree.one {env env' : Env} {x : Operand} {xs : List Operand} (h : Agree env env' xs) (hx : x ∈ xs) {f f' : V → Option V} {v : V} (hf : ∀ u, f u = some v → f' u = some v) (e : ev1 env x f = some v) : ev1 env' x f' = some v := by
  obtain ⟨u, h1, h2⟩ := ev1_some e
  unfold ev1
  rw [h x hx u h1]; exact hf u h2

theorem Agree.two {env env' : Env} {x y : Operand} {xs : List Operand} (h : Agree env env' xs) (hx : x ∈ xs) (hy : y ∈ xs) {f : V → V → Option V} {v : V} (e : ev2 env x y f = some v) : ev2 env' x y f = some v := by
  obtain ⟨u, u', h1, h2, h3⟩ := ev2_some e
  unfold ev2
  rw [h x hx u h1, h y hy u' h2]; exact h3

theorem evalQ_congr {P : Program} {C : Callees} {env env' : Env} {H H' : List LO} {op : Op} {v : V} (h : Agree env env' op.operands.toList) (hH : ∀ (l : Nat) c, H[l]? = some c → H'[l]? = some c)
    (e : evalQ P C env H op = some v) : evalQ P C env' H' op = some v := by
  cases op <;> simp only [evalQ] at e ⊢ <;> try exact e
  case move x => exact h x (by simp [Op.operands]) _ e
  case assign x => exact h x (by simp [Op.operands]) _ e
  case pick c x y =>
    split at e
    · rename_i t u u' h1 h2 h3
      rw [h c (by simp [Op.operands]) _ h1, h x (by simp [Op.operands]) _ h2, h y (by simp [Op.operands]) _ h3]
      exact e
    · simp at e
  case build t parts =>
    split at e
    · rename_i ps hps
      rw [Agree.parts (by simpa [Op.operands] using h) hps]; exact e
    · simp at e
  case buildSlice t len parts =>
    split at e
    · rename_i ps hps
      rw [Agree.parts (by simpa [Op.operands] using h) hps]; exact e
    · simp at e
  case load t x => exact h.one (by simp [Op.operands]) (fun u => loadV_grow hH) e
  case nilCheck x => exact h.one (by simp [Op.operands]) (fun _ h => h) e
  case binOp op t x y t2 => exact h.two (by simp [Op.operands]) (by simp [Op.operands]) e
  case unOp op t x => exact h.one (by simp [Op.operands]) (fun _ h => h) e
  case convert src dst x => exact h.one (by simp [Op.operands]) (fun _ h => h) e
  case makeFunc fn first captured =>
    cases fn <;> simp only at e ⊢ <;> try exact e
    split at e
    · rename_i vs hvs
      rw [Agree.evs (fun y hy => h y (by simp [Op.operands] at hy ⊢; exact .inr hy)) hvs]; exact e
    · simp at e
  case slice t x lo hi mx =>
    cases mx <;> simp only at e ⊢ <;> try exact e
    split at e
    · rename_i u l q h1 h2 h3
      rw [h x (by simp [Op.operands]) _ h1, Agree.opt (fun y hy => h y (by simp [Op.operands] at hy ⊢; simp [hy])) h2, Agree.opt (fun y hy => h y (by simp [Op.operands] at hy ⊢; simp [hy])) h3]; exact e
    · simp at e
  case fieldAddr s x f => exact h.one (by simp [Op.operands]) (fun _ h => h) e
  case field s x f => exact h.one (by simp [Op.operands]) (fun _ h => h) e
  case indexAddr t x i => exact h.two (by simp [Op.operands]) (by simp [Op.operands]) e
  case index t x i => exact h.two (by simp [Op.operands]) (by simp [Op.operands]) e
  case extract x i => exact h.one (by simp [Op.operands]) (fun _ h => h) e
  case call c =>
    obtain ⟨callee, args, ts⟩ := c
    simp only at e ⊢
    split at e
    · rename_i b vs hvs
      rw [Agree.evs (fun y hy => h y (by simp [Op.operands, Call.operands] at hy ⊢; exact hy)) hvs]; exact e
    · rename_i f vs hvs
      rw [Agree.evs (fun y hy => h y (by simp [Op.operands, Call.operands] at hy ⊢; exact .inr hy)) hvs]
      exact h.one (by simp [Op.operands, Call.operands]) (fun _ h => h) e
    · simp at e
  all_goals simp at e

theorem evalA_congr {P : Program} {env env' : Env} {op : Op} {cs : List V} (h : Agree env env' op.operands.toList) (e : evalA P env op = some cs) : evalA P env' op = some cs := by
  cases op <;> simp only [evalA] at e ⊢ <;> try exact e
  case box t x =>
    split at e
    · rename_i u h1
      rw [h x (by simp [Op.operands]) _ h1]; exact e
    · simp at e
  all_goals simp at e

end Go.Fbs

/- Regions whose order is drawn: the theorem. -/
namespace Go.Fbs

def lst (S : Array Bool) (i : Nat) : Bool := S.getD i true

def unl (S : Array Bool) : Nat := S.toList.count false

theorem count_set : ∀ (l : List Bool) (i : Nat), l[i]? = some false → (l.set i true).count false + 1 = l.count false
  | [], i, h => by simp at h
  | b :: l, 0, h => by simp at h; subst h; simp
  | b :: l, i + 1, h => by
    have := count_set l i (by simpa using h)
    cases b <;> simp <;> omega

theorem unl_set {S : Array Bool} {i : Nat} (h : S[i]? = some false) : unl (S.setIfInBounds i true) + 1 = unl S := by
  unfold unl
  rw [Array.toList_setIfInBounds]
  exact count_set _ _ (by simpa using h)

theorem ready_iff {ops : List Oper} {S : Array Bool} {i : Nat} : i ∈ Region.ready .any ops.toArray S ↔ ∃ o, ops[i]? = some o ∧ lst S i = false ∧ ∀ e ∈ o.after, Region.binds .any e = true → S.getD e.on false = true := by
  unfold Region.ready
  simp only [List.mem_filter, List.mem_range, Bool.and_eq_true, Bool.not_eq_true', lst]
  constructor
  · rintro ⟨h1, h2, h3⟩
    have h1' : i < ops.length := by simpa using h1
    refine ⟨ops[i], List.getElem?_eq_getElem h1', h2, fun e he hb => ?_⟩
    have : (ops.toArray[i]?).map (fun o => o.after.all fun e => !Region.binds .any e || S.getD e.on false) = some (ops[i].after.all fun e => !Region.binds .any e || S.getD e.on false) := by
      rw [List.getElem?_toArray, List.getElem?_eq_getElem h1']; rfl
    rw [this] at h3
    simp only [Option.getD_some, Array.all_eq_true] at h3
    obtain ⟨q, hq, rfl⟩ := Array.mem_iff_getElem.1 he
    have := h3 q hq
    simpa [hb] using this
  · rintro ⟨o, h1, h2, h3⟩
    have h1' := (List.getElem?_eq_some_iff.1 h1).1
    refine ⟨by simpa using h1', h2, ?_⟩
    rw [List.getElem?_toArray, h1]
    simp only [Option.map_some, Option.getD_some, Array.all_eq_true]
    intro q hq
    have := h3 o.after[q] (by simp)
    cases hb : Region.binds .any o.after[q] with
    | false => simp
    | true => simpa using this hb

structure DrawFacts (ops : List Oper) (n : Nat) : Prop where
  le : n ≤ ops.length
  nd : ∀ (i j : Nat) x y d, i < n → j < n → ops[i]? = some x → ops[j]? = some y → x.dst = some d → y.dst = some d → i = j
  back : ∀ (j : Nat) o, ops[j]? = some o → ∀ e ∈ o.after, Region.binds .any e = true → e.on < j
  pair : ∀ (i j : Nat) x y, i < j → j < n → ops[i]? = some x → ops[j]? = some y → ((masksFrom [] ops).getD j 0).testBit i = true ∨ Oper.apart ops.toArray x y = true
  tail : ∀ (i j : Nat), i < j → n ≤ j → j < ops.length → ((masksFrom [] ops).getD j 0).testBit i = true

theorem noDup_spec : ∀ (l : List (Option Tmp)), noDup l = true → ∀ (i j : Nat) d, l[i]? = some (some d) → l[j]? = some (some d) → i = j
  | [], _, i, j, d, h, _ => by simp at h
  | none :: r, h, i, j, d, h1, h2 => by
    cases i with
    | zero => simp at h1
    | succ i =>
      cases j with
      | zero => simp at h2
      | succ j => rw [noDup_spec r (by simpa [noDup] using h) i j d (by simpa using h1) (by simpa using h2)]
  | some c :: r, h, i, j, d, h1, h2 => by
    simp only [noDup, Bool.and_eq_true, Bool.not_eq_true'] at h
    obtain ⟨h3, h4⟩ := h
    have hne : ∀ (q : Nat), r[q]? = some (some c) → False := fun q hq => by
      have := List.mem_of_getElem? hq
      have : r.contains (some c) = true := List.contains_iff_mem.2 this
      rw [this] at h3; simp at h3
    cases i with
    | zero =>
      cases j with
      | zero => rfl
      | succ j => simp at h1 h2; subst h1; exact (hne j h2).elim
    | succ i =>
      cases j with
      | zero => simp at h1 h2; subst h2; exact (hne i h1).elim
      | succ j => rw [noDup_spec r h4 i j d (by simpa using h1) (by simpa using h2)]

theorem drawFacts {ops : List Oper} {n : Nat} (h : drawOk ops n = true) : DrawFacts ops n := by
  unfold drawOk at h
  simp only [Bool.and_eq_true, List.all_eq_true, List.mem_range, decide_eq_true_eq] at h
  obtain ⟨⟨⟨⟨h0, h1⟩, h2⟩, h3⟩, h4⟩ := h
  refine ⟨h0, fun i j x y d hi hj hx hy hxd hyd => ?_, fun j o ho e he hb => ?_, fun i j x y hij hjn hx hy => ?_, fun i j hij hnj hj => ?_⟩
  · refine noDup_spec _ h1 i j d ?_ ?_
    · rw [List.getElem?_map, List.getElem?_take_of_lt hi, hx]; simp [hxd]
    · rw [List.getElem?_map, List.getElem?_take_of_lt hj, hy]; simp [hyd]
  · have hj := (List.getElem?_eq_some_iff.1 ho).1
    have := h2 j hj
    rw [List.getD_eq_getElem?_getD, ho] at this
    simp only [Option.getD_some, edgesBack, List.all_eq_true] at this
    have := this e (by simpa using he)
    simpa [hb] using this
  · have := h3 j hjn i hij
    unfold pairOk at this
    rw [hx, hy] at this
    simpa using this
  · have := h4 j hj
    simp only [Bool.or_eq_true, decide_eq_true_eq] at this
    rcases this with h5 | h5
    · omega
    · exact List.all_eq_true.1 h5 i (List.mem_range.2 hij)

section
variable {P : Program} {C : Callees} {ops : List Oper}

/-- The steps of the part that may come in any order, written down. -/
theorem dr_trace : ∀ {rest : List Oper} {s s' : Env × List LO}, evalDr P C ops rest s = some s' →
    ∃ (σ : Nat → Env × List LO) (val : Nat → V), σ 0 = s ∧ σ rest.length = s' ∧ ∀ (j : Nat) o, rest[j]? = some o → drStep P C ops (σ j) o = some (σ (j + 1), val j)
  | [], s, s', e => by
    simp [evalDr] at e; subst e
    exact ⟨fun _ => s, fun _ => .undef, rfl, rfl, by simp⟩
  | o :: rest, s, s', e => by
    simp only [evalDr] at e
    split at e
    · rename_i s1 v h1
      obtain ⟨σ, val, h2, h3, h4⟩ := dr_trace e
      refine ⟨fun i => match i with | 0 => s | i + 1 => σ i, fun i => match i with | 0 => v | i + 1 => val i, rfl, h3, fun j o' ho => ?_⟩
      cases j with
      | zero => simp at ho; subst ho; simpa [h2] using h1
      | succ j => exact h4 j o' (by simpa using ho)
    · simp at e

theorem drStep_env {s s' : Env × List LO} {o : Oper} {v : V} (e : drStep P C ops s o = some (s', v)) : s'.1 = putV s.1 o.dst v ∧ ∃ cs, s'.2 = s.2 ++ cs := by
  unfold drStep at e
  split at e
  · split at e
    · simp only [Option.map_eq_some_iff] at e
      obtain ⟨u, _, e⟩ := e
      simp at e; obtain ⟨rfl, rfl⟩ := e; exact ⟨rfl, [], by simp⟩
    · simp only [Option.map_eq_some_iff] at e
      obtain ⟨u, _, e⟩ := e
      simp at e; obtain ⟨rfl, rfl⟩ := e; exact ⟨rfl, _, rfl⟩
  · simp at e; obtain ⟨rfl, rfl⟩ := e; exact ⟨rfl, [], by simp⟩
  · simp at e

theorem putV_get {env : Env} {dst : Option Tmp} {v : V} {t : Nat} : (putV env dst v).get t = if dst = some t then (if t < env.n then some v else none) else env.get t := by
  cases dst with
  | none => simp [putV]
  | some d =>
    simp only [putV, Env.get_put, Option.some.injEq]

theorem putV_len {env : Env} {dst : Option Tmp} {v : V} : (putV env dst v).n = env.n := by
  cases dst <;> rfl

/-- What is known of the trace. -/
structure Trace (P : Program) (C : Callees) (ops : List Oper) (n : Nat) (σ : Nat → Env × List LO) (val : Nat → V) : Prop where
  step : ∀ (j : Nat) o, j < n → ops[j]? = some o → drStep P C ops (σ j) o = some (σ (j + 1), val j)
  le : n ≤ ops.length

variable {n : Nat} {σ : Nat → Env × List LO} {val : Nat → V}

theorem Trace.len (t : Trace P C ops n σ val) : ∀ j, j ≤ n → (σ j).1.n = (σ 0).1.n
  | 0, _ => rfl
  | j + 1, hj => by
    have hlt : j < ops.length := by have := t.le; omega
    have := (drStep_env (t.step j ops[j] (by omega) (List.getElem?_eq_getElem hlt))).1
    rw [this, putV_len]; exact t.len j (by omega)

theorem Trace.heap (t : Trace P C ops n σ val) {i : Nat} : ∀ j, i ≤ j → j ≤ n → ∃ cs, (σ j).2 = (σ i).2 ++ cs
  | 0, h, _ => by
    obtain rfl : i = 0 := Nat.le_zero.1 h
    exact ⟨[], by simp⟩
  | j + 1, h, hj => by
    by_cases hi : i = j + 1
    · subst hi; exact ⟨[], by simp⟩
    · obtain ⟨cs, h1⟩ := t.heap (i := i) j (by omega) (by omega)
      have hlt : j < ops.length := by have := t.le; omega
      obtain ⟨ds, h2⟩ := (drStep_env (t.step j ops[j] (by omega) (List.getElem?_eq_getElem hlt))).2
      exact ⟨cs ++ ds, by rw [h2, h1]; simp⟩

/-- A slot that none of the first j writes. -/
theorem Trace.old (t : Trace P C ops n σ val) {d : Nat} : ∀ j, j ≤ n → (∀ (i : Nat) o, i < j → ops[i]? = some o → o.dst ≠ some d) → (σ j).1.get d = (σ 0).1.get d
  | 0, _, _ => rfl
  | j + 1, hj, h => by
    have hlt : j < ops.length := by have := t.le; omega
    have ho := List.getElem?_eq_getElem hlt
    rw [(drStep_env (t.step j ops[j] (by omega) ho)).1, putV_get, if_neg (h j _ (by omega) ho)]
    exact t.old j (by omega) (fun i o hi ho => h i o (by omega) ho)

/-- A slot that one of the first j writes. -/
theorem Trace.new (t : Trace P C ops n σ val) (f : DrawFacts ops n) {d i : Nat} {o : Oper} (hio : ops[i]? = some o) (hd : o.dst = some d) : ∀ j, i < j → j ≤ n → (σ j).1.get d = if d < (σ 0).1.n then some (val i) else none
  | 0, h, _ => by omega
  | j + 1, h, hj => by
    have hlt : j < ops.length := by have := t.le; omega
    have ho := List.getElem?_eq_getElem hlt
    rw [(drStep_env (t.step j ops[j] (by omega) ho)).1, putV_get]
    by_cases hij : i = j
    · subst hij
      rw [ho] at hio; simp at hio; subst hio
      rw [if_pos hd, t.len i (by omega)]
    · rw [if_neg (fun e => hij (f.nd i j _ _ d (by omega) (by omega) hio ho hd e))]
      exact t.new f hio hd j (by omega) (by omega)

end
end Go.Fbs

/- Regions whose order is drawn: every order does what the text's order does. -/
namespace Go.Fbs
section
variable {P : Program} {C : Callees} {ops : List Oper} {n : Nat} {σ : Nat → Env × List LO} {val : Nat → V}

def listedOf (S : Array Bool) : Nat → Bool := fun i => S.getD i false

theorem listedOf_of_not_lst {S : Array Bool} {i : Nat} (h : lst S i = true) (hi : i < S.size) : listedOf S i = true := by
  unfold lst at h; unfold listedOf
  simp [Array.getD, hi] at h ⊢; exact h

theorem listedOf_set {S : Array Bool} {i j : Nat} (hj : j < S.size) : listedOf (S.setIfInBounds j true) i = if i = j then true else listedOf S i := by
  unfold listedOf
  by_cases h : i = j
  · subst h; simp [Array.getD, hj]
  · simp only [if_neg h, Array.getD_eq_getD_getElem?]
    rw [Array.getElem?_setIfInBounds_ne (fun e => h e.symm)]

theorem closed_set {S : Array Bool} (hsz : S.size = ops.length) (hS : Closed ops (listedOf S)) {j : Nat} {o : Oper} (ho : ops[j]? = some o) (hr : ∀ e ∈ o.after, Region.binds .any e = true → S.getD e.on false = true) :
    Closed ops (listedOf (S.setIfInBounds j true)) := by
  have hj : j < S.size := by rw [hsz]; exact (List.getElem?_eq_some_iff.1 ho).1
  intro q oq hq hl e he hb
  rw [listedOf_set hj] at hl ⊢
  by_cases heq : e.on = j
  · rw [if_pos heq]
  · rw [if_neg heq]
    by_cases hqj : q = j
    · subst hqj
      rw [ho] at hq; simp at hq; subst hq
      exact hr e he hb
    · rw [if_neg hqj] at hl
      exact hS q oq hq hl e he hb

/-- What holds while some of the first n have come up. -/
structure Mid (P : Program) (C : Callees) (ops : List Oper) (n : Nat) (σ : Nat → Env × List LO) (val : Nat → V) (κ0 : Ctx) (h0 : World) (m : Hp) (S : Array Bool) (κ : Ctx) (w : World) (a : Act) : Prop where
  start : (σ 0).2 = m.H
  size : S.size = ops.length
  closed : Closed ops (listedOf S)
  front : ∀ j, n ≤ j → j < ops.length → listedOf S j = false
  ext : Ext κ0 h0 m κ w { m with H := (σ n).2 }
  defers : a.defers = []
  tsize : a.tmps.size = (σ 0).1.n
  kept : ∀ (j : Nat) o, j < n → ops[j]? = some o → listedOf S j = false → (σ (j + 1)).2 ≠ (σ j).2 → κ.box (σ j).2.length = none
  new : ∀ (i : Nat) o d x, i < n → ops[i]? = some o → listedOf S i = true → o.dst = some d → a.tmps[d]? = some x → Rep κ w.heap (val i) x
  old : ∀ d v x, (∀ (i : Nat) o, i < n → ops[i]? = some o → listedOf S i = true → o.dst ≠ some d) → (σ 0).1.get d = some v → a.tmps[d]? = some x → Rep κ w.heap v x

/-- The frame as an operation sees it. -/
def seen (env : Env) (look : List Tmp) : Env := ⟨env.n, fun t => if look.contains t then env.f t else .any⟩

theorem seen_get {env : Env} {look : List Tmp} {t : Nat} (ht : t < env.n) : (seen env look).get t = some (if look.contains t then env.f t else .any) := by
  unfold Env.get seen
  simp only
  rw [if_pos ht]

theorem seen_in {env : Env} {look : List Tmp} {t : Nat} {v : V} (hl : t ∈ look) (h : env.get t = some v) : (seen env look).get t = some v := by
  have ht := Env.get_lt h
  rw [seen_get ht, if_pos (List.contains_iff_mem.2 hl)]
  unfold Env.get at h
  rw [if_pos ht] at h
  exact h

theorem seen_agree {env : Env} {o : Oper} : Agree env (seen env (o.looksAt ops.toArray)) o.op.operands.toList := by
  intro x hx u hu
  cases x with
  | tmp t =>
    simp only [ev] at hu ⊢
    refine seen_in ?_ hu
    unfold Oper.looksAt
    refine List.mem_append.2 (.inl ?_)
    rw [List.mem_filterMap]
    exact ⟨.tmp t, hx, rfl⟩
  | const v => exact hu
  | func f => exact hu
  | global g => exact hu

theorem seen_wanted {env : Env} {o : Oper} {b : Bool} (e : wantedV ops env o = some b) : wantedV ops (seen env (o.looksAt ops.toArray)) o = some b := by
  unfold wantedV at e ⊢
  split at e
  · exact e
  · rename_i j want hg
    cases hd : (ops[j]?).bind (·.dst) with
    | none => rw [hd] at e; simp at e
    | some t =>
      rw [hd] at e
      simp only [Option.bind_some] at e ⊢
      cases ht : env.get t with
      | none => rw [ht] at e; simp at e
      | some v =>
        rw [ht] at e
        have : (seen env (o.looksAt ops.toArray)).get t = some v := by
          refine seen_in ?_ ht
          unfold Oper.looksAt
          refine List.mem_append.2 (.inr ?_)
          rw [hg]
          simp [List.getElem?_toArray, hd]
        rw [this]; exact e

theorem Mid.env {κ0 κ : Ctx} {h0 : World} {m : Hp} {S : Array Bool} {w : World} {a : Act} (t : Trace P C ops n σ val) (f : DrawFacts ops n) (M : Mid P C ops n σ val κ0 h0 m S κ w a) {j : Nat} {o : Oper} (hj : j < n)
    (ho : ops[j]? = some o) (hun : listedOf S j = false) (hr : ∀ e ∈ o.after, Region.binds .any e = true → S.getD e.on false = true) : EnvOk κ w.heap (seen (σ j).1 (o.looksAt ops.toArray)) a := by
  have hlen := t.len j (by omega)
  refine ⟨M.defers, by show _ = (σ j).1.n; rw [hlen, M.tsize], fun d v x hv hx => ?_⟩
  have hd : d < (seen (σ j).1 (o.looksAt ops.toArray)).n := Env.get_lt hv
  have hd : d < (σ j).1.n := hd
  rw [seen_get hd] at hv
  split at hv
  · rename_i hl
    have hl : d ∈ o.looksAt ops.toArray := List.contains_iff_mem.1 hl
    simp only [Option.some.injEq] at hv
    have hget : (σ j).1.get d = some v := by unfold Env.get; rw [if_pos hd, hv]
    by_cases hex : ∃ (i : Nat) (oi : Oper), i < j ∧ ops[i]? = some oi ∧ oi.dst = some d
    · obtain ⟨i, oi, hi, hoi, hdi⟩ := hex
      have hval := t.new f hoi hdi j hi (by omega)
      rw [hget, if_pos (by rw [← hlen]; exact hd)] at hval
      simp only [Option.some.injEq] at hval
      subst hval
      have hli : listedOf S i = true := by
        rcases f.pair i j oi o hi hj hoi ho with h1 | h1
        · exact mask_listed ho M.closed hr h1
        · exact absurd hl ((Oper.apart_spec h1).1 d hdi)
      exact M.new i oi d x (by omega) hoi hli hdi hx
    · have hold := t.old (d := d) j (by omega) (fun i oi hi hoi hdi => hex ⟨i, oi, hi, hoi, hdi⟩)
      rw [hget] at hold
      refine M.old d v x (fun i oi hi hoi hli hdi => ?_) hold.symm hx
      have hij : i ≠ j := fun e => by subst e; rw [hun] at hli; simp at hli
      have hji : j < i := by
        rcases Nat.lt_or_gt_of_ne hij with h1 | h1
        · exact absurd ⟨i, oi, h1, hoi, hdi⟩ hex
        · exact h1
      rcases f.pair j i o oi hji hi ho hoi with h1 | h1
      · have := mask_listed hoi M.closed (M.closed i oi hoi hli) h1
        rw [hun] at this; simp at this
      · exact (Oper.apart_spec h1).2.2 d hdi hl
  · simp only [Option.some.injEq] at hv
    subst hv
    exact .any x

theorem prefix_get {H H' cs : List LO} (h : H' = H ++ cs) (l : Nat) (c : LO) (e : H[l]? = some c) : H'[l]? = some c := by
  rw [h, List.getElem?_append_left (List.getElem?_eq_some_iff.1 e).1]; exact e

/-- One operation comes up. -/
theorem Mid.step {κ0 κ : Ctx} {h0 : World} {m : Hp} {S : Array Bool} {w : World} {a : Act} (hC : Sound P C) (t : Trace P C ops n σ val) (f : DrawFacts ops n) (M : Mid P C ops n σ val κ0 h0 m S κ w a) {j : Nat} {o : Oper} (hj : j < n)
    (ho : ops[j]? = some o) (hun : listedOf S j = false) (hr : ∀ e ∈ o.after, Region.binds .any e = true → S.getD e.on false = true) (Q : Exit → Act → World → Prop) (K : Act → World → Prop)
    (hK : ∀ κ' w' a', Mid P C ops n σ val κ0 h0 m (S.setIfInBounds j true) κ' w' a' → K a' w') : wpOp P ops.toArray Q j K a w := by
  have hjs : j < S.size := by rw [M.size]; exact (List.getElem?_eq_some_iff.1 ho).1
  have renv := M.env t f hj ho hun hr
  have hst := t.step j o hj ho
  obtain ⟨cs, hcs⟩ := t.heap (i := j) n (by omega) (Nat.le_refl _)
  have hpre : ∀ (l : Nat) c, (σ j).2[l]? = some c → (σ n).2[l]? = some c := prefix_get hcs
  -- what is left to show once the operation has put a value
  have close : ∀ κ' w' x, (w'.os = w.os ∧ Kept w w') → Le κ w.heap κ' w'.heap → Mem κ' w'.heap { m with H := (σ n).2 } → (∀ l, l < m.H.length → κ.box l = none → κ'.box l = none) → (∀ (i : Nat) oi, i < n → ops[i]? = some oi → i ≠ j → listedOf S i = false → (σ (i + 1)).2 ≠ (σ i).2 → κ'.box (σ i).2.length = none) →
      Rep κ' w'.heap (val j) x → Mid P C ops n σ val κ0 h0 m (S.setIfInBounds j true) κ' w' (a.put o.dst x) := by
    intro κ' w' x hou hle hmem hhole hk hrep
    have hput : ∀ d, (a.put o.dst x).tmps[d]? = if o.dst = some d then (if d < a.tmps.size then some x else none) else a.tmps[d]? := by
      intro d
      cases hdst : o.dst with
      | none => simp [Act.put]
      | some c =>
        simp only [Act.put, Array.getElem?_setIfInBounds, Option.some.injEq]
        split
        · rename_i h; subst h; rfl
        · rfl
    refine ⟨M.start, by simpa using M.size, closed_set M.size M.closed ho hr, fun q hq1 hq2 => ?_, ⟨M.ext.le.trans hle, hmem, M.ext.grow, fun l hl e => hhole l hl (M.ext.hole l hl e), hou.1.trans M.ext.os, M.ext.out.trans hou.2⟩, ?_, ?_, fun i oi hi hoi hl hne => ?_, fun i oi d y hi hoi hl hd hy => ?_, fun d v y hno hv hy => ?_⟩
    · rw [listedOf_set hjs, if_neg (by omega)]; exact M.front q hq1 hq2
    · cases hdst : o.dst <;> simp [Act.put, M.defers]
    · cases hdst : o.dst <;> simp [Act.put, M.tsize]
    · rw [listedOf_set hjs] at hl
      split at hl
      · simp at hl
      · rename_i hij; exact hk i oi hi hoi hij hl hne
    · rw [listedOf_set hjs] at hl
      rw [hput] at hy
      by_cases hij : i = j
      · subst hij
        rw [ho] at hoi; simp at hoi; subst hoi
        rw [if_pos hd] at hy
        split at hy <;> simp at hy
        subst hy; exact hrep
      · rw [if_neg hij] at hl
        have hne : o.dst ≠ some d := fun e => hij (f.nd i j oi o d hi hj hoi ho hd e)
        rw [if_neg hne] at hy
        exact (M.new i oi d y hi hoi hl hd hy).mono hle
    · have hne : o.dst ≠ some d := hno j o hj ho (by rw [listedOf_set hjs, if_pos rfl])
      rw [hput, if_neg hne] at hy
      refine (M.old d v y (fun i oi hi hoi hl => hno i oi hi hoi ?_) hv hy).mono hle
      rw [listedOf_set hjs]; split <;> first | rfl | exact hl
  unfold wpOp
  have ho' : ops.toArray[j]? = some o := by simpa using ho
  rw [ho']
  simp only
  have hq : ∀ v, evalQ P C (seen (σ j).1 (o.looksAt ops.toArray)) (σ n).2 o.op = some v → val j = v → Region.wanted o (yielded ops.toArray a.tmps) = true → (if Region.wanted o (yielded ops.toArray a.tmps) then o.wp P a w K Q ∨ (o.asks P a w ∧ LetsOut Q) else K (a.put o.dst undef) w) := by
    intro v hv hval hw
    rw [if_pos hw]
    refine .inl (Oper.wp_mono ?_ (evalQ_done (m := { m with H := (σ n).2 }) hC M.ext.mem renv hv Q))
    rintro a' w' ⟨x, κ', rfl, hx, hrep⟩
    refine hK κ' w' _ (close κ' w' x ⟨hx.os, hx.out⟩ hx.le hx.mem (fun l hl => hx.hole l (Nat.lt_of_lt_of_le hl M.ext.grow)) (fun i oi hi hoi _ hl hne => ?_) (by rw [hval]; exact hrep))
    have hlt : (σ i).2.length < (σ n).2.length := by
      obtain ⟨ds, hds⟩ := t.heap (i := i + 1) n (by omega) (Nat.le_refl _)
      obtain ⟨es, hes⟩ := (drStep_env (t.step i oi hi hoi)).2
      have : es ≠ [] := fun e => hne (by rw [hes, e]; simp)
      have := List.length_pos_iff.2 this
      rw [hds, hes]; simp; omega
    exact hx.hole _ hlt (M.kept i oi hi hoi hl hne)
  unfold drStep at hst
  split at hst
  · rename_i hw
    have hw' := wantedV_run (w := w) renv (seen_wanted (ops := ops) hw)
    split at hst
    · simp only [Option.map_eq_some_iff] at hst
      obtain ⟨v, hv, hst⟩ := hst
      simp at hst
      exact hq v (evalQ_congr seen_agree hpre hv) hst.2.symm hw'
    · simp only [Option.map_eq_some_iff] at hst
      obtain ⟨ds, hds, hst⟩ := hst
      · simp at hst
        obtain ⟨hs1, hs2⟩ := hst
        rw [if_pos hw']
        have hH1 : (σ (j + 1)).2 = (σ j).2 ++ [.cells ds] := by rw [← hs1]
        obtain ⟨cs', hcs'⟩ := t.heap (i := j + 1) n (by omega) (Nat.le_refl _)
        have hget : (σ n).2[(σ j).2.length]? = some (.cells ds) := prefix_get hcs' _ _ (by rw [hH1]; simp)
        have hnone : κ.box (σ j).2.length = none := M.kept j o hj ho hun (by rw [hH1]; simp)
        refine .inl (Oper.wp_mono ?_ (alloc_does (m := { m with H := (σ n).2 }) (l := (σ j).2.length) M.ext.mem renv (evalA_congr seen_agree hds) hget hnone Q))
        rintro a' w' ⟨x, κ', rfl, hle, hmem, hrep, hbox, hos, hout⟩
        -- places differ
        have hdiff : ∀ (i : Nat) oi, i < n → ops[i]? = some oi → i ≠ j → (σ (i + 1)).2 ≠ (σ i).2 → (σ i).2.length ≠ (σ j).2.length := by
          intro i oi hi hoi hij hne
          obtain ⟨es, hes⟩ := (drStep_env (t.step i oi hi hoi)).2
          have hes' : es ≠ [] := fun e => hne (by rw [hes, e]; simp)
          have hpos := List.length_pos_iff.2 hes'
          rcases Nat.lt_or_gt_of_ne hij with h1 | h1
          · obtain ⟨fs, hfs⟩ := t.heap (i := i + 1) j (by omega) (by omega)
            rw [hfs, hes]
            simp only [List.length_append]
            omega
          · obtain ⟨fs, hfs⟩ := t.heap (i := j + 1) i (by omega) (by omega)
            rw [hfs, hH1]
            simp only [List.length_append, List.length_singleton]
            omega
        refine hK κ' w' _ (close κ' w' x ⟨hos, hout⟩ hle hmem (fun l hl hb => ?_) (fun i oi hi hoi hij hl hne => ?_) (by rw [← hs2]; exact hrep))
        · rw [hbox]
          simp only
          have : l ≠ (σ j).2.length := by
            obtain ⟨fs, hfs⟩ := t.heap (i := 0) j (by omega) (by omega)
            rw [hfs, M.start]; simp; omega
          rw [if_neg this]; exact hb
        · rw [hbox]
          simp only
          rw [if_neg (hdiff i oi hi hoi hij hne)]
          exact M.kept i oi hi hoi hl hne
  · rename_i hw
    have hw' := wantedV_run (w := w) renv (seen_wanted (ops := ops) hw)
    simp at hst
    rw [if_neg (by rw [hw']; simp)]
    refine hK κ w _ (close κ w Go.undef ⟨rfl, Kept.refl _⟩ (Le.refl _ _) M.ext.mem (fun _ _ h => h) (fun i oi hi hoi _ hl hne => M.kept i oi hi hoi hl hne) ?_)
    rw [← hst.2]; exact .undef
  · simp at hst

end
end Go.Fbs

/- Regions, whole. -/
namespace Go.Fbs
section
variable {P : Program} {C : Callees} {ops : List Oper} {n : Nat} {σ : Nat → Env × List LO} {val : Nat → V}

theorem lst_of_listedOf {S : Array Bool} {i : Nat} (hi : i < S.size) : lst S i = listedOf S i := by
  unfold lst listedOf; simp [Array.getD, hi]

theorem listed_false {S : Array Bool} {i : Nat} (hi : i < S.size) (h : listedOf S i = false) : S[i]? = some false := by
  unfold listedOf at h
  simp [Array.getD, hi] at h
  rw [Array.getElem?_eq_getElem hi, h]

theorem unl_pos {S : Array Bool} {i : Nat} (h : S[i]? = some false) : 0 < unl S := by
  have := unl_set h; omega

theorem tail_sound (hC : Sound P C) (f : DrawFacts ops n) {Q : Exit → Act → World → Prop} : ∀ (fuel j : Nat) (S : Array Bool) (env : Env) (m : Hp) (env' : Env) (m' : Hp) (κ : Ctx) (w : World) (a : Act),
    n ≤ j → S.size = ops.length → (∀ i, i < j → i < ops.length → listedOf S i = true) → (∀ i, j ≤ i → i < ops.length → listedOf S i = false) → Closed ops (listedOf S) → evalOps P C ops (ops.drop j) env m = some (env', m') →
    Mem κ w.heap m → EnvOk κ w.heap env a → (∀ κ' w' a', Ext κ w m κ' w' m' → EnvOk κ' w'.heap env' a' → Q .normal a' w') → unl S ≤ fuel → wpAny P .any ops.toArray Q fuel S a w := by
  intro fuel
  induction fuel with
  | zero =>
    intro j S env m env' m' κ w a hnj hsz hlo hhi hcl e k re hQ hu
    have hj : ops.length ≤ j := by
      refine Nat.le_of_not_lt fun hlt => ?_
      have := unl_pos (listed_false (by omega) (hhi j (Nat.le_refl _) hlt))
      omega
    rw [List.drop_eq_nil_of_le hj] at e
    simp [evalOps] at e
    obtain ⟨rfl, rfl⟩ := e
    refine ⟨?_, hQ κ w a (Ext.refl k) re⟩
    rw [List.eq_nil_iff_forall_not_mem]
    intro i hi
    obtain ⟨o, h1, h2, _⟩ := ready_iff.1 hi
    have hil := (List.getElem?_eq_some_iff.1 h1).1
    rw [lst_of_listedOf (by omega), hlo i (by omega) hil] at h2
    simp at h2
  | succ fuel ih =>
    intro j S env m env' m' κ w a hnj hsz hlo hhi hcl e k re hQ hu
    refine ⟨fun hnil => ?_, fun i hi => ?_⟩
    · have hj : ops.length ≤ j := by
        refine Nat.le_of_not_lt fun hlt => ?_
        have : j ∈ Region.ready .any ops.toArray S := ready_iff.2 ⟨ops[j], List.getElem?_eq_getElem hlt, by rw [lst_of_listedOf (by omega)]; exact hhi j (Nat.le_refl _) hlt, fun e he hb => by
          have h1 := f.back j _ (List.getElem?_eq_getElem hlt) e he hb
          exact hlo e.on h1 (by omega)⟩
        rw [hnil] at this; simp at this
      rw [List.drop_eq_nil_of_le hj] at e
      simp [evalOps] at e
      obtain ⟨rfl, rfl⟩ := e
      exact hQ κ w a (Ext.refl k) re
    · obtain ⟨o, h1, h2, h3⟩ := ready_iff.1 hi
      have hil := (List.getElem?_eq_some_iff.1 h1).1
      rw [lst_of_listedOf (by omega)] at h2
      have hij : i = j := by
        have hge : j ≤ i := Nat.le_of_not_lt fun h => by rw [hlo i h hil] at h2; simp at h2
        refine Nat.le_antisymm (Nat.le_of_not_lt fun hlt => ?_) hge
        have := mask_listed h1 hcl h3 (f.tail j i hlt (by omega) hil)
        rw [hhi j (Nat.le_refl _) (by omega)] at this
        simp at this
      subst hij
      have hdrop : ops.drop i = o :: ops.drop (i + 1) := by
        rw [List.drop_eq_getElem_cons hil]
        congr 1
        exact (List.getElem?_eq_some_iff.1 h1).2
      rw [hdrop] at e
      have hset := unl_set (listed_false (by omega) h2)
      have next : ∀ (env1 : Env) (m1 : Hp), evalOps P C ops (ops.drop (i + 1)) env1 m1 = some (env', m') → ∀ κ1 w1 a1, Ext κ w m κ1 w1 m1 → EnvOk κ1 w1.heap env1 a1 →
          wpAny P .any ops.toArray Q fuel (S.setIfInBounds i true) a1 w1 := by
        intro env1 m1 e1 κ1 w1 a1 hx hr
        refine ih (i + 1) _ env1 m1 env' m' κ1 w1 a1 (by omega) (by simpa using hsz) (fun q hq hql => ?_) (fun q hq hql => ?_) (closed_set hsz hcl h1 h3) e1 hx.mem hr (fun κ' w' a' h4 h5 => hQ κ' w' a' (hx.trans h4) h5) (by omega)
        · rw [listedOf_set (by omega)]
          split
          · rfl
          · exact hlo q (by omega) hql
        · rw [listedOf_set (by omega), if_neg (by omega)]; exact hhi q (by omega) hql
      unfold wpOp
      rw [show ops.toArray[i]? = some o by simpa using h1]
      simp only
      simp only [evalOps] at e
      split at e
      · rename_i hw
        split at e
        · rename_i v m1 h4
          rw [if_pos (wantedV_run re hw)]
          refine .inl (Oper.wp_mono ?_ (evalOp_done hC k re h4 Q))
          rintro a1 w1 ⟨x, κ1, rfl, hx, hr⟩
          refine next _ _ e κ1 w1 _ hx ?_
          have := (re.mono hx.le).put (dst := o.dst) hr
          unfold putV
          exact this
        · simp at e
      · rename_i hw
        rw [if_neg (by rw [wantedV_run re hw]; simp)]
        refine next _ _ e κ w _ (Ext.refl k) ?_
        have := re.put (dst := o.dst) (v := .undef) (x := Go.undef) .undef
        unfold putV
        exact this
      · simp at e

theorem mid_sound (hC : Sound P C) (t : Trace P C ops n σ val) (f : DrawFacts ops n) {κ0 : Ctx} {h0 : World} {m : Hp} {env' : Env} {m' : Hp} {Q : Exit → Act → World → Prop}
    (e : evalOps P C ops (ops.drop n) (σ n).1 { m with H := (σ n).2 } = some (env', m')) (hQ : ∀ κ' w' a', Ext κ0 h0 m κ' w' m' → EnvOk κ' w'.heap env' a' → Q .normal a' w') :
    ∀ (fuel : Nat) (S : Array Bool) (κ : Ctx) (w : World) (a : Act), Mid P C ops n σ val κ0 h0 m S κ w a → unl S ≤ fuel → wpAny P .any ops.toArray Q fuel S a w := by
  intro fuel
  induction fuel with
  | zero =>
    intro S κ w a M hu
    have hall : ∀ i, i < ops.length → listedOf S i = true := fun i hi => by
      cases h : listedOf S i with
      | true => rfl
      | false => have := unl_pos (listed_false (by rw [M.size]; exact hi) h); omega
    have hno : ∀ i, n ≤ i → i < ops.length → listedOf S i = false := fun i h1 h2 => M.front i h1 h2
    have hn : n = ops.length := by
      refine Nat.le_antisymm f.le (Nat.le_of_not_lt fun hlt => ?_)
      have := hno n (Nat.le_refl _) hlt
      rw [hall n hlt] at this; simp at this
    refine tail_sound hC f 0 n S (σ n).1 _ env' m' κ w a (Nat.le_refl _) M.size (fun i _ hi => hall i hi) (fun i h1 h2 => hno i h1 h2) M.closed e M.ext.mem ?_ (fun κ' w' a' h1 h2 => hQ κ' w' a' (M.ext.trans h1) h2) hu
    refine ⟨M.defers, by rw [M.tsize, t.len n (Nat.le_refl _)], fun d v x hv hx => ?_⟩
    by_cases hex : ∃ (i : Nat) (oi : Oper), i < n ∧ ops[i]? = some oi ∧ oi.dst = some d
    · obtain ⟨i, oi, hi, hoi, hdi⟩ := hex
      have hval := t.new f hoi hdi n hi (Nat.le_refl _)
      rw [hv, if_pos (by rw [← t.len n (Nat.le_refl _)]; exact Env.get_lt hv)] at hval
      simp only [Option.some.injEq] at hval
      subst hval
      exact M.new i oi d x hi hoi (hall i (by omega)) hdi hx
    · have hold := t.old (d := d) n (Nat.le_refl _) (fun i oi hi hoi hdi => hex ⟨i, oi, hi, hoi, hdi⟩)
      rw [hv] at hold
      exact M.old d v x (fun i oi hi hoi _ hdi => hex ⟨i, oi, hi, hoi, hdi⟩) hold.symm hx
  | succ fuel ih =>
    intro S κ w a M hu
    by_cases hall : ∀ i, i < n → listedOf S i = true
    · refine tail_sound hC f (fuel + 1) n S (σ n).1 _ env' m' κ w a (Nat.le_refl _) M.size (fun i hi _ => hall i hi) (fun i h1 h2 => M.front i h1 h2) M.closed e M.ext.mem ?_ (fun κ' w' a' h1 h2 => hQ κ' w' a' (M.ext.trans h1) h2) hu
      refine ⟨M.defers, by rw [M.tsize, t.len n (Nat.le_refl _)], fun d v x hv hx => ?_⟩
      by_cases hex : ∃ (i : Nat) (oi : Oper), i < n ∧ ops[i]? = some oi ∧ oi.dst = some d
      · obtain ⟨i, oi, hi, hoi, hdi⟩ := hex
        have hval := t.new f hoi hdi n hi (Nat.le_refl _)
        rw [hv, if_pos (by rw [← t.len n (Nat.le_refl _)]; exact Env.get_lt hv)] at hval
        simp only [Option.some.injEq] at hval
        subst hval
        exact M.new i oi d x hi hoi (hall i hi) hdi hx
      · have hold := t.old (d := d) n (Nat.le_refl _) (fun i oi hi hoi hdi => hex ⟨i, oi, hi, hoi, hdi⟩)
        rw [hv] at hold
        exact M.old d v x (fun i oi hi hoi _ hdi => hex ⟨i, oi, hi, hoi, hdi⟩) hold.symm hx
    · have hnall := hall
      have hle := f.le
      obtain ⟨q, hq1, hq2, hq3⟩ : ∃ q, q < n ∧ listedOf S q = false ∧ ∀ i, i < q → listedOf S i = true := by
        have : ∀ k, (∃ q, q < k ∧ listedOf S q = false ∧ ∀ i, i < q → listedOf S i = true) ∨ ∀ i, i < k → listedOf S i = true := by
          intro k
          induction k with
          | zero => exact .inr (fun i hi => by omega)
          | succ k ihk =>
            rcases ihk with ⟨q, h1, h2⟩ | h1
            · exact .inl ⟨q, by omega, h2⟩
            · cases hk : listedOf S k with
              | false => exact .inl ⟨k, by omega, hk, h1⟩
              | true =>
                refine .inr (fun i hi => ?_)
                by_cases h : i = k
                · subst h; exact hk
                · exact h1 i (by omega)
        rcases this n with ⟨q, h1, h2⟩ | h1
        · exact ⟨q, h1, h2⟩
        · exact absurd h1 hnall
      refine ⟨fun hnil => ?_, fun i hi => ?_⟩
      · exfalso
        have hql : q < ops.length := by omega
        have : q ∈ Region.ready .any ops.toArray S := ready_iff.2 ⟨ops[q], List.getElem?_eq_getElem hql, by rw [lst_of_listedOf (by rw [M.size]; exact hql)]; exact hq2, fun e he hb => hq3 e.on (f.back q _ (List.getElem?_eq_getElem hql) e he hb)⟩
        rw [hnil] at this; simp at this
      · obtain ⟨o, h1, h2, h3⟩ := ready_iff.1 hi
        have hil := (List.getElem?_eq_some_iff.1 h1).1
        rw [lst_of_listedOf (by rw [M.size]; exact hil)] at h2
        have hin : i < n := by
          refine Nat.lt_of_not_le fun hge => ?_
          have := mask_listed h1 M.closed h3 (f.tail q i (by omega) hge hil)
          rw [hq2] at this; simp at this
        have hset := unl_set (listed_false (by rw [M.size]; exact hil) h2)
        exact M.step hC t f hin h1 h2 h3 Q _ (fun κ' w' a' M' => ih _ κ' w' a' M' (by omega))

theorem drawn_sound (hC : Sound P C) {id : Nat} {Q : Exit → Act → World → Prop} {env : Env} {m : Hp} {env' : Env} {m' : Hp} {κ : Ctx} {w : World} {a : Act} (h : drawOk ops n = true) (hm : P.follows .mixedOrders = true)
    (e : evalDrawn P C ops n env m = some (env', m')) (k : Mem κ w.heap m) (re : EnvOk κ w.heap env a) (hQ : ∀ κ' w' a', Ext κ w m κ' w' m' → EnvOk κ' w'.heap env' a' → Q .normal a' w') :
    (Code.region id ops.toArray true).wp P Q a w := by
  have f := drawFacts h
  unfold evalDrawn at e
  split at e
  · rename_i env1 H1 h1
    obtain ⟨σ, val, h2, h3, h4⟩ := dr_trace h1
    have hlen : (ops.take n).length = n := by rw [List.length_take]; exact Nat.min_eq_left f.le
    rw [hlen] at h3
    have t : Trace P C ops n σ val := ⟨fun j o hj ho => h4 j o (by rw [List.getElem?_take_of_lt hj]; exact ho), f.le⟩
    obtain ⟨cs, hcs⟩ := t.heap (i := 0) n (by omega) (Nat.le_refl _)
    rw [h2] at hcs
    have hmem : Mem κ w.heap { m with H := (σ n).2 } := by
      rw [hcs]; exact mem_keep k cs
    refine wp_region_any hm (mid_sound hC t f (κ0 := κ) (h0 := w) (m := m) (by rw [h3]; exact e) hQ _ _ κ _ a ?_ ?_)
    · have hrep : ∀ i, listedOf (Array.replicate ops.toArray.size false) i = false := fun i => by
        unfold listedOf; simp [Array.getD]
      refine ⟨by rw [h2], by simp, fun j o _ hl => by rw [hrep] at hl; simp at hl, fun j _ _ => hrep j, ⟨Le.refl _ _, hmem, by rw [hcs]; simp, fun _ _ hb => hb, rfl, ⟨rfl, Nat.le_refl _⟩⟩, re.1, by rw [h2]; exact re.2.1, fun j o hj ho _ _ => ?_, fun i o d x _ _ hl => by rw [hrep] at hl; simp at hl,
        fun d v x _ hv hx => re.2.2 d v x (by rw [h2] at hv; exact hv) hx⟩
      obtain ⟨ds, hds⟩ := t.heap (i := 0) j (by omega) (by omega)
      refine mem_none k ?_
      rw [hds, h2]; simp
    · unfold unl
      simp [List.count_replicate]
  · simp at e

end
end Go.Fbs

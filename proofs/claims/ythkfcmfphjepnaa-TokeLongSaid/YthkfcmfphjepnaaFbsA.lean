/- Abstract values, and what it means that a value of the machine reads as one: a slice is the list of its elements. -/
import Derived.Calls
import Derived.Tactics
import Derived.Orders
import Derived.RowKit3
set_option linter.unusedVariables false
set_option linter.unusedSimpArgs false
namespace Go.Fbs

/-- What is known of a slice's room behind its end. -/
inductive Tag where
  | ro
  | full
  | own (i : Nat)
  deriving DecidableEq, Inhabited

/-- An abstract value. -/
inductive V where
  | bool (b : Bool)
  | int (k : IntKind) (n : Int)
  | str (s : List UInt8)
  | ptr (l off : Nat)
  | ro (cs : List V)
  | nilp
  | sl (g : Tag) (es : List V)
  | map (l : Option Nat)
  | func (f : Nat) (caps : List V)
  | agg (cs : List V)
  | tup (vs : List V)
  | undef
  | any
  deriving Inhabited

/-- The cells that a value takes in memory. -/
def V.cells : V → List V
  | .agg cs => cs
  | v => [v]

/-- What is known of a slice's room is forgotten. -/
def V.er1 : V → V
  | .sl (.own _) es => .sl .ro es
  | v => v

/-- The same, of a struct's cells, of several results. -/
def V.er : V → V
  | .agg cs => .agg (cs.map V.er1)
  | .tup vs => .tup (vs.map V.er1)
  | v => v.er1

/-- A value that may lie in cells. -/
def V.ok1 : V → Bool
  | .undef | .any | .tup _ => false
  | _ => true

def flat (es : List V) : List V := es.flatMap V.cells

/-- A place that grows by append: its block, its room, an element's cells, how many elements are taken. -/
structure Lease where
  blk : Nat
  cap : Nat
  sz : Nat
  n : Nat

/-- The ghost of a run: how far each block is sealed; the boxes' blocks; the leases. -/
structure Ctx where
  hw : Nat → Nat
  box : Nat → Option Nat
  lease : List Lease

abbrev Heap := Array Obj

def hcell (h : Heap) (b i : Nat) : Option Value :=
  match h[b]? with
  | some (.cells c _ _) => c[i]?
  | _ => none

theorem cell?_eq (w : World) (b i : Nat) : w.cell? ⟨b, i, none⟩ = hcell w.heap b i := by
  unfold World.cell? hcell
  cases h : w.heap[b]? with
  | none => simp
  | some o => cases o <;> simp

def boxed (κ : Ctx) (b : Nat) : Prop := ∃ l, κ.box l = some b

def owned (κ : Ctx) (b : Nat) : Prop := boxed κ b ∨ ∃ L ∈ κ.lease, L.blk = b

/-- The cells 'xs' stand from off on in block b, sealed. -/
def Block (κ : Ctx) (h : Heap) (b off : Nat) (xs : List Value) : Prop :=
  ∀ (i : Nat) x, xs[i]? = some x → off + i < κ.hw b ∧ hcell h b (off + i) = some x ∧ x.oneCell' = true

def TagOk (κ : Ctx) (g : Tag) (n b off cap sz : Nat) : Prop :=
  match g with
  | .ro => True
  | .full => cap = n
  | .own i => ∃ L, κ.lease[i]? = some L ∧ n ≤ L.n ∧ (n = L.n → b = L.blk ∧ off = 0 ∧ cap = L.cap ∧ sz = L.sz)

inductive Rep (κ : Ctx) (h : Heap) : V → Value → Prop
  | bool (b : Bool) : Rep κ h (.bool b) (.bool b)
  | int (k : IntKind) (n : Int) : Rep κ h (.int k n) (.int k n)
  | str (s : List UInt8) : Rep κ h (.str s) (.string ⟨⟨s⟩⟩)
  | ptr (l off b : Nat) (hb : κ.box l = some b) : Rep κ h (.ptr l off) (.pointer (some ⟨b, off, none⟩))
  | ro (cs : List V) (b off : Nat) (xs : List Value) (hx : Block κ h b off xs) (hl : xs.length = cs.length)
      (hr : ∀ (i : Nat) c x, cs[i]? = some c → xs[i]? = some x → Rep κ h c x) : Rep κ h (.ro cs) (.pointer (some ⟨b, off, none⟩))
  | nilp : Rep κ h .nilp (.pointer none)
  | slnil (g : Tag) (hg : ∀ i, g ≠ .own i) : Rep κ h (.sl g []) (.slice none 0 0)
  | sl (g : Tag) (es : List V) (b off cap sz : Nat) (xs : List Value) (hx : Block κ h b off xs) (hu : ∀ e ∈ es, e.cells.length = sz)
      (hl : xs.length = (flat es).length) (hr : ∀ (i : Nat) c x, (flat es)[i]? = some c → xs[i]? = some x → Rep κ h c x) (hc : es.length ≤ cap)
      (ht : TagOk κ g es.length b off cap sz) : Rep κ h (.sl g es) (.slice (some ⟨b, off, none⟩) es.length cap)
  | mapnil : Rep κ h (.map none) (.map none)
  | map (l b : Nat) (hb : κ.box l = some b) : Rep κ h (.map (some l)) (.map (some b))
  | func (f : Nat) (caps : List V) (xs : List Value) (hl : xs.length = caps.length)
      (hr : ∀ (i : Nat) c x, caps[i]? = some c → xs[i]? = some x → Rep κ h c x) : Rep κ h (.func f caps) (.func (.func f) #[] ⟨xs⟩)
  | agg (cs : List V) (xs : List Value) (hl : xs.length = cs.length) (ho : ∀ x ∈ xs, x.oneCell' = true)
      (hr : ∀ (i : Nat) c x, cs[i]? = some c → xs[i]? = some x → Rep κ h c x) : Rep κ h (.agg cs) (.agg ⟨xs⟩)
  | tup (cs : List V) (xs : List Value) (hl : xs.length = cs.length)
      (hr : ∀ (i : Nat) c x, cs[i]? = some c → xs[i]? = some x → Rep κ h c x) : Rep κ h (.tup cs) (.tuple ⟨xs⟩)
  | undef : Rep κ h .undef Go.undef
  | any (x : Value) : Rep κ h .any x

/-- Lists, element by element. -/
def Reps (κ : Ctx) (h : Heap) (cs : List V) (xs : List Value) : Prop :=
  xs.length = cs.length ∧ ∀ (i : Nat) c x, cs[i]? = some c → xs[i]? = some x → Rep κ h c x

/-- How a run may go on: what is not owned stands; what is sealed stands; boxes and leases stay, new ones are in new memory. -/
structure Le (κ : Ctx) (h : Heap) (κ' : Ctx) (h' : Heap) : Prop where
  size : h.size ≤ h'.size
  same : ∀ b, b < h.size → ¬ owned κ b → h'[b]? = h[b]?
  hwsame : ∀ b, b < h.size → ¬ owned κ b → κ'.hw b = κ.hw b
  sealed : ∀ b i x, i < κ.hw b → hcell h b i = some x → hcell h' b i = some x
  hw : ∀ b, κ.hw b ≤ κ'.hw b
  box : ∀ (l b : Nat), κ.box l = some b → κ'.box l = some b
  newbox : ∀ b, boxed κ' b → boxed κ b ∨ h.size ≤ b
  lease : ∀ (i : Nat) (L : Lease), κ.lease[i]? = some L → ∃ L', κ'.lease[i]? = some L' ∧ (L' = L ∨ L.n < L'.n)
  newlease : ∀ L' ∈ κ'.lease, (∃ L ∈ κ.lease, L.blk = L'.blk) ∨ h.size ≤ L'.blk

theorem Le.refl (κ : Ctx) (h : Heap) : Le κ h κ h :=
  ⟨Nat.le_refl _, fun _ _ _ => rfl, fun _ _ _ => rfl, fun _ _ _ _ h => h, fun _ => Nat.le_refl _, fun _ _ h => h, fun _ h => .inl h,
    fun _ L h => ⟨L, h, .inl rfl⟩, fun L h => .inl ⟨L, h, rfl⟩⟩

theorem Le.owned {κ κ' : Ctx} {h h' : Heap} (l : Le κ h κ' h') {b : Nat} (hb : b < h.size) (ho : ¬ owned κ b) : ¬ Fbs.owned κ' b := by
  rintro (h1 | ⟨L, h1, rfl⟩)
  · rcases l.newbox b h1 with h2 | h2
    · exact ho (.inl h2)
    · omega
  · rcases l.newlease L h1 with ⟨L0, h2, h3⟩ | h2
    · exact ho (.inr ⟨L0, h2, h3⟩)
    · omega

theorem Le.trans {κ κ' κ'' : Ctx} {h h' h'' : Heap} (a : Le κ h κ' h') (b : Le κ' h' κ'' h'') : Le κ h κ'' h'' where
  size := Nat.le_trans a.size b.size
  same i hi ho := by rw [b.same i (Nat.lt_of_lt_of_le hi a.size) (a.owned hi ho), a.same i hi ho]
  hwsame i hi ho := by rw [b.hwsame i (Nat.lt_of_lt_of_le hi a.size) (a.owned hi ho), a.hwsame i hi ho]
  sealed bl i x hi hc := b.sealed bl i x (Nat.lt_of_lt_of_le hi (a.hw bl)) (a.sealed bl i x hi hc)
  hw i := Nat.le_trans (a.hw i) (b.hw i)
  box l bl hb := b.box l bl (a.box l bl hb)
  newbox bl hb := by
    rcases b.newbox bl hb with h1 | h1
    · exact a.newbox bl h1
    · exact .inr (Nat.le_trans a.size h1)
  lease i L hL := by
    obtain ⟨L', h1, h2⟩ := a.lease i L hL
    obtain ⟨L'', h3, h4⟩ := b.lease i L' h1
    refine ⟨L'', h3, ?_⟩
    rcases h2 with rfl | h2 <;> rcases h4 with rfl | h4
    · exact .inl rfl
    · exact .inr h4
    · exact .inr h2
    · exact .inr (Nat.lt_trans h2 h4)
  newlease L hL := by
    rcases b.newlease L hL with ⟨L1, h1, h2⟩ | h1
    · rcases a.newlease L1 h1 with ⟨L0, h3, h4⟩ | h3
      · exact .inl ⟨L0, h3, by rw [h4, h2]⟩
      · exact .inr (by omega)
    · exact .inr (Nat.le_trans a.size h1)

/-- The boxes stay as they are. -/
structure LeB (κ : Ctx) (h : Heap) (κ' : Ctx) (h' : Heap) : Prop extends Le κ h κ' h' where
  same_box : κ'.box = κ.box

instance {κ κ' : Ctx} {h h' : Heap} : CoeOut (LeB κ h κ' h') (Le κ h κ' h') := ⟨LeB.toLe⟩

theorem LeB.refl (κ : Ctx) (h : Heap) : LeB κ h κ h := ⟨Le.refl κ h, rfl⟩

theorem Block.mono {κ κ' : Ctx} {h h' : Heap} (l : Le κ h κ' h') {b off : Nat} {xs : List Value} (hb : Block κ h b off xs) : Block κ' h' b off xs :=
  fun i x hx => let ⟨h1, h2, h3⟩ := hb i x hx; ⟨Nat.lt_of_lt_of_le h1 (l.hw b), l.sealed b _ x h1 h2, h3⟩

theorem TagOk.mono {κ κ' : Ctx} {h h' : Heap} (l : Le κ h κ' h') {g : Tag} {n b off cap sz : Nat} (ht : TagOk κ g n b off cap sz) : TagOk κ' g n b off cap sz := by
  cases g with
  | ro => trivial
  | full => exact ht
  | own i =>
    obtain ⟨L, h1, h2, h3⟩ := ht
    obtain ⟨L', h4, h5⟩ := l.lease i L h1
    refine ⟨L', h4, ?_⟩
    rcases h5 with rfl | h5
    · exact ⟨h2, h3⟩
    · exact ⟨by omega, fun hn => by omega⟩

theorem Rep.mono {κ κ' : Ctx} {h h' : Heap} (l : Le κ h κ' h') {v : V} {x : Value} (r : Rep κ h v x) : Rep κ' h' v x := by
  induction r with
  | bool b => exact .bool b
  | int k n => exact .int k n
  | str s => exact .str s
  | ptr i off b hb => exact .ptr i off b (l.box i b hb)
  | ro cs b off xs hx hl _ ih => exact .ro cs b off xs (hx.mono l) hl ih
  | nilp => exact .nilp
  | slnil g hg => exact .slnil g hg
  | sl g es b off cap sz xs hx hu hl _ hc ht ih => exact .sl g es b off cap sz xs (hx.mono l) hu hl ih hc (ht.mono l)
  | mapnil => exact .mapnil
  | map i b hb => exact .map i b (l.box i b hb)
  | func f caps xs hl _ ih => exact .func f caps xs hl ih
  | agg cs xs hl ho _ ih => exact .agg cs xs hl ho ih
  | tup cs xs hl _ ih => exact .tup cs xs hl ih
  | undef => exact .undef
  | any x => exact .any x

theorem Reps.mono {κ κ' : Ctx} {h h' : Heap} (l : Le κ h κ' h') {cs : List V} {xs : List Value} (r : Reps κ h cs xs) : Reps κ' h' cs xs :=
  ⟨r.1, fun i c x h1 h2 => (r.2 i c x h1 h2).mono l⟩

/-- What holds of the ghost at each moment. -/
structure Ok (κ : Ctx) (h : Heap) : Prop where
  boxlt : ∀ b, boxed κ b → b < h.size
  boxhw : ∀ b, boxed κ b → κ.hw b = 0
  boxnd : ∀ (i j b : Nat), κ.box i = some b → κ.box j = some b → i = j
  lblt : ∀ L ∈ κ.lease, L.blk < h.size
  lhw : ∀ L ∈ κ.lease, κ.hw L.blk = L.n * L.sz
  lnd : ∀ (i j : Nat) (L L' : Lease), κ.lease[i]? = some L → κ.lease[j]? = some L' → L.blk = L'.blk → i = j
  lbox : ∀ L ∈ κ.lease, ¬ boxed κ L.blk
  lcells : ∀ L ∈ κ.lease, ∃ c E, h[L.blk]? = some (.cells c E (0, 0)) ∧ L.cap * L.sz ≤ c.size ∧ L.n ≤ L.cap
  fresh : ∀ b, h.size ≤ b → κ.hw b = 0

/-- What a box holds: cells, or a map's entries. -/
inductive LO where
  | cells (cs : List V)
  | map (es : List (V × V))
  deriving Inhabited

/-- An object of the machine's memory is such a box. -/
def ORep (κ : Ctx) (h : Heap) : LO → Obj → Prop
  | .cells cs, o => ∃ xs E, o = .cells ⟨xs⟩ E (0, 0) ∧ Reps κ h cs xs ∧ ∀ x ∈ xs, x.oneCell' = true
  | .map es, o => ∃ (en : List MapEntry) (clock : Nat), o = .map ⟨en⟩ clock ∧ Reps κ h (es.map (·.1)) (en.map (·.key)) ∧ Reps κ h (es.map (·.2)) (en.map (·.val)) ∧ ∀ e ∈ en, e.born < clock

/-- The boxes' contents. -/
def HeapOk (κ : Ctx) (h : Heap) (H : List LO) : Prop :=
  (∀ l b, κ.box l = some b → l < H.length) ∧ ∀ (l b : Nat) c, κ.box l = some b → H[l]? = some c → ∃ o, h[b]? = some o ∧ ORep κ h c o

/-- The abstract memory: boxes; of each lease how many elements are taken, and an element's cells. -/
structure Hp where
  H : List LO
  T : List (Nat × Nat)

def Mem (κ : Ctx) (h : Heap) (m : Hp) : Prop := Ok κ h ∧ HeapOk κ h m.H ∧ κ.lease.map (fun L => (L.n, L.sz)) = m.T

/-- The output, and what is sealed for good, are kept. -/
structure Kept (w w' : World) : Prop where
  output : w'.output = w.output
  frozen : ∀ a, w'.frozen? a = w.frozen? a
theorem Kept.refl (w : World) : Kept w w := ⟨rfl, fun _ => rfl⟩
theorem Kept.trans {w w' w'' : World} (a : Kept w w') (b : Kept w' w'') : Kept w w'' := ⟨b.output.trans a.output, fun x => (b.frozen x).trans (a.frozen x)⟩
theorem kept_alloc (w : World) (c : Array Value) (t : TypeId) : Kept w (w.alloc (.cells c t)) := ⟨rfl, Go.RowKit.frozen?_alloc_cells w c t⟩
theorem kept_drew_alloc (w : World) (c : Array Value) (t : TypeId) : Kept w (w.drew.alloc (.cells c t)) := ⟨rfl, fun a => Go.RowKit.frozen?_alloc_cells w.drew c t a⟩
theorem kept_push (w : World) (c : Array Value) (t : TypeId) : Kept w { w with heap := w.heap.push (.cells c t (0, 0)) } := kept_alloc w c t

/-- The memory goes on from m to m'; places that are kept for boxes stay kept; nothing is said outside. -/
structure Ext (κ : Ctx) (w : World) (m : Hp) (κ' : Ctx) (w' : World) (m' : Hp) : Prop where
  le : Le κ w.heap κ' w'.heap
  mem : Mem κ' w'.heap m'
  grow : m.H.length ≤ m'.H.length
  hole : ∀ l, l < m.H.length → κ.box l = none → κ'.box l = none
  os : w'.os = w.os
  out : Kept w w'

theorem Ext.refl {κ : Ctx} {w : World} {m : Hp} (k : Mem κ w.heap m) : Ext κ w m κ w m := ⟨Le.refl _ _, k, Nat.le_refl _, fun _ _ e => e, rfl, Kept.refl _⟩

theorem Ext.trans {κ κ' κ'' : Ctx} {h h' h'' : World} {m m' m'' : Hp} (a : Ext κ h m κ' h' m') (b : Ext κ' h' m' κ'' h'' m'') : Ext κ h m κ'' h'' m'' :=
  ⟨a.le.trans b.le, b.mem, Nat.le_trans a.grow b.grow, fun l hl e => b.hole l (Nat.lt_of_lt_of_le hl a.grow) (a.hole l hl e), b.os.trans a.os, a.out.trans b.out⟩

/-- As LeB, of worlds. -/
structure LeW (κ : Ctx) (w : World) (κ' : Ctx) (w' : World) : Prop where
  leB : LeB κ w.heap κ' w'.heap
  os : w'.os = w.os
  out : Kept w w'

theorem LeW.ext {κ κ' : Ctx} {h h' : World} {m m' : Hp} (l : LeW κ h κ' h') (k : Mem κ' h'.heap m') (hl : m.H.length ≤ m'.H.length) : Ext κ h m κ' h' m' :=
  ⟨l.leB.toLe, k, hl, fun i _ e => by rw [l.leB.same_box]; exact e, l.os, l.out⟩

/-- A frame's slots: how many, and what they hold. -/
structure Env where
  n : Nat
  f : Nat → V

def Env.get (e : Env) (t : Nat) : Option V := if t < e.n then some (e.f t) else none

def Env.put (e : Env) (d : Nat) (v : V) : Env := ⟨e.n, fun i => bif Nat.beq i d then v else e.f i⟩

theorem Env.put_f (e : Env) (d : Nat) (v : V) (i : Nat) : (e.put d v).f i = if i = d then v else e.f i := by
  simp only [Env.put]
  by_cases h : i = d
  · subst h; simp
  · have : Nat.beq i d = false := by
      cases hb : Nat.beq i d with
      | false => rfl
      | true => exact absurd (Nat.eq_of_beq_eq_true hb) h
    rw [this, if_neg h]; rfl

theorem Env.get_put (e : Env) (d : Nat) (v : V) (i : Nat) : (e.put d v).get i = if d = i then (if i < e.n then some v else none) else e.get i := by
  unfold Env.get
  rw [Env.put_f]
  show (if i < e.n then _ else _) = _
  by_cases h : d = i
  · subst h; simp
  · have : ¬ i = d := fun e => h e.symm
    simp [h, this]

theorem Env.get_lt {e : Env} {t : Nat} {v : V} (h : e.get t = some v) : t < e.n := by
  unfold Env.get at h
  split at h
  · assumption
  · simp at h

/-- The abstract state of a frame. -/
structure St where
  env : Env
  m : Hp

def EnvOk (κ : Ctx) (h : Heap) (env : Env) (a : Act) : Prop :=
  a.defers = [] ∧ a.tmps.size = env.n ∧ ∀ (i : Nat) v x, env.get i = some v → a.tmps[i]? = some x → Rep κ h v x

def Real (κ : Ctx) (h : Heap) (s : St) (a : Act) : Prop := Mem κ h s.m ∧ EnvOk κ h s.env a

theorem EnvOk.mono {κ κ' : Ctx} {h h' : Heap} (l : Le κ h κ' h') {env : Env} {a : Act} (r : EnvOk κ h env a) : EnvOk κ' h' env a :=
  ⟨r.1, r.2.1, fun i v x h1 h2 => (r.2.2 i v x h1 h2).mono l⟩

theorem EnvOk.put {κ : Ctx} {h : Heap} {env : Env} {a : Act} (r : EnvOk κ h env a) {dst : Option Tmp} {v : V} {x : Value} (hv : Rep κ h v x) :
    EnvOk κ h (match dst with | some d => env.put d v | none => env) (a.put dst x) := by
  cases dst with
  | none => exact r
  | some d =>
    refine ⟨r.1, by simp [Act.put, r.2.1, Env.put], fun i u y h1 h2 => ?_⟩
    simp only [Act.put] at h2
    simp only [Env.get_put] at h1
    by_cases hd : d = i
    · subst hd
      rw [if_pos rfl] at h1
      rw [Array.getElem?_setIfInBounds, if_pos rfl] at h2
      split at h1 <;> split at h2 <;> simp_all
    · rw [if_neg hd] at h1
      rw [Array.getElem?_setIfInBounds_ne hd] at h2
      exact r.2.2 i u y h1 h2

end Go.Fbs

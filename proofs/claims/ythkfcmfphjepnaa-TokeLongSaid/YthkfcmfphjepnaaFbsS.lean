/- The small functions without a program: what a type's number says is written in. -/
import Derived.Test.YthkfcmfphjepnaaFbsR
set_option linter.unusedVariables false
set_option linter.unusedSimpArgs false
namespace Go.Fbs

def lenS : V → Option V
  | .str s => some (.int .i64 s.length)
  | _ => none
def lenL : V → Option V
  | .sl _ es => some (.int .i64 es.length)
  | _ => none
def loadT' (a : Bool) (n : Nat) (cs : List V) : Option V := if a then (if n ≤ cs.length then some (.agg (cs.take n)) else none) else cs[0]?
def partT' (a : Bool) (n : Nat) (cs : List V) (off : Nat) : Option V := if a then (if off + n ≤ cs.length then some (.agg ((cs.drop off).take n)) else none) else cs[off]?
def loadK (a : Bool) (n : Nat) (H : List LO) (x : V) : Option V :=
  match x with
  | .ptr l off =>
    match H[l]? with
    | some (.cells cs) => loadT' a n (cs.drop off)
    | _ => none
  | .ro cs => loadT' a n cs
  | _ => none
def storeK (n : Nat) (x y : V) (m : Hp) : Option (V × Hp) :=
  match x with
  | .ptr l off =>
    match m.H[l]? with
    | some (.cells cs) => if y.ok1 = true ∧ y.cells.length = n ∧ off + n ≤ cs.length then some (.undef, { m with H := m.H.set l (.cells (splice cs y.cells off)) }) else none
    | _ => none
  | _ => none
def buildK (pl : List (Nat × Nat)) (z : List V) (ps : List (Nat × V)) : Option V := if partsOk ps then (fillV (fun i => pl[i]?) z ps).map V.agg else none
def buildAK (n : Nat) (z : List V) (ps : List (Nat × V)) : Option V := if partsOk ps then (fillV (fun i => some (i * n, n)) z ps).map V.agg else none
def buildSliceK (n : Nat) (len : Nat) (ps : List (Nat × V)) : Option V :=
  if partsOk ps then
    match elemsV 0 ps with
    | some es => if es.length = len ∧ len * n ≤ 1000000 ∧ es.all (fun e => e.cells.length == n) = true then some (.sl .full (es.map V.er)) else none
    | none => none
  else none
def sliceS (x : V) (lo hi : Option V) : Option V :=
  match x with
  | .str s =>
    match boundV hi s.length s.length with
    | some h =>
      match boundV lo 0 h with
      | some l => some (.str ((s.take h).drop l))
      | none => none
    | none => none
  | _ => none
def sliceL (n : Nat) (x : V) (lo hi : Option V) : Option V :=
  match x with
  | .sl g es =>
    match boundV hi es.length es.length with
    | some h =>
      match boundV lo 0 h with
      | some l => if es.all (fun e => e.cells.length == n) = true then some (.sl (sliceTag g l hi.isSome) ((es.take h).drop l)) else none
      | none => none
    | none => none
  | _ => none
def indexS (x i : V) : Option V :=
  match x, i with
  | .str s, .int _ n => if 0 ≤ n then s[n.toNat]?.map fun b => .int .u8 b.toNat else none
  | _, _ => none
def indexA (len : Nat) (a : Bool) (sz : Nat) (x i : V) : Option V :=
  match x, i with
  | .agg cs, .int _ n => if 0 ≤ n ∧ n < len then partT' a sz cs (n.toNat * sz) else none
  | _, _ => none
def fieldAddrK (off : Nat) (x : V) : Option V :=
  match x with
  | .ptr l o => some (.ptr l (o + off))
  | .ro cs => some (.ro (cs.drop off))
  | _ => none
def fieldK (a : Bool) (n off : Nat) (x : V) : Option V :=
  match x with
  | .agg cs => partT' a n cs off
  | _ => none
def indexAddrL (sz : Nat) (x i : V) : Option V :=
  match x, i with
  | .sl _ es, .int _ n => if 0 ≤ n then (es[n.toNat]?).bind fun e => if e.cells.length = sz then some (.ro e.cells) else none else none
  | _, _ => none
def indexAddrA (len sz : Nat) (x i : V) : Option V :=
  match x, i with
  | .ptr l off, .int _ n => if 0 ≤ n ∧ n < len ∧ 1 < len then some (.ptr l (off + n.toNat * sz)) else none
  | _, _ => none
def convI (k : IntKind) (x : V) : Option V :=
  match x with
  | .int _ n => some (.int k (k.wrap n))
  | _ => none
def convSS (x : V) : Option V :=
  match x with
  | .str s => some (.str s)
  | _ => none
def convBS (x : V) : Option V :=
  match x with
  | .sl _ es => (es.mapM (fun (v : V) => match v with | .int .u8 n => some (UInt8.ofNat n.toNat) | _ => none)).map V.str
  | _ => none
def convSB (x : V) : Option V :=
  match x with
  | .str s => some (.sl .ro (s.map fun b => .int .u8 b.toNat))
  | _ => none
def makeSliceK (sz : Nat) (z : V) (by_ : Nat) (l c : V) (m : Hp) : Option (V × Hp) :=
  match l, c with
  | .int _ n, .int _ k =>
    if 0 ≤ n ∧ n ≤ k ∧ k ≤ 9223372036854775807 ∧ by_ * k ≤ 140737488355328 then
      if n = k then some (.sl .full (List.replicate n.toNat z), m)
      else some (.sl (.own m.T.length) (List.replicate n.toNat z), { m with T := m.T ++ [(n.toNat, sz)] })
    else none
  | _, _ => none
def appendT (sz by_ : Nat) (x : V) (ys : List V) (m : Hp) : Option (V × Hp) :=
  match x with
  | .sl g es =>
    if (es.length + ys.length) * (by_ + 1) ≤ 70368744177664 ∧ es.all (fun e => e.cells.length == sz) = true ∧ ys.all (fun e => e.cells.length == sz) = true then
      if ys = [] then some (.sl g es, m) else
      match g with
      | .full => some (.sl (.own m.T.length) (es ++ ys), { m with T := m.T ++ [(es.length + ys.length, sz)] })
      | .own i => if m.T[i]? = some (es.length, sz) then some (.sl (.own i) (es ++ ys), { m with T := m.T.set i (es.length + ys.length, sz) }) else none
      | .ro => none
    else none
  | _ => none
def appendK (sz by_ : Nat) (x y : V) (m : Hp) : Option (V × Hp) :=
  match y with
  | .sl _ ys => appendT sz by_ x ys m
  | _ => none
def appendSK (by_ : Nat) (x y : V) (m : Hp) : Option (V × Hp) :=
  match y with
  | .str s => appendT 1 by_ x (s.map fun b => .int .u8 b.toNat) m
  | _ => none

section
variable {P : Program}

theorem loadT_K {t : TypeId} {a : Bool} {n : Nat} (ha : aggT P t = some a) (hn : szT P t = some n) (cs : List V) : loadT P t cs = loadT' a n cs := by
  unfold loadT loadT'
  rw [ha, hn]
  cases a <;> rfl
theorem partT_K {t : TypeId} {a : Bool} {n : Nat} (ha : aggT P t = some a) (hn : szT P t = some n) (cs : List V) (off : Nat) : partT P t cs off = partT' a n cs off := by
  unfold partT partT'
  rw [ha, hn]
  cases a <;> rfl
theorem load_K {t : TypeId} {a : Bool} {n : Nat} (ha : aggT P t = some a) (hn : szT P t = some n) (H : List LO) (x : V) : loadV P t H x = loadK a n H x := by
  unfold loadV loadK
  simp only [loadT_K ha hn]
  cases x with
  | ptr l off => simp only; cases H[l]? with
    | none => rfl
    | some o => cases o <;> rfl
  | _ => rfl
theorem store_K {t : TypeId} {n : Nat} (hn : szT P t = some n) (x y : V) (m : Hp) : storeV P t x y m = storeK n x y m := by
  unfold storeV storeK
  rw [hn]
  cases x <;> rfl
theorem lenS_K {t : TypeId} (hu : P.underlying t = some .string) (x : V) : builtinQ P .len [t] [x] = lenS x := by
  unfold builtinQ lenS
  simp only [hu]
  cases x <;> rfl
theorem lenL_K {t e : TypeId} (hu : P.underlying t = some (.slice e)) (x : V) : builtinQ P .len [t] [x] = lenL x := by
  unfold builtinQ lenL
  simp only [hu]
  cases x <;> rfl
theorem build_K {t : TypeId} {fs : Array Field} {z : V} {pl : List (Nat × Nat)} {zc : List V} (hu : P.underlying t = some (.struct fs)) (hz : zeroT P t = some z) (hc : z.cells = zc) (hp : placesT P fs.toList = some pl) (ps : List (Nat × V)) :
    buildQ P t ps = buildK pl zc ps := by
  unfold buildQ buildK buildV
  simp only [hu, hz, hp, hc]
theorem buildA_K {t e : TypeId} {len n : Nat} {z : V} {zc : List V} (hu : P.underlying t = some (.array len e)) (hz : zeroT P t = some z) (hc : z.cells = zc) (hn : szT P e = some n) (ps : List (Nat × V)) :
    buildQ P t ps = buildAK n zc ps := by
  unfold buildQ buildAK buildV
  simp only [hu, hz, hn, hc]
theorem buildSlice_K {t e : TypeId} {n : Nat} {z : V} (hu : P.underlying t = some (.slice e)) (hn : szT P e = some n) (hz : zeroT P e = some z) (hc : z.cells.length = n) (hpos : 0 < n) (len : Nat) (ps : List (Nat × V)) :
    buildSliceQ P t len ps = buildSliceK n len ps := by
  unfold buildSliceQ buildSliceK buildSliceV
  simp only [hu, hz, hn]
  cases elemsV 0 ps with
  | none => rfl
  | some es => simp only [hc, hpos, true_and]
theorem sliceS_K {t : TypeId} (hu : P.underlying t = some .string) (x : V) (lo hi : Option V) : sliceV P t x lo hi = sliceS x lo hi := by
  unfold sliceV sliceS
  simp only [hu]
  cases x <;> rfl
theorem sliceL_K {t e : TypeId} {n : Nat} (hu : P.underlying t = some (.slice e)) (hn : szT P e = some n) (hpos : 0 < n) (x : V) (lo hi : Option V) : sliceV P t x lo hi = sliceL n x lo hi := by
  unfold sliceV sliceL
  simp only [hu, hn, hpos, true_and]
  cases x <;> try rfl
  rename_i g es
  simp only [hn]
  cases boundV hi es.length es.length <;> first | rfl | (simp only [hpos, true_and]; done) | (simp only [hpos, true_and]; rfl)
theorem indexS_K {t : TypeId} (hu : P.underlying t = some .string) (x i : V) : indexV P t x i = indexS x i := by
  unfold indexV indexS
  simp only [hu]
  cases x <;> cases i <;> rfl
theorem indexA_K {t e : TypeId} {len n : Nat} {a : Bool} (hu : P.underlying t = some (.array len e)) (ha : aggT P e = some a) (hn : szT P e = some n) (x i : V) : indexV P t x i = indexA len a n x i := by
  unfold indexV indexA
  simp only [hu, hn, partT_K ha hn]
  cases x <;> cases i <;> first | rfl | (simp only [hn, partT_K ha hn]; done) | (simp only [hn, partT_K ha hn]; rfl)
theorem fieldAddr_K {s : TypeId} {fs : Array Field} {f n off : Nat} {fd : Field} (hu : P.underlying s = some (.struct fs)) (hf : fs[f]? = some fd) (hn : szT P fd.type = some (n + 1)) (ho : fd.offset = off) (x : V) : fieldAddrV P s x f = fieldAddrK off x := by
  unfold fieldAddrV fieldAddrK
  simp only [hu, hf, hn, ho]
  cases x <;> first | rfl | (simp only [hf, hn, ho]; done) | (simp only [hf, hn, ho]; rfl)
theorem field_K {s : TypeId} {fs : Array Field} {f n off : Nat} {a : Bool} {fd : Field} (hu : P.underlying s = some (.struct fs)) (hf : fs[f]? = some fd) (ha : aggT P fd.type = some a) (hn : szT P fd.type = some n) (ho : fd.offset = off) (x : V) : fieldV P s x f = fieldK a n off x := by
  unfold fieldV fieldK
  simp only [hu, hf, partT_K ha hn, ho]
  cases x <;> first | rfl | (simp only [hf, partT_K ha hn, ho]; done) | (simp only [hf, partT_K ha hn, ho]; rfl)
theorem indexAddrL_K {t e : TypeId} {n : Nat} (hu : P.underlying t = some (.slice e)) (hn : szT P e = some (n + 1)) (x i : V) : indexAddrV P t x i = indexAddrL (n + 1) x i := by
  unfold indexAddrV indexAddrL
  simp only [hu, hn]
  cases x <;> cases i <;> first | rfl | (simp only [hn]; done) | (simp only [hn]; rfl)
theorem indexAddrA_K {t e : TypeId} {len n : Nat} (hu : P.underlying t = some (.array len e)) (hn : szT P e = some n) (x i : V) : indexAddrV P t x i = indexAddrA len n x i := by
  unfold indexAddrV indexAddrA
  simp only [hu, hn]
  cases x <;> cases i <;> first | rfl | (simp only [hn]; done) | (simp only [hn]; rfl)
theorem convI_K {s d : TypeId} {k k' : IntKind} (hs : P.underlying s = some (.int k')) (hd : P.underlying d = some (.int k)) (x : V) : convQ P s d x = convI k x := by
  unfold convQ convI bytesV convertV
  simp only [hs, hd]
  cases x <;> rfl
theorem convSS_K {s d : TypeId} (hs : P.underlying s = some .string) (hd : P.underlying d = some .string) (x : V) : convQ P s d x = convSS x := by
  unfold convQ convSS bytesV convertV
  simp only [hs, hd]
  cases x <;> rfl
theorem convBS_K {s d e : TypeId} (hs : P.underlying s = some (.slice e)) (he : P.underlying e = some (.int .u8)) (hd : P.underlying d = some .string) (x : V) : convQ P s d x = convBS x := by
  unfold convQ convBS bytesV convertV
  simp only [hs, hd, he]
  cases x <;> try rfl
  rename_i g es
  simp only
  cases es.mapM (fun (v : V) => match v with | .int .u8 n => some (UInt8.ofNat n.toNat) | _ => none) <;> (simp only [he]; rfl)
theorem makeSlice_K {t e : TypeId} {n by_ : Nat} {z : V} (hu : P.underlying t = some (.slice e)) (hn : szT P e = some n) (hz : zeroT P e = some z) (hb : bytesT P e = some by_) (hc : z.cells.length = n) (hpos : 0 < n) (l c : V) (m : Hp) :
    makeSliceV P t l c m = makeSliceK n z by_ l c m := by
  unfold makeSliceV makeSliceK
  simp only [hu, hn, hz, hb, hc, hpos, and_true]
  cases l <;> cases c <;> first | rfl | (simp only [hn, hz, hb, hc, hpos, and_true]; done) | (simp only [hn, hz, hb, hc, hpos, and_true]; rfl)
theorem appendT_K {t e : TypeId} {n by_ : Nat} {z : V} (hu : P.underlying t = some (.slice e)) (hn : szT P e = some n) (hz : zeroT P e = some z) (hb : bytesT P e = some by_) (hc : z.cells.length = n) (hpos : 0 < n) (x : V) (ys : List V) (m : Hp) :
    appendV P t x ys m = appendT n by_ x ys m := by
  unfold appendV appendT
  simp only [hu, hn, hz, hb, hc, hpos, true_and]
  cases x <;> first | rfl | (simp only [hn, hz, hb, hc, hpos, true_and]; done) | (simp only [hn, hz, hb, hc, hpos, true_and]; rfl)
theorem append_K {t u e e' : TypeId} {n by_ : Nat} {z : V} (hu : P.underlying t = some (.slice e)) (hu' : P.underlying u = some (.slice e')) (hn : szT P e = some n) (hz : zeroT P e = some z) (hb : bytesT P e = some by_) (hc : z.cells.length = n) (hpos : 0 < n) (x y : V) (m : Hp) :
    builtinE P .append [t, u] [x, y] m = appendK n by_ x y m := by
  unfold builtinE appendK
  simp only [hu, hu', appendT_K hu hn hz hb hc hpos]
  cases y <;> first | rfl | (simp only [appendT_K hu hn hz hb hc hpos]; done) | (simp only [appendT_K hu hn hz hb hc hpos]; rfl)
theorem appendS_K {t u e : TypeId} {by_ : Nat} {z : V} (hu : P.underlying t = some (.slice e)) (hu' : P.underlying u = some .string) (hn : szT P e = some 1) (hz : zeroT P e = some z) (hb : bytesT P e = some by_) (hc : z.cells.length = 1) (x y : V) (m : Hp) :
    builtinE P .append [t, u] [x, y] m = appendSK by_ x y m := by
  unfold builtinE appendSK
  simp only [hu, hu', appendT_K hu hn hz hb hc (by omega), hn, if_true]
  cases y <;> first | rfl | (simp only [hn, if_true, appendT_K hu hn hz hb hc (by omega : 0 < 1)]; done) | (simp only [hn, if_true, appendT_K hu hn hz hb hc (by omega : 0 < 1)]; rfl)
end
end Go.Fbs

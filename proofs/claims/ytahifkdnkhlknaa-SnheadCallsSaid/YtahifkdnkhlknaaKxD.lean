/-
Arguments of plain types: numbers, truth values, strings, structs of them: how they read, and that they read so in every world.
-/
import Derived.Test.YtahifkdnkhlknaaKxC
import Derived.WalkKit
import Derived.ChangeSame
import Derived.ChangeStays
import Derived.ChangeOld
import Derived.Below
import Derived.Deep.Slices
namespace Go.Ax
set_option linter.unusedVariables false
set_option linter.unusedSimpArgs false
open Go.ChangeShapes Go.WideShapes

theorem optK_posx {α β : Type} {o : Option α} {v : α} {k : α → Option β} {x : Option β} (h : o = some v) (h1 : k v = x) : optK o k = x := (optK_of h).trans h1

def rowVals : (cs : List CK) → Row cs → List Value
  | [], _ => []
  | .bool :: cs, r => .bool r.1 :: rowVals cs r.2
  | .int k :: cs, r => .int k r.1 :: rowVals cs r.2
  | .str :: cs, r => .string ⟨r.1.toArray⟩ :: rowVals cs r.2
/-- Numbers in their kinds' ranges, strings that may be. -/
def RowWf : (cs : List CK) → Row cs → Prop
  | [], _ => True
  | .bool :: cs, r => RowWf cs r.2
  | .int k :: cs, r => (k.min ≤ r.1 ∧ r.1 ≤ k.max) ∧ RowWf cs r.2
  | .str :: cs, r => r.1.length ≤ maxLen ∧ RowWf cs r.2
def appRow : (a b : List CK) → Row a → Row b → Row (a ++ b)
  | [], _, _, y => y
  | .bool :: a, b, x, y => (x.1, appRow a b x.2 y)
  | .int _ :: a, b, x, y => (x.1, appRow a b x.2 y)
  | .str :: a, b, x, y => (x.1, appRow a b x.2 y)

theorem rowVals_rel {ι : Emb} : ∀ (cs : List CK) (r : Row cs), VRels ι (rowAV cs r) (rowVals cs r)
  | [], _ => .nil
  | .bool :: cs, r => .cons (by simp [VRel]) (rowVals_rel cs r.2)
  | .int _ :: cs, r => .cons (by simp [VRel]) (rowVals_rel cs r.2)
  | .str :: cs, r => .cons (by simp [VRel]) (rowVals_rel cs r.2)
theorem rowVals_length : ∀ (cs : List CK) (r : Row cs), (rowVals cs r).length = cs.length
  | [], _ => rfl
  | .bool :: cs, r => congrArg (· + 1) (rowVals_length cs r.2)
  | .int _ :: cs, r => congrArg (· + 1) (rowVals_length cs r.2)
  | .str :: cs, r => congrArg (· + 1) (rowVals_length cs r.2)
theorem rowVals_app : ∀ (a b : List CK) (x : Row a) (y : Row b), rowVals (a ++ b) (appRow a b x y) = rowVals a x ++ rowVals b y
  | [], _, _, _ => rfl
  | .bool :: a, b, x, y => congrArg (Value.bool x.1 :: ·) (rowVals_app a b x.2 y)
  | .int k :: a, b, x, y => congrArg (Value.int k x.1 :: ·) (rowVals_app a b x.2 y)
  | .str :: a, b, x, y => congrArg (Value.string ⟨x.1.toArray⟩ :: ·) (rowVals_app a b x.2 y)
theorem rowWf_app : ∀ (a b : List CK) (x : Row a) (y : Row b), RowWf a x → RowWf b y → RowWf (a ++ b) (appRow a b x y)
  | [], _, _, _, _, h => h
  | .bool :: a, b, x, y, hx, hy => rowWf_app a b x.2 y hx hy
  | .int k :: a, b, x, y, hx, hy => ⟨hx.1, rowWf_app a b x.2 y hx.2 hy⟩
  | .str :: a, b, x, y, hx, hy => ⟨hx.1, rowWf_app a b x.2 y hx.2 hy⟩

/-- The kinds of a plain type's cells. -/
def tileC (kf : TypeId → Option (List CK)) (P : Program) : List Field → Nat → Option (List CK)
  | [], _ => some []
  | f :: fs, off => if f.offset = off then match kf f.type with
    | some ks => if P.cellsOf f.type = ks.length then (tileC kf P fs (off + ks.length)).map (ks ++ ·) else none
    | none => none
    else none
def kindsC (P : Program) : Nat → TypeId → Option (List CK)
  | 0, _ => none
  | d + 1, t => match P.underlying t with
    | some .bool => some [.bool]
    | some (.int k) => some [.int k]
    | some .string => some [.str]
    | some (.struct fs) => match tileC (kindsC P d) P fs.toList 0 with
      | some ks => if P.cellsOf t = ks.length then some ks else none
      | none => none
    | _ => none

section
variable {H : Type} {enc : TypeId × Value → H} {P : Program}

/-- What a plain type's cells read as, in every world. -/
def PlainAt (enc : TypeId × Value → H) (P : Program) (n : Nat) (t : TypeId) (ks : List CK) (cs : List Value) (x : DataW H × List MemPlace) : Prop :=
  ∃ r : Row ks, cs = rowVals ks r ∧ RowWf ks r ∧ x.2 = [] ∧ ∀ (w : World) (base : Nat) (sp : Nat → Bool) (held : Bool), DataW.trod enc P w base sp held n t cs = some x

theorem trod_struct_iff {w : World} {base : Nat} {sp : Nat → Bool} {held : Bool} {t : TypeId} {fs : Array Field} {n : Nat} {cs : List Value} {x : DataW H × List MemPlace} (ht : P.underlying t = some (.struct fs)) :
    DataW.trod enc P w base sp held (n + 1) t cs = some x ↔ cs.length = P.cellsOf t ∧ ∃ xs, fs.toList.mapM (fun f => DataW.trod enc P w base sp held n f.type ((cs.drop f.offset).take (P.cellsOf f.type))) = some xs ∧ x = (.agg (xs.map (·.1)), xs.flatMap (·.2)) := by
  constructor
  · intro h
    unfold DataW.trod at h
    rw [ht] at h
    split at h <;> simp_all
    obtain ⟨_, xs, h1, h2⟩ := h
    exact ⟨xs, h1, h2.symm⟩
  · rintro ⟨hl, xs, h1, rfl⟩
    exact trod_struct_mk ht hl h1

theorem tile_open {kf : TypeId → Option (List CK)} {w : World} {base : Nat} {sp : Nat → Bool} {held : Bool} {n : Nat} {cs : List Value}
    (ih : ∀ t ks, kf t = some ks → ∀ cs x, DataW.trod enc P w base sp held n t cs = some x → PlainAt enc P n t ks cs x) :
    ∀ (fs : List Field) (off : Nat) (ks : List CK), tileC kf P fs off = some ks → ∀ xs, fs.mapM (fun f => DataW.trod enc P w base sp held n f.type ((cs.drop f.offset).take (P.cellsOf f.type))) = some xs →
      ∃ r : Row ks, (cs.drop off).take ks.length = rowVals ks r ∧ RowWf ks r ∧ xs.flatMap (·.2) = [] ∧
        ∀ (w : World) (base : Nat) (sp : Nat → Bool) (held : Bool), fs.mapM (fun f => DataW.trod enc P w base sp held n f.type ((cs.drop f.offset).take (P.cellsOf f.type))) = some xs
  | [], off, ks, hk, xs, hx => by
    simp only [tileC, Option.some.injEq] at hk
    subst hk
    simp at hx
    subst hx
    exact ⟨(), by simp [rowVals], trivial, rfl, fun _ _ _ _ => by simp⟩
  | f :: fs, off, ks, hk, xs, hx => by
    simp only [tileC] at hk
    split at hk
    · rename_i hoff
      split at hk
      · rename_i k1 hk1
        split at hk
        · rename_i hc
          obtain ⟨k2, hk2, rfl⟩ := map_some hk
          simp only [List.mapM_cons, Option.bind_eq_bind, Option.bind_eq_some_iff, Option.pure_def, Option.some.injEq] at hx
          obtain ⟨y, hy, ys, hys, rfl⟩ := hx
          obtain ⟨r1, e1, w1, p1, s1⟩ := ih f.type k1 hk1 _ y hy
          obtain ⟨r2, e2, w2, p2, s2⟩ := tile_open ih fs (off + k1.length) k2 hk2 ys hys
          refine ⟨appRow k1 k2 r1 r2, ?_, rowWf_app _ _ _ _ w1 w2, by simp [p1, p2], fun w base sp held => ?_⟩
          · rw [rowVals_app, ← e1, ← e2, hoff, hc, List.length_append, List.take_add, List.drop_drop]
          · simp only [List.mapM_cons, Option.bind_eq_bind, Option.bind_eq_some_iff, Option.pure_def, Option.some.injEq]
            exact ⟨y, s1 w base sp held, ys, s2 w base sp held, rfl⟩
        · cases hk
      · cases hk
    · cases hk

theorem open_plain {w : World} {base : Nat} {sp : Nat → Bool} {held : Bool} : ∀ (d : Nat) (t : TypeId) (ks : List CK), kindsC P d t = some ks → ∀ (n : Nat) (cs : List Value) (x : DataW H × List MemPlace), DataW.trod enc P w base sp held n t cs = some x → PlainAt enc P n t ks cs x
  | 0, t, ks, hk, _, _, _, _ => by cases hk
  | d + 1, t, ks, hk, n, cs, x, h => by
    simp only [kindsC] at hk
    split at hk
    · rename_i hu
      cases hk
      obtain ⟨b, rfl, rfl⟩ := DataW.trod_bool hu h
      refine ⟨(b, ()), rfl, trivial, rfl, fun w base sp held => ?_⟩
      cases n with
      | zero => simp [DataW.trod] at h
      | succ n => unfold DataW.trod; rw [hu]
    · rename_i k hu
      cases hk
      obtain ⟨m, rfl, rfl, hw⟩ := DataW.trod_int hu h
      refine ⟨(m, ()), rfl, ⟨wf_range hw, trivial⟩, rfl, fun w base sp held => ?_⟩
      cases n with
      | zero => simp [DataW.trod] at h
      | succ n => unfold DataW.trod; rw [hu]; simp [hw]
    · rename_i hu
      cases hk
      obtain ⟨s, rfl, rfl, hs⟩ := DataW.trod_string hu h
      refine ⟨(s.data.toList, ()), rfl, ⟨?_, trivial⟩, rfl, fun w base sp held => ?_⟩
      · show s.data.toList.length ≤ maxLen
        rw [Array.length_toList]; exact hs
      · cases n with
        | zero => simp [DataW.trod] at h
        | succ n => unfold DataW.trod; rw [hu]; simp [hs]
    · rename_i fs hu
      split at hk
      · rename_i ks' ht
        split at hk
        · rename_i hc
          cases hk
          cases n with
          | zero => simp [DataW.trod] at h
          | succ n =>
            obtain ⟨hl, xs, hx, rfl⟩ := (trod_struct_iff hu).1 h
            obtain ⟨r, e, wf, p, st⟩ := tile_open (fun t ks hk cs x h => open_plain d t ks hk n cs x h) fs.toList 0 _ ht xs hx
            refine ⟨r, ?_, wf, p, fun w base sp held => (trod_struct_iff hu).2 ⟨hl, xs, st w base sp held, rfl⟩⟩
            rw [← e, List.drop_zero, List.take_of_length_le (by omega)]
        · cases hk
      · cases hk
    · cases hk

/-- An argument of a plain struct type. -/
theorem open_struct {w : World} {r : Reach} {b0 base : Nat} {sp : Nat → Bool} {held : Bool} {t : TypeId} {fs : Array Field} {d : Nat} {ks : List CK} {v : Value} {x : DataW H} {p : List MemPlace} (hu : P.underlying t = some (.struct fs)) (hk : kindsC P d t = some ks)
    (hv : Value.okWide P w r b0 t v) (h : DataW.Trod enc P w base sp held t v x p) :
    ∃ row : Row ks, v = .agg (rowVals ks row).toArray ∧ RowWf ks row ∧ p = [] ∧ ∀ (w : World) (base : Nat) (sp : Nat → Bool) (held : Bool), DataW.Trod enc P w base sp held t v x [] := by
  obtain ⟨cs, rfl, hsz⟩ := okWide_struct hu hv
  obtain ⟨fuel, hf⟩ := h
  obtain ⟨row, e, wf, hp, st⟩ := open_plain d t ks hk fuel _ _ hf
  have e' : cs.toList = rowVals ks row := by simpa [Value.cells] using e
  have hp' : p = [] := hp
  subst hp'
  exact ⟨row, by rw [← e'], wf, rfl, fun w base sp held => ⟨fuel, st w base sp held⟩⟩

theorem agg_rel {ι : Emb} (ks : List CK) (row : Row ks) : VRel ι (.agg (rowAV ks row)) (.agg (rowVals ks row).toArray) := by
  simp only [VRel]
  exact ⟨_, rfl, by simpa using rowVals_rel ks row⟩

/-- No type of slices has elements without cells. -/
def slicesFull (P : Program) : Bool := (List.range P.types.size).all fun t => match P.underlying t with
  | some (.slice e) => decide (0 < P.cellsOf e)
  | _ => true

/-- What was read reads the same in a later world. -/
theorem trodAll_back (K : Kids P (· < P.types.size)) (hf : slicesFull P = true) {W W' : World} (bel : Go.RowKit.Below W.heap.size W W') : ∀ {ts : List TypeId} {vs : List Value} {ds : List (DataW H)} {p : List MemPlace}, (∀ t ∈ ts, t < P.types.size) →
    DataW.TrodAll enc P W 0 (fun _ => true) true ts vs ds p → DataW.TrodAll enc P W' 0 (fun b => decide (b < W.heap.size)) true ts vs ds p
  | [], [], [], _, _, h => h
  | t :: ts, v :: vs, d :: ds, _, ht, ⟨a, b, ⟨n, h1⟩, h2, e⟩ => by
    have hlt := DataW.trod_lt n _ _ _ h1
    have hsz : ∀ {t e : TypeId}, t < P.types.size → P.underlying t = some (.slice e) → 0 < P.cellsOf e := fun {t e} htl hu => by
      have := List.all_eq_true.1 hf t (by simpa using htl)
      rw [hu] at this
      simpa using this
    refine ⟨a, b, ⟨n, ?_⟩, trodAll_back K hf bel (fun t h => ht t (List.mem_cons_of_mem _ h)) h2, e⟩
    exact DataW.trod_stays K hsz (fun h => by cases h) (ht t (List.mem_cons_self ..)) h1 (fun p hp => bel.same (hlt p hp)) (fun p hp => by simpa using hlt p hp)

theorem add_eq {a : Addr} (hs : a.spot = none) (j : Nat) : a.add j = ⟨a.block, a.off + j, none⟩ := by
  obtain ⟨b, o, s⟩ := a
  simp only at hs
  subst hs
  unfold Addr.add
  split
  · rename_i h; subst h; rfl
  · rfl

/-- The cells of a row of elements. -/
theorem cells_of {w : World} {a : Addr} {n : Nat} {cs : List Value} (hn : 0 < n) (h : w.cells? 0 a n = some cs) :
    ∃ c t fz, w.heap[a.block]? = some (.cells c t fz) ∧ a.spot = none ∧ a.off + n ≤ c.size ∧ cs.length = n ∧ ∀ j, j < n → cs[j]? = c[a.off + j]? := by
  unfold World.cells? at h
  rw [if_pos (Nat.zero_le _)] at h
  have hl := mapM_some_length h
  have hg := fun j (hj : j < n) => mapM_some_get h j j (by simp [hj])
  simp at hl
  have h0 := hg 0 hn
  have h00 : cs[0]? = some cs[0] := List.getElem?_eq_getElem (by omega)
  rw [h00] at h0
  unfold World.cell? at h0
  have key : ∃ c t fz, w.heap[a.block]? = some (.cells c t fz) ∧ a.spot = none := by
    cases hh : w.heap[a.block]? with
    | none => rw [show (a.add 0).block = a.block from rfl, hh] at h0; cases h0
    | some o =>
      rw [show (a.add 0).block = a.block from rfl, hh] at h0
      cases o with
      | cells c t fz =>
        refine ⟨c, t, fz, rfl, ?_⟩
        cases hs : a.spot with
        | none => rfl
        | some q => rw [show (a.add 0).spot = a.spot from rfl, hs] at h0; simp at h0
      | _ => cases h0
  obtain ⟨c, t, fz, hh, hs⟩ := key
  have hg' : ∀ j, j < n → cs[j]? = c[a.off + j]? := fun j hj => by
    have := hg j hj
    unfold World.cell? at this
    rw [add_eq hs] at this
    simp only [hh, Option.isSome_none, Bool.false_eq_true, if_false] at this
    exact this.symm
  refine ⟨c, t, fz, hh, hs, ?_, hl, hg'⟩
  have := hg' (n - 1) (by omega)
  rw [List.getElem?_eq_getElem (by omega)] at this
  have := (Array.getElem?_eq_some_iff.1 this.symm).1
  omega

instance rowInh : (cs : List CK) → Inhabited (Row cs)
  | [] => ⟨()⟩
  | .bool :: cs => ⟨(false, (rowInh cs).default)⟩
  | .int _ :: cs => ⟨(0, (rowInh cs).default)⟩
  | .str :: cs => ⟨([], (rowInh cs).default)⟩

theorem rowVals_get {ι : Emb} {cs : List CK} (r : Row cs) {j : Nat} {v : AV} (h : (rowAV cs r)[j]? = some v) : ∃ x, (rowVals cs r)[j]? = some x ∧ VRel ι v x :=
  (rowVals_rel cs r).get j v h

/-- An argument that is a slice of plain elements: nil; without room; else a row of cells. -/
def RowsArg (W : World) (ks : List CK) (v : Value) : Prop :=
  v = .slice none 0 0 ∨ (∃ a, v = .slice (some a) 0 0) ∨ ∃ (l : List (Row ks)) (em : Nat × Nat × Nat), (∀ r ∈ l, RowWf ks r) ∧ l.length ≤ maxLen ∧ (∀ ι : Emb, ORel ι W em (.ro (flat ks l))) ∧
      ∀ (ι : Emb) (i : Nat), ι[i]? = some em → VRel ι (.slice i 0 l.length ks.length) v

/-- A slice of plain elements: nil; without room; else a row of cells. -/
theorem open_rows {W : World} {r : Reach} {b0 : Nat} {t e : TypeId} {d : Nat} {ks : List CK} {v : Value} {x : DataW H} {p : List MemPlace} (ht : P.underlying t = some (.slice e)) (hk : kindsC P d e = some ks) (hc : P.cellsOf e = ks.length) (hpos : 0 < ks.length)
    (hv : Value.okWide P W r b0 t v) (h : DataW.Trod enc P W 0 (fun _ => true) true t v x p) :
    RowsArg W ks v := by
  obtain ⟨a0, n0, c0, rfl⟩ := okWide_slice ht hv
  obtain ⟨fuel, hf⟩ := h
  rcases DataW.trod_slice ht hf with ⟨h1, _⟩ | ⟨a, len, cap, elems, rest, n, rfl, h1, _, _, hlc, hcm, hel, hat, hsp, _⟩
  · simp [Value.cells] at h1
    obtain ⟨rfl, rfl, rfl⟩ := h1
    exact .inl rfl
  · simp [Value.cells] at h1
    obtain ⟨rfl, rfl, rfl⟩ := h1
    rcases Nat.eq_zero_or_pos c0 with h0 | h0
    · subst h0
      obtain rfl : n0 = 0 := by omega
      exact .inr (.inl ⟨a, rfl⟩)
    · obtain ⟨hrl, hra⟩ := hsp rfl
      -- every element up to the capacity
      have every : ∀ i, i < c0 → ∃ R : Row ks, RowWf ks R ∧ W.cells? 0 (a.add (i * ks.length)) ks.length = some (rowVals ks R) := by
        intro i hi
        have : ∃ y, (W.cells? 0 (a.add (i * P.cellsOf e)) (P.cellsOf e)).bind (DataW.trod enc P W 0 (fun _ => true) true n e) = some y := by
          rcases Nat.lt_or_ge i n0 with h' | h'
          · exact ⟨elems[i], by rw [hat i h', List.getElem?_eq_getElem (by omega)]⟩
          · have := hra (i - n0) (by omega)
            rw [show n0 + (i - n0) = i by omega] at this
            exact ⟨rest[i - n0], by rw [this, List.getElem?_eq_getElem (by omega)]⟩
        obtain ⟨y, hy⟩ := this
        rw [Option.bind_eq_some_iff] at hy
        obtain ⟨cs, h1, h2⟩ := hy
        obtain ⟨R, e1, wf, _, _⟩ := open_plain d e ks hk n cs y h2
        rw [hc] at h1
        exact ⟨R, wf, by rw [h1, e1]⟩
      obtain ⟨R, hR⟩ := Go.Deep.choose_lt every
      obtain ⟨c, ty, fz, hh, hs, _, _, _⟩ := cells_of hpos (hR 0 h0).2
      rw [Nat.zero_mul, show a.add 0 = a from rfl] at hh hs
      have hcell : ∀ i, i < c0 → a.off + i * ks.length + ks.length ≤ c.size ∧ ∀ j, j < ks.length → (rowVals ks (R i))[j]? = c[a.off + i * ks.length + j]? := by
        intro i hi
        obtain ⟨c', ty', fz', hh', hs', hb, _, hg⟩ := cells_of hpos (hR i hi).2
        rw [add_eq hs] at hh' hb hg
        rw [hh] at hh'
        cases hh'
        exact ⟨hb, hg⟩
      have hlast := (hcell (c0 - 1) (by omega)).1
      have hmul : (c0 - 1) * ks.length + ks.length = c0 * ks.length := by
        rw [← Nat.succ_mul]; congr 1; omega
      refine .inr (.inr ⟨(List.range n0).map R, (a.block, a.off, c.size), ?_, by simp; omega, fun ι => ⟨c, ty, fz, hh, rfl, ?_, ?_⟩, fun ι i hi => ?_⟩)
      · intro r hr
        simp only [List.mem_map, List.mem_range] at hr
        obtain ⟨i, hi, rfl⟩ := hr
        exact (hR i (by omega)).1
      · have : n0 * ks.length ≤ c0 * ks.length := Nat.mul_le_mul_right _ hlc
        simp only [flat_length, List.length_map, List.length_range]
        omega
      · intro j v hj
        have hjl : j < n0 * ks.length := by
          have hlt : j < (flat ks ((List.range n0).map R)).length := by
            rcases Nat.lt_or_ge j (flat ks ((List.range n0).map R)).length with h' | h'
            · exact h'
            · rw [List.getElem?_eq_none h'] at hj; cases hj
          rwa [flat_length, List.length_map, List.length_range] at hlt
        have hq : j % ks.length < ks.length := Nat.mod_lt _ hpos
        have hi : j / ks.length < n0 := Nat.div_lt_of_lt_mul (by rw [Nat.mul_comm]; exact hjl)
        have hjd : j = j / ks.length * ks.length + j % ks.length := by rw [Nat.mul_comm]; exact (Nat.div_add_mod j ks.length).symm
        have hget := flat_get (cs := ks) (l := (List.range n0).map R) (r := j / ks.length) (row := R (j / ks.length)) (by simp [hi]) (j % ks.length) hq
        rw [← hjd, hj] at hget
        obtain ⟨x, hx, hrel⟩ := rowVals_get (ι := ι) (R (j / ks.length)) hget.symm
        refine ⟨x, ?_, hrel⟩
        have := (hcell (j / ks.length) (by omega)).2 (j % ks.length) hq
        rw [hx] at this
        show c[a.off + j]? = some x
        rw [this, Nat.add_assoc, ← hjd]
      · simp only [VRel, List.length_map, List.length_range]
        refine ⟨_, a, c0, hi, rfl, hlc, .inr ⟨?_, by simp only [Nat.add_zero]; omega⟩⟩
        obtain ⟨b, o, s⟩ := a
        simp only at hs
        subst hs
        rfl

/-- Memory of blocks that nobody writes. -/
theorem hrel_one {W : World} {em : Nat × Nat × Nat} {vs : List AV} (h : ∀ ι : Emb, ORel ι W em (.ro vs)) : HRel [em] [.ro vs] W :=
  ⟨rfl, fun i o e hi he => by
    cases i with
    | zero => simp at hi he; subst hi; subst he; exact h _
    | succ i => simp at hi,
   fun i j o o' e e' hi hj _ _ hx _ _ => by
    cases i with
    | zero => simp at hi; subst hi; cases hx
    | succ i => simp at hi⟩
theorem hrel_dead {W : World} (em : Nat × Nat × Nat) : HRel [em] [.dead] W :=
  ⟨rfl, fun i o e hi he => by
    cases i with
    | zero => simp at hi he; subst hi; trivial
    | succ i => simp at hi,
   fun i j o o' e e' hi hj _ _ hx _ _ => by
    cases i with
    | zero => simp at hi; subst hi; cases hx
    | succ i => simp at hi⟩
theorem own_dead {em : Nat × Nat × Nat} (b : Nat) : ¬ Own [.dead] [em] b := fun ⟨i, o, e, hi, hx, _⟩ => by
  cases i with
  | zero => simp at hi; subst hi; cases hx
  | succ i => simp at hi
theorem own_one {em : Nat × Nat × Nat} {vs : List AV} (b : Nat) : ¬ Own [.ro vs] [em] b := fun ⟨i, o, e, hi, hx, _⟩ => by
  cases i with
  | zero => simp at hi; subst hi; cases hx
  | succ i => simp at hi
end
end Go.Ax

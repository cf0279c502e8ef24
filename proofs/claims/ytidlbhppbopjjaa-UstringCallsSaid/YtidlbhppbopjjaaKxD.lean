/-
Arguments of plain types: numbers, truth values, strings, structs of them: how they read, and that they read so in every world.
Contracts of functions that read rows of plain cells and make blocks of rows.
-/
import Derived.Test.YtidlbhppbopjjaaKxC
import Derived.WalkKit
import Derived.ChangeSame
import Derived.ChangeStays
import Derived.ChangeOld
import Derived.Below
import Derived.Deep.Slices
namespace Go.Ax
set_option linter.unusedVariables false
set_option linter.unusedSimpArgs false
open Go.ChangeShapes Go.WideShapes

theorem optK_posx {α β : Type} {o : Option α} {v : α} {k : α → Option β} {x : Option β} (h : o = some v) (h1 : k v = x) : optK o k = x := (optK_of h).trans h1

def rowVals : (cs : List CK) → Row cs → List Value
  | [], _ => []
  | .bool :: cs, r => .bool r.1 :: rowVals cs r.2
  | .int k :: cs, r => .int k r.1 :: rowVals cs r.2
  | .str :: cs, r => .string ⟨r.1.toArray⟩ :: rowVals cs r.2
/-- Numbers in their kinds' ranges, strings that may be. -/
def RowWf : (cs : List CK) → Row cs → Prop
  | [], _ => True
  | .bool :: cs, r => RowWf cs r.2
  | .int k :: cs, r => (k.min ≤ r.1 ∧ r.1 ≤ k.max) ∧ RowWf cs r.2
  | .str :: cs, r => r.1.length ≤ maxLen ∧ RowWf cs r.2
def appRow : (a b : List CK) → Row a → Row b → Row (a ++ b)
  | [], _, _, y => y
  | .bool :: a, b, x, y => (x.1, appRow a b x.2 y)
  | .int _ :: a, b, x, y => (x.1, appRow a b x.2 y)
  | .str :: a, b, x, y => (x.1, appRow a b x.2 y)

theorem rowVals_rel {ι : Emb} : ∀ (cs : List CK) (r : Row cs), VRels ι (rowAV cs r) (rowVals cs r)
  | [], _ => .nil
  | .bool :: cs, r => .cons (by simp [VRel]) (rowVals_rel cs r.2)
  | .int _ :: cs, r => .cons (by simp [VRel]) (rowVals_rel cs r.2)
  | .str :: cs, r => .cons (by simp [VRel]) (rowVals_rel cs r.2)
theorem rowVals_length : ∀ (cs : List CK) (r : Row cs), (rowVals cs r).length = cs.length
  | [], _ => rfl
  | .bool :: cs, r => congrArg (· + 1) (rowVals_length cs r.2)
  | .int _ :: cs, r => congrArg (· + 1) (rowVals_length cs r.2)
  | .str :: cs, r => congrArg (· + 1) (rowVals_length cs r.2)
theorem rowVals_app : ∀ (a b : List CK) (x : Row a) (y : Row b), rowVals (a ++ b) (appRow a b x y) = rowVals a x ++ rowVals b y
  | [], _, _, _ => rfl
  | .bool :: a, b, x, y => congrArg (Value.bool x.1 :: ·) (rowVals_app a b x.2 y)
  | .int k :: a, b, x, y => congrArg (Value.int k x.1 :: ·) (rowVals_app a b x.2 y)
  | .str :: a, b, x, y => congrArg (Value.string ⟨x.1.toArray⟩ :: ·) (rowVals_app a b x.2 y)
theorem rowWf_app : ∀ (a b : List CK) (x : Row a) (y : Row b), RowWf a x → RowWf b y → RowWf (a ++ b) (appRow a b x y)
  | [], _, _, _, _, h => h
  | .bool :: a, b, x, y, hx, hy => rowWf_app a b x.2 y hx hy
  | .int k :: a, b, x, y, hx, hy => ⟨hx.1, rowWf_app a b x.2 y hx.2 hy⟩
  | .str :: a, b, x, y, hx, hy => ⟨hx.1, rowWf_app a b x.2 y hx.2 hy⟩

/-- The kinds of a plain type's cells. -/
def tileC (kf : TypeId → Option (List CK)) (P : Program) : List Field → Nat → Option (List CK)
  | [], _ => some []
  | f :: fs, off => if f.offset = off then match kf f.type with
    | some ks => if P.cellsOf f.type = ks.length then (tileC kf P fs (off + ks.length)).map (ks ++ ·) else none
    | none => none
    else none
def kindsC (P : Program) : Nat → TypeId → Option (List CK)
  | 0, _ => none
  | d + 1, t => match P.underlying t with
    | some .bool => some [.bool]
    | some (.int k) => some [.int k]
    | some .string => some [.str]
    | some (.struct fs) => match tileC (kindsC P d) P fs.toList 0 with
      | some ks => if P.cellsOf t = ks.length then some ks else none
      | none => none
    | _ => none

section
variable {H : Type} {enc : TypeId × Value → H} {P : Program}

/-- What a plain type's cells read as, in every world. -/
def PlainAt (enc : TypeId × Value → H) (P : Program) (n : Nat) (t : TypeId) (ks : List CK) (cs : List Value) (x : DataW H × List MemPlace) : Prop :=
  ∃ r : Row ks, cs = rowVals ks r ∧ RowWf ks r ∧ x.2 = [] ∧ ∀ (w : World) (base : Nat) (sp : Nat → Bool) (held : Bool), DataW.trod enc P w base sp held n t cs = some x

theorem trod_struct_iff {w : World} {base : Nat} {sp : Nat → Bool} {held : Bool} {t : TypeId} {fs : Array Field} {n : Nat} {cs : List Value} {x : DataW H × List MemPlace} (ht : P.underlying t = some (.struct fs)) :
    DataW.trod enc P w base sp held (n + 1) t cs = some x ↔ cs.length = P.cellsOf t ∧ ∃ xs, fs.toList.mapM (fun f => DataW.trod enc P w base sp held n f.type ((cs.drop f.offset).take (P.cellsOf f.type))) = some xs ∧ x = (.agg (xs.map (·.1)), xs.flatMap (·.2)) := by
  constructor
  · intro h
    unfold DataW.trod at h
    rw [ht] at h
    split at h <;> simp_all
    obtain ⟨_, xs, h1, h2⟩ := h
    exact ⟨xs, h1, h2.symm⟩
  · rintro ⟨hl, xs, h1, rfl⟩
    exact trod_struct_mk ht hl h1

theorem tile_open {kf : TypeId → Option (List CK)} {w : World} {base : Nat} {sp : Nat → Bool} {held : Bool} {n : Nat} {cs : List Value}
    (ih : ∀ t ks, kf t = some ks → ∀ cs x, DataW.trod enc P w base sp held n t cs = some x → PlainAt enc P n t ks cs x) :
    ∀ (fs : List Field) (off : Nat) (ks : List CK), tileC kf P fs off = some ks → ∀ xs, fs.mapM (fun f => DataW.trod enc P w base sp held n f.type ((cs.drop f.offset).take (P.cellsOf f.type))) = some xs →
      ∃ r : Row ks, (cs.drop off).take ks.length = rowVals ks r ∧ RowWf ks r ∧ xs.flatMap (·.2) = [] ∧
        ∀ (w : World) (base : Nat) (sp : Nat → Bool) (held : Bool), fs.mapM (fun f => DataW.trod enc P w base sp held n f.type ((cs.drop f.offset).take (P.cellsOf f.type))) = some xs
  | [], off, ks, hk, xs, hx => by
    simp only [tileC, Option.some.injEq] at hk
    subst hk
    simp at hx
    subst hx
    exact ⟨(), by simp [rowVals], trivial, rfl, fun _ _ _ _ => by simp⟩
  | f :: fs, off, ks, hk, xs, hx => by
    simp only [tileC] at hk
    split at hk
    · rename_i hoff
      split at hk
      · rename_i k1 hk1
        split at hk
        · rename_i hc
          obtain ⟨k2, hk2, rfl⟩ := map_some hk
          simp only [List.mapM_cons, Option.bind_eq_bind, Option.bind_eq_some_iff, Option.pure_def, Option.some.injEq] at hx
          obtain ⟨y, hy, ys, hys, rfl⟩ := hx
          obtain ⟨r1, e1, w1, p1, s1⟩ := ih f.type k1 hk1 _ y hy
          obtain ⟨r2, e2, w2, p2, s2⟩ := tile_open ih fs (off + k1.length) k2 hk2 ys hys
          refine ⟨appRow k1 k2 r1 r2, ?_, rowWf_app _ _ _ _ w1 w2, by simp [p1, p2], fun w base sp held => ?_⟩
          · rw [rowVals_app, ← e1, ← e2, hoff, hc, List.length_append, List.take_add, List.drop_drop]
          · simp only [List.mapM_cons, Option.bind_eq_bind, Option.bind_eq_some_iff, Option.pure_def, Option.some.injEq]
            exact ⟨y, s1 w base sp held, ys, s2 w base sp held, rfl⟩
        · cases hk
      · cases hk
    · cases hk

theorem open_plain {w : World} {base : Nat} {sp : Nat → Bool} {held : Bool} : ∀ (d : Nat) (t : TypeId) (ks : List CK), kindsC P d t = some ks → ∀ (n : Nat) (cs : List Value) (x : DataW H × List MemPlace), DataW.trod enc P w base sp held n t cs = some x → PlainAt enc P n t ks cs x
  | 0, t, ks, hk, _, _, _, _ => by cases hk
  | d + 1, t, ks, hk, n, cs, x, h => by
    simp only [kindsC] at hk
    split at hk
    · rename_i hu
      cases hk
      obtain ⟨b, rfl, rfl⟩ := DataW.trod_bool hu h
      refine ⟨(b, ()), rfl, trivial, rfl, fun w base sp held => ?_⟩
      cases n with
      | zero => simp [DataW.trod] at h
      | succ n => unfold DataW.trod; rw [hu]
    · rename_i k hu
      cases hk
      obtain ⟨m, rfl, rfl, hw⟩ := DataW.trod_int hu h
      refine ⟨(m, ()), rfl, ⟨wf_range hw, trivial⟩, rfl, fun w base sp held => ?_⟩
      cases n with
      | zero => simp [DataW.trod] at h
      | succ n => unfold DataW.trod; rw [hu]; simp [hw]
    · rename_i hu
      cases hk
      obtain ⟨s, rfl, rfl, hs⟩ := DataW.trod_string hu h
      refine ⟨(s.data.toList, ()), rfl, ⟨?_, trivial⟩, rfl, fun w base sp held => ?_⟩
      · show s.data.toList.length ≤ maxLen
        rw [Array.length_toList]; exact hs
      · cases n with
        | zero => simp [DataW.trod] at h
        | succ n => unfold DataW.trod; rw [hu]; simp [hs]
    · rename_i fs hu
      split at hk
      · rename_i ks' ht
        split at hk
        · rename_i hc
          cases hk
          cases n with
          | zero => simp [DataW.trod] at h
          | succ n =>
            obtain ⟨hl, xs, hx, rfl⟩ := (trod_struct_iff hu).1 h
            obtain ⟨r, e, wf, p, st⟩ := tile_open (fun t ks hk cs x h => open_plain d t ks hk n cs x h) fs.toList 0 _ ht xs hx
            refine ⟨r, ?_, wf, p, fun w base sp held => (trod_struct_iff hu).2 ⟨hl, xs, st w base sp held, rfl⟩⟩
            rw [← e, List.drop_zero, List.take_of_length_le (by omega)]
        · cases hk
      · cases hk
    · cases hk

/-- An argument of a plain struct type. -/
theorem open_struct {w : World} {r : Reach} {b0 base : Nat} {sp : Nat → Bool} {held : Bool} {t : TypeId} {fs : Array Field} {d : Nat} {ks : List CK} {v : Value} {x : DataW H} {p : List MemPlace} (hu : P.underlying t = some (.struct fs)) (hk : kindsC P d t = some ks)
    (hv : Value.okWide P w r b0 t v) (h : DataW.Trod enc P w base sp held t v x p) :
    ∃ row : Row ks, v = .agg (rowVals ks row).toArray ∧ RowWf ks row ∧ p = [] ∧ ∀ (w : World) (base : Nat) (sp : Nat → Bool) (held : Bool), DataW.Trod enc P w base sp held t v x [] := by
  obtain ⟨cs, rfl, hsz⟩ := okWide_struct hu hv
  obtain ⟨fuel, hf⟩ := h
  obtain ⟨row, e, wf, hp, st⟩ := open_plain d t ks hk fuel _ _ hf
  have e' : cs.toList = rowVals ks row := by simpa [Value.cells] using e
  have hp' : p = [] := hp
  subst hp'
  exact ⟨row, by rw [← e'], wf, rfl, fun w base sp held => ⟨fuel, st w base sp held⟩⟩

theorem agg_rel {ι : Emb} (ks : List CK) (row : Row ks) : VRel ι (.agg (rowAV ks row)) (.agg (rowVals ks row).toArray) := by
  simp only [VRel]
  exact ⟨_, rfl, by simpa using rowVals_rel ks row⟩

/-- No type of slices has elements without cells. -/
def slicesFull (P : Program) : Bool := (List.range P.types.size).all fun t => match P.underlying t with
  | some (.slice e) => decide (0 < P.cellsOf e)
  | _ => true

/-- What was read reads the same in a later world. -/
theorem trodAll_back (K : Kids P (· < P.types.size)) (hf : slicesFull P = true) {W W' : World} (bel : Go.RowKit.Below W.heap.size W W') : ∀ {ts : List TypeId} {vs : List Value} {ds : List (DataW H)} {p : List MemPlace}, (∀ t ∈ ts, t < P.types.size) →
    DataW.TrodAll enc P W 0 (fun _ => true) true ts vs ds p → DataW.TrodAll enc P W' 0 (fun b => decide (b < W.heap.size)) true ts vs ds p
  | [], [], [], _, _, h => h
  | t :: ts, v :: vs, d :: ds, _, ht, ⟨a, b, ⟨n, h1⟩, h2, e⟩ => by
    have hlt := DataW.trod_lt n _ _ _ h1
    have hsz : ∀ {t e : TypeId}, t < P.types.size → P.underlying t = some (.slice e) → 0 < P.cellsOf e := fun {t e} htl hu => by
      have := List.all_eq_true.1 hf t (by simpa using htl)
      rw [hu] at this
      simpa using this
    refine ⟨a, b, ⟨n, ?_⟩, trodAll_back K hf bel (fun t h => ht t (List.mem_cons_of_mem _ h)) h2, e⟩
    exact DataW.trod_stays K hsz (fun h => by cases h) (ht t (List.mem_cons_self ..)) h1 (fun p hp => bel.same (hlt p hp)) (fun p hp => by simpa using hlt p hp)

theorem add_eq {a : Addr} (hs : a.spot = none) (j : Nat) : a.add j = ⟨a.block, a.off + j, none⟩ := by
  obtain ⟨b, o, s⟩ := a
  simp only at hs
  subst hs
  unfold Addr.add
  split
  · rename_i h; subst h; rfl
  · rfl

/-- The cells of a row of elements. -/
theorem cells_of {w : World} {a : Addr} {n : Nat} {cs : List Value} (hn : 0 < n) (h : w.cells? 0 a n = some cs) :
    ∃ c t fz, w.heap[a.block]? = some (.cells c t fz) ∧ a.spot = none ∧ a.off + n ≤ c.size ∧ cs.length = n ∧ ∀ j, j < n → cs[j]? = c[a.off + j]? := by
  unfold World.cells? at h
  rw [if_pos (Nat.zero_le _)] at h
  have hl := mapM_some_length h
  have hg := fun j (hj : j < n) => mapM_some_get h j j (by simp [hj])
  simp at hl
  have h0 := hg 0 hn
  have h00 : cs[0]? = some cs[0] := List.getElem?_eq_getElem (by omega)
  rw [h00] at h0
  unfold World.cell? at h0
  have key : ∃ c t fz, w.heap[a.block]? = some (.cells c t fz) ∧ a.spot = none := by
    cases hh : w.heap[a.block]? with
    | none => rw [show (a.add 0).block = a.block from rfl, hh] at h0; cases h0
    | some o =>
      rw [show (a.add 0).block = a.block from rfl, hh] at h0
      cases o with
      | cells c t fz =>
        refine ⟨c, t, fz, rfl, ?_⟩
        cases hs : a.spot with
        | none => rfl
        | some q => rw [show (a.add 0).spot = a.spot from rfl, hs] at h0; simp at h0
      | _ => cases h0
  obtain ⟨c, t, fz, hh, hs⟩ := key
  have hg' : ∀ j, j < n → cs[j]? = c[a.off + j]? := fun j hj => by
    have := hg j hj
    unfold World.cell? at this
    rw [add_eq hs] at this
    simp only [hh, Option.isSome_none, Bool.false_eq_true, if_false] at this
    exact this.symm
  refine ⟨c, t, fz, hh, hs, ?_, hl, hg'⟩
  have := hg' (n - 1) (by omega)
  rw [List.getElem?_eq_getElem (by omega)] at this
  have := (Array.getElem?_eq_some_iff.1 this.symm).1
  omega

instance rowInh : (cs : List CK) → Inhabited (Row cs)
  | [] => ⟨()⟩
  | .bool :: cs => ⟨(false, (rowInh cs).default)⟩
  | .int _ :: cs => ⟨(0, (rowInh cs).default)⟩
  | .str :: cs => ⟨([], (rowInh cs).default)⟩

theorem rowVals_get {ι : Emb} {cs : List CK} (r : Row cs) {j : Nat} {v : AV} (h : (rowAV cs r)[j]? = some v) : ∃ x, (rowVals cs r)[j]? = some x ∧ VRel ι v x :=
  (rowVals_rel cs r).get j v h

/-- An argument that is a slice of plain elements: nil; without room; else a row of cells. -/
def RowsArg (W : World) (ks : List CK) (v : Value) : Prop :=
  v = .slice none 0 0 ∨ (∃ a, v = .slice (some a) 0 0) ∨ ∃ (l : List (Row ks)) (em : Nat × Nat × Nat), (∀ r ∈ l, RowWf ks r) ∧ l.length ≤ maxLen ∧ (∀ ι : Emb, ORel ι W em (.ro (flat ks l))) ∧
      ∀ (ι : Emb) (i : Nat), ι[i]? = some em → VRel ι (.slice i 0 l.length ks.length) v

/-- A slice of plain elements: nil; without room; else a row of cells. -/
theorem open_rows {W : World} {r : Reach} {b0 : Nat} {t e : TypeId} {d : Nat} {ks : List CK} {v : Value} {x : DataW H} {p : List MemPlace} (ht : P.underlying t = some (.slice e)) (hk : kindsC P d e = some ks) (hc : P.cellsOf e = ks.length) (hpos : 0 < ks.length)
    (hv : Value.okWide P W r b0 t v) (h : DataW.Trod enc P W 0 (fun _ => true) true t v x p) :
    RowsArg W ks v := by
  obtain ⟨a0, n0, c0, rfl⟩ := okWide_slice ht hv
  obtain ⟨fuel, hf⟩ := h
  rcases DataW.trod_slice ht hf with ⟨h1, _⟩ | ⟨a, len, cap, elems, rest, n, rfl, h1, _, _, hlc, hcm, hel, hat, hsp, _⟩
  · simp [Value.cells] at h1
    obtain ⟨rfl, rfl, rfl⟩ := h1
    exact .inl rfl
  · simp [Value.cells] at h1
    obtain ⟨rfl, rfl, rfl⟩ := h1
    rcases Nat.eq_zero_or_pos c0 with h0 | h0
    · subst h0
      obtain rfl : n0 = 0 := by omega
      exact .inr (.inl ⟨a, rfl⟩)
    · obtain ⟨hrl, hra⟩ := hsp rfl
      -- every element up to the capacity
      have every : ∀ i, i < c0 → ∃ R : Row ks, RowWf ks R ∧ W.cells? 0 (a.add (i * ks.length)) ks.length = some (rowVals ks R) := by
        intro i hi
        have : ∃ y, (W.cells? 0 (a.add (i * P.cellsOf e)) (P.cellsOf e)).bind (DataW.trod enc P W 0 (fun _ => true) true n e) = some y := by
          rcases Nat.lt_or_ge i n0 with h' | h'
          · exact ⟨elems[i], by rw [hat i h', List.getElem?_eq_getElem (by omega)]⟩
          · have := hra (i - n0) (by omega)
            rw [show n0 + (i - n0) = i by omega] at this
            exact ⟨rest[i - n0], by rw [this, List.getElem?_eq_getElem (by omega)]⟩
        obtain ⟨y, hy⟩ := this
        rw [Option.bind_eq_some_iff] at hy
        obtain ⟨cs, h1, h2⟩ := hy
        obtain ⟨R, e1, wf, _, _⟩ := open_plain d e ks hk n cs y h2
        rw [hc] at h1
        exact ⟨R, wf, by rw [h1, e1]⟩
      obtain ⟨R, hR⟩ := Go.Deep.choose_lt every
      obtain ⟨c, ty, fz, hh, hs, _, _, _⟩ := cells_of hpos (hR 0 h0).2
      rw [Nat.zero_mul, show a.add 0 = a from rfl] at hh hs
      have hcell : ∀ i, i < c0 → a.off + i * ks.length + ks.length ≤ c.size ∧ ∀ j, j < ks.length → (rowVals ks (R i))[j]? = c[a.off + i * ks.length + j]? := by
        intro i hi
        obtain ⟨c', ty', fz', hh', hs', hb, _, hg⟩ := cells_of hpos (hR i hi).2
        rw [add_eq hs] at hh' hb hg
        rw [hh] at hh'
        cases hh'
        exact ⟨hb, hg⟩
      have hlast := (hcell (c0 - 1) (by omega)).1
      have hmul : (c0 - 1) * ks.length + ks.length = c0 * ks.length := by
        rw [← Nat.succ_mul]; congr 1; omega
      refine .inr (.inr ⟨(List.range n0).map R, (a.block, a.off, c.size), ?_, by simp; omega, fun ι => ⟨c, ty, fz, hh, rfl, ?_, ?_⟩, fun ι i hi => ?_⟩)
      · intro r hr
        simp only [List.mem_map, List.mem_range] at hr
        obtain ⟨i, hi, rfl⟩ := hr
        exact (hR i (by omega)).1
      · have : n0 * ks.length ≤ c0 * ks.length := Nat.mul_le_mul_right _ hlc
        simp only [flat_length, List.length_map, List.length_range]
        omega
      · intro j v hj
        have hjl : j < n0 * ks.length := by
          have hlt : j < (flat ks ((List.range n0).map R)).length := by
            rcases Nat.lt_or_ge j (flat ks ((List.range n0).map R)).length with h' | h'
            · exact h'
            · rw [List.getElem?_eq_none h'] at hj; cases hj
          rwa [flat_length, List.length_map, List.length_range] at hlt
        have hq : j % ks.length < ks.length := Nat.mod_lt _ hpos
        have hi : j / ks.length < n0 := Nat.div_lt_of_lt_mul (by rw [Nat.mul_comm]; exact hjl)
        have hjd : j = j / ks.length * ks.length + j % ks.length := by rw [Nat.mul_comm]; exact (Nat.div_add_mod j ks.length).symm
        have hget := flat_get (cs := ks) (l := (List.range n0).map R) (r := j / ks.length) (row := R (j / ks.length)) (by simp [hi]) (j % ks.length) hq
        rw [← hjd, hj] at hget
        obtain ⟨x, hx, hrel⟩ := rowVals_get (ι := ι) (R (j / ks.length)) hget.symm
        refine ⟨x, ?_, hrel⟩
        have := (hcell (j / ks.length) (by omega)).2 (j % ks.length) hq
        rw [hx] at this
        show c[a.off + j]? = some x
        rw [this, Nat.add_assoc, ← hjd]
      · simp only [VRel, List.length_map, List.length_range]
        refine ⟨_, a, c0, hi, rfl, hlc, .inr ⟨?_, by simp only [Nat.add_zero]; omega⟩⟩
        obtain ⟨b, o, s⟩ := a
        simp only at hs
        subst hs
        rfl

/-- Memory of blocks that nobody writes. -/
theorem hrel_one {W : World} {em : Nat × Nat × Nat} {vs : List AV} (h : ∀ ι : Emb, ORel ι W em (.ro vs)) : HRel [em] [.ro vs] W :=
  ⟨rfl, fun i o e hi he => by
    cases i with
    | zero => simp at hi he; subst hi; subst he; exact h _
    | succ i => simp at hi,
   fun i j o o' e e' hi hj _ _ hx _ _ => by
    cases i with
    | zero => simp at hi; subst hi; cases hx
    | succ i => simp at hi⟩
theorem hrel_dead {W : World} (em : Nat × Nat × Nat) : HRel [em] [.dead] W :=
  ⟨rfl, fun i o e hi he => by
    cases i with
    | zero => simp at hi he; subst hi; trivial
    | succ i => simp at hi,
   fun i j o o' e e' hi hj _ _ hx _ _ => by
    cases i with
    | zero => simp at hi; subst hi; cases hx
    | succ i => simp at hi⟩
theorem own_dead {em : Nat × Nat × Nat} (b : Nat) : ¬ Own [.dead] [em] b := fun ⟨i, o, e, hi, hx, _⟩ => by
  cases i with
  | zero => simp at hi; subst hi; cases hx
  | succ i => simp at hi
theorem own_one {em : Nat × Nat × Nat} {vs : List AV} (b : Nat) : ¬ Own [.ro vs] [em] b := fun ⟨i, o, e, hi, hx, _⟩ => by
  cases i with
  | zero => simp at hi; subst hi; cases hx
  | succ i => simp at hi
end
end Go.Ax

namespace Go.Ax
set_option linter.unusedVariables false
set_option linter.unusedSimpArgs false

/-- What a function is handed: a plain value, or rows. -/
inductive KA where
  | v (x : AV)
  | rows (cs : List CK) (l : List (Row cs))

/-- A new block of rows. -/
structure KBl where
  cs : List CK
  l : List (Row cs)
def KBl.obj (b : KBl) : KObj := .recs false b.cs b.l

/-- What a function answers: a value (block i: its i-th new one), the new blocks. -/
inductive FT where
  | no
  | ans (v : KV) (o : List KBl)
  | sel (c : Bool) (x y : FT)

def FT.run : FT → Option (KV × List KBl)
  | .no => none
  | .ans v o => some (v, o)
  | .sel c x y => match c with
    | true => x.run
    | false => y.run

section
variable {β : Type}
noncomputable def FT.k (t : FT) (k : KV → List KBl → Option β) : Option β :=
  FT.rec (motive := fun _ => Option β) none (fun v o => k v o) (fun c _ _ a b => selK c a b) t
theorem FT.k_run (k : KV → List KBl → Option β) : ∀ (t : FT) (r : β), t.k k = some r → ∃ v o, t.run = some (v, o) ∧ k v o = some r
  | .no, r, e => by cases e
  | .ans v o, r, e => ⟨v, o, rfl, e⟩
  | .sel c x y, r, e => by
    cases c with
    | true => exact FT.k_run k x r e
    | false => exact FT.k_run k y r e

noncomputable def shiftK (n : Nat) (v : KV) (k : KV → Option β) : Option β :=
  match v with
  | .tuple l => forceVs (KV.rens (fun i => some (n + i)) l) fun l => k (.tuple l)
  | v => valK (v.ren fun i => some (n + i)) k
theorem shiftK_eq (n : Nat) (v : KV) (k : KV → Option β) : shiftK n v k = k (v.ren fun i => some (n + i)) := by
  unfold shiftK
  split
  · rw [forceVs_eq]; rfl
  · rw [valK_eq]

noncomputable def viewK (h : KHeap) (s : Option (List CK)) (v : KV) (k : KA → Option β) : Option β :=
  match s with
  | none => selK (erv v).scalar (k (.v (erv v))) none
  | some cs => match v with
    | .nilslice => k (.v .nilslice)
    | .rslice i r n es => match h[i]? with
      | some (.recs _ ds l) => sameK cs ds l fun l => selK (es == cs.length && decide (r + n ≤ l.length)) (k (.rows cs ((l.drop r).take n))) none
      | _ => none
    | .slice i o n es => rowK h i fun vs => optK (subK vs o (n * es)) fun c => optK (rowsOf cs n c) fun l => selK (es == cs.length) (k (.rows cs l)) none
    | _ => none
noncomputable def viewsK (h : KHeap) : List (Option (List CK)) → List KV → (List KA → Option β) → Option β
  | [], [], k => k []
  | s :: ss, v :: vs, k => viewK h s v fun a => viewsK h ss vs fun as => k (a :: as)
  | _, _, _ => none
end

def viewA (h : AHeap) (s : Option (List CK)) (v : AV) : Option KA :=
  match s with
  | none => if v.scalar = true then some (.v v) else none
  | some cs => match v with
    | .nilslice => some (.v .nilslice)
    | .slice i o n es => if es = cs.length then match h.row i with
      | some vs => match sub? vs o (n * es) with
        | some l => (rowsOf cs n (injs l)).map (.rows cs)
        | none => none
      | none => none else none
    | _ => none
def viewsA (h : AHeap) : List (Option (List CK)) → List AV → Option (List KA)
  | [], [] => some []
  | s :: ss, v :: vs => match viewA h s v, viewsA h ss vs with
    | some a, some as => some (a :: as)
    | _, _ => none
  | _, _ => none

theorem injs_rowAV : ∀ (cs : List CK) (r : Row cs), injs (rowAV cs r) = rowKV cs r
  | [], _ => by simp [rowKV, rowAV, injs]
  | .bool :: cs, r => by simp [rowKV, rowAV, injs, inj, injs_rowAV cs r.2]
  | .int _ :: cs, r => by simp [rowKV, rowAV, injs, inj, injs_rowAV cs r.2]
  | .str :: cs, r => by simp [rowKV, rowAV, injs, inj, injs_rowAV cs r.2]
theorem rowOf_rowKV : ∀ (cs : List CK) (r : Row cs) (vs : List KV), rowOf cs (rowKV cs r ++ vs) = some (r, vs)
  | [], _, vs => by simp [rowKV, rowOf]
  | .bool :: cs, r, vs => by simp [rowKV, rowOf, rowOf_rowKV cs r.2]
  | .int _ :: cs, r, vs => by simp [rowKV, rowOf, rowOf_rowKV cs r.2]
  | .str :: cs, r, vs => by simp [rowKV, rowOf, rowOf_rowKV cs r.2]
theorem injs_append : ∀ a b : List AV, injs (a ++ b) = injs a ++ injs b
  | [], b => rfl
  | v :: a, b => by simp [injs, injs_append a b]
theorem rowsOf_flat (cs : List CK) : ∀ l : List (Row cs), rowsOf cs l.length (injs (flat cs l)) = some l
  | [] => by simp [flat, injs, rowsOf]
  | r :: l => by
    rw [flat_cons, injs_append, injs_rowAV]
    simp [rowsOf, rowOf_rowKV, rowsOf_flat cs l]

theorem sameK_in {γ : Type} {cs ds : List CK} {l : List (Row ds)} {k : List (Row cs) → Option γ} {r : γ} (e : sameK cs ds l k = some r) : ∃ h : ds = cs, k (h ▸ l) = some r := by
  unfold sameK at e
  split at e
  · rename_i hd; exact ⟨hd, e⟩
  · cases e

section
variable {β : Type}
theorem viewK_sim {h : KHeap} {s : Option (List CK)} {v : KV} {k : KA → Option β} {r : β} (e : viewK h s v k = some r) : ∃ a, viewA (erh h) s (erv v) = some a ∧ k a = some r := by
  unfold viewK at e
  cases s with
  | none =>
    obtain ⟨hc, e⟩ := selK_t e
    exact ⟨_, by simp only [viewA, if_pos hc], e⟩
  | some cs =>
    simp only at e
    split at e
    · exact ⟨_, rfl, e⟩
    · rename_i i r' n es
      split at e
      · rename_i b ds l hi
        obtain ⟨rfl, e⟩ := sameK_in e
        obtain ⟨hc, e2⟩ := selK_t e
        simp only [Bool.and_eq_true, beq_iff_eq, decide_eq_true_eq] at hc
        obtain ⟨rfl, hb⟩ := hc
        refine ⟨_, ?_, e2⟩
        simp only [erv, viewA, if_true, recs_row hi, flat_sub l r' n hb]
        have hl : ((l.drop r').take n).length = n := by rw [List.length_take, List.length_drop]; omega
        have := rowsOf_flat ds ((l.drop r').take n)
        rw [hl] at this
        rw [this, Option.map_some]
      · cases e
    · rename_i i o n es
      obtain ⟨vs, h1, e⟩ := rowK_sim e
      obtain ⟨c, h2, e⟩ := optK_some e
      obtain ⟨l, h3, e⟩ := optK_some e
      obtain ⟨hc, e⟩ := selK_t e
      have hc' : es = cs.length := by simpa using hc
      refine ⟨_, ?_, e⟩
      obtain ⟨g1, g2⟩ := rowsOf_spec n c l h3
      have := rowsOf_flat cs l
      rw [g2, ← g1] at this
      simp only [erv, viewA, if_pos hc', h1, subK_sim, h2, Option.map_some, this]
    · cases e
theorem viewsK_sim {h : KHeap} : ∀ (ss : List (Option (List CK))) (vs : List KV) (k : List KA → Option β) (r : β), viewsK h ss vs k = some r → ∃ as, viewsA (erh h) ss (ers vs) = some as ∧ k as = some r
  | [], [], k, r, e => ⟨[], rfl, e⟩
  | [], _ :: _, k, r, e => by cases e
  | _ :: _, [], k, r, e => by cases e
  | s :: ss, v :: vs, k, r, e => by
    obtain ⟨a, h1, e⟩ := viewK_sim e
    obtain ⟨as, h2, e⟩ := viewsK_sim ss vs _ r e
    exact ⟨_, by simp only [ers, viewsA, h1, h2], e⟩
end

def KBl.cells (b : KBl) : AObj := .cells (flat b.cs b.l)

/-- A function that reads rows and makes blocks. -/
noncomputable def KT.gen (sig : List (Option (List CK))) (g : List KA → FT) : KT where
  a args h := match viewsA h sig args with
    | none => none
    | some as => match (g as).run with
      | none => none
      | some (v, o) => some ((erv v).ren fun i => some (h.length + i), h ++ o.map KBl.cells)
  k β args h kk := viewsK h sig args fun as => (g as).k fun v o => shiftK h.length v fun v => forceC (h ++ o.map KBl.obj) fun h => kk v h
  sim β args h kk r e := by
    obtain ⟨as, h1, e⟩ := viewsK_sim sig args _ r e
    obtain ⟨v, o, h2, e⟩ := FT.k_run _ _ r e
    rw [shiftK_eq, forceC_eq] at e
    refine ⟨_, _, ?_, e⟩
    simp only [h1, h2, ren_sim, erh_length]
    simp only [erh, List.map_append, List.map_map, Option.some.injEq, Prod.mk.injEq, true_and]
    rfl

/-! ### Its soundness out of a run in a memory of these rows alone -/

def argsKA : List KA → Nat → List KV
  | [], _ => []
  | .v x :: as, i => inj x :: argsKA as i
  | .rows cs l :: as, i => .rslice i 0 l.length cs.length :: argsKA as (i + 1)
def heapKA : List KA → KHeap
  | [] => []
  | .v _ :: as => heapKA as
  | .rows cs l :: as => .recs true cs l :: heapKA as

theorem rowAV_at {cs : List CK} {l : List (Row cs)} {j : Nat} {v : AV} (h : (flat cs l)[j]? = some v) : v.scalar = true := by
  have hm : v ∈ flat cs l := List.mem_of_getElem? h
  have : ∀ (cs : List CK) (r : Row cs), ∀ v ∈ rowAV cs r, v.scalar = true := by
    intro cs
    induction cs with
    | nil => intro r v hv; simp [rowAV] at hv
    | cons c cs ih => intro r v hv; cases c <;> (simp only [rowAV, List.mem_cons] at hv; exact hv.elim (fun e => by rw [e]; rfl) fun hv => ih r.2 v hv)
  obtain ⟨r, _, hr⟩ := List.mem_flatMap.1 hm
  exact this cs r v hr

theorem views_rel {ι : Emb} {h : AHeap} {w : World} (H : HRel ι h w) : ∀ (ss : List (Option (List CK))) (vs : List AV) (as : List KA) (xs : List Value), viewsA h ss vs = some as → VRels ι vs xs →
    ∃ ι0 : Emb, ι0.length = (heapKA as).length ∧ (∀ (p s : Emb), VRels (p ++ ι0 ++ s) (ers (argsKA as p.length)) xs) ∧ ∀ (j : Nat) (o : AObj) (e : Nat × Nat × Nat), (erh (heapKA as))[j]? = some o → ι0[j]? = some e → o.excl = false ∧ ∀ ι' : Emb, ORel ι' w e o
  | [], [], as, xs, ha, hx => by
    cases ha
    rw [hx.nil_inv]
    exact ⟨[], rfl, fun p s => .nil, fun j o e h _ => by simp [heapKA] at h⟩
  | [], _ :: _, as, xs, ha, hx => by cases ha
  | _ :: _, [], as, xs, ha, hx => by cases ha
  | s :: ss, v :: vs, as, xs, ha, hx => by
    obtain ⟨y, ys, rfl, hy, hys⟩ := hx.cons_inv
    simp only [viewsA] at ha
    split at ha
    · rename_i a as' h1 h2
      cases ha
      obtain ⟨ι0, hl, hr, ho⟩ := views_rel H ss vs as' ys h2 hys
      unfold viewA at h1
      split at h1
      · split at h1
        · rename_i hs
          cases h1
          exact ⟨ι0, hl, fun p s => .cons (by rw [erv_inj]; exact scalar_any v hs y hy) (hr p s), ho⟩
        · cases h1
      · rename_i cs
        split at h1
        · cases h1
          exact ⟨ι0, hl, fun p s => .cons (scalar_any AV.nilslice rfl y hy) (hr p s), ho⟩
        · rename_i i o n es
          split at h1
          · rename_i hes
            split at h1
            · rename_i row hrow
              split at h1
              · rename_i l hsub
                obtain ⟨rl, hrl, rfl⟩ := map_some h1
                obtain ⟨g1, g2⟩ := rowsOf_spec n _ rl hrl
                rw [ers_inj] at g1
                simp only [VRel] at hy
                obtain ⟨e, a, cap, he, rfl, hnc, hcap⟩ := hy
                obtain ⟨c, t, fz, hc, hR⟩ := H.rowRel hrow he
                unfold sub? at hsub
                split at hsub
                · rename_i hb
                  cases hsub
                  refine ⟨(e.1, e.2.1 + o, e.2.2) :: ι0, by simp [heapKA, hl], fun p s => ?_, fun j ob e' hj he' => ?_⟩
                  · have hr' := hr (p ++ [(e.1, e.2.1 + o, e.2.2)]) s
                    have e1 : p ++ [(e.1, e.2.1 + o, e.2.2)] ++ ι0 ++ s = p ++ ((e.1, e.2.1 + o, e.2.2) :: ι0) ++ s := by simp
                    rw [e1, List.length_append] at hr'
                    refine .cons ?_ hr'
                    simp only [erv, VRel, g2]
                    refine ⟨(e.1, e.2.1 + o, e.2.2), a, cap, ?_, rfl, hnc, ?_⟩
                    · rw [List.append_assoc, List.getElem?_append_right (Nat.le_refl _)]; simp
                    · simp only [Nat.zero_mul, Nat.add_zero]
                      rw [← hes]
                      exact hcap
                  · cases j with
                    | zero =>
                      simp only [heapKA, erh, List.map_cons, List.getElem?_cons_zero, Option.some.injEq] at hj he'
                      subst hj; subst he'
                      refine ⟨rfl, fun ι' => ⟨c, t, fz, hc, hR.1, ?_, fun j v hv => ?_⟩⟩
                      · have := hR.2.1
                        rw [← g1, List.length_take, List.length_drop]
                        simp only
                        omega
                      · have hs := rowAV_at hv
                        rw [← g1, List.getElem?_take] at hv
                        split at hv
                        · rw [List.getElem?_drop] at hv
                          obtain ⟨x, hx, hxr⟩ := hR.2.2 (o + j) v hv
                          exact ⟨x, by rw [← hx]; congr 1; simp only; omega, scalar_any v hs x hxr⟩
                        · cases hv
                    | succ j =>
                      exact ho j ob e' (by simpa [heapKA, erh] using hj) (by simpa using he')
                · cases hsub
              · cases h1
            · cases h1
          · cases h1
        · cases h1
    · cases ha

mutual
theorem ren_ren (f g : Nat → Option Nat) : ∀ v : AV, (v.ren f).ren g = v.ren fun i => (f i).bind g
  | .junk | .bool _ | .int _ _ | .str _ | .nilptr | .nilslice | .nilFunc => by simp [AV.ren]
  | .ptr i o => by simp only [AV.ren]; cases f i <;> simp [AV.ren]
  | .slice i o n es => by simp only [AV.ren]; cases f i <;> simp [AV.ren]
  | .yld i => by simp only [AV.ren]; cases f i <;> simp [AV.ren]
  | .func fn a b => by simp [AV.ren, rens_rens f g a, rens_rens f g b]
  | .agg l => by simp [AV.ren, rens_rens f g l]
  | .tuple l => by simp [AV.ren, rens_rens f g l]
theorem rens_rens (f g : Nat → Option Nat) : ∀ l : List AV, AV.rens g (AV.rens f l) = AV.rens (fun i => (f i).bind g) l
  | [] => by simp [AV.rens]
  | v :: l => by simp [AV.rens, ren_ren f g v, rens_rens f g l]
end

theorem KT.gen_ok {P : Program} {f : FuncId} {sig : List (Option (List CK))} {g : List KA → FT}
    (hg : ∀ as v o, (∃ (h : AHeap) (args : List AV), viewsA h sig args = some as) → (g as).run = some (v, o) → SoundCall P f (ers (argsKA as 0)) (erh (heapKA as)) ((erv v).ren fun i => some ((heapKA as).length + i)) (erh (heapKA as) ++ o.map KBl.cells)) : ContractOk P f (KT.gen sig g).a := by
  intro args h v h' hr
  simp only [KT.gen] at hr
  split at hr
  · cases hr
  · rename_i as hv
    split at hr
    · cases hr
    · rename_i v0 o hro
      cases hr
      have hs := hg as v0 o ⟨h, args, hv⟩ hro
      refine ⟨hs.1, fun ι xs w hxs H => ?_⟩
      obtain ⟨ι0, hl, hr, ho⟩ := views_rel H sig args as xs.toList hv hxs
      have hl' : ι0.length = (erh (heapKA as)).length := by rw [hl, erh_length]
      have H0 : HRel ι0 (erh (heapKA as)) w := ⟨hl', fun i o e h1 h2 => (ho i o e h1 h2).2 ι0, fun i j o o' e e' h1 h2 h3 h4 hx _ _ => by rw [(ho i o e h1 h3).1] at hx; cases hx⟩
      have no : ∀ b, ¬ Own (erh (heapKA as)) ι0 b := fun b ⟨i, o, e, h1, hx, h2, _⟩ => by rw [(ho i o e h1 h2).1] at hx; cases hx
      refine (hs.2 ι0 xs w (by simpa using hr [] []) H0).mono ?_
      rintro e w' ⟨ι1, x, rfl, hx, hA⟩
      have bel := hA.step.to_below no
      have H1 := hA.rel
      have hl1 := H1.len
      have hk : (heapKA as).length = (erh (heapKA as)).length := (erh_length _).symm
      generalize (heapKA as).length = k at hk hx
      rw [List.length_append, ← hk] at hl1
      have hln := H.len
      let ι' : Emb := ι ++ ι1.drop k
      have gold : ∀ i : Nat, i < h.length → ι'[i]? = ι[i]? := fun i hi => List.getElem?_append_left (by omega)
      have gnew : ∀ i : Nat, ι'[h.length + i]? = ι1[k + i]? := fun i => by
        show (ι ++ ι1.drop k)[h.length + i]? = _
        rw [List.getElem?_append_right (by omega), List.getElem?_drop]
        congr 1; omega
      have src : ∀ (t : Nat) (ob : AObj) (e : Nat × Nat × Nat), (h ++ o.map KBl.cells)[t]? = some ob → ι'[t]? = some e →
          (t < h.length ∧ h[t]? = some ob ∧ ι[t]? = some e) ∨ (∃ s b, t = h.length + s ∧ ob = KBl.cells b ∧ (erh (heapKA as) ++ o.map KBl.cells)[k + s]? = some ob ∧ ι1[k + s]? = some e) := fun t ob e ht he => by
        by_cases hth : t < h.length
        · rw [List.getElem?_append_left hth] at ht
          exact .inl ⟨hth, ht, by rw [← gold t hth]; exact he⟩
        · obtain ⟨s, rfl⟩ : ∃ s, t = h.length + s := ⟨t - h.length, by omega⟩
          rw [List.getElem?_append_right (by omega), show h.length + s - h.length = s by omega] at ht
          rw [gnew] at he
          rw [List.getElem?_map] at ht
          cases hb : o[s]? with
          | none => rw [hb] at ht; cases ht
          | some b =>
            rw [hb] at ht
            cases ht
            exact .inr ⟨s, b, rfl, rfl, by rw [List.getElem?_append_right (by omega), show k + s - (erh (heapKA as)).length = s by omega, List.getElem?_map, hb]; rfl, he⟩
      have fresh : ∀ (s : Nat) (b : KBl) (e : Nat × Nat × Nat), (erh (heapKA as) ++ o.map KBl.cells)[k + s]? = some (KBl.cells b) → ι1[k + s]? = some e → w.heap.size ≤ e.1 := fun s b e h1 h2 =>
        (hA.step.own e.1 ⟨_, _, _, h1, rfl, h2, rfl⟩).resolve_left (no _)
      refine ⟨ι', x, rfl, ?_, ⟨⟨by show (ι ++ ι1.drop k).length = _; rw [List.length_append, List.length_append, List.length_drop, hl1, List.length_map, hln]; omega, fun t ob e ht he => ?_, fun t s ob ob' e e' ht hs' he he' hx hlv hne => ?_⟩, ⟨bel.os, bel.tape, bel.output, bel.size, fun b hb _ => bel.block b hb, fun b hb => ?_, loops_all bel.block⟩, fun i hi => gold i hi, by simp⟩⟩
      · have := VRel.ren (ι' := ι') (ρ := fun i => if i < k then none else some (h.length + (i - k))) (fun i j hij e he => by
          by_cases hik : i < k
          · simp [hik] at hij
          · simp only [hik, if_false, Option.some.injEq] at hij
            subst hij
            rw [gnew, show k + (i - k) = i by omega]; exact he) _ _ hx
        rw [ren_ren] at this
        have e1 : (fun i => (some (k + i)).bind fun i => if i < k then none else some (h.length + (i - k))) = fun i : Nat => some (h.length + i) := by
          funext i
          simp only [Option.bind_some]
          rw [if_neg (by omega)]
          congr 2; omega
        rw [e1] at this
        exact this
      · rcases src t ob e ht he with ⟨h1, h2, h3⟩ | ⟨s, b, rfl, rfl, h2, h3⟩
        · have := H.obj t ob e h2 h3
          exact this.mono (fun i e hi => by rw [gold i (by have := emb_lt hi; omega)]; exact hi) (fun hl => bel.block _ (this.block_lt hl))
        · exact (H1.obj _ _ e h2 h3).congr (fun _ => rfl) fun i hi => by simp [KBl.cells, AObj.ids, flat_ids] at hi
      · rcases src t ob e ht he with ⟨h1, h2, h3⟩ | ⟨s1, b, rfl, rfl, h2, h3⟩ <;> rcases src s ob' e' hs' he' with ⟨g1, g2, g3⟩ | ⟨s2, b', rfl, rfl, g2, g3⟩
        · exact H.sep t s ob ob' e e' h2 g2 h3 g3 hx hlv hne
        · have := (H.obj t ob e h2 h3).block_lt (by cases ob <;> simp_all [AObj.excl, AObj.live])
          have := fresh s2 b' e' g2 g3
          omega
        · have := (H.obj s ob' e' g2 g3).block_lt hlv
          have := fresh s1 b e h2 h3
          omega
        · exact H1.sep _ _ _ _ e e' h2 g2 h3 g3 hx hlv (by omega)
      · obtain ⟨t, ob, e, ht, hx, he, rfl⟩ := hb
        rcases src t ob e ht he with ⟨h1, h2, h3⟩ | ⟨s, b, rfl, rfl, h2, h3⟩
        · exact .inl ⟨t, ob, e, h2, hx, h3, rfl⟩
        · exact .inr (fresh s b e h2 h3)

/-- Such a contract out of runs. -/
theorem KT.gen_run {P : Program} (hm : P.follows .mixedOrders = true) {F : FuncId → Option AFn} (hF : FOk P F) {T : FuncId → Option KT} (hT : KTOk P T) {f : FuncId} {fn : AFn} (hTf : T f = none) (hFf : F f = some fn)
    {sig : List (Option (List CK))} {g : List KA → FT}
    (H : ∀ as v o, (∃ (h : AHeap) (args : List AV), viewsA h sig args = some as) → (g as).run = some (v, o) → ∃ L : Nat → Option (KLoop (KV × KHeap)), LoopsOk (aFn F (KT.tab T) RR DD) RR (heapKA as).length L fn.code ∧ kBody (kFn F T RR DD) L RR fn (argsKA as 0) (heapKA as) (fun v h => some (v, h)) = some (v.ren fun i => some ((heapKA as).length + i), heapKA as ++ o.map KBl.obj)) : ContractOk P f (KT.gen sig g).a := by
  refine KT.gen_ok fun as v o hv hg => ?_
  obtain ⟨L, hl, h2⟩ := H as v o hv hg
  have := run_sound hm hF hT hTf hFf hl h2
  rw [ren_sim] at this
  have e1 : erh (heapKA as ++ o.map KBl.obj) = erh (heapKA as) ++ o.map KBl.cells := by
    simp only [erh, List.map_append, List.map_map]
    rfl
  rw [e1] at this
  exact this

theorem FT.sel_run {c : Bool} {x y : FT} {r : KV × List KBl} (h : (FT.sel c x y).run = some r) : (c = true ∧ x.run = some r) ∨ (c = false ∧ y.run = some r) := by
  cases c with
  | true => exact .inl ⟨rfl, h⟩
  | false => exact .inr ⟨rfl, h⟩

end Go.Ax

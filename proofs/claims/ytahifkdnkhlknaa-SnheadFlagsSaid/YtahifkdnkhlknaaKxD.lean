/-
Arguments of plain types: numbers, truth values, strings, structs of them: how they read, and that they read so in every world.
-/
import Derived.Test.YtahifkdnkhlknaaKxC
import Derived.WalkKit
import Derived.ChangeSame
namespace Go.Ax
set_option linter.unusedVariables false
set_option linter.unusedSimpArgs false
open Go.ChangeShapes Go.WideShapes

def rowVals : (cs : List CK) → Row cs → List Value
  | [], _ => []
  | .bool :: cs, r => .bool r.1 :: rowVals cs r.2
  | .int k :: cs, r => .int k r.1 :: rowVals cs r.2
  | .str :: cs, r => .string ⟨r.1.toArray⟩ :: rowVals cs r.2
/-- Numbers in their kinds' ranges, strings that may be. -/
def RowWf : (cs : List CK) → Row cs → Prop
  | [], _ => True
  | .bool :: cs, r => RowWf cs r.2
  | .int k :: cs, r => (k.min ≤ r.1 ∧ r.1 ≤ k.max) ∧ RowWf cs r.2
  | .str :: cs, r => r.1.length ≤ maxLen ∧ RowWf cs r.2
def appRow : (a b : List CK) → Row a → Row b → Row (a ++ b)
  | [], _, _, y => y
  | .bool :: a, b, x, y => (x.1, appRow a b x.2 y)
  | .int _ :: a, b, x, y => (x.1, appRow a b x.2 y)
  | .str :: a, b, x, y => (x.1, appRow a b x.2 y)

theorem rowVals_rel {ι : Emb} : ∀ (cs : List CK) (r : Row cs), VRels ι (rowAV cs r) (rowVals cs r)
  | [], _ => .nil
  | .bool :: cs, r => .cons (by simp [VRel]) (rowVals_rel cs r.2)
  | .int _ :: cs, r => .cons (by simp [VRel]) (rowVals_rel cs r.2)
  | .str :: cs, r => .cons (by simp [VRel]) (rowVals_rel cs r.2)
theorem rowVals_length : ∀ (cs : List CK) (r : Row cs), (rowVals cs r).length = cs.length
  | [], _ => rfl
  | .bool :: cs, r => congrArg (· + 1) (rowVals_length cs r.2)
  | .int _ :: cs, r => congrArg (· + 1) (rowVals_length cs r.2)
  | .str :: cs, r => congrArg (· + 1) (rowVals_length cs r.2)
theorem rowVals_app : ∀ (a b : List CK) (x : Row a) (y : Row b), rowVals (a ++ b) (appRow a b x y) = rowVals a x ++ rowVals b y
  | [], _, _, _ => rfl
  | .bool :: a, b, x, y => congrArg (Value.bool x.1 :: ·) (rowVals_app a b x.2 y)
  | .int k :: a, b, x, y => congrArg (Value.int k x.1 :: ·) (rowVals_app a b x.2 y)
  | .str :: a, b, x, y => congrArg (Value.string ⟨x.1.toArray⟩ :: ·) (rowVals_app a b x.2 y)
theorem rowWf_app : ∀ (a b : List CK) (x : Row a) (y : Row b), RowWf a x → RowWf b y → RowWf (a ++ b) (appRow a b x y)
  | [], _, _, _, _, h => h
  | .bool :: a, b, x, y, hx, hy => rowWf_app a b x.2 y hx hy
  | .int k :: a, b, x, y, hx, hy => ⟨hx.1, rowWf_app a b x.2 y hx.2 hy⟩
  | .str :: a, b, x, y, hx, hy => ⟨hx.1, rowWf_app a b x.2 y hx.2 hy⟩

/-- The kinds of a plain type's cells. -/
def tileC (kf : TypeId → Option (List CK)) (P : Program) : List Field → Nat → Option (List CK)
  | [], _ => some []
  | f :: fs, off => if f.offset = off then match kf f.type with
    | some ks => if P.cellsOf f.type = ks.length then (tileC kf P fs (off + ks.length)).map (ks ++ ·) else none
    | none => none
    else none
def kindsC (P : Program) : Nat → TypeId → Option (List CK)
  | 0, _ => none
  | d + 1, t => match P.underlying t with
    | some .bool => some [.bool]
    | some (.int k) => some [.int k]
    | some .string => some [.str]
    | some (.struct fs) => match tileC (kindsC P d) P fs.toList 0 with
      | some ks => if P.cellsOf t = ks.length then some ks else none
      | none => none
    | _ => none

section
variable {H : Type} {enc : TypeId × Value → H} {P : Program}

/-- What a plain type's cells read as, in every world. -/
def PlainAt (enc : TypeId × Value → H) (P : Program) (n : Nat) (t : TypeId) (ks : List CK) (cs : List Value) (x : DataW H × List MemPlace) : Prop :=
  ∃ r : Row ks, cs = rowVals ks r ∧ RowWf ks r ∧ x.2 = [] ∧ ∀ (w : World) (base : Nat) (sp : Nat → Bool) (held : Bool), DataW.trod enc P w base sp held n t cs = some x

theorem trod_struct_iff {w : World} {base : Nat} {sp : Nat → Bool} {held : Bool} {t : TypeId} {fs : Array Field} {n : Nat} {cs : List Value} {x : DataW H × List MemPlace} (ht : P.underlying t = some (.struct fs)) :
    DataW.trod enc P w base sp held (n + 1) t cs = some x ↔ cs.length = P.cellsOf t ∧ ∃ xs, fs.toList.mapM (fun f => DataW.trod enc P w base sp held n f.type ((cs.drop f.offset).take (P.cellsOf f.type))) = some xs ∧ x = (.agg (xs.map (·.1)), xs.flatMap (·.2)) := by
  constructor
  · intro h
    unfold DataW.trod at h
    rw [ht] at h
    split at h <;> simp_all
    obtain ⟨_, xs, h1, h2⟩ := h
    exact ⟨xs, h1, h2.symm⟩
  · rintro ⟨hl, xs, h1, rfl⟩
    exact trod_struct_mk ht hl h1

theorem tile_open {kf : TypeId → Option (List CK)} {w : World} {base : Nat} {sp : Nat → Bool} {held : Bool} {n : Nat} {cs : List Value}
    (ih : ∀ t ks, kf t = some ks → ∀ cs x, DataW.trod enc P w base sp held n t cs = some x → PlainAt enc P n t ks cs x) :
    ∀ (fs : List Field) (off : Nat) (ks : List CK), tileC kf P fs off = some ks → ∀ xs, fs.mapM (fun f => DataW.trod enc P w base sp held n f.type ((cs.drop f.offset).take (P.cellsOf f.type))) = some xs →
      ∃ r : Row ks, (cs.drop off).take ks.length = rowVals ks r ∧ RowWf ks r ∧ xs.flatMap (·.2) = [] ∧
        ∀ (w : World) (base : Nat) (sp : Nat → Bool) (held : Bool), fs.mapM (fun f => DataW.trod enc P w base sp held n f.type ((cs.drop f.offset).take (P.cellsOf f.type))) = some xs
  | [], off, ks, hk, xs, hx => by
    simp only [tileC, Option.some.injEq] at hk
    subst hk
    simp at hx
    subst hx
    exact ⟨(), by simp [rowVals], trivial, rfl, fun _ _ _ _ => by simp⟩
  | f :: fs, off, ks, hk, xs, hx => by
    simp only [tileC] at hk
    split at hk
    · rename_i hoff
      split at hk
      · rename_i k1 hk1
        split at hk
        · rename_i hc
          obtain ⟨k2, hk2, rfl⟩ := map_some hk
          simp only [List.mapM_cons, Option.bind_eq_bind, Option.bind_eq_some_iff, Option.pure_def, Option.some.injEq] at hx
          obtain ⟨y, hy, ys, hys, rfl⟩ := hx
          obtain ⟨r1, e1, w1, p1, s1⟩ := ih f.type k1 hk1 _ y hy
          obtain ⟨r2, e2, w2, p2, s2⟩ := tile_open ih fs (off + k1.length) k2 hk2 ys hys
          refine ⟨appRow k1 k2 r1 r2, ?_, rowWf_app _ _ _ _ w1 w2, by simp [p1, p2], fun w base sp held => ?_⟩
          · rw [rowVals_app, ← e1, ← e2, hoff, hc, List.length_append, List.take_add, List.drop_drop]
          · simp only [List.mapM_cons, Option.bind_eq_bind, Option.bind_eq_some_iff, Option.pure_def, Option.some.injEq]
            exact ⟨y, s1 w base sp held, ys, s2 w base sp held, rfl⟩
        · cases hk
      · cases hk
    · cases hk

theorem open_plain {w : World} {base : Nat} {sp : Nat → Bool} {held : Bool} : ∀ (d : Nat) (t : TypeId) (ks : List CK), kindsC P d t = some ks → ∀ (n : Nat) (cs : List Value) (x : DataW H × List MemPlace), DataW.trod enc P w base sp held n t cs = some x → PlainAt enc P n t ks cs x
  | 0, t, ks, hk, _, _, _, _ => by cases hk
  | d + 1, t, ks, hk, n, cs, x, h => by
    simp only [kindsC] at hk
    split at hk
    · rename_i hu
      cases hk
      obtain ⟨b, rfl, rfl⟩ := DataW.trod_bool hu h
      refine ⟨(b, ()), rfl, trivial, rfl, fun w base sp held => ?_⟩
      cases n with
      | zero => simp [DataW.trod] at h
      | succ n => unfold DataW.trod; rw [hu]
    · rename_i k hu
      cases hk
      obtain ⟨m, rfl, rfl, hw⟩ := DataW.trod_int hu h
      refine ⟨(m, ()), rfl, ⟨wf_range hw, trivial⟩, rfl, fun w base sp held => ?_⟩
      cases n with
      | zero => simp [DataW.trod] at h
      | succ n => unfold DataW.trod; rw [hu]; simp [hw]
    · rename_i hu
      cases hk
      obtain ⟨s, rfl, rfl, hs⟩ := DataW.trod_string hu h
      refine ⟨(s.data.toList, ()), rfl, ⟨?_, trivial⟩, rfl, fun w base sp held => ?_⟩
      · show s.data.toList.length ≤ maxLen
        rw [Array.length_toList]; exact hs
      · cases n with
        | zero => simp [DataW.trod] at h
        | succ n => unfold DataW.trod; rw [hu]; simp [hs]
    · rename_i fs hu
      split at hk
      · rename_i ks' ht
        split at hk
        · rename_i hc
          cases hk
          cases n with
          | zero => simp [DataW.trod] at h
          | succ n =>
            obtain ⟨hl, xs, hx, rfl⟩ := (trod_struct_iff hu).1 h
            obtain ⟨r, e, wf, p, st⟩ := tile_open (fun t ks hk cs x h => open_plain d t ks hk n cs x h) fs.toList 0 _ ht xs hx
            refine ⟨r, ?_, wf, p, fun w base sp held => (trod_struct_iff hu).2 ⟨hl, xs, st w base sp held, rfl⟩⟩
            rw [← e, List.drop_zero, List.take_of_length_le (by omega)]
        · cases hk
      · cases hk
    · cases hk

/-- An argument of a plain struct type. -/
theorem open_struct {w : World} {r : Reach} {b0 base : Nat} {sp : Nat → Bool} {held : Bool} {t : TypeId} {fs : Array Field} {d : Nat} {ks : List CK} {v : Value} {x : DataW H} {p : List MemPlace} (hu : P.underlying t = some (.struct fs)) (hk : kindsC P d t = some ks)
    (hv : Value.okWide P w r b0 t v) (h : DataW.Trod enc P w base sp held t v x p) :
    ∃ row : Row ks, v = .agg (rowVals ks row).toArray ∧ RowWf ks row ∧ p = [] ∧ ∀ (w : World) (base : Nat) (sp : Nat → Bool) (held : Bool), DataW.Trod enc P w base sp held t v x [] := by
  obtain ⟨cs, rfl, hsz⟩ := okWide_struct hu hv
  obtain ⟨fuel, hf⟩ := h
  obtain ⟨row, e, wf, hp, st⟩ := open_plain d t ks hk fuel _ _ hf
  have e' : cs.toList = rowVals ks row := by simpa [Value.cells] using e
  have hp' : p = [] := hp
  subst hp'
  exact ⟨row, by rw [← e'], wf, rfl, fun w base sp held => ⟨fuel, st w base sp held⟩⟩

theorem agg_rel {ι : Emb} (ks : List CK) (row : Row ks) : VRel ι (.agg (rowAV ks row)) (.agg (rowVals ks row).toArray) := by
  simp only [VRel]
  exact ⟨_, rfl, by simpa using rowVals_rel ks row⟩
end
end Go.Ax

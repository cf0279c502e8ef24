/-
Each operation of the abstract machine is the model's.
Each operation of the abstract machine is the model's (2): one lemma an operation, and all together.
Each operation of the abstract machine is the model's (3): comparisons, conversions, slices.
-/
import Derived.Test.YtidlbhppbopjjaaAxA
namespace Go.Ax
set_option linter.unusedVariables false
set_option linter.unusedSimpArgs false

theorem ofV0_rel (ι : Emb) (x : Value) : VRel ι (ofV0 x) x := by
  unfold ofV0
  split <;> simp [VRel, VRels]

theorem ofV_rel (ι : Emb) (x : Value) : VRel ι (ofV x) x := by
  unfold ofV
  split
  · rename_i c
    simp only [VRel]
    refine ⟨c, rfl, ?_⟩
    have := VRels.map (ι := ι) ofV0 id c.toList (fun a _ => ofV0_rel ι a)
    simpa using this
  · exact ofV0_rel ι _

theorem opd_rel {ι : Emb} {fr : List AV} {a : Act} (hf : VRels ι fr a.tmps.toList) (x : Operand) : VRel ι ((opd x).ev fr) (a.eval x) := by
  cases x with
  | tmp t =>
    simp only [opd, AOpd.ev, Act.eval]
    have := hf.getD t undef
    rw [List.getD_eq_getElem?_getD] at this
    rw [List.getD_eq_getElem?_getD] at this
    rw [List.getD_eq_getElem?_getD]
    simpa using this
  | const v => exact ofV_rel ι v
  | global g => simp [opd, AOpd.ev, VRel]
  | func f =>
    simp only [opd, AOpd.ev, VRel, Act.eval]
    exact ⟨#[], #[], rfl, .nil, .nil⟩

theorem opds_rel {ι : Emb} {fr : List AV} {a : Act} (hf : VRels ι fr a.tmps.toList) (l : List Operand) :
    VRels ι ((l.map opd).map (·.ev fr)) (l.map a.eval) := by
  rw [List.map_map]
  exact VRels.map _ _ l fun x _ => opd_rel hf x

theorem cells_rel {ι : Emb} {v : AV} {x : Value} (h : VRel ι v x) {cs : List AV} (hc : v.cells = some cs) : VRels ι cs x.cells.toList := by
  cases v <;> simp only [AV.cells, Option.some.injEq, reduceCtorEq] at hc <;> subst hc
  case agg l => simp only [VRel] at h; obtain ⟨c, rfl, hc⟩ := h; exact hc
  all_goals
    have h' := h
    simp only [VRel] at h'
    first
      | (subst h'; exact .cons h .nil)
      | (obtain ⟨e, he, rfl⟩ := h'; exact .cons h .nil)
      | (obtain ⟨e, a, cap, he, rfl, _⟩ := h'; exact .cons h .nil)
      | (obtain ⟨xa, xb, rfl, _⟩ := h'; exact .cons h .nil)
      | (obtain ⟨c, rfl, _⟩ := h'; exact .cons h .nil)

theorem one_rel {ι : Emb} {v : AV} {x : Value} (h : VRel ι v x) (ho : v.one = true) : x.oneCell' = true := by
  cases v <;> simp only [AV.one, reduceCtorEq] at ho <;> simp only [VRel] at h
  all_goals first
    | (subst h; rfl)
    | (obtain ⟨e, he, rfl⟩ := h; rfl)
    | (obtain ⟨e, a, cap, he, rfl, _⟩ := h; rfl)
    | (obtain ⟨xa, xb, rfl, _⟩ := h; rfl)
    | (exact absurd ho (by decide))

/-! ### Rows -/

theorem HRel.rowRel {ι : Emb} {h : AHeap} {w : World} (H : HRel ι h w) {i : Nat} {vs : List AV} {e : Nat × Nat × Nat} (hr : h.row i = some vs) (he : ι[i]? = some e) :
    ∃ c t fz, w.heap[e.1]? = some (.cells c t fz) ∧ RowRel ι e vs c := by
  unfold AHeap.row at hr
  split at hr
  · rename_i us hi
    cases hr
    obtain ⟨c, t, h1, h2⟩ := H.obj i _ e hi he
    exact ⟨c, t, _, h1, h2⟩
  · rename_i us hi
    cases hr
    exact H.obj i _ e hi he
  · cases hr

theorem cell_of_block {w : World} {b k : Nat} {c : Array Value} {t : TypeId} {fz : Nat × Nat} (h : w.heap[b]? = some (.cells c t fz)) : w.cell? ⟨b, k, none⟩ = c[k]? := by
  simp [World.cell?, h]

theorem HRel.cell {ι : Emb} {h : AHeap} {w : World} (H : HRel ι h w) {i o : Nat} {vs : List AV} {v : AV} {e : Nat × Nat × Nat} (hr : h.row i = some vs) (he : ι[i]? = some e) (hv : vs[o]? = some v) :
    ∃ x, w.cell? ⟨e.1, e.2.1 + o, none⟩ = some x ∧ VRel ι v x := by
  obtain ⟨c, t, fz, h1, h2⟩ := H.rowRel hr he
  obtain ⟨x, hx, hrel⟩ := h2.2.2 o v hv
  exact ⟨x, by rw [cell_of_block h1]; exact hx, hrel⟩

theorem sub?_some {l l' : List AV} {o n : Nat} (h : sub? l o n = some l') : o + n ≤ l.length ∧ l' = (l.drop o).take n := by
  unfold sub? at h
  split at h
  · cases h; exact ⟨by assumption, rfl⟩
  · cases h

theorem add_at (b off j : Nat) : (⟨b, off, none⟩ : Addr).add j = ⟨b, off + j, none⟩ := by
  unfold Addr.add
  split
  · subst_vars; simp
  · rfl

theorem HRel.cellsAt {ι : Emb} {h : AHeap} {w : World} (H : HRel ι h w) {i o n : Nat} {vs l : List AV} {e : Nat × Nat × Nat} (hr : h.row i = some vs) (he : ι[i]? = some e) (hs : sub? vs o n = some l) :
    ∃ cs : List Value, cs.length = n ∧ VRels ι l cs ∧ ∀ j v, cs[j]? = some v → w.cell? ((⟨e.1, e.2.1 + o, none⟩ : Addr).add j) = some v := by
  obtain ⟨c, t, fz, h1, h2⟩ := H.rowRel hr he
  obtain ⟨hle, rfl⟩ := sub?_some hs
  have hsz : e.2.1 + vs.length ≤ c.toList.length := by have := h2.1; have := h2.2.1; simp; omega
  have hlen : ((c.toList.drop (e.2.1 + o)).take n).length = n := by simp at hsz ⊢; omega
  refine ⟨(c.toList.drop (e.2.1 + o)).take n, hlen, .of_get (by simp at hsz ⊢; omega) fun j v hv => ?_, fun j v hv => ?_⟩
  · have hj : j < n := by
      rcases Nat.lt_or_ge j n with h' | h'
      · exact h'
      · rw [List.getElem?_eq_none (by simp; omega)] at hv; cases hv
    rw [List.getElem?_take, if_pos hj, List.getElem?_drop] at hv
    obtain ⟨x, hx, hrel⟩ := h2.2.2 (o + j) v hv
    refine ⟨x, ?_, hrel⟩
    rw [List.getElem?_take, if_pos hj, List.getElem?_drop]
    rw [← hx, Array.getElem?_toList]
    congr 1
    omega
  · have hj : j < n := by
      rcases Nat.lt_or_ge j n with h' | h'
      · exact h'
      · rw [List.getElem?_eq_none (by rw [hlen]; exact h')] at hv; cases hv
    rw [List.getElem?_take, if_pos hj, List.getElem?_drop, Array.getElem?_toList] at hv
    rw [add_at, cell_of_block h1, ← hv]

/-! ### Writing cells -/

theorem splice_length : ∀ (l : List AV) (o : Nat) (xs : List AV), (splice l o xs).length = l.length
  | [], 0, [] => by simp [splice]
  | [], 0, _ :: _ => by simp [splice]
  | [], _ + 1, _ => by simp [splice]
  | _ :: _, 0, [] => by simp [splice]
  | _ :: l, 0, x :: xs => by simp [splice, splice_length l 0 xs]
  | y :: l, o + 1, xs => by simp [splice, splice_length l o xs]

theorem splice_get : ∀ (l : List AV) (o : Nat) (xs : List AV) (j : Nat), o + xs.length ≤ l.length → (splice l o xs)[j]? = if o ≤ j ∧ j < o + xs.length then xs[j - o]? else l[j]?
  | [], 0, [], j, _ => by simp [splice]
  | [], 0, _ :: _, j, h => by simp at h
  | [], _ + 1, _, j, h => by simp at h
  | _ :: _, 0, [], j, _ => by simp [splice]
  | y :: l, 0, x :: xs, 0, _ => by simp [splice]
  | y :: l, 0, x :: xs, j + 1, h => by
    simp only [splice, List.getElem?_cons_succ]
    rw [splice_get l 0 xs j (by simpa using h)]
    simp
  | y :: l, o + 1, xs, 0, _ => by simp [splice]
  | y :: l, o + 1, xs, j + 1, h => by
    simp only [splice, List.getElem?_cons_succ]
    rw [splice_get l o xs j (by simp at h; omega)]
    have : j + 1 - (o + 1) = j - o := by omega
    rw [this]
    by_cases hc : o ≤ j ∧ j < o + xs.length
    · rw [if_pos hc, if_pos (by omega)]
    · rw [if_neg hc, if_neg (by omega)]

theorem setCell_block (w : World) (b k : Nat) (x : Value) (c : Array Value) (t : TypeId) (fz : Nat × Nat) (h : w.heap[b]? = some (.cells c t fz)) :
    (w.setCell ⟨b, k, none⟩ x).heap[b]? = some (.cells (c.setIfInBounds k x) t fz) := by
  simp [World.setCell, Array.getElem?_modify, h]

/-- What is left of a world once a row of cells has been written. -/
structure Wrote (w w' : World) (b off : Nat) (xs : List Value) (c : Array Value) (t : TypeId) : Prop where
  os : w'.os = w.os
  tape : w'.tape = w.tape
  output : w'.output = w.output
  size : w'.heap.size = w.heap.size
  other : ∀ k, k ≠ b → w'.heap[k]? = w.heap[k]?
  row : ∃ c', w'.heap[b]? = some (.cells c' t (0, 0)) ∧ c'.size = c.size ∧ ∀ j, c'[j]? = if off ≤ j ∧ j < off + xs.length then xs[j - off]? else c[j]?

theorem run_storeCells {P : Program} (b off : Nat) (t : TypeId) : ∀ (xs : List Value) (i : Nat) (w : World) (c : Array Value), w.heap[b]? = some (.cells c t (0, 0)) →
    off + i + xs.length ≤ c.size → (∀ x ∈ xs, x.oneCell' = true) → ∃ w', (storeCells ⟨b, off, none⟩ xs i).run P w = .ok () w' ∧ Wrote w w' b (off + i) xs c t
  | [], i, w, c, hc, _, _ => ⟨w, by simp [storeCells], ⟨rfl, rfl, rfl, rfl, fun _ _ => rfl, c, hc, rfl, fun j => by simp; intro h1 h2; omega⟩⟩
  | x :: xs, i, w, c, hc, hle, ho => by
    have hlt : off + i < c.size := by simp at hle; omega
    obtain ⟨w', hrun, hw⟩ := run_storeCells (P := P) b off t xs (i + 1) (w.setCell ⟨b, off + i, none⟩ x) (c.setIfInBounds (off + i) x) (setCell_block w b (off + i) x c t _ hc)
      (by simp at hle ⊢; omega) (fun y hy => ho y (by simp [hy]))
    refine ⟨w', ?_, ?_⟩
    · simp only [storeCells, Sem.run_bind, add_at]
      rw [run_store P w _ x .plain (ho x (by simp)), cell_of_block hc, Array.getElem?_eq_getElem hlt]
      have hfz : w.frozen? ⟨b, off + i, none⟩ = false := by simp [World.frozen?, hc]
      simp only [hfz, Bool.false_eq_true, if_false, Result.andThen_ok]
      exact hrun
    · refine ⟨hw.os, hw.tape, hw.output, by rw [hw.size]; simp [World.setCell], fun k hk => by rw [hw.other k hk]; simp [World.setCell, Array.getElem?_modify]; intro h; exact absurd h.symm hk, ?_⟩
      obtain ⟨c', h1, h2, h3⟩ := hw.row
      refine ⟨c', h1, by simpa using h2, fun j => ?_⟩
      rw [h3 j]
      by_cases hj : j = off + i
      · subst hj
        rw [if_neg (by omega), if_pos (by simp)]
        simp [hlt]
      · by_cases hr : off + (i + 1) ≤ j ∧ j < off + (i + 1) + xs.length
        · rw [if_pos hr, if_pos (by simp; omega)]
          have : j - (off + i) = (j - (off + (i + 1))) + 1 := by omega
          rw [this]; simp
        · rw [if_neg hr, if_neg (by simp; omega)]
          rw [Array.getElem?_setIfInBounds_ne (by omega)]

/-- A row written: the abstract row too. -/
theorem wrote_rel {ι : Emb} {h : AHeap} {w w' : World} (H : HRel ι h w) {i o : Nat} {vs cs : List AV} {xs : List Value} {e : Nat × Nat × Nat} {c : Array Value} {t : TypeId}
    (hi : h[i]? = some (.cells vs)) (he : ι[i]? = some e) (hb : w.heap[e.1]? = some (.cells c t (0, 0))) (hrow : RowRel ι e vs c) (hle : o + cs.length ≤ vs.length)
    (hr : VRels ι cs xs) (hw : Wrote w w' e.1 (e.2.1 + o) xs c t) :
    HRel ι (h.set i (.cells (splice vs o cs))) w' ∧ Step h ι w (h.set i (.cells (splice vs o cs))) ι w' := by
  have hil : i < h.length := (List.getElem?_eq_some_iff.1 hi).1
  have hget : ∀ (j : Nat) (q : AObj), (h.set i (.cells (splice vs o cs)))[j]? = some q → (j = i ∧ q = .cells (splice vs o cs)) ∨ (j ≠ i ∧ h[j]? = some q) := fun j q hq => by
    by_cases hj : j = i
    · subst hj; rw [List.getElem?_set_self hil] at hq; exact .inl ⟨rfl, (Option.some.inj hq).symm⟩
    · rw [List.getElem?_set_ne (fun e => hj e.symm)] at hq; exact .inr ⟨hj, hq⟩
  have hxl : xs.length = cs.length := hr.length.symm
  refine ⟨⟨by simp [H.len], fun j q e' hq he' => ?_, fun j k q q' e' e'' hq hq' he' he'' hx hl hne => ?_⟩,
    ⟨hw.os, hw.tape, hw.output, by rw [hw.size]; exact Nat.le_refl _, fun b hbl hno => hw.other b (fun hbe => hno ⟨i, _, e, hi, rfl, he, hbe.symm⟩), fun b hown => ?_, loops_of (k := e.1) (by unfold loopAt; rw [hb]) fun b _ hbe => hw.other b hbe⟩⟩
  · rcases hget j q hq with ⟨rfl, rfl⟩ | ⟨hj, hq'⟩
    · rw [he] at he'; cases he'
      obtain ⟨c', h1, h2, h3⟩ := hw.row
      refine ⟨c', t, h1, by rw [h2]; exact hrow.1, by rw [splice_length]; exact hrow.2.1, fun k v hv => ?_⟩
      rw [splice_get vs o cs k hle] at hv
      rw [h3]
      by_cases hk : o ≤ k ∧ k < o + cs.length
      · rw [if_pos hk] at hv
        rw [if_pos (by omega)]
        obtain ⟨x, hx, hrel⟩ := hr.get _ _ hv
        refine ⟨x, ?_, hrel⟩
        rw [← hx]; congr 1; omega
      · rw [if_neg hk] at hv
        rw [if_neg (by omega)]
        exact hrow.2.2 k v hv
    · refine (H.obj j q e' hq' he').mono (fun _ _ h => h) (fun hl => hw.other _ fun hbe => ?_)
      exact H.sep i j _ q e e' hi hq' he he' rfl hl (fun h => hj h.symm) hbe.symm
  · rcases hget j q hq with ⟨rfl, rfl⟩ | ⟨hj, hqj⟩ <;> rcases hget k q' hq' with ⟨rfl, rfl⟩ | ⟨hk, hqk⟩
    · exact absurd rfl hne
    · exact H.sep j k _ q' e' e'' hi hqk he' he'' rfl hl hne
    · exact H.sep j k q _ e' e'' hqj hi he' he'' hx rfl hne
    · exact H.sep j k q q' e' e'' hqj hqk he' he'' hx hl hne
  · obtain ⟨j, q, e', hq, hx, he', rfl⟩ := hown
    rcases hget j q hq with ⟨rfl, rfl⟩ | ⟨hj, hqj⟩
    · exact .inl ⟨j, _, e', hi, rfl, he', rfl⟩
    · exact .inl ⟨j, q, e', hqj, hx, he', rfl⟩

end Go.Ax

namespace Go.Ax
set_option linter.unusedVariables false
set_option linter.unusedSimpArgs false

structure After (ι : Emb) (h : AHeap) (w : World) (h' : AHeap) (ι' : Emb) (w' : World) : Prop where
  rel : HRel ι' h' w'
  step : Step h ι w h' ι' w'
  agree : Agree h.length ι ι'
  le : h.length ≤ h'.length

theorem After.refl {ι : Emb} {h : AHeap} {w : World} (H : HRel ι h w) : After ι h w h ι w := ⟨H, .refl .., Agree.refl _ _, Nat.le_refl _⟩
theorem After.trans {ι ι' ι'' : Emb} {h h' h'' : AHeap} {w w' w'' : World} (a : After ι h w h' ι' w') (b : After ι' h' w' h'' ι'' w'') : After ι h w h'' ι'' w'' :=
  ⟨b.rel, a.step.trans b.step, a.agree.trans (b.agree.less a.le), Nat.le_trans a.le b.le⟩

def OpGood (P : Program) (ι : Emb) (h : AHeap) (w : World) (s : Sem Next) : AOut → Prop
  | .val v h' => ∃ x ι' w', s.run P w = .ok (.value x) w' ∧ VRel ι' v x ∧ After ι h w h' ι' w' ∧ (h' = h → ι' = ι ∧ w' = w)
  | .skip h' => ∃ ι' w', s.run P w = .ok .skip w' ∧ After ι h w h' ι' w'
  | .call f args => ∃ xs : Array Value, s.run P w = .ok (.enter f xs) w ∧ VRels ι args xs.toList
  | .yield i args => ∃ (e : Nat × Nat × Nat) (xs : Array Value), ι[i]? = some e ∧ s.run P w = (Instr.yield e.1 xs).run P w ∧ VRels ι args xs.toList

/-- A function that is called into. -/
def Callable (P : Program) (f : FuncId) : Prop := ∀ (xs : Array Value) (w : World), (callFunc f xs).run P w = .ok (.enter f xs) w

section
variable {P : Program} {ι : Emb} {h : AHeap} {w : World}

theorem good_pure (H : HRel ι h w) {s : Sem Value} {v : AV} {x : Value} (hs : s.run P w = .ok x w) (hv : VRel ι v x) :
    OpGood P ι h w (do pure (.value (← s))) (.val v h) := ⟨x, ι, w, by simp [hs], hv, .refl H, fun _ => ⟨rfl, rfl⟩⟩

theorem good_new (H : HRel ι h w) {s : Sem Value} {vs : List AV} {c : Array Value} {t : TypeId} {v : AV} {x : Value} (hv : VRels ι vs c.toList)
    (hs : s.run P w = .ok x { w with heap := w.heap.push (.cells c t) }) (hx : VRel (ι ++ [(w.heap.size, 0, c.size)]) v x) :
    OpGood P ι h w (do pure (.value (← s))) (.val v (h ++ [.cells vs])) := by
  obtain ⟨h1, h2, h3⟩ := newRow_rel H t hv
  exact ⟨x, _, _, by simp [hs], hx, ⟨h1, h2, h3, by simp⟩, fun hh => absurd (congrArg List.length hh) (by simp)⟩

theorem zeroA_some {t : TypeId} {z : List AV} (hz : zeroA P t = some z) : ∃ i zv, P.info? t = some i ∧ i.zero = some zv ∧ z = zv.cells.toList.map ofV0 := by
  unfold zeroA at hz
  split at hz
  · split at hz
    · exact ⟨_, _, by assumption, by assumption, (Option.some.inj hz).symm⟩
    · cases hz
  · cases hz

theorem elemA_some {t e : TypeId} (he : elemA P t = some e) : P.underlying t = some (.slice e) := by
  unfold elemA at he
  split at he
  · cases he; assumption
  · cases he

theorem sizeA_some {t : TypeId} {n : Nat} (hn : sizeA P t = some n) : ∃ i, P.info? t = some i ∧ i.size = n := by
  unfold sizeA at hn
  cases hi : P.info? t with
  | none => simp [hi] at hn
  | some i => simp [hi] at hn; exact ⟨i, rfl, hn⟩

theorem aggA_some {t : TypeId} {b : Bool} (hb : aggA P t = some b) (w : World) : (isAgg t).run P w = .ok b w := by
  unfold aggA at hb
  unfold isAgg
  split at hb
  · rename_i hu; cases hb; simp [run_underlying hu]
  · rename_i hu; cases hb; simp [run_underlying hu]
  · rename_i d hn1 hn2 hu
    cases hb
    simp only [Sem.run_bind, run_underlying hu, Result.andThen_ok]
    cases d <;> first | rfl | (exact absurd hu (hn1 _)) | (exact absurd hu (hn2 _ _))
  · cases hb

theorem run_typeInfo' {t : TypeId} {i : TypeInfo} (hi : P.info? t = some i) (w : World) : (typeInfo t).run P w = .ok i w := by simp [typeInfo, hi]
theorem run_sizeOf' {t : TypeId} {i : TypeInfo} (hi : P.info? t = some i) (w : World) : (sizeOf t).run P w = .ok i.size w := by simp [sizeOf, run_typeInfo' hi]
theorem run_zeroValue' {t : TypeId} {i : TypeInfo} {z : Value} (hi : P.info? t = some i) (hz : i.zero = some z) (w : World) : (zeroValue t).run P w = .ok z w := by simp [zeroValue, run_typeInfo' hi, hz]

theorem new_last (H : HRel ι h w) (n : Nat) : VRel (ι ++ [(w.heap.size, 0, n)]) (.ptr h.length 0) (.pointer (some ⟨w.heap.size, 0, none⟩)) := by
  simp only [VRel]; exact ⟨_, Emb.last H _, rfl⟩

theorem alloc_good (H : HRel ι h w) {t : TypeId} {z : List AV} (hz : zeroA P t = some z) :
    OpGood P ι h w (do pure (.value (← Instr.alloc t true (.tuple #[])))) (.val (.ptr h.length 0) (h ++ [.cells z])) := by
  obtain ⟨i, zv, hi, hzv, rfl⟩ := zeroA_some hz
  refine good_new H (c := zv.cells) (t := t) ?_ ?_ (new_last H _)
  · simpa using VRels.map (ι := ι) ofV0 id zv.cells.toList (fun a _ => ofV0_rel ι a)
  · simp [Instr.alloc, run_zeroValue' hi hzv, newVar, newRow]

theorem box_good (H : HRel ι h w) {t : TypeId} {v : AV} {x : Value} (hv : VRel ι v x) {cs : List AV} (hc : v.cells = some cs) :
    OpGood P ι h w (do pure (.value (← Instr.box t x))) (.val (.ptr h.length 0) (h ++ [.cells cs])) :=
  good_new H (cells_rel hv hc) (by simp [Instr.box, newVar, newRow]; rfl) (new_last H _)

theorem ptr_inv {v : AV} {x : Value} {i o : Nat} (hv : VRel ι v x) (hp : v = .ptr i o) : ∃ e, ι[i]? = some e ∧ x = .pointer (some ⟨e.1, e.2.1 + o, none⟩) := by
  subst hp; simpa only [VRel] using hv

theorem load1_good (H : HRel ι h w) {t : TypeId} {i o : Nat} {x : Value} (hx : VRel ι (.ptr i o) x) (ha : aggA P t = some false) {vs : List AV} (hr : h.row i = some vs) {v : AV} (hv : vs[o]? = some v) :
    OpGood P ι h w (do pure (.value (← Instr.loadAt t x))) (.val v h) := by
  obtain ⟨e, he, rfl⟩ := ptr_inv hx rfl
  obtain ⟨y, hy, hrel⟩ := H.cell hr he hv
  refine good_pure H (x := y) ?_ hrel
  simp [Instr.loadAt, Instr.sureAddr, loadVar, aggA_some ha, hy]

theorem loadN_good (H : HRel ι h w) {t : TypeId} {n i o : Nat} {x : Value} (hx : VRel ι (.ptr i o) x) (ha : aggA P t = some true) (hn : sizeA P t = some n) {vs l : List AV} (hr : h.row i = some vs) (hs : sub? vs o n = some l) :
    OpGood P ι h w (do pure (.value (← Instr.loadAt t x))) (.val (.agg l) h) := by
  obtain ⟨e, he, rfl⟩ := ptr_inv hx rfl
  obtain ⟨inf, hi, rfl⟩ := sizeA_some hn
  obtain ⟨cs, hlen, hrel, hc⟩ := H.cellsAt hr he hs
  refine good_pure H (x := .agg cs.toArray) ?_ (by simp only [VRel]; exact ⟨_, rfl, by simpa using hrel⟩)
  have := run_loadCells_list (P := P) w _ cs hc
  rw [hlen] at this
  simp [Instr.loadAt, Instr.sureAddr, loadVar, aggA_some ha, run_sizeOf' hi, this]

theorem store_good (H : HRel ι h w) {t : TypeId} {n i o : Nat} {a x : Value} {v : AV} (ha : VRel ι (.ptr i o) a) (hv : VRel ι v x) (hn : sizeA P t = some n) {vs cs : List AV} (hi : h[i]? = some (.cells vs))
    (hc : v.cells = some cs) (hl : cs.length = n) (hle : o + n ≤ vs.length) (ho : cs.all AV.one = true) :
    OpGood P ι h w (do let _ ← Instr.storeAt t a x; pure .skip) (.skip (h.set i (.cells (splice vs o cs)))) := by
  obtain ⟨e, he, rfl⟩ := ptr_inv ha rfl
  obtain ⟨inf, hinf, rfl⟩ := sizeA_some hn
  have hcr := cells_rel hv hc
  obtain ⟨c, ty, hb, hrow⟩ := H.obj i _ e hi he
  have hlen : x.cells.toList.length = cs.length := hcr.length.symm
  obtain ⟨w', hrun, hw⟩ := run_storeCells (P := P) e.1 (e.2.1 + o) ty x.cells.toList 0 w c hb (by have := hrow.1; have := hrow.2.1; omega) (fun y hy => by
    obtain ⟨k, hk⟩ := List.getElem?_of_mem hy
    have hlt : k < cs.length := by
      rw [← hlen]; exact (List.getElem?_eq_some_iff.1 hk).1
    obtain ⟨y', hy', hrel⟩ := hcr.get k cs[k] (List.getElem?_eq_getElem hlt)
    rw [hk] at hy'; cases hy'
    exact one_rel hrel (List.all_eq_true.1 ho _ (List.getElem_mem hlt)))
  obtain ⟨h1, h2⟩ := wrote_rel H (o := o) hi he hb hrow (by omega) hcr (by simpa using hw)
  refine ⟨ι, w', ?_, h1, h2, Agree.refl _ _, by simp⟩
  have hsz : x.cells.size = inf.size := by rw [← hl, ← hlen]; simp
  simp [Instr.storeAt, Instr.sureAddr, storeVar, run_sizeOf' hinf, hsz, hrun]

/-! ### Numbers, strings, comparisons -/

theorem intBin_run (op : BinOp) (t : TypeId) (k k' : IntKind) (a b : Int) {v : AV} (hk : k = k' ∨ isShift op = true) (hv : aIntBin op k a b = some v) :
    ∃ x, (binOp op t (.int k a) (.int k' b)).run P w = .ok x w ∧ VRel ι v x := by
  cases op <;> simp only [aIntBin, Option.some.injEq] at hv
  case shl =>
    split at hv
    · cases hv
    · rename_i hb; cases hv
      exact ⟨.int k (k.wrap (a * 2 ^ (Nat.min b.toNat k.bits))), by simp [binOp, Op.shift, hb] <;> rfl, by simp [VRel]⟩
  case shr =>
    split at hv
    · cases hv
    · rename_i hb; cases hv
      exact ⟨.int k (a.fdiv (2 ^ (Nat.min b.toNat k.bits))), by simp [binOp, Op.shift, hb] <;> rfl, by simp [VRel]⟩
  case quo =>
    split at hv
    · cases hv
    · rename_i hb; cases hv
      obtain rfl : k = k' := by simpa [isShift] using hk
      exact ⟨_, by simp [binOp, Op.intDiv, hb]; rfl, by simp [VRel]⟩
  case rem =>
    split at hv
    · cases hv
    · rename_i hb; cases hv
      obtain rfl : k = k' := by simpa [isShift] using hk
      exact ⟨_, by simp [binOp, Op.intDiv, hb]; rfl, by simp [VRel]⟩
  all_goals
    subst hv
    obtain rfl : k = k' := by simpa [isShift] using hk
    exact ⟨_, by simp [binOp, Op.intArith, Op.intBits, Op.intCmp, bitsA] <;> rfl, by simp [VRel, bitsA]⟩

theorem bytesLt_eq : ∀ (a b : List UInt8), bytesLt a b = Op.bytesLess a b
  | [], [] => by simp [bytesLt, Op.bytesLess]
  | [], _ :: _ => by simp [bytesLt, Op.bytesLess]
  | _ :: _, [] => by simp [bytesLt, Op.bytesLess]
  | a :: x, b :: y => by simp [bytesLt, Op.bytesLess, bytesLt_eq x y]

theorem append_mk (a b : List UInt8) : (⟨a.toArray⟩ : ByteArray) ++ ⟨b.toArray⟩ = ⟨(a ++ b).toArray⟩ := by
  apply ByteArray.ext
  simp

theorem size_mk (a : List UInt8) : (⟨a.toArray⟩ : ByteArray).size = a.length := by simp [ByteArray.size]

theorem strBin_run (op : BinOp) (t : TypeId) (a b : List UInt8) {v : AV} (hv : aStrBin op a b = some v) :
    ∃ x, (binOp op t (.string ⟨a.toArray⟩) (.string ⟨b.toArray⟩)).run P w = .ok x w ∧ VRel ι v x := by
  cases op <;> simp only [aStrBin, Option.some.injEq, reduceCtorEq] at hv
  case add =>
    split at hv
    · rename_i hle; cases hv
      refine ⟨.string ⟨(a ++ b).toArray⟩, ?_, by simp [VRel]⟩
      have : ¬ (IntKind.i64.max < ((a.length + b.length : Nat) : Int)) := by
        have hm : IntKind.i64.max = maxInt64 := by rfl
        rw [hm]; omega
      simp only [binOp, Op.stringOp]
      rw [size_mk, size_mk]
      rw [if_neg this, append_mk]
      rfl
    · cases hv
  all_goals
    subst hv
    exact ⟨_, by simp [binOp, Op.stringOp, bytesLt_eq] <;> rfl, by simp [VRel, bytesLt_eq]⟩

end
end Go.Ax

namespace Go.Ax
set_option linter.unusedVariables false
set_option linter.unusedSimpArgs false

section
variable {P : Program} {ι : Emb} {h : AHeap} {w : World}

theorem eqCell_some {k : CK} {a b : AV} {r : Bool} (he : eqCell k a b = some r) :
    (∃ x y, k = .bool ∧ a = .bool x ∧ b = .bool y ∧ r = (x == y)) ∨ (∃ c x y, k = .int c ∧ a = .int c x ∧ b = .int c y ∧ r = (x == y)) ∨ (∃ x y, k = .str ∧ a = .str x ∧ b = .str y ∧ r = (x == y)) := by
  unfold eqCell at he
  split at he
  · cases he; exact .inl ⟨_, _, rfl, rfl, rfl, rfl⟩
  · split at he
    · rename_i hk; cases he; obtain ⟨rfl, rfl⟩ := hk; exact .inr (.inl ⟨_, _, _, rfl, rfl, rfl, rfl⟩)
    · cases he
  · cases he; exact .inr (.inr ⟨_, _, rfl, rfl, rfl, rfl⟩)
  · cases he

theorem eqCells_length : ∀ {ks : List CK} {as bs : List AV} {r : Bool}, eqCells ks as bs = some r → as.length = ks.length ∧ bs.length = ks.length
  | [], [], [], _, _ => ⟨rfl, rfl⟩
  | [], [], _ :: _, _, h => by simp [eqCells] at h
  | [], _ :: _, _, _, h => by simp [eqCells] at h
  | _ :: _, [], _, _, h => by simp [eqCells] at h
  | _ :: _, _ :: _, [], _, h => by simp [eqCells] at h
  | k :: ks, a :: as, b :: bs, r, h => by
    simp only [eqCells] at h
    split at h
    · rename_i x y _ hy
      obtain ⟨h1, h2⟩ := eqCells_length hy
      simp [h1, h2]
    · cases h

theorem eqCells_append : ∀ {ks ks' : List CK} {as bs : List AV} {r : Bool}, eqCells (ks ++ ks') as bs = some r →
    ∃ r1 r2, eqCells ks (as.take ks.length) (bs.take ks.length) = some r1 ∧ eqCells ks' (as.drop ks.length) (bs.drop ks.length) = some r2 ∧ r = (r1 && r2)
  | [], ks', as, bs, r, h => ⟨true, r, by simp [eqCells], by simpa using h, by simp⟩
  | k :: ks, ks', [], bs, r, h => by simp [eqCells] at h
  | k :: ks, ks', _ :: _, [], r, h => by simp [eqCells] at h
  | k :: ks, ks', a :: as, b :: bs, r, h => by
    simp only [List.cons_append, eqCells] at h
    split at h
    · rename_i x y hx hy
      cases h
      obtain ⟨r1, r2, h1, h2, rfl⟩ := eqCells_append hy
      exact ⟨x && r1, r2, by simp [eqCells, hx, h1], by simpa using h2, by simp [Bool.and_assoc]⟩
    · cases h

theorem kinds_pos {d : Nat} {t : TypeId} {ks : List CK} (hk : kindsOf P d t = some ks) : ∃ d', d = d' + 1 := by
  cases d with
  | zero => simp [kindsOf] at hk
  | succ d => exact ⟨d, rfl⟩

/-- What a field's part comes to: the cells of its kinds. -/
def AsPart (P : Program) (t : TypeId) (ks : List CK) (cs : List Value) (x : Value) : Prop :=
  (∃ fs, P.underlying t = some (.struct fs) ∧ x = .agg cs.toArray) ∨ ((∀ fs, P.underlying t ≠ some (.struct fs)) ∧ (∀ n e, P.underlying t ≠ some (.array n e)) ∧ cs = [x])

theorem eqFields_kinds (d d' : Nat) (hd : d ≤ d')
    (hrec : ∀ (t : TypeId) (ks : List CK), kindsOf P d t = some ks → ∀ (as bs : List AV) (xs ys : List Value) (x y : Value) (r : Bool) (w : World),
      eqCells ks as bs = some r → VRels ι as xs → VRels ι bs ys → AsPart P t ks xs x → AsPart P t ks ys y → (Op.equalIn d' t x y).run P w = .ok r w) :
    ∀ (fs : List Field) (off : Nat) (ks : List CK), tile (kindsOf P d) P fs off = some ks → ∀ (as bs : List AV) (xs ys : List Value) (r : Bool) (w : World),
    eqCells ks (as.drop off) (bs.drop off) = some r → VRels ι as xs → VRels ι bs ys → (Op.eqFields d' xs.toArray ys.toArray fs).run P w = .ok r w
  | [], off, ks, ht, as, bs, xs, ys, r, w, he, ha, hb => by
    simp only [tile] at ht
    cases ht
    have : r = true := by
      generalize as.drop off = p at he
      generalize bs.drop off = q at he
      cases p <;> cases q <;> simp [eqCells] at he
      exact he
    subst this
    simp [Op.eqFields]
  | f :: fs, off, ks, ht, as, bs, xs, ys, r, w, he, ha, hb => by
    simp only [tile] at ht
    split at ht
    · cases ht
    · rename_i hno
      split at ht
      · rename_i fk inf hfk hinf
        split at ht
        · rename_i hsz
          split at ht
          · rename_i rest hrest
            cases ht
            obtain ⟨r1, r2, h1, h2, rfl⟩ := eqCells_append he
            rw [List.drop_drop] at h2
            rw [List.drop_drop] at h2
            obtain ⟨hn, ho⟩ : f.name ≠ "_" ∧ f.offset = off := by
              constructor
              · intro hh; exact hno (.inl hh)
              · rcases Nat.decEq f.offset off with hh | hh
                · exact absurd (.inr hh) hno
                · exact hh
            subst ho
            have hpart : ∀ (l : List AV) (zs : List Value), VRels ι l zs → (l.drop f.offset).length ≥ fk.length → ∃ z, (∀ w, (part f.type zs.toArray f.offset).run P w = .ok z w) ∧ AsPart P f.type fk ((zs.drop f.offset).take fk.length) z := by
              intro l zs hl hlen
              have hzl := hl.length
              by_cases hag : ∃ gs, P.underlying f.type = some (.struct gs)
              · obtain ⟨gs, hgs⟩ := hag
                refine ⟨.agg ((zs.drop f.offset).take fk.length).toArray, fun w => ?_, .inl ⟨gs, hgs, rfl⟩⟩
                simp only [part, isAgg, Sem.run_bind, run_underlying hgs, Result.andThen_ok, Sem.run_pure, if_true, run_sizeOf' hinf, hsz]
                congr 2
                apply Array.ext'
                simp [List.take_drop, Nat.add_comm]
              · have hns : ∀ gs, P.underlying f.type ≠ some (.struct gs) := fun gs hg => hag ⟨gs, hg⟩
                obtain ⟨d0, rfl⟩ := kinds_pos hfk
                have hfk' := hfk
                simp only [kindsOf] at hfk'
                have h1' : fk.length = 1 ∧ (∀ n e, P.underlying f.type ≠ some (.array n e)) ∧ (∀ w : World, (isAgg f.type).run P w = .ok false w) := by
                  split at hfk'
                  · rename_i hu; cases hfk'; exact ⟨rfl, fun n e hh => by rw [hu] at hh; (cases hh), fun w => by simp [isAgg, run_underlying hu]⟩
                  · rename_i k hu; cases hfk'; exact ⟨rfl, fun n e hh => by rw [hu] at hh; (cases hh), fun w => by simp [isAgg, run_underlying hu]⟩
                  · rename_i hu; cases hfk'; exact ⟨rfl, fun n e hh => by rw [hu] at hh; (cases hh), fun w => by simp [isAgg, run_underlying hu]⟩
                  · rename_i gs hu; exact absurd hu (hns gs)
                  · cases hfk'
                obtain ⟨h1l, hna, hisn⟩ := h1'
                have hlt : f.offset < zs.length := by simp at hlen; omega
                refine ⟨zs[f.offset], fun w => ?_, .inr ⟨hns, hna, ?_⟩⟩
                · simp [part, hisn, hlt]
                · rw [h1l]
                  rw [List.drop_eq_getElem_cons hlt]
                  rfl
            obtain ⟨l1, l2⟩ := eqCells_length h1
            obtain ⟨px, hpx, hax⟩ := hpart as xs ha (by simp at l1 ⊢; omega)
            obtain ⟨py, hpy, hay⟩ := hpart bs ys hb (by simp at l2 ⊢; omega)
            have hq := hrec f.type fk hfk _ _ _ _ px py r1 w h1 ((ha.drop f.offset).take fk.length) ((hb.drop f.offset).take fk.length) hax hay
            have hrec' := eqFields_kinds d d' hd hrec fs (f.offset + fk.length) rest hrest as bs xs ys r2 w h2 ha hb
            simp only [Op.eqFields, if_pos hn, Sem.run_bind, hpx, hpy, Result.andThen_ok, hq, Sem.run_ite]
            cases r1
            · simp
            · simpa using hrec'
          · cases ht
        · cases ht
      · cases ht

theorem equalIn_kinds : ∀ (d : Nat) (t : TypeId) (ks : List CK), kindsOf P d t = some ks → ∀ (d' : Nat), d ≤ d' → ∀ (as bs : List AV) (xs ys : List Value) (x y : Value) (r : Bool) (w : World),
    eqCells ks as bs = some r → VRels ι as xs → VRels ι bs ys → AsPart P t ks xs x → AsPart P t ks ys y → (Op.equalIn d' t x y).run P w = .ok r w
  | 0, t, ks, hk, _, _, _, _, _, _, _, _, _, _, _, _, _, _, _ => by simp [kindsOf] at hk
  | d + 1, t, ks, hk, d', hd, as, bs, xs, ys, x, y, r, w, he, ha, hb, hx, hy => by
    obtain ⟨d', rfl⟩ : ∃ n, d' = n + 1 := ⟨d' - 1, by omega⟩
    simp only [kindsOf] at hk
    have leaf : ∀ k, ks = [k] → (∀ fs, P.underlying t ≠ some (.struct fs)) → ∃ a b, eqCell k a b = some r ∧ VRel ι a x ∧ VRel ι b y := by
      intro k hks hns
      subst hks
      obtain ⟨la, lb⟩ := eqCells_length he
      match as, bs, la, lb, he, ha, hb with
      | [a], [b], _, _, he, ha, hb =>
        have hx' : xs = [x] := by rcases hx with ⟨fs, hf, _⟩ | ⟨_, _, h⟩; exact absurd hf (hns fs); exact h
        have hy' : ys = [y] := by rcases hy with ⟨fs, hf, _⟩ | ⟨_, _, h⟩; exact absurd hf (hns fs); exact h
        subst hx' hy'
        simp only [eqCells] at he
        split at he
        · rename_i p q hp hq
          cases he; cases hq
          obtain ⟨_, _, e1, h1, _⟩ := ha.cons_inv
          obtain ⟨_, _, e2, h2, _⟩ := hb.cons_inv
          cases e1; cases e2
          exact ⟨a, b, by simpa using hp, h1, h2⟩
        · cases he
    split at hk
    · rename_i hu
      cases hk
      obtain ⟨a, b, hab, h1, h2⟩ := leaf _ rfl (fun fs h => by rw [hu] at h; cases h)
      rcases eqCell_some hab with ⟨p, q, _, rfl, rfl, rfl⟩ | ⟨c, p, q, hc, _⟩ | ⟨p, q, hc, _⟩
      · simp only [VRel] at h1 h2; subst h1 h2; exact run_equalIn_bool' w d' t p q hu
      · cases hc
      · cases hc
    · rename_i k hu
      cases hk
      obtain ⟨a, b, hab, h1, h2⟩ := leaf _ rfl (fun fs h => by rw [hu] at h; cases h)
      rcases eqCell_some hab with ⟨p, q, hc, _⟩ | ⟨c, p, q, hc, rfl, rfl, rfl⟩ | ⟨p, q, hc, _⟩
      · cases hc
      · cases hc; simp only [VRel] at h1 h2; subst h1 h2; exact run_equalIn_int w d' t k k p q hu
      · cases hc
    · rename_i hu
      cases hk
      obtain ⟨a, b, hab, h1, h2⟩ := leaf _ rfl (fun fs h => by rw [hu] at h; cases h)
      rcases eqCell_some hab with ⟨p, q, hc, _⟩ | ⟨c, p, q, hc, _⟩ | ⟨p, q, _, rfl, rfl, rfl⟩
      · cases hc
      · cases hc
      · simp only [VRel] at h1 h2; subst h1 h2; rw [run_equalIn_string w d' t _ _ hu, ByteArray.toList_mk, ByteArray.toList_mk]
    · rename_i fs hu
      split at hk
      · cases hk
      · rename_i hst
        have hft : P.fieldsOf t = fs := by simp [Program.fieldsOf, hu]
        have hx' : x = .agg xs.toArray := by rcases hx with ⟨_, _, h⟩ | ⟨h, _, _⟩; exact h; exact absurd hu (h fs)
        have hy' : y = .agg ys.toArray := by rcases hy with ⟨_, _, h⟩ | ⟨h, _, _⟩; exact h; exact absurd hu (h fs)
        subst hx' hy'
        rw [run_equalIn_agg w d' t _ _ (by rw [hft]; exact hu) (by simpa using hst), hft]
        exact eqFields_kinds d d' (by omega) (fun t ks hk as bs xs ys x y r w => equalIn_kinds d t ks hk d' (by omega) as bs xs ys x y r w) fs.toList 0 ks hk as bs xs ys r w (by simpa using he) ha hb
    · cases hk

theorem eqNN (d : Nat) {t e : TypeId} (hu : P.underlying t = some (.pointer e)) (b : Option Addr) (w : World) : (Op.equalIn (d + 1) t (.pointer none) (.pointer b)).run P w = .ok b.isNone w := by
  simp [Op.equalIn, run_underlying hu]
theorem eqSN (d : Nat) {t e : TypeId} (hu : P.underlying t = some (.pointer e)) (a : Addr) (w : World) : (Op.equalIn (d + 1) t (.pointer (some a)) (.pointer none)).run P w = .ok false w := by
  simp [Op.equalIn, run_underlying hu]
theorem eqF1 (d : Nat) {t : TypeId} {p q : Array TypeId} {v : Bool} (hu : P.underlying t = some (.func p q v)) (w : World) : (Op.equalIn (d + 1) t .nilFunc .nilFunc).run P w = .ok true w := by
  simp [Op.equalIn, run_underlying hu]
theorem eqF2 (d : Nat) {t : TypeId} {p q : Array TypeId} {v : Bool} (hu : P.underlying t = some (.func p q v)) (fn : Fn) (a b : Array Value) (w : World) : (Op.equalIn (d + 1) t .nilFunc (.func fn a b)).run P w = .ok false w := by
  simp [Op.equalIn, run_underlying hu]
theorem eqF3 (d : Nat) {t : TypeId} {p q : Array TypeId} {v : Bool} (hu : P.underlying t = some (.func p q v)) (fn : Fn) (a b : Array Value) (w : World) : (Op.equalIn (d + 1) t (.func fn a b) .nilFunc).run P w = .ok false w := by
  simp [Op.equalIn, run_underlying hu]
theorem eqS1 (d : Nat) {t e : TypeId} (hu : P.underlying t = some (.slice e)) (a b : Nat) (c : Option Addr) (n m : Nat) (w : World) : (Op.equalIn (d + 1) t (.slice none a b) (.slice c n m)).run P w = .ok c.isNone w := by
  simp [Op.equalIn, run_underlying hu]
theorem eqS2 (d : Nat) {t e : TypeId} (hu : P.underlying t = some (.slice e)) (a b : Nat) (c : Addr) (n m : Nat) (w : World) : (Op.equalIn (d + 1) t (.slice (some c) n m) (.slice none a b)).run P w = .ok false w := by
  simp [Op.equalIn, run_underlying hu]

theorem eqKind_inv {op : BinOp} {t : TypeId} {d : EqK} (hek : eqKind P op t = d) (hn : d ≠ .none) :
    (d = .bool ∧ P.underlying t = some .bool) ∨ (d = .ptr ∧ ∃ e, P.underlying t = some (.pointer e)) ∨ (d = .func ∧ ∃ p q v, P.underlying t = some (.func p q v)) ∨ (d = .slice ∧ ∃ e, P.underlying t = some (.slice e)) ∨
      (∃ ks fs, d = .agg ks ∧ P.underlying t = some (.struct fs) ∧ kindsOf P 20 t = some ks ∧ P.eqGuardType P.depth t = false) := by
  unfold eqKind at hek
  have key : (match P.underlying t with
    | some .bool => EqK.bool
    | some (.pointer _) => .ptr
    | some (.func ..) => .func
    | some (.slice _) => .slice
    | some (.struct _) => if P.eqGuardType P.depth t = true then .none else match kindsOf P 20 t with
      | some ks => .agg ks
      | none => .none
    | _ => .none) = d := by
    split at hek
    · exact hek
    · exact hek
    · exact absurd hek.symm hn
  split at key
  · subst key; exact .inl ⟨rfl, by assumption⟩
  · subst key; exact .inr (.inl ⟨rfl, _, by assumption⟩)
  · subst key; exact .inr (.inr (.inl ⟨rfl, _, _, _, by assumption⟩))
  · subst key; exact .inr (.inr (.inr (.inl ⟨rfl, _, by assumption⟩)))
  · rename_i fs hu
    split at key
    · subst key; exact absurd rfl hn
    · rename_i hg
      split at key
      · rename_i ks hks
        subst key
        exact .inr (.inr (.inr (.inr ⟨ks, fs, rfl, hu, hks, by simpa using hg⟩)))
      · subst key; exact absurd rfl hn
  · subst key; exact absurd rfl hn

/-- What is to be shown of a comparison. -/
def EqRun (P : Program) (t : TypeId) (x y : Value) (r : Bool) (w : World) (ox oy : Operand) : Prop :=
  ∀ op : BinOp, op = .eql ∨ op = .neq → (eqGuard op t ox oy x y).run P w = .ok () w ∧ (binOp op t x y).run P w = .ok (.bool (if op = .eql then r else !r)) w

theorem eqRun_of {t : TypeId} {x y : Value} {r : Bool} {w : World} (h : (Op.equalIn 10000 t x y).run P w = .ok r w)
    (hb1 : binOp .eql t x y = (do pure (.bool (← Op.equal t x y)))) (hb2 : binOp .neq t x y = (do pure (.bool (!(← Op.equal t x y))))) (ox oy : Operand)
    (hg : ∀ op : BinOp, (eqGuard op t ox oy x y).run P w = .ok () w) : EqRun P t x y r w ox oy := by
  have h' : (Op.equal t x y).run P w = .ok r w := h
  intro op hop
  rcases hop with rfl | rfl
  · exact ⟨hg _, by rw [hb1]; simp [h']⟩
  · exact ⟨hg _, by rw [hb2]; simp [h']⟩

theorem aEq_run {ek : EqK} {op : BinOp} {t : TypeId} (hek : eqKind P op t = ek) {a b : AV} {x y : Value} {r : Bool} (ha : VRel ι a x) (hb : VRel ι b y) (he : aEq ek a b = some r) (w : World) (ox oy : Operand) :
    EqRun P t x y r w ox oy := by
  unfold aEq at he
  split at he <;> (try (cases he; done)) <;> simp only [VRel] at ha hb
  case h_1 =>
    subst ha hb
    cases he
    obtain ⟨_, hu⟩ | ⟨h, _⟩ | ⟨h, _⟩ | ⟨h, _⟩ | ⟨_, _, h, _⟩ := eqKind_inv hek (by simp) <;> try (cases h; done)
    exact eqRun_of (run_equalIn_bool' w 9999 t _ _ hu) rfl rfl ox oy (fun op => by cases op <;> rfl)
  case h_2 =>
    subst ha hb
    cases he
    obtain ⟨h, _⟩ | ⟨_, e, hu⟩ | ⟨h, _⟩ | ⟨h, _⟩ | ⟨_, _, h, _⟩ := eqKind_inv hek (by simp) <;> try (cases h; done)
    exact eqRun_of (eqNN 9999 hu _ w) rfl rfl ox oy (fun op => by cases op <;> rfl)
  case h_3 =>
    obtain ⟨e', he', rfl⟩ := hb
    subst ha
    cases he
    obtain ⟨h, _⟩ | ⟨_, e, hu⟩ | ⟨h, _⟩ | ⟨h, _⟩ | ⟨_, _, h, _⟩ := eqKind_inv hek (by simp) <;> try (cases h; done)
    exact eqRun_of (eqNN 9999 hu _ w) rfl rfl ox oy (fun op => by cases op <;> rfl)
  case h_4 =>
    obtain ⟨e', he', rfl⟩ := ha
    subst hb
    cases he
    obtain ⟨h, _⟩ | ⟨_, e, hu⟩ | ⟨h, _⟩ | ⟨h, _⟩ | ⟨_, _, h, _⟩ := eqKind_inv hek (by simp) <;> try (cases h; done)
    exact eqRun_of (eqSN 9999 hu _ w) rfl rfl ox oy (fun op => by cases op <;> rfl)
  case h_5 =>
    subst ha hb
    cases he
    obtain ⟨h, _⟩ | ⟨h, _⟩ | ⟨_, p, q, v, hu⟩ | ⟨h, _⟩ | ⟨_, _, h, _⟩ := eqKind_inv hek (by simp) <;> try (cases h; done)
    exact eqRun_of (eqF1 9999 hu w) rfl rfl ox oy (fun op => by cases op <;> rfl)
  case h_6 =>
    obtain ⟨xa, xb, rfl, _⟩ := hb
    subst ha
    cases he
    obtain ⟨h, _⟩ | ⟨h, _⟩ | ⟨_, p, q, v, hu⟩ | ⟨h, _⟩ | ⟨_, _, h, _⟩ := eqKind_inv hek (by simp) <;> try (cases h; done)
    exact eqRun_of (eqF2 9999 hu _ _ _ w) rfl rfl ox oy (fun op => by cases op <;> rfl)
  case h_7 =>
    obtain ⟨xa, xb, rfl, _⟩ := ha
    subst hb
    cases he
    obtain ⟨h, _⟩ | ⟨h, _⟩ | ⟨_, p, q, v, hu⟩ | ⟨h, _⟩ | ⟨_, _, h, _⟩ := eqKind_inv hek (by simp) <;> try (cases h; done)
    exact eqRun_of (eqF3 9999 hu _ _ _ w) rfl rfl ox oy (fun op => by cases op <;> rfl)
  case h_8 =>
    subst ha hb
    cases he
    obtain ⟨h, _⟩ | ⟨h, _⟩ | ⟨h, _⟩ | ⟨_, e, hu⟩ | ⟨_, _, h, _⟩ := eqKind_inv hek (by simp) <;> try (cases h; done)
    exact eqRun_of (eqS1 9999 hu _ _ _ _ _ w) rfl rfl ox oy (fun op => by cases op <;> rfl)
  case h_9 =>
    obtain ⟨e', ad, cap, _, rfl, _⟩ := hb
    subst ha
    cases he
    obtain ⟨h, _⟩ | ⟨h, _⟩ | ⟨h, _⟩ | ⟨_, e, hu⟩ | ⟨_, _, h, _⟩ := eqKind_inv hek (by simp) <;> try (cases h; done)
    exact eqRun_of (eqS1 9999 hu _ _ _ _ _ w) rfl rfl ox oy (fun op => by cases op <;> rfl)
  case h_10 =>
    obtain ⟨e', ad, cap, _, rfl, _⟩ := ha
    subst hb
    cases he
    obtain ⟨h, _⟩ | ⟨h, _⟩ | ⟨h, _⟩ | ⟨_, e, hu⟩ | ⟨_, _, h, _⟩ := eqKind_inv hek (by simp) <;> try (cases h; done)
    exact eqRun_of (eqS2 9999 hu _ _ _ _ _ w) rfl rfl ox oy (fun op => by cases op <;> rfl)
  case h_11 ks as bs =>
    obtain ⟨c, rfl, h1⟩ := ha
    obtain ⟨d, rfl, h2⟩ := hb
    obtain ⟨h, _⟩ | ⟨h, _⟩ | ⟨h, _⟩ | ⟨h, _⟩ | ⟨ks', fs, h, hu, hks, hg⟩ := eqKind_inv hek (by simp) <;> try (cases h; done)
    cases h
    have hq := equalIn_kinds 20 t ks hks 10000 (by omega) as bs c.toList d.toList (.agg c) (.agg d) r w he h1 h2 (.inl ⟨fs, hu, by simp⟩) (.inl ⟨fs, hu, by simp⟩)
    exact eqRun_of hq rfl rfl ox oy (fun op => run_eqGuard_agg w op t ox oy c d hg)

theorem bin_good (H : HRel ι h w) {op : BinOp} {t : TypeId} {ek : EqK} (hek : eqKind P op t = ek) {a b v : AV} {x y : Value} (ha : VRel ι a x) (hb : VRel ι b y) (hv : aBin op ek a b = some v) (ox oy : Operand) :
    OpGood P ι h w (do pure (.value (← (do eqGuard op t ox oy x y; binOp op t x y)))) (.val v h) := by
  unfold aBin at hv
  split at hv
  · rename_i k n k' n'
    simp only [VRel] at ha hb
    subst ha hb
    split at hv
    · rename_i hk
      obtain ⟨z, hz, hr⟩ := intBin_run (P := P) (ι := ι) (w := w) op t k k' n n' hk hv
      refine good_pure H (x := z) ?_ hr
      simp [show (eqGuard op t ox oy (.int k n) (.int k' n')).run P w = .ok () w from by cases op <;> rfl, hz]
    · cases hv
  · rename_i p q
    simp only [VRel] at ha hb
    subst ha hb
    obtain ⟨z, hz, hr⟩ := strBin_run (P := P) (ι := ι) (w := w) op t p q hv
    refine good_pure H (x := z) ?_ hr
    simp [show (eqGuard op t ox oy (.string ⟨p.toArray⟩) (.string ⟨q.toArray⟩)).run P w = .ok () w from by cases op <;> rfl, hz]
  · split at hv
    · rename_i hni hns
      cases hq : aEq ek a b with
      | none => simp [hq] at hv
      | some r =>
        simp only [hq, Option.map_some, Option.some.injEq] at hv
        subst hv
        obtain ⟨h1, h2⟩ := aEq_run hek ha hb hq w ox oy .eql (.inl rfl)
        refine good_pure H (x := .bool r) ?_ (by simp [VRel])
        simpa [h1] using h2
    · rename_i hni hns
      cases hq : aEq ek a b with
      | none => simp [hq] at hv
      | some r =>
        simp only [hq, Option.map_some, Option.some.injEq] at hv
        subst hv
        obtain ⟨h1, h2⟩ := aEq_run hek ha hb hq w ox oy .neq (.inr rfl)
        refine good_pure H (x := .bool (!r)) ?_ (by simp [VRel])
        simpa [h1] using h2
    · cases hv

end
end Go.Ax

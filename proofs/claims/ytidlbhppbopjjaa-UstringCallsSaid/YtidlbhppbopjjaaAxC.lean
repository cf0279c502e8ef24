/-
Each operation of the abstract machine is the model's (4): what is built, sliced, gone through, appended.
Each operation of the abstract machine is the model's (5): slices, places, strings gone through, append; all together.
Each operation of the abstract machine is the model's (6): append, min, max; all operations together.
Each operation of the abstract machine is the model's (7): all operations together.
-/
import Derived.Test.YtidlbhppbopjjaaAxB
namespace Go.Ax
set_option linter.unusedVariables false
set_option linter.unusedSimpArgs false

section
variable {P : Program} {ι : Emb} {h : AHeap} {w : World}

/-! ### build -/

/-- A part written over a row, as the model writes it. -/
theorem foldl_splice {ι : Emb} : ∀ (xs : List Value) (off j : Nat) (cs : Array Value), off + j + xs.length ≤ cs.size →
    ∃ c' : Array Value, ((xs.zipIdx j).foldl (fun (cs : Array Value) (p : Value × Nat) => cs.setIfInBounds (off + p.2) p.1) cs) = c' ∧ c'.size = cs.size ∧ ∀ k, c'[k]? = if off + j ≤ k ∧ k < off + j + xs.length then xs[k - (off + j)]? else cs[k]?
  | [], off, j, cs, _ => ⟨cs, by simp, rfl, fun k => by rw [if_neg (by simp <;> omega)]⟩
  | x :: xs, off, j, cs, hle => by
    simp only [List.length_cons] at hle
    obtain ⟨c', h1, h2, h3⟩ := foldl_splice (ι := ι) xs off (j + 1) (cs.setIfInBounds (off + j) x) (by simp; omega)
    refine ⟨c', by simpa [List.zipIdx_cons] using h1, by simpa using h2, fun k => ?_⟩
    rw [h3 k]
    by_cases hk : k = off + j
    · subst hk
      rw [if_neg (by omega), if_pos (by simp)]
      simp [show off + j < cs.size from by omega]
    · by_cases hr : off + (j + 1) ≤ k ∧ k < off + (j + 1) + xs.length
      · rw [if_pos hr, if_pos (by simp; omega)]
        have : k - (off + j) = (k - (off + (j + 1))) + 1 := by omega
        rw [this]; simp
      · rw [if_neg hr, if_neg (by simp; omega), Array.getElem?_setIfInBounds_ne (by omega)]

theorem splice_rel {vs cs : List AV} {c : Array Value} {x : Value} {off : Nat} (hv : VRels ι vs c.toList) (hc : VRels ι cs x.cells.toList) (hle : off + cs.length ≤ vs.length) :
    VRels ι (splice vs off cs) (x.cells.zipIdx.foldl (fun (cs : Array Value) (p : Value × Nat) => cs.setIfInBounds (off + p.2) p.1) c).toList := by
  have hl := hv.length
  have hlx := hc.length
  simp at hl hlx
  obtain ⟨c', h1, h2, h3⟩ := foldl_splice (ι := ι) x.cells.toList off 0 c (by simp; omega)
  have hz : x.cells.zipIdx.foldl (fun (cs : Array Value) (p : Value × Nat) => cs.setIfInBounds (off + p.2) p.1) c = c' := by
    rw [← h1, ← Array.foldl_toList, Array.toList_zipIdx]
  rw [hz]
  refine .of_get (by rw [splice_length]; simp [h2, hl]) fun k v hk => ?_
  rw [splice_get vs off cs k hle] at hk
  rw [Array.getElem?_toList, h3 k]
  by_cases hr : off ≤ k ∧ k < off + cs.length
  · rw [if_pos hr] at hk
    rw [if_pos (by simp; omega)]
    obtain ⟨y, hy, hrel⟩ := hc.get _ v hk
    exact ⟨y, by simpa using hy, hrel⟩
  · rw [if_neg hr] at hk
    rw [if_neg (by simp; omega)]
    obtain ⟨y, hy, hrel⟩ := hv.get _ v hk
    exact ⟨y, by simpa using hy, hrel⟩

theorem fill_rel {fr : List AV} {a : Act} (hf : VRels ι fr a.tmps.toList) (place : Nat → Option (Nat × Nat)) : ∀ (l : List (Nat × Operand)) (ps : List (Nat × Nat × AOpd)), partsA place l = some ps →
    ∀ (vs out : List AV) (c : Array Value), VRels ι vs c.toList → aFill fr vs ps = some out → ∃ c', Instr.fill place c (l.map fun p => (p.1, a.eval p.2)) = some c' ∧ VRels ι out c'.toList
  | [], ps, hp, vs, out, c, hv, ho => by
    simp only [partsA] at hp; cases hp
    simp only [aFill] at ho; cases ho
    exact ⟨c, by simp [Instr.fill], hv⟩
  | (i, x) :: l, ps, hp, vs, out, c, hv, ho => by
    simp only [partsA] at hp
    split at hp
    · rename_i off size r hpl hr
      cases hp
      simp only [aFill] at ho
      split at ho
      · cases ho
      · rename_i cs hcs
        split at ho
        · rename_i hsz
          have hx := cells_rel (opd_rel hf x) hcs
          have hlx := hx.length
          have hlv := hv.length
          simp at hlx hlv
          obtain ⟨c', h1, h2⟩ := fill_rel hf place l r hr _ out _ (splice_rel hv hx (by omega)) ho
          refine ⟨c', ?_, h2⟩
          simp only [List.map_cons, Instr.fill, hpl]
          rw [if_neg (by simp; omega)]
          exact h1
        · cases ho
    · cases hp

theorem mapM_pure_run {α β : Type} (f : α → Sem β) (g : α → β) (w : World) : ∀ (l : List α), (∀ x ∈ l, ∀ w, (f x).run P w = .ok (g x) w) → (l.mapM f).run P w = .ok (l.map g) w
  | [], _ => by simp
  | x :: l, hx => by
    simp only [List.mapM_cons, Sem.run_bind, hx x (by simp), Result.andThen_ok, mapM_pure_run f g w l (fun y hy => hx y (by simp [hy])), Sem.run_pure, List.map_cons]

theorem build_good (H : HRel ι h w) {fr : List AV} {a : Act} (hf : VRels ι fr a.tmps.toList) {t : TypeId} {fs : Array Field} (hu : P.underlying t = some (.struct fs)) {z : List AV} (hz : zeroA P t = some z)
    (hall : fs.all (fun f => (P.info? f.type).isSome) = true) {parts : Array (Nat × Operand)} {ps : List (Nat × Nat × AOpd)}
    (hp : partsA (placeA P fs) parts.toList = some ps) {cs : List AV} (hc : aFill fr z ps = some cs) :
    OpGood P ι h w (do pure (.value (← Instr.build t (parts.map fun (i, x) => (i, a.eval x))))) (.val (.agg cs) h) := by
  obtain ⟨i, zv, hi, hzv, rfl⟩ := zeroA_some hz
  have hz0 : VRels ι (zv.cells.toList.map ofV0) zv.cells.toList := by simpa using VRels.map (ι := ι) ofV0 id zv.cells.toList (fun a _ => ofV0_rel ι a)
  obtain ⟨c', h1, h2⟩ := fill_rel hf _ parts.toList ps hp _ cs zv.cells hz0 hc
  refine good_pure H (x := .agg c') ?_ (by simp only [VRel]; exact ⟨c', rfl, h2⟩)
  have hm : (fs.mapM fun f => (do pure (f.offset, ← sizeOf f.type) : Sem (Nat × Nat))).run P w = .ok (fs.map fun f => (f.offset, P.cellsOf f.type)) w := by
    rw [Array.mapM_eq_mapM_toList]
    simp only [Sem.run_map]
    rw [mapM_pure_run (P := P) (fun f => (do pure (f.offset, ← sizeOf f.type) : Sem (Nat × Nat))) (fun f => (f.offset, P.cellsOf f.type)) w fs.toList]
    · simp only [Result.andThen_ok]
      congr 1
      exact Array.ext' (by simp)
    · intro f hfm w
      have hs := Array.all_eq_true_iff_forall_mem.1 hall f (Array.mem_toList_iff.1 hfm)
      obtain ⟨inf, hinf⟩ := Option.isSome_iff_exists.1 hs
      simp [run_sizeOf' hinf, Program.cellsOf, hinf]
  have hplace : (fun (i : Nat) => (fs.map fun (f : Field) => (f.offset, P.cellsOf f.type))[i]?) = placeA P fs := by
    funext i
    unfold placeA
    rw [Array.getElem?_map]
    cases hfi : fs[i]? with
    | none => rfl
    | some f =>
      have hs := Array.all_eq_true_iff_forall_mem.1 hall f (Array.mem_of_getElem? hfi)
      obtain ⟨inf, hinf⟩ := Option.isSome_iff_exists.1 hs
      simp [sizeA, hinf, Program.cellsOf]
  simp only [Instr.build, Sem.run_bind, run_zeroValue' hi hzv, Result.andThen_ok, run_underlying hu, hm]
  rw [hplace]
  have hl : (Array.map (fun (x : Nat × Operand) => (x.fst, a.eval x.snd)) parts).toList = parts.toList.map fun p => (p.1, a.eval p.2) := by simp
  rw [hl, h1]
  rfl

theorem madeJunk : ∀ (n : Nat) (xs : List Value), xs.length = n → VRels ι (List.replicate n .junk) xs
  | 0, xs, hx => by cases xs <;> simp at hx; exact .nil
  | n + 1, [], hx => by simp at hx
  | n + 1, x :: xs, hx => by rw [List.replicate_succ]; exact .cons (by simp [VRel]) (madeJunk n xs (by simpa using hx))

theorem buildSlice_good (H : HRel ι h w) {fr : List AV} {a : Act} (hf : VRels ι fr a.tmps.toList) {t e : TypeId} (he : elemA P t = some e) {n len : Nat} (hn : sizeA P e = some n) {z : List AV} (hz : zeroA P e = some z)
    (hle : len * n ≤ 16777216) {parts : Array (Nat × Operand)} {ps : List (Nat × Nat × AOpd)}
    (hp : partsA (fun i => some (i * n, n)) parts.toList = some ps) {cs : List AV} (hc : aFill fr (List.replicate (len * n) .junk) ps = some cs) :
    OpGood P ι h w (do pure (.value (← Instr.buildSlice t len (parts.map fun (i, x) => (i, a.eval x))))) (.val (.slice h.length 0 len n) (h ++ [.cells cs])) := by
  obtain ⟨i, zv, hi, hzv, rfl⟩ := zeroA_some hz
  obtain ⟨inf, hinf, rfl⟩ := sizeA_some hn
  rw [hi] at hinf; cases hinf
  have hu := elemA_some he
  let zc : Array Value := if len * i.size = 0 then #[] else zv.cells
  obtain ⟨c', h1, h2⟩ := fill_rel hf (fun j => some (j * i.size, i.size)) parts.toList ps hp _ cs ((Array.range (len * i.size)).map (zc[· % zc.size]!)) (madeJunk _ _ (by simp)) hc
  have hlen : cs.length = len * i.size := by
    have : ∀ (ps : List (Nat × Nat × AOpd)) (vs cs : List AV), aFill fr vs ps = some cs → cs.length = vs.length := by
      intro ps
      induction ps with
      | nil => intro vs cs h; simp [aFill] at h; rw [h]
      | cons p ps ih =>
        intro vs cs h
        obtain ⟨off, size, x⟩ := p
        simp only [aFill] at h
        split at h
        · cases h
        · split at h
          · rw [ih _ _ h, splice_length]
          · cases h
    rw [this _ _ _ hc]; simp
  have hcl : c'.size = len * i.size := by have := h2.length; simp at this; omega
  refine good_new H (c := c') (t := e) h2 (x := .slice (some ⟨w.heap.size, 0, none⟩) len len) ?_ ?_
  · have hl : (Array.map (fun (x : Nat × Operand) => (x.fst, a.eval x.snd)) parts).toList = parts.toList.map fun p => (p.1, a.eval p.2) := by simp
    have h24 : ¬ (len * i.size > 2 ^ 24) := by omega
    by_cases hz0 : len * i.size = 0
    · have hzc : zc = #[] := by simp [zc, hz0]
      rw [hzc] at h1
      simp only [Instr.buildSlice, Sem.run_bind, run_underlying hu, Result.andThen_ok, run_sizeOf' hi, h24, if_false, if_pos hz0, Sem.run_pure]
      rw [hl, h1]
      simp [newRow]
    · have hzc : zc = zv.cells := by simp [zc, hz0]
      rw [hzc] at h1
      simp only [Instr.buildSlice, Sem.run_bind, run_underlying hu, Result.andThen_ok, run_sizeOf' hi, h24, if_false, if_neg hz0, Sem.run_pure, run_zeroValue' hi hzv]
      rw [hl, h1]
      simp [newRow]
  · simp only [VRel]
    exact ⟨_, _, _, Emb.last H _, rfl, Nat.le_refl _, .inr ⟨rfl, by simp [hcl]⟩⟩

/-! ### Conversions -/

theorem conv_good (H : HRel ι h w) {src dst : TypeId} {k k0 k1 : IntKind} {n : Int} {x : Value} (hx : VRel ι (.int k0 n) x) (hs : P.underlying src = some (.int k1)) (hd : P.underlying dst = some (.int k)) :
    OpGood P ι h w (do pure (.value (← convert src dst x))) (.val (.int k (k.wrap n)) h) := by
  simp only [VRel] at hx; subst hx
  exact good_pure H (x := .int k (k.wrap n)) (by simp [convert, run_underlying hs, run_underlying hd, Conv.intToInt]) (by simp [VRel])

theorem i2s_good (H : HRel ι h w) {src dst : TypeId} {k0 k1 : IntKind} {n : Int} {x : Value} (hx : VRel ι (.int k0 n) x) (hs : P.underlying src = some (.int k1)) (hd : P.underlying dst = some .string) :
    OpGood P ι h w (do pure (.value (← convert src dst x))) (.val (.str (Utf8.encode n).data.toList) h) := by
  simp only [VRel] at hx; subst hx
  exact good_pure H (x := .string (Utf8.encode n)) (by simp [convert, run_underlying hs, run_underlying hd, Conv.intToString]) (by simp [VRel])

theorem bytesOf_some : ∀ {l : List AV} {s : List UInt8}, bytesOf l = some s → ∃ ns : List Int, l = ns.map (AV.int .u8) ∧ s = ns.map fun n => UInt8.ofNat n.toNat
  | [], s, hs => by simp only [bytesOf] at hs; cases hs; exact ⟨[], rfl, rfl⟩
  | v :: l, s, hs => by
    unfold bytesOf at hs
    split at hs
    · rename_i heq; cases heq
    · rename_i n l' heq
      cases heq
      cases hb : bytesOf l with
      | none => simp [hb] at hs
      | some r =>
        simp only [hb, Option.map_some, Option.some.injEq] at hs
        subst hs
        obtain ⟨ns, h1, h2⟩ := bytesOf_some hb
        exact ⟨n :: ns, by simp [h1], by simp [h2]⟩
    · cases hs

theorem ints_rel : ∀ {ns : List Int} {xs : List Value}, VRels ι (ns.map (AV.int .u8)) xs → xs = ns.map (Value.int .u8)
  | [], xs, hx => by simpa using hx.nil_inv
  | n :: ns, xs, hx => by
    obtain ⟨y, ys, rfl, h1, h2⟩ := hx.cons_inv
    simp only [VRel] at h1
    subst h1
    rw [ints_rel h2]; rfl

theorem slice_inv {x : Value} {i o n es : Nat} (hv : VRel ι (.slice i o n es) x) : ∃ e a cap, ι[i]? = some e ∧ x = .slice (some a) n cap ∧ n ≤ cap ∧ (cap = 0 ∨ (a = ⟨e.1, e.2.1 + o, none⟩ ∧ e.2.1 + o + cap * es ≤ e.2.2)) := by
  simpa only [VRel] using hv

/-- A slice's cells, as the model reads them. -/
theorem sliceCells (H : HRel ι h w) {i o n es : Nat} {x : Value} (hx : VRel ι (.slice i o n es) x) {vs l : List AV} (hr : h.row i = some vs) (hs : sub? vs o (n * es) = some l) :
    ∃ a cap cs, x = .slice (some a) n cap ∧ n ≤ cap ∧ cs.length = n * es ∧ VRels ι l cs ∧ ∀ j v, cs[j]? = some v → w.cell? (a.add j) = some v := by
  obtain ⟨e, a, cap, he, rfl, hle, hor⟩ := slice_inv hx
  obtain ⟨cs, hl, hrel, hc⟩ := H.cellsAt hr he hs
  rcases hor with h0 | ⟨rfl, _⟩
  · have hn0 : n = 0 := by omega
    subst hn0
    simp at hl
    subst hl
    exact ⟨a, cap, [], rfl, hle, by simp, hrel, fun j v hj => by simp at hj⟩
  · exact ⟨_, cap, cs, rfl, hle, hl, hrel, hc⟩

theorem cellsOf_slice {i o n es es' : Nat} {k : Nat} {l : List AV} (hc : cellsOf h es (.slice i o n es') = some (k, l)) : k = n ∧ es' = es ∧ ∃ vs, h.row i = some vs ∧ sub? vs o (n * es) = some l := by
  simp only [cellsOf] at hc
  split at hc
  · rename_i he
    split at hc
    · rename_i vs hvs
      cases hs : sub? vs o (n * es) with
      | none => simp [hs] at hc
      | some l' => simp [hs] at hc; obtain ⟨rfl, rfl⟩ := hc; exact ⟨rfl, he, vs, hvs, hs⟩
    · cases hc
  · cases hc

theorem b2s_good (H : HRel ι h w) {src dst e : TypeId} {v : AV} {x : Value} (hx : VRel ι v x) (hs : P.underlying src = some (.slice e)) (he : P.underlying e = some (.int .u8)) (hd : P.underlying dst = some .string)
    {k : Nat} {l : List AV} {s : List UInt8} (hc : cellsOf h 1 v = some (k, l)) (hb : bytesOf l = some s) (hv : ∀ t, v ≠ .str t) :
    OpGood P ι h w (do pure (.value (← convert src dst x))) (.val (.str s) h) := by
  obtain ⟨ns, rfl, rfl⟩ := bytesOf_some hb
  have hconv : ∀ (a : Option Addr) (n c : Nat), (convert src dst (.slice a n c)).run P w = (Conv.bytesToString (.slice a n c)).run P w := fun a n c => by
    simp [convert, run_underlying hs, run_underlying hd, run_underlying he]
  cases v <;> simp only [cellsOf, reduceCtorEq] at hc
  case str t => exact absurd rfl (hv t)
  case nilslice =>
    simp only [VRel] at hx; subst hx
    simp at hc
    obtain ⟨rfl, rfl⟩ := hc
    exact good_pure H (x := .string .empty) (by rw [hconv]; simp [Conv.bytesToString]) (by simp [VRel]; rfl)
  case slice i o n es' =>
    have hc' : cellsOf h 1 (.slice i o n es') = some (k, ns.map (AV.int .u8)) := by simp only [cellsOf]; exact hc
    obtain ⟨rfl, rfl, vs, hr, hsub⟩ := cellsOf_slice hc'
    obtain ⟨a, cap, cs, rfl, _, hl, hrel, hcell⟩ := sliceCells H hx hr hsub
    have hcs := ints_rel hrel
    have hload := run_loadCells_list (P := P) w a cs hcell
    rw [hl, hcs] at hload
    simp only [Nat.mul_one] at hload
    refine good_pure H (x := .string ⟨(ns.map fun n => UInt8.ofNat n.toNat).toArray⟩) ?_ (by simp [VRel])
    rw [hconv, run_bytesToString w a k cap ns hload, foldl_push_bytes]
    simp [ByteArray.empty, ByteArray.emptyWithCapacity]
    rfl

/-! ### make -/

theorem flatten_get {z : List AV} {es : Nat} (hz : z.length = es) : ∀ (c j : Nat) (v : AV), ((List.replicate c z).flatten)[j]? = some v → j < c * es ∧ z[j % es]? = some v
  | 0, j, v, hv => by simp at hv
  | c + 1, j, v, hv => by
    rw [List.replicate_succ, List.flatten_cons] at hv
    by_cases hj : j < z.length
    · rw [List.getElem?_append_left hj] at hv
      refine ⟨by rw [Nat.succ_mul]; omega, ?_⟩
      rw [Nat.mod_eq_of_lt (by omega)]; exact hv
    · rw [List.getElem?_append_right (by omega)] at hv
      obtain ⟨h1, h2⟩ := flatten_get hz c (j - z.length) v hv
      refine ⟨by rw [Nat.succ_mul]; omega, ?_⟩
      have : j % es = (j - z.length) % es := by
        rw [hz]; rw [Nat.mod_eq_sub_mod (by omega)]
      rw [this]; exact h2

theorem flatten_len {z : List AV} (c : Nat) : ((List.replicate c z).flatten).length = c * z.length := by
  induction c with
  | zero => simp
  | succ c ih => rw [List.replicate_succ, List.flatten_cons, List.length_append, ih, Nat.succ_mul]; omega

theorem mkslice_good (H : HRel ι h w) {t e : TypeId} (he : elemA P t = some e) {i : TypeInfo} (hi : P.info? e = some i) {z : List AV} (hz : zeroA P e = some z) (hzl : z.length = i.size) {l c : Int} {xl xc : Value}
    (hl : VRel ι (.int .i64 l) xl) (hc : VRel ι (.int .i64 c) xc) (h0 : 0 ≤ l) (hlc : l ≤ c) (hb : (i.bytes : Int) * c ≤ 281474976710656) (hm : c ≤ maxInt64) :
    OpGood P ι h w (do pure (.value (← Instr.makeSlice t xl xc))) (.val (.slice h.length 0 l.toNat i.size) (h ++ [.cells ((List.replicate c.toNat z).flatten)])) := by
  obtain ⟨i', zv, hi', hzv, rfl⟩ := zeroA_some hz
  rw [hi] at hi'; cases hi'
  simp only [VRel] at hl hc; subst hl hc
  have hzs : zv.cells.size = i.size := by simpa using hzl
  refine good_new H (c := madeCells zv.cells (c.toNat * i.size)) (t := e) ?_ (by rw [run_make w t e i zv (elemA_some he) hi hzv .i64 .i64 l c h0 hlc hb hm]; rfl) ?_
  · refine .of_get (by rw [flatten_len]; simp [madeCells, hzs]) fun j v hv => ?_
    obtain ⟨h1, h2⟩ := flatten_get hzl _ _ _ hv
    have hpos : 0 < i.size := by
      rcases Nat.eq_zero_or_pos i.size with h' | h'
      · rw [h'] at h1; simp at h1
      · exact h'
    have hlt : j % i.size < zv.cells.size := by rw [hzs]; exact Nat.mod_lt _ hpos
    rw [List.getElem?_map, Array.getElem?_toList, Array.getElem?_eq_getElem hlt] at h2
    simp at h2
    refine ⟨zv.cells[j % i.size], ?_, by rw [← h2]; exact ofV0_rel ι _⟩
    rw [Array.getElem?_toList]
    simp [madeCells, h1, hzs, Array.getElem?_range, hlt]
    rw [getElem!_pos _ _ (by rw [hzs]; exact Nat.mod_lt _ hpos)]
  · simp only [VRel]
    refine ⟨_, _, _, Emb.last H _, rfl, by omega, .inr ⟨rfl, by simp [madeCells]⟩⟩

end
end Go.Ax

namespace Go.Ax
set_option linter.unusedVariables false
set_option linter.unusedSimpArgs false

section
variable {P : Program} {ι : Emb} {h : AHeap} {w : World}

theorem int_inv {k : IntKind} {n : Int} {x : Value} (hv : VRel ι (.int k n) x) : x = .int k n := by simpa only [VRel] using hv
theorem str_inv {l : List UInt8} {x : Value} (hv : VRel ι (.str l) x) : x = .string ⟨l.toArray⟩ := by simpa only [VRel] using hv

theorem bound_rel {v : AV} {x : Value} {y n : Nat} (hx : VRel ι v x) (hb : bound v y = some n) : n ≤ y ∧ ∀ (y' : Nat) (c : BoundsCode) (w : World), y ≤ y' → (Instr.sliceBound x y' c).run P w = .ok n w := by
  unfold bound at hb
  split at hb
  · rename_i k i
    have := int_inv hx
    subst this
    split at hb
    · rename_i hi
      cases hb
      exact ⟨by omega, fun y' c w hy => by simp [Instr.sliceBound, asIntOf, hi.1, show i ≤ (y' : Int) from by omega]⟩
    · cases hb
  · cases hb

theorem extract_mk (s : List UInt8) (a b : Nat) : (⟨s.toArray⟩ : ByteArray).extract a b = ⟨((s.drop a).take (b - a)).toArray⟩ := by
  apply ByteArray.ext
  rw [ByteArray.data_extract]
  apply Array.ext'
  simp [List.extract_eq_take_drop]

theorem opt_rel {fr : List AV} {a : Act} (hf : VRels ι fr a.tmps.toList) (x : Operand) : VRel ι ((opd x).ev fr) (a.eval x) := opd_rel hf x

theorem substr_good (H : HRel ι h w) {fr : List AV} {a : Act} (hf : VRels ι fr a.tmps.toList) {t : TypeId} (hu : P.underlying t = some .string) {s : List UInt8} {x : Value} (hx : VRel ι (.str s) x) {lo hi : Option Operand} {m k : Nat}
    (h1 : boundD fr (hi.map opd) s.length s.length = some m) (h2 : boundD fr (lo.map opd) m 0 = some k) :
    OpGood P ι h w (do pure (.value (← Instr.sliceAt t x (lo.map a.eval) (hi.map a.eval) none))) (.val (.str ((s.drop k).take (m - k))) h) := by
  have := str_inv hx
  subst this
  have hb : (Instr.sliceBounds false s.length s.length (lo.map a.eval) (hi.map a.eval) none).run P w = .ok (k, m, s.length) w := by
    unfold Instr.sliceBounds
    cases hi with
    | none =>
      simp [boundD] at h1
      subst h1
      cases lo with
      | none => simp [boundD] at h2; subst h2; simp
      | some lo =>
        simp only [Option.map_some, boundD] at h2
        obtain ⟨_, hl⟩ := bound_rel (P := P) (opd_rel hf lo) h2
        simp [hl _ _ _ (Nat.le_refl _)]
    | some hi =>
      simp only [Option.map_some, boundD] at h1
      obtain ⟨hm, hh⟩ := bound_rel (P := P) (opd_rel hf hi) h1
      cases lo with
      | none => simp [boundD] at h2; subst h2; simp [hh _ _ _ (Nat.le_refl _)]
      | some lo =>
        simp only [Option.map_some, boundD] at h2
        obtain ⟨_, hl⟩ := bound_rel (P := P) (opd_rel hf lo) h2
        simp [hl _ _ _ (Nat.le_refl _), hh _ _ _ (Nat.le_refl _)]
  refine good_pure H (x := .string ⟨((s.drop k).take (m - k)).toArray⟩) ?_ (by simp [VRel])
  simp only [Instr.sliceAt, Instr.slice, Sem.run_bind, run_underlying hu, Result.andThen_ok, size_mk, Option.isSome_none, Bool.false_eq_true, if_false]
  rw [hb]
  simp [extract_mk]

theorem bounds_rel {fr : List AV} {a : Act} (hf : VRels ι fr a.tmps.toList) {lo hi mx : Option Operand} {n cap m b k : Nat} (hnc : n ≤ cap) (hmh : ¬ (mx.isSome = true ∧ hi.isNone = true))
    (h0 : boundD fr (mx.map opd) n n = some m) (h1 : boundD fr (hi.map opd) m n = some b) (h2 : boundD fr (lo.map opd) b 0 = some k) (w : World) :
    ∃ m', (mx.isSome = true → m' = m) ∧ (mx.isNone = true → m' = cap) ∧ b ≤ m' ∧ k ≤ b ∧ m' ≤ cap ∧ (Instr.sliceBounds true n cap (lo.map a.eval) (hi.map a.eval) (mx.map a.eval)).run P w = .ok (k, b, m') w := by
  have hlo : (lo = none ∧ k = 0) ∨ (∃ l, lo = some l ∧ k ≤ b ∧ ∀ (c : BoundsCode) (w : World), (Instr.sliceBound (a.eval l) b c).run P w = .ok k w) := by
    cases lo with
    | none => simp [boundD] at h2; exact .inl ⟨rfl, h2.symm⟩
    | some lo =>
      simp only [Option.map_some, boundD] at h2
      obtain ⟨hk, hl⟩ := bound_rel (P := P) (opd_rel hf lo) h2
      exact .inr ⟨lo, rfl, hk, fun c w => hl _ _ _ (Nat.le_refl _)⟩
  have hkb : k ≤ b := by rcases hlo with ⟨_, rfl⟩ | ⟨_, _, h, _⟩ <;> omega
  cases mx with
  | none =>
    simp [boundD] at h0
    subst h0
    have hbm : b ≤ cap := by
      cases hi with
      | none => simp [boundD] at h1; omega
      | some hi =>
        simp only [Option.map_some, boundD] at h1
        have := (bound_rel (P := P) (opd_rel hf hi) h1).1
        omega
    refine ⟨cap, by simp, by simp, hbm, hkb, Nat.le_refl _, ?_⟩
    unfold Instr.sliceBounds
    cases hi with
    | none =>
      simp [boundD] at h1
      subst h1
      rcases hlo with ⟨rfl, rfl⟩ | ⟨l, rfl, _, hl⟩
      · simp
      · simp [hl]
    | some hi =>
      simp only [Option.map_some, boundD] at h1
      obtain ⟨hm, hh⟩ := bound_rel (P := P) (opd_rel hf hi) h1
      rcases hlo with ⟨rfl, rfl⟩ | ⟨l, rfl, _, hl⟩
      · simp [hh cap _ _ hnc]
      · simp [hh cap _ _ hnc, hl]
  | some mx =>
    cases hi with
    | none => exact absurd ⟨rfl, rfl⟩ hmh
    | some hi =>
      simp only [Option.map_some, boundD] at h0 h1
      obtain ⟨hm0, hm1⟩ := bound_rel (P := P) (opd_rel hf mx) h0
      obtain ⟨hb0, hb1⟩ := bound_rel (P := P) (opd_rel hf hi) h1
      refine ⟨m, by simp, by simp, hb0, hkb, by omega, ?_⟩
      unfold Instr.sliceBounds
      rcases hlo with ⟨rfl, rfl⟩ | ⟨l, rfl, _, hl⟩
      · simp [hm1 cap _ _ hnc, hb1 m _ _ (Nat.le_refl _)]
      · simp [hm1 cap _ _ hnc, hb1 m _ _ (Nat.le_refl _), hl]

theorem run_slice_slice {t e : TypeId} (hu : P.underlying t = some (.slice e)) {inf : TypeInfo} (hi : P.info? e = some inf) (a : Option Addr) (n cap : Nat) (lo hi' mx : Option Value) {k b m : Nat} {w : World}
    (hb : (Instr.sliceBounds true n cap lo hi' mx).run P w = .ok (k, b, m) w) :
    (Instr.sliceAt t (.slice a n cap) lo hi' mx).run P w = .ok (.slice (if m = k then a else a.map (·.add (k * inf.size))) (b - k) (m - k)) w := by
  simp only [Instr.sliceAt, Instr.slice, Sem.run_bind, run_underlying hu, Result.andThen_ok]
  rw [hb]
  simp [run_sizeOf' hi]

theorem subslice_good (H : HRel ι h w) {fr : List AV} {a : Act} (hf : VRels ι fr a.tmps.toList) {t e : TypeId} (hu : P.underlying t = some (.slice e)) {inf : TypeInfo} (hinf : P.info? e = some inf) {i o n : Nat} {x : Value} (hx : VRel ι (.slice i o n inf.size) x)
    {lo hi mx : Option Operand} {m b k : Nat} (hmh : ¬ (mx.isSome = true ∧ hi.isNone = true))
    (h0 : boundD fr (mx.map opd) n n = some m) (h1 : boundD fr (hi.map opd) m n = some b) (h2 : boundD fr (lo.map opd) b 0 = some k) :
    OpGood P ι h w (do pure (.value (← Instr.sliceAt t x (lo.map a.eval) (hi.map a.eval) (mx.map a.eval)))) (.val (.slice i (o + k * inf.size) (b - k) inf.size) h) := by
  obtain ⟨e', ad, cap, he, rfl, hnc, hor⟩ := slice_inv hx
  obtain ⟨m', _, _, hbm, hkb, hmc, hrun⟩ := bounds_rel (P := P) hf hnc hmh h0 h1 h2 w
  have hr := run_slice_slice hu hinf (some ad) n cap _ _ _ hrun
  refine good_pure H hr ?_
  simp only [VRel]
  by_cases hmk : m' = k
  · refine ⟨e', ad, m' - k, he, by rw [if_pos hmk], by omega, .inl (by omega)⟩
  · rcases hor with hc0 | ⟨rfl, htop⟩
    · omega
    · refine ⟨e', _, m' - k, he, by rw [if_neg hmk]; rfl, by omega, .inr ⟨by simp only [add_at, Nat.add_assoc], ?_⟩⟩
      have : k * inf.size + (m' - k) * inf.size ≤ cap * inf.size := by
        rw [← Nat.add_mul]
        exact Nat.mul_le_mul_right _ (by omega)
      omega

theorem subnil_good (H : HRel ι h w) {fr : List AV} {a : Act} (hf : VRels ι fr a.tmps.toList) {t e : TypeId} (hu : P.underlying t = some (.slice e)) {inf : TypeInfo} (hinf : P.info? e = some inf) {x : Value} (hx : VRel ι .nilslice x)
    {lo hi mx : Option Operand} {m b k : Nat} (hmh : ¬ (mx.isSome = true ∧ hi.isNone = true))
    (h0 : boundD fr (mx.map opd) 0 0 = some m) (h1 : boundD fr (hi.map opd) 0 0 = some b) (h2 : boundD fr (lo.map opd) 0 0 = some k) :
    OpGood P ι h w (do pure (.value (← Instr.sliceAt t x (lo.map a.eval) (hi.map a.eval) (mx.map a.eval)))) (.val .nilslice h) := by
  simp only [VRel] at hx; subst hx
  have z : ∀ {x : Option AOpd} {d r : Nat}, d = 0 → boundD fr x 0 d = some r → r = 0 := by
    intro x d r hd hb
    cases x with
    | none => simp [boundD] at hb; omega
    | some x =>
      simp only [boundD, bound] at hb
      split at hb
      · split at hb
        · cases hb; omega
        · cases hb
      · cases hb
  obtain rfl := z rfl h0
  obtain rfl := z rfl h1
  obtain rfl := z rfl h2
  obtain ⟨m', _, _, hbm, hkb, hmc, hrun⟩ := bounds_rel (P := P) (cap := 0) hf (Nat.le_refl _) hmh h0 h1 h2 w
  have hr := run_slice_slice hu hinf none 0 0 _ _ _ hrun
  have hm0 : m' = 0 := by omega
  subst hm0
  exact good_pure H hr (by simp [VRel])

/-! ### Places, parts -/

theorem fieldAddr_good (H : HRel ι h w) {s : TypeId} {fs : Array Field} (hu : P.underlying s = some (.struct fs)) {n : Nat} {f : Field} (hf : fs[n]? = some f) {k : Nat} (hn : sizeA P f.type = some (k + 1)) {i o : Nat} {x : Value} (hx : VRel ι (.ptr i o) x) :
    OpGood P ι h w (do pure (.value (← Instr.fieldAt s x n))) (.val (.ptr i (o + f.offset)) h) := by
  obtain ⟨e, he, rfl⟩ := ptr_inv hx rfl
  obtain ⟨inf, hinf, hsz⟩ := sizeA_some hn
  refine good_pure H (x := .pointer (some ⟨e.1, e.2.1 + (o + f.offset), none⟩)) ?_ (by simp only [VRel]; exact ⟨e, he, rfl⟩)
  have hs : inf.size ≠ 0 := by omega
  simp [Instr.fieldAt, run_underlying hu, hf, Instr.sureAddr, fieldPlace, run_sizeOf' hinf, hs, add_at, Nat.add_assoc]

theorem field1_good (H : HRel ι h w) {s : TypeId} {fs : Array Field} (hu : P.underlying s = some (.struct fs)) {n : Nat} {f : Field} (hf : fs[n]? = some f) (ha : aggA P f.type = some false) {cs : List AV} {x : Value} (hx : VRel ι (.agg cs) x) {v : AV} (hv : cs[f.offset]? = some v) :
    OpGood P ι h w (do pure (.value (← Instr.field s x n))) (.val v h) := by
  simp only [VRel] at hx
  obtain ⟨c, rfl, hc⟩ := hx
  obtain ⟨y, hy, hr⟩ := hc.get _ v hv
  rw [Array.getElem?_toList] at hy
  refine good_pure H (x := y) ?_ hr
  simp [Instr.field, run_underlying hu, hf, part, aggA_some ha, asAgg, hy]

theorem fieldN_good (H : HRel ι h w) {s : TypeId} {fs : Array Field} (hu : P.underlying s = some (.struct fs)) {n : Nat} {f : Field} (hf : fs[n]? = some f) (ha : aggA P f.type = some true) {k : Nat} (hn : sizeA P f.type = some k) {cs l : List AV} {x : Value} (hx : VRel ι (.agg cs) x)
    (hs : sub? cs f.offset k = some l) : OpGood P ι h w (do pure (.value (← Instr.field s x n))) (.val (.agg l) h) := by
  simp only [VRel] at hx
  obtain ⟨c, rfl, hc⟩ := hx
  obtain ⟨inf, hinf, rfl⟩ := sizeA_some hn
  obtain ⟨hle, rfl⟩ := sub?_some hs
  refine good_pure H (x := .agg (c.extract f.offset (f.offset + inf.size))) ?_ ?_
  · simp [Instr.field, run_underlying hu, hf, part, aggA_some ha, asAgg, run_sizeOf' hinf]
  · simp only [VRel]
    refine ⟨_, rfl, ?_⟩
    have := (hc.drop f.offset).take inf.size
    simpa [List.extract_eq_take_drop] using this

theorem indexAddr_good (H : HRel ι h w) {t e : TypeId} (hu : P.underlying t = some (.slice e)) {es : Nat} (hn : sizeA P e = some es) {b o n : Nat} {k : IntKind} {j : Int} {x y : Value} (hx : VRel ι (.slice b o n es) x) (hy : VRel ι (.int k j) y) (h0 : 0 ≤ j) (h1 : j < (n : Int)) :
    OpGood P ι h w (do pure (.value (← Instr.indexAt t x y))) (.val (.ptr b (o + j.toNat * es)) h) := by
  obtain ⟨e', ad, cap, he, rfl, hnc, hor⟩ := slice_inv hx
  obtain ⟨inf, hinf, rfl⟩ := sizeA_some hn
  have := int_inv hy
  subst this
  rcases hor with hc | ⟨rfl, _⟩
  · omega
  · refine good_pure H (x := .pointer (some ⟨e'.1, e'.2.1 + (o + j.toNat * inf.size), none⟩)) ?_ (by simp only [VRel]; exact ⟨e', he, rfl⟩)
    simp [Instr.indexAt, asIntOf, run_underlying hu, h0, h1, run_sizeOf' hinf, add_at, Nat.add_assoc]

theorem getElem?_mk (s : List UInt8) (n : Nat) : (⟨s.toArray⟩ : ByteArray)[n]? = s[n]? := by
  by_cases hn : n < s.length
  · rw [ByteArray.getElem?_lt' _ _ (by rw [size_mk]; exact hn), List.getElem?_eq_getElem hn]
    simp [ByteArray.getElem_eq_getElem_data]
  · rw [ByteArray.getElem?_ge' _ _ (by rw [size_mk]; exact hn), List.getElem?_eq_none (by omega)]

theorem indexStr_good (H : HRel ι h w) {t : TypeId} (hu : P.underlying t = some .string) {s : List UInt8} {k : IntKind} {j : Int} {x y : Value} (hx : VRel ι (.str s) x) (hy : VRel ι (.int k j) y) (h0 : 0 ≤ j) {c : UInt8} (hc : s[j.toNat]? = some c) :
    OpGood P ι h w (do pure (.value (← Instr.index t x y))) (.val (.int .u8 c.toNat) h) := by
  have := int_inv hy
  have := str_inv hx
  subst_vars
  refine good_pure H (x := .int .u8 c.toNat) ?_ (by simp [VRel])
  simp [Instr.index, asIntOf, run_underlying hu, h0, getElem?_mk, hc]

/-! ### A string gone through -/

theorem range_good (H : HRel ι h w) {t : TypeId} (hu : P.underlying t = some .string) {s : List UInt8} {x : Value} (hx : VRel ι (.str s) x) :
    OpGood P ι h w (do pure (.value (← Instr.range t x))) (.val (.ptr h.length 0) (h ++ [.iter s 0])) := by
  have := str_inv hx
  subst this
  obtain ⟨h1, h2, h3⟩ := alloc_rel H (.stringIter ⟨s.toArray⟩ 0) (.iter s 0) (w.heap.size, 0, 0) rfl ⟨by simp, rfl⟩
  refine ⟨.pointer (some ⟨w.heap.size, 0, none⟩), _, _, ?_, ?_, ⟨h1, h2, h3, by simp⟩, fun hh => absurd (congrArg List.length hh) (by simp)⟩
  · simp [Instr.range, run_underlying hu]
  · simp only [VRel]; exact ⟨_, Emb.last H _, rfl⟩

/-- An iterator's state written. -/
theorem setIter_rel (H : HRel ι h w) {i : Nat} {s : List UInt8} {p q : Nat} {e : Nat × Nat × Nat} (hi : h[i]? = some (.iter s p)) (he : ι[i]? = some e) :
    After ι h w (h.set i (.iter s q)) ι { w with heap := w.heap.setIfInBounds e.1 (.stringIter ⟨s.toArray⟩ q) } := by
  have hil : i < h.length := (List.getElem?_eq_some_iff.1 hi).1
  have hlt : e.1 < w.heap.size := (H.obj i _ e hi he).block_lt rfl
  have hget : ∀ (j : Nat) (o : AObj), (h.set i (.iter s q))[j]? = some o → (j = i ∧ o = .iter s q) ∨ (j ≠ i ∧ h[j]? = some o) := fun j o hq => by
    by_cases hj : j = i
    · subst hj; rw [List.getElem?_set_self hil] at hq; exact .inl ⟨rfl, (Option.some.inj hq).symm⟩
    · rw [List.getElem?_set_ne (fun e => hj e.symm)] at hq; exact .inr ⟨hj, hq⟩
  have hother : ∀ b, b ≠ e.1 → (w.heap.setIfInBounds e.1 (.stringIter ⟨s.toArray⟩ q))[b]? = w.heap[b]? := fun b hb => by
    rw [Array.getElem?_setIfInBounds_ne (fun e => hb e.symm)]
  refine ⟨⟨by simp [H.len], fun j o e' hq he' => ?_, fun j k o o' e' e'' hq hq' he' he'' hx hl hne => ?_⟩,
    ⟨rfl, rfl, rfl, by simp, fun b hbl hno => hother b (fun hbe => hno ⟨i, _, e, hi, rfl, he, hbe.symm⟩), fun b hown => ?_, loops_of (k := e.1) (by unfold loopAt; rw [(H.obj i _ e hi he).1]) fun b _ hbe => hother b hbe⟩, Agree.refl _ _, by simp⟩
  · rcases hget j o hq with ⟨rfl, rfl⟩ | ⟨hj, hq'⟩
    · rw [he] at he'; cases he'
      exact ⟨by simp [hlt], (H.obj j _ e hi he).2⟩
    · refine (H.obj j o e' hq' he').mono (fun _ _ h => h) (fun hl => hother _ fun hbe => ?_)
      exact H.sep i j _ o e e' hi hq' he he' rfl hl (fun h => hj h.symm) hbe.symm
  · rcases hget j o hq with ⟨rfl, rfl⟩ | ⟨hj, hqj⟩ <;> rcases hget k o' hq' with ⟨rfl, rfl⟩ | ⟨hk, hqk⟩
    · exact absurd rfl hne
    · exact H.sep j k _ o' e' e'' hi hqk he' he'' rfl hl hne
    · exact H.sep j k o _ e' e'' hqj hi he' he'' hx rfl hne
    · exact H.sep j k o o' e' e'' hqj hqk he' he'' hx hl hne
  · obtain ⟨j, o, e', hq, hx, he', rfl⟩ := hown
    rcases hget j o hq with ⟨rfl, rfl⟩ | ⟨hj, hqj⟩
    · exact .inl ⟨j, _, e', hi, rfl, he', rfl⟩
    · exact .inl ⟨j, o, e', hqj, hx, he', rfl⟩

theorem next_iter (H : HRel ι h w) {i : Nat} {x : Value} (hx : VRel ι (.ptr i 0) x) {s : List UInt8} {pos : Nat} (hi : h[i]? = some (.iter s pos)) :
    ∃ e, ι[i]? = some e ∧ x = .pointer (some ⟨e.1, 0, none⟩) ∧ w.heap[e.1]? = some (.stringIter ⟨s.toArray⟩ pos) := by
  obtain ⟨e, he, rfl⟩ := ptr_inv hx rfl
  obtain ⟨h1, h2⟩ := H.obj i _ e hi he
  exact ⟨e, he, by rw [h2], h1⟩

theorem next_good (H : HRel ι h w) {ty : TypeId} {i : Nat} {x : Value} (hx : VRel ι (.ptr i 0) x) {s : List UInt8} {pos : Nat} (hi : h[i]? = some (.iter s pos)) (hp : pos < s.length) :
    OpGood P ι h w (do pure (.value (← Instr.next x true ty))) (.val (.tuple [.bool true, .int .i64 pos, .int .i32 (Utf8.decode ⟨s.toArray⟩ pos).1]) (h.set i (.iter s (pos + (Utf8.decode ⟨s.toArray⟩ pos).2)))) := by
  obtain ⟨e, he, rfl, hb⟩ := next_iter H hx hi
  refine ⟨.tuple #[.bool true, .int .i64 pos, .int .i32 (Utf8.decode ⟨s.toArray⟩ pos).1], ι, _, ?_, ?_, setIter_rel H (q := pos + (Utf8.decode ⟨s.toArray⟩ pos).2) hi he, fun hh => ⟨rfl, ?_⟩⟩
  · simp [Instr.next, getObj, setObj, Sem.run, hb, size_mk, hp, goInt]
  · simp only [VRel]
    exact ⟨_, rfl, .cons (by simp [VRel]) (.cons (by simp [VRel]) (.cons (by simp [VRel]) .nil))⟩
  · have h1 : (h.set i (.iter s (pos + (Utf8.decode ⟨s.toArray⟩ pos).2)))[i]? = h[i]? := by rw [hh]
    rw [List.getElem?_set_self (List.getElem?_eq_some_iff.1 hi).1, hi] at h1
    simp only [Option.some.injEq, AObj.iter.injEq, true_and] at h1
    rw [h1]
    have : w.heap.setIfInBounds e.1 (.stringIter ⟨s.toArray⟩ pos) = w.heap := by
      apply Array.ext_getElem?
      intro k
      by_cases hk : k = e.1
      · subst hk
        rw [Array.getElem?_setIfInBounds_self_of_lt (Array.getElem?_eq_some_iff.1 hb).1, hb]
      · rw [Array.getElem?_setIfInBounds_ne (fun h => hk h.symm)]
    rw [this]

theorem over_good (H : HRel ι h w) {ty : TypeId} {i : Nat} {x : Value} (hx : VRel ι (.ptr i 0) x) {s : List UInt8} {pos : Nat} (hi : h[i]? = some (.iter s pos)) (hp : ¬ pos < s.length) :
    OpGood P ι h w (do pure (.value (← Instr.next x true ty))) (.val (.tuple [.bool false]) h) := by
  obtain ⟨e, he, rfl, hb⟩ := next_iter H hx hi
  refine good_pure H (x := .tuple #[.bool false]) ?_ (by simp only [VRel]; exact ⟨_, rfl, .cons (by simp [VRel]) .nil⟩)
  simp [Instr.next, getObj, Sem.run, hb, size_mk, hp]

theorem extract_good (H : HRel ι h w) {vs : List AV} {x : Value} (hx : VRel ι (.tuple vs) x) {i : Nat} {v : AV} (hv : vs[i]? = some v) :
    OpGood P ι h w (do pure (.value (← Instr.extract x i))) (.val v h) := by
  simp only [VRel] at hx
  obtain ⟨c, rfl, hc⟩ := hx
  obtain ⟨y, hy, hr⟩ := hc.get _ v hv
  rw [Array.getElem?_toList] at hy
  exact good_pure H (x := y) (by simp [Instr.extract, hy]) hr

end
end Go.Ax

namespace Go.Ax
set_option linter.unusedVariables false
set_option linter.unusedSimpArgs false

section
variable {P : Program} {ι : Emb} {h : AHeap} {w : World}

/-! ### append -/

theorem firstCells_rel (H : HRel ι h w) {es n : Nat} {v : AV} {x : Value} (hx : VRel ι v x) {l : List AV} (hc : cellsOf h es v = some (n, l)) :
    (Builtin.lenOf x).run P w = .ok n w ∧ ∃ cs : Array Value, cs.size = n * es ∧ l.length = n * es ∧ VRels ι l cs.toList ∧ ∀ d, (Builtin.firstCells es n x).run P { w with drawn := d } = .ok cs { w with drawn := d } := by
  cases v <;> simp only [cellsOf, reduceCtorEq] at hc
  case nilslice =>
    simp at hc
    obtain ⟨rfl, rfl⟩ := hc
    simp only [VRel] at hx
    subst hx
    exact ⟨by simp [Builtin.lenOf], #[], by simp, by simp, .nil, fun d => by simp [Builtin.firstCells]⟩
  case str s =>
    split at hc
    · rename_i he
      subst he
      simp at hc
      obtain ⟨rfl, rfl⟩ := hc
      have := str_inv hx
      subst this
      refine ⟨by simp [Builtin.lenOf, size_mk], (s.map fun b => Value.int .u8 b.toNat).toArray, by simp, by simp [u8s], ?_, fun d => ?_⟩
      · simp only [u8s]
        exact VRels.map _ _ s (fun b _ => by simp [VRel])
      · simp only [Builtin.firstCells, Sem.run_pure]
        rw [extract_mk]
        simp
    · cases hc
  case slice i o k es' =>
    have hc' : cellsOf h es (.slice i o k es') = some (n, l) := by simp only [cellsOf]; exact hc
    obtain ⟨rfl, rfl, vs, hr, hs⟩ := cellsOf_slice hc'
    obtain ⟨a, cap, cs, rfl, _, hl, hrel, hcell⟩ := sliceCells H hx hr hs
    refine ⟨by simp [Builtin.lenOf], cs.toArray, by simp [hl], by rw [hrel.length, hl], by simpa using hrel, fun d => ?_⟩
    have := run_loadCells_list (P := P) { w with drawn := d } a cs (fun j v hj => hcell j v hj)
    rw [hl] at this
    simpa [Builtin.firstCells] using this

/-- What the model's append comes to, whatever is appended to whatever. -/
theorem run_append' {t u ty e : TypeId} {i : TypeInfo} {z : Value} {du : TypeDesc} (ht : P.underlying t = some (.slice e)) (hu : P.underlying u = some du) (hdu : ∀ k, du ≠ .int k) (hi : P.info? e = some i) (hz : i.zero = some z)
    {base : Option Addr} {sLen sCap n : Nat} {x : Value} (hn : (Builtin.lenOf x).run P w = .ok n w) {olds news : Array Value} (ho : (Builtin.firstCells i.size sLen (.slice base sLen sCap)).run P { w with drawn := w.drawn + 1 } = .ok olds { w with drawn := w.drawn + 1 })
    (hnew0 : (Builtin.firstCells i.size n x).run P w = .ok news w) (hnew : (Builtin.firstCells i.size n x).run P { w with drawn := w.drawn + 1 } = .ok news { w with drawn := w.drawn + 1 }) (hfit : (4 * (sLen + n) + 1000) * i.bytes ≤ 281474976710656) (h63 : i.bytes ≠ 0) :
    (sLen + n ≤ sCap → (Builtin.append_ #[t, u] ty #[.slice base sLen sCap, x]).run P w =
      (match base with
        | some a => (storeCells (a.add (sLen * i.size)) news.toList).run P w
        | none => .ok () w).andThen fun _ w' => .ok (.slice base (sLen + n) sCap) w') ∧
    (sCap < sLen + n → (Builtin.append_ #[t, u] ty #[.slice base sLen sCap, x]).run P w =
      .ok (.slice (some ⟨w.heap.size, 0, none⟩) (sLen + n) (grownCap w (sLen + n) sCap e))
        { w with drawn := w.drawn + 1, heap := w.heap.push (.cells (olds ++ news ++ Builtin.zeroCells z.cells (grownCap w (sLen + n) sCap e - (sLen + n))) e) }) := by
  have hzeros : (match du with | .int _ => true | _ => false : Bool) = false := by
    cases du <;> first | rfl | exact absurd rfl (hdu _)
  refine ⟨fun hle => ?_, fun hgt => ?_⟩
  · cases base <;> simp [Builtin.append_, run_underlying ht, run_underlying hu, run_sizeOf' hi, hzeros, hn, hle, hnew0]
  · have hnc := nextslicecap_le hgt
    have hb : Builtin.nextslicecap (sLen + n) sCap * i.bytes ≤ 281474976710656 := Nat.le_trans (Nat.mul_le_mul_right _ (by omega)) hfit
    have h48 : ¬ (281474976710656 < Builtin.nextslicecap (sLen + n) sCap * i.bytes) := by omega
    have hno : ¬ (sLen + n ≤ sCap) := by omega
    have ho' : (Builtin.firstCells i.size sLen (.slice base sLen sCap)).run P w.drew = .ok olds w.drew := ho
    have hnew' : (Builtin.firstCells i.size n x).run P w.drew = .ok news w.drew := hnew
    have hw : ({ w with drawn := w.drawn + 1, heap := w.heap.push (.cells (olds ++ news ++ Builtin.zeroCells z.cells (grownCap w (sLen + n) sCap e - (sLen + n))) e) } : World) =
        w.drew.alloc (.cells (olds ++ news ++ Builtin.zeroCells z.cells (grownCap w (sLen + n) sCap e - (sLen + n))) e) := rfl
    rw [hw]
    simp [Builtin.append_, run_underlying ht, run_underlying hu, run_typeInfo' hi, run_sizeOf' hi, run_zeroValue' hi hz, hzeros, hn, hno, h63, h48, Question.forced, newRow, grownCap, ho', hnew']

/-- Append in place: the old block lives on under the new number. -/
theorem moved_rel {w' : World} (H : HRel ι h w) {i o k n es : Nat} {vs xs ys : List AV} {e : Nat × Nat × Nat} {c : Array Value} {t : TypeId} {news : List Value}
    (hi : h[i]? = some (.cells vs)) (he : ι[i]? = some e) (hb : w.heap[e.1]? = some (.cells c t (0, 0))) (hrow : RowRel ι e vs c) (hs : sub? vs o (k * es) = some xs) (hy : VRels ι ys news) (htop : e.2.1 + o + k * es + ys.length ≤ e.2.2)
    (hw : Wrote w w' e.1 (e.2.1 + o + k * es) news c t) :
    After ι h w (h.set i .dead ++ [.cells (xs ++ ys)]) (ι ++ [(e.1, e.2.1 + o, e.2.2)]) w' := by
  have hil : i < h.length := (List.getElem?_eq_some_iff.1 hi).1
  obtain ⟨hle, hxs⟩ := sub?_some hs
  have hxl : xs.length = k * es := by rw [hxs]; simp; omega
  have hyl := hy.length
  have hm : ∀ (j : Nat) (e' : Nat × Nat × Nat), ι[j]? = some e' → (ι ++ [(e.1, e.2.1 + o, e.2.2)])[j]? = some e' := fun j e' hj => by
    have : j < ι.length := (List.getElem?_eq_some_iff.1 hj).1
    rw [List.getElem?_append_left this]; exact hj
  have hlen : (h.set i .dead).length = h.length := by simp
  have hget : ∀ (j : Nat) (q : AObj) (e' : Nat × Nat × Nat), (h.set i .dead ++ [.cells (xs ++ ys)])[j]? = some q → (ι ++ [(e.1, e.2.1 + o, e.2.2)])[j]? = some e' →
      (j = i ∧ q = .dead) ∨ (j ≠ i ∧ h[j]? = some q ∧ ι[j]? = some e') ∨ (q = .cells (xs ++ ys) ∧ e' = (e.1, e.2.1 + o, e.2.2)) := fun j q e' hq he' => by
    rcases Nat.lt_trichotomy j h.length with h' | h' | h'
    · rw [List.getElem?_append_left (by rw [hlen]; exact h')] at hq
      rw [List.getElem?_append_left (by rw [H.len]; exact h')] at he'
      by_cases hj : j = i
      · subst hj; rw [List.getElem?_set_self hil] at hq; exact .inl ⟨rfl, (Option.some.inj hq).symm⟩
      · rw [List.getElem?_set_ne (fun e => hj e.symm)] at hq; exact .inr (.inl ⟨hj, hq, he'⟩)
    · subst h'
      rw [List.getElem?_append_right (by rw [hlen]; exact Nat.le_refl _), hlen] at hq
      rw [List.getElem?_append_right (by rw [H.len]; exact Nat.le_refl _), H.len] at he'
      simp at hq he'
      exact .inr (.inr ⟨hq.symm, he'.symm⟩)
    · rw [List.getElem?_eq_none (by simp; omega)] at hq; cases hq
  refine ⟨⟨by simp [H.len], fun j q e' hq he' => ?_, fun a b q q' e' e'' hq hq' he' he'' hx hl hne => ?_⟩,
    ⟨hw.os, hw.tape, hw.output, by rw [hw.size]; exact Nat.le_refl _, fun b hbl hno => hw.other b (fun hbe => hno ⟨i, _, e, hi, rfl, he, hbe.symm⟩), fun b hown => ?_, loops_of (k := e.1) (by unfold loopAt; rw [hb]) fun b _ hbe => hw.other b hbe⟩,
    fun j hj => by rw [List.getElem?_append_left (by rw [H.len]; exact hj)], by simp⟩
  · rcases hget j q e' hq he' with ⟨rfl, rfl⟩ | ⟨hj, hq', he''⟩ | ⟨rfl, rfl⟩
    · trivial
    · refine (H.obj j q e' hq' he'').mono hm (fun hl => hw.other _ fun hbe => ?_)
      exact H.sep i j _ q e e' hi hq' he he'' rfl hl (fun h => hj h.symm) hbe.symm
    · obtain ⟨c', h1, h2, h3⟩ := hw.row
      have hr1 := hrow.1
      have hr2 := hrow.2.1
      refine ⟨c', t, h1, by rw [h2]; exact hr1, by simp; omega, fun j v hv => ?_⟩
      rw [h3]
      by_cases hj : j < xs.length
      · rw [List.getElem?_append_left hj] at hv
        rw [if_neg (by simp only []; omega)]
        rw [hxs, List.getElem?_take, if_pos (by omega), List.getElem?_drop] at hv
        obtain ⟨y, hy1, hy2⟩ := hrow.2.2 _ v hv
        exact ⟨y, by rw [← hy1]; congr 1; simp only []; omega, hy2.mono hm⟩
      · rw [List.getElem?_append_right (by omega)] at hv
        have hlt : j - xs.length < ys.length := (List.getElem?_eq_some_iff.1 hv).1
        obtain ⟨y, hy1, hy2⟩ := hy.get _ v hv
        rw [if_pos (by simp only []; omega)]
        exact ⟨y, by rw [← hy1]; congr 1; simp only []; omega, hy2.mono hm⟩
  · rcases hget a q e' hq he' with ⟨rfl, rfl⟩ | ⟨ha, hqa, hea⟩ | ⟨rfl, rfl⟩ <;> rcases hget b q' e'' hq' he'' with ⟨rfl, rfl⟩ | ⟨hb', hqb, heb⟩ | ⟨rfl, rfl⟩
    · exact absurd rfl hne
    · simp [AObj.excl] at hx
    · simp [AObj.excl] at hx
    · simp [AObj.live] at hl
    · exact H.sep a b q q' e' e'' hqa hqb hea heb hx hl hne
    · exact H.sep a i q _ e' e hqa hi hea he hx rfl ha
    · simp [AObj.live] at hl
    · exact H.sep i b _ q' e e'' hi hqb he heb rfl hl (fun h => hb' h.symm)
    · exfalso
      have h1 : ∀ (j : Nat), (h.set i .dead ++ [AObj.cells (xs ++ ys)])[j]? = some (.cells (xs ++ ys)) → (ι ++ [(e.1, e.2.1 + o, e.2.2)])[j]? = some (e.1, e.2.1 + o, e.2.2) → j ≠ h.length → False := fun j hj1 hj2 hj3 => by
        have hjl : j < h.length := by
          have := (List.getElem?_eq_some_iff.1 hj1).1
          simp at this; omega
        rw [List.getElem?_append_left (by rw [hlen]; exact hjl)] at hj1
        rw [List.getElem?_append_left (by rw [H.len]; exact hjl)] at hj2
        by_cases hji : j = i
        · subst hji; rw [List.getElem?_set_self hil] at hj1; cases hj1
        · rw [List.getElem?_set_ne (fun e => hji e.symm)] at hj1
          exact H.sep i j _ _ e _ hi hj1 he hj2 rfl rfl (fun h => hji h.symm) rfl
      by_cases ha : a = h.length
      · exact h1 b hq' he'' (fun h => hne (ha.trans h.symm))
      · exact h1 a hq he' ha
  · obtain ⟨j, q, e', hq, hx, he', rfl⟩ := hown
    rcases hget j q e' hq he' with ⟨rfl, rfl⟩ | ⟨hj, hqj, hej⟩ | ⟨rfl, rfl⟩
    · simp [AObj.excl] at hx
    · exact .inl ⟨j, q, e', hqj, hx, hej, rfl⟩
    · exact .inl ⟨i, _, e, hi, rfl, he, rfl⟩

/-- A block forgotten. -/
theorem drop_rel (H : HRel ι h w) {i : Nat} (hil : i < h.length) : After ι h w (h.set i .dead) ι w := by
  have hget : ∀ (j : Nat) (q : AObj), (h.set i .dead)[j]? = some q → q = .dead ∨ h[j]? = some q := fun j q hq => by
    by_cases hj : j = i
    · subst hj; rw [List.getElem?_set_self hil] at hq; exact .inl (Option.some.inj hq).symm
    · rw [List.getElem?_set_ne (fun e => hj e.symm)] at hq; exact .inr hq
  refine ⟨⟨by simp [H.len], fun j q e' hq he' => ?_, fun a b q q' e' e'' hq hq' he' he'' hx hl hne => ?_⟩, ⟨rfl, rfl, rfl, Nat.le_refl _, fun b _ _ => rfl, fun b hown => ?_, fun _ _ h => h⟩, Agree.refl _ _, by simp⟩
  · rcases hget j q hq with rfl | hq'
    · trivial
    · exact H.obj j q e' hq' he'
  · rcases hget a q hq with rfl | ha <;> rcases hget b q' hq' with rfl | hb
    · simp [AObj.excl] at hx
    · simp [AObj.excl] at hx
    · simp [AObj.live] at hl
    · exact H.sep a b q q' e' e'' ha hb he' he'' hx hl hne
  · obtain ⟨j, q, e', hq, hx, he', rfl⟩ := hown
    rcases hget j q hq with rfl | hq'
    · simp [AObj.excl] at hx
    · exact .inl ⟨j, q, e', hq', hx, he', rfl⟩

end
end Go.Ax

namespace Go.Ax
set_option linter.unusedVariables false
set_option linter.unusedSimpArgs false

section
variable {P : Program} {ι : Emb} {h : AHeap} {w : World}

theorem newRowLong (H : HRel ι h w) {vs : List AV} {c : Array Value} {d : Nat} {pre rest : List Value} (t : TypeId) (hv : VRels ι vs pre) (hc : c.toList = pre ++ rest) :
    After ι h w (h ++ [.cells vs]) (ι ++ [(w.heap.size, 0, c.size)]) { w with drawn := d, heap := w.heap.push (.cells c t) } := by
  have Hd : HRel ι h { w with drawn := d } := H.world (fun _ _ => rfl)
  have hsz : c.size = pre.length + rest.length := by rw [← Array.length_toList, hc]; simp
  obtain ⟨h1, h2, h3⟩ := alloc_rel Hd (.cells c t) (.cells vs) (w.heap.size, 0, c.size) rfl ⟨c, t, by simp, rfl, by have := hv.length; simp; omega, fun j v hj => by
    obtain ⟨x, hx, hr⟩ := hv.get j v hj
    refine ⟨x, ?_, hr.mono fun i e hi => ?_⟩
    · have hlt : j < pre.length := (List.getElem?_eq_some_iff.1 hx).1
      rw [Nat.zero_add, ← Array.getElem?_toList, hc, List.getElem?_append_left hlt]; exact hx
    · have : i < ι.length := (List.getElem?_eq_some_iff.1 hi).1
      rw [List.getElem?_append_left this]; exact hi⟩
  exact ⟨h1, ⟨h2.os, h2.tape, h2.output, h2.size, h2.same, h2.own, h2.loops⟩, h3, by simp⟩

theorem grownCap_ge (w : World) (need old : Nat) (e : TypeId) : need ≤ grownCap w need old e := by
  simp [grownCap, Question.cut]

theorem append_good (H : HRel ι h w) {t u ty e : TypeId} {i : TypeInfo} {z : Value} {du : TypeDesc} (ht : P.underlying t = some (.slice e)) (hu : P.underlying u = some du) (hdu : ∀ k, du ≠ .int k) (hi : P.info? e = some i) (hz : i.zero = some z) (hzs : z.cells.size = i.size) (h63 : i.bytes ≠ 0)
    {v y : AV} {x xv : Value} (hx : VRel ι v x) (hy : VRel ι y xv) {n : Nat} {ys : List AV} (hc : cellsOf h i.size y = some (n, ys)) :
    (v = .nilslice → (4 * n + 1000) * i.bytes ≤ 281474976710656 → OpGood P ι h w (do pure (.value (← Builtin.append_ #[t, u] ty #[x, xv]))) (if n = 0 then .val .nilslice h else .val (.slice h.length 0 n i.size) (h ++ [.cells ys]))) ∧
    (∀ b o k es', v = .slice b o k es' → n = 0 → OpGood P ι h w (do pure (.value (← Builtin.append_ #[t, u] ty #[x, xv]))) (.val (.slice b o k es') h)) ∧
    (∀ b o k vs xs, v = .slice b o k i.size → n ≠ 0 → h[b]? = some (.cells vs) → sub? vs o (k * i.size) = some xs → (4 * (k + n) + 1000) * i.bytes ≤ 281474976710656 → ys.all AV.one = true →
      OpGood P ι h w (do pure (.value (← Builtin.append_ #[t, u] ty #[x, xv]))) (.val (.slice h.length 0 (k + n) i.size) (h.set b .dead ++ [.cells (xs ++ ys)]))) := by
  obtain ⟨hlen, news, hns, hyl, hnr, hfc⟩ := firstCells_rel (P := P) H hy hc
  refine ⟨fun hv hfit => ?_, fun b o k es' hv hn => ?_, fun b o k vs xs hv hn0 hb hs hfit hone => ?_⟩
  · subst hv
    simp only [VRel] at hx
    subst hx
    obtain ⟨r1, r2⟩ := run_append' (P := P) (w := w) (ty := ty) ht hu hdu hi hz (base := none) (sLen := 0) (sCap := 0) hlen (olds := #[]) (by simp [Builtin.firstCells]) (hfc _) (hfc _) (by simpa using hfit) h63
    by_cases hn : n = 0
    · rw [if_pos hn]
      subst hn
      exact good_pure H (x := .slice none 0 0) (by simpa using r1 (by omega)) (by simp [VRel])
    · rw [if_neg hn]
      have hcap := grownCap_ge w (0 + n) 0 e
      refine ⟨.slice (some ⟨w.heap.size, 0, none⟩) n (grownCap w (0 + n) 0 e), _, { w with drawn := w.drawn + 1, heap := w.heap.push (.cells (#[] ++ news ++ Builtin.zeroCells z.cells (grownCap w (0 + n) 0 e - (0 + n))) e) }, ?_, ?_, newRowLong H (pre := news.toList) (rest := (Builtin.zeroCells z.cells (grownCap w (0 + n) 0 e - (0 + n))).toList) (d := w.drawn + 1) e hnr (by simp), fun hh => absurd (congrArg List.length hh) (by simp)⟩
      · have := r2 (by omega)
        rw [Nat.zero_add] at this
        simp only [Sem.run_bind, this, Result.andThen_ok, Sem.run_pure, Nat.zero_add]
      simp only [VRel]
      refine ⟨_, _, _, Emb.last H _, rfl, by omega, .inr ⟨rfl, ?_⟩⟩
      simp [Builtin.zeroCells, hns, hzs]
      rw [← Nat.add_mul]
      exact Nat.mul_le_mul_right _ (by simp at hcap; omega)
  · subst hv hn
    obtain ⟨e2, ad, cap, he2, rfl, hkc, hor⟩ := slice_inv hx
    have hnews : news = #[] := by
      apply Array.ext'
      have : news.toList.length = 0 := by simp [hns]
      simpa using this
    subst hnews
    refine good_pure H ?_ hx
    have hin : k + 0 ≤ cap := hkc
    have hzeros : (match du with | .int _ => true | _ => false : Bool) = false := by
      cases du <;> first | rfl | exact absurd rfl (hdu _)
    have hf0 := hfc w.drawn
    simp [Builtin.append_, run_underlying ht, run_underlying hu, run_sizeOf' hi, hzeros, hlen, hkc, hf0, storeCells]
  · subst hv
    obtain ⟨eb, he⟩ := H.emb hb
    obtain ⟨e2, ad, cap, he2, rfl, hkc, hor⟩ := slice_inv hx
    rw [he] at he2; cases he2
    have hrow : h.row b = some vs := by simp [AHeap.row, hb]
    obtain ⟨ad', cap', cs, hxe, _, hcl, hcr, hcell⟩ := sliceCells H hx hrow hs
    cases hxe
    have hfo : ∀ d, (Builtin.firstCells i.size k (.slice (some ad) k cap)).run P { w with drawn := d } = .ok cs.toArray { w with drawn := d } := fun d => by
      have := run_loadCells_list (P := P) { w with drawn := d } ad cs (fun j v hj => hcell j v hj)
      rw [hcl] at this
      simpa [Builtin.firstCells] using this
    obtain ⟨r1, r2⟩ := run_append' (P := P) (w := w) (ty := ty) ht hu hdu hi hz (base := some ad) (sLen := k) (sCap := cap) hlen (hfo _) (hfc _) (hfc _) hfit h63
    have hbl : b < h.length := (List.getElem?_eq_some_iff.1 hb).1
    by_cases hle : k + n ≤ cap
    · have r := r1 hle
      obtain ⟨c, ty', hblk, hrr⟩ := H.obj b _ eb hb he
      obtain ⟨hsl, hxs⟩ := sub?_some hs
      rcases hor with hc0 | ⟨rfl, htop⟩
      · omega
      · have hkn : (k + n) * i.size ≤ cap * i.size := Nat.mul_le_mul_right _ hle
        rw [Nat.add_mul] at hkn
        have hcz := hrr.1
        have hone' : ∀ y ∈ news.toList, y.oneCell' = true := fun y hy => by
          obtain ⟨j, hj⟩ := List.getElem?_of_mem hy
          have hlt : j < ys.length := by rw [hnr.length]; exact (List.getElem?_eq_some_iff.1 hj).1
          obtain ⟨y', hy', hrel⟩ := hnr.get j ys[j] (List.getElem?_eq_getElem hlt)
          rw [hj] at hy'; cases hy'
          exact one_rel hrel (List.all_eq_true.1 hone _ (List.getElem_mem hlt))
        obtain ⟨w', hrun, hw⟩ := run_storeCells (P := P) eb.1 (eb.2.1 + o + k * i.size) ty' news.toList 0 w c hblk (by simp; omega) hone'
        refine ⟨.slice (some ⟨eb.1, eb.2.1 + o, none⟩) (k + n) cap, _, w', ?_, ?_, moved_rel H (n := n) hb he hblk hrr hs hnr (by omega) (by simpa using hw), fun hh => absurd (congrArg List.length hh) (by simp)⟩
        · simp only [add_at] at r
          simp [r, hrun]
        · simp only [VRel]
          exact ⟨_, _, cap, Emb.last H _, rfl, hle, .inr ⟨rfl, htop⟩⟩
    · have r := r2 (by omega)
      have A := drop_rel H hbl
      have hcap := grownCap_ge w (k + n) cap e
      have N := newRowLong A.rel (vs := xs ++ ys) (pre := cs ++ news.toList) (rest := (Builtin.zeroCells z.cells (grownCap w (k + n) cap e - (k + n))).toList) (d := w.drawn + 1) (c := cs.toArray ++ news ++ Builtin.zeroCells z.cells (grownCap w (k + n) cap e - (k + n))) e (hcr.append hnr) (by simp)
      refine ⟨.slice (some ⟨w.heap.size, 0, none⟩) (k + n) (grownCap w (k + n) cap e), _, _, by simp only [Sem.run_bind, r, Result.andThen_ok, Sem.run_pure], ?_, A.trans N, fun hh => absurd (congrArg List.length hh) (by simp)⟩
      simp only [VRel]
      have hlast := Emb.last A.rel (w.heap.size, 0, (cs.toArray ++ news ++ Builtin.zeroCells z.cells (grownCap w (k + n) cap e - (k + n))).size)
      rw [List.length_set] at hlast
      refine ⟨_, _, _, hlast, rfl, by omega, .inr ⟨rfl, ?_⟩⟩
      simp [Builtin.zeroCells, hns, hzs, hcl]
      rw [← Nat.add_mul, ← Nat.add_mul]
      exact Nat.mul_le_mul_right _ (by omega)

/-! ### min, max; calls -/

theorem min_good (H : HRel ι h w) {ts : Array TypeId} {ty : TypeId} {a b v : AV} {x y : Value} (ha : VRel ι a x) (hb : VRel ι b y) (hv : aMin a b = some v) :
    OpGood P ι h w (do pure (.value (← Builtin.min_ ts ty #[x, y]))) (.val v h) := by
  unfold aMin at hv
  split at hv
  · split at hv
    · rename_i k p k' q hk
      cases hv
      have := int_inv ha
      have := int_inv hb
      subst_vars
      exact good_pure H (x := .int k' (if q < p then q else p)) (by simp [Builtin.min_, Builtin.min2]) (by simp [VRel])
    · cases hv
  · cases hv

theorem max_good (H : HRel ι h w) {ts : Array TypeId} {ty : TypeId} {a b v : AV} {x y : Value} (ha : VRel ι a x) (hb : VRel ι b y) (hv : aMax a b = some v) :
    OpGood P ι h w (do pure (.value (← Builtin.max_ ts ty #[x, y]))) (.val v h) := by
  unfold aMax at hv
  split at hv
  · split at hv
    · rename_i k p k' q hk
      cases hv
      have := int_inv ha
      have := int_inv hb
      subst_vars
      exact good_pure H (x := .int k' (if p < q then q else p)) (by simp [Builtin.max_, Builtin.max2]) (by simp [VRel])
    · cases hv
  · cases hv

theorem lenS_good (H : HRel ι h w) {t ty : TypeId} (hu : P.underlying t = some .string) {s : List UInt8} {x : Value} (hx : VRel ι (.str s) x) :
    OpGood P ι h w (do pure (.value (← Builtin.len_ #[t] ty #[x]))) (.val (.int .i64 s.length) h) := by
  have := str_inv hx
  subst this
  exact good_pure H (x := goInt s.length) (by simp [Builtin.len_, run_underlying hu, size_mk]) (by simp [VRel, goInt])

theorem len_good (H : HRel ι h w) {t ty e : TypeId} (hu : P.underlying t = some (.slice e)) {i o n es : Nat} {x : Value} (hx : VRel ι (.slice i o n es) x) :
    OpGood P ι h w (do pure (.value (← Builtin.len_ #[t] ty #[x]))) (.val (.int .i64 n) h) := by
  obtain ⟨e, a, cap, _, rfl, _⟩ := slice_inv hx
  exact good_pure H (x := goInt n) (by simp [Builtin.len_, run_underlying hu]) (by simp [VRel, goInt])

theorem len0_good (H : HRel ι h w) {t ty e : TypeId} (hu : P.underlying t = some (.slice e)) {x : Value} (hx : VRel ι .nilslice x) :
    OpGood P ι h w (do pure (.value (← Builtin.len_ #[t] ty #[x]))) (.val (.int .i64 0) h) := by
  simp only [VRel] at hx
  subst hx
  exact good_pure H (x := goInt 0) (by simp [Builtin.len_, run_underlying hu]) (by simp [VRel, goInt])

/-- Every operation of the abstract machine is the model's. -/
theorem op_good (H : HRel ι h w) {fr : List AV} {a : Act} (hf : VRels ι fr a.tmps.toList) {o : Oper} {ao : AOp} (hc : compOp P o = some ao) {out : AOut} (ho : aOp fr h ao = some out)
    (hcall : ∀ f args, out = .call f args → Callable P f) : OpGood P ι h w (execOp a.eval o) out := by
  obtain ⟨dst, op, type, pos, after, guard⟩ := o
  cases op <;> simp only [compOp, reduceCtorEq] at hc
  case move x =>
    cases hc
    simp only [aOp, Option.some.injEq] at ho
    subst ho
    exact ⟨_, ι, w, by simp only [execOp]; rfl, opd_rel hf x, .refl H, fun _ => ⟨rfl, rfl⟩⟩
  case assign x =>
    cases hc
    simp only [aOp, Option.some.injEq] at ho
    subst ho
    exact ⟨_, ι, w, by simp only [execOp]; rfl, opd_rel hf x, .refl H, fun _ => ⟨rfl, rfl⟩⟩
  case pick c x y =>
    cases hc
    simp only [aOp] at ho
    split at ho
    · rename_i b hb
      cases ho
      have hcr := opd_rel hf c
      rw [hb] at hcr
      simp only [VRel] at hcr
      refine ⟨if b then a.eval x else a.eval y, ι, w, by simp only [execOp]; simp [hcr, asBool], ?_, .refl H, fun _ => ⟨rfl, rfl⟩⟩
      cases b
      · exact opd_rel hf y
      · exact opd_rel hf x
    · cases ho
  case alloc t =>
    cases hz : zeroA P t with
    | none => simp [hz] at hc
    | some z =>
      simp [hz] at hc
      subst hc
      simp only [aOp, Option.some.injEq] at ho
      subst ho
      exact alloc_good H hz
  case box t x =>
    cases hc
    simp only [aOp] at ho
    split at ho
    · rename_i cs hcs; cases ho; exact box_good H (opd_rel hf x) hcs
    · cases ho
  case build t parts =>
    split at hc
    · rename_i fs z hu hz
      split at hc
      · rename_i hall
        cases hp : partsA (placeA P fs) parts.toList with
        | none => simp only [hp] at hc; cases hc
        | some ps =>
          simp only [hp, Option.map_some, Option.some.injEq] at hc
          subst hc
          simp only [aOp] at ho
          cases hfl : aFill fr z ps with
          | none => simp [hfl] at ho
          | some cs =>
            simp only [hfl, Option.map_some, Option.some.injEq] at ho
            subst ho
            exact build_good H hf hu hz hall hp hfl
      · cases hc
    · cases hc
  case buildSlice t len parts =>
    split at hc
    · rename_i e he
      split at hc
      · rename_i n z hn hz
        split at hc
        · rename_i hle
          cases hp : partsA (fun i => some (i * n, n)) parts.toList with
          | none => simp only [hp] at hc; cases hc
          | some ps =>
            simp only [hp, Option.map_some, Option.some.injEq] at hc
            subst hc
            simp only [aOp] at ho
            cases hfl : aFill fr (List.replicate (len * n) .junk) ps with
            | none => simp [hfl] at ho
            | some cs =>
              simp only [hfl, Option.map_some, Option.some.injEq] at ho
              subst ho
              exact buildSlice_good H hf he hn hz hle hp hfl
        · cases hc
      · cases hc
    · cases hc
  case load t x =>
    split at hc
    · rename_i n hag hn
      cases hc
      simp only [aOp] at ho
      split at ho
      · rename_i i q hp
        have hx := opd_rel hf x
        rw [hp] at hx
        split at ho
        · rename_i vs hr
          cases hs : sub? vs q n with
          | none => simp [hs] at ho
          | some l =>
            simp only [hs, Option.map_some, Option.some.injEq] at ho
            subst ho
            exact loadN_good H hx hag hn hr hs
        · cases ho
      · cases ho
    · rename_i hag
      cases hc
      simp only [aOp] at ho
      split at ho
      · rename_i i q hp
        have hx := opd_rel hf x
        rw [hp] at hx
        split at ho
        · rename_i vs hr
          cases hs : vs[q]? with
          | none => simp [hs] at ho
          | some v =>
            simp only [hs, Option.map_some, Option.some.injEq] at ho
            subst ho
            exact load1_good H hx hag hr hs
        · cases ho
      · cases ho
    · cases hc
  case store t x y =>
    cases hn : sizeA P t with
    | none => simp [hn] at hc
    | some n =>
      simp [hn] at hc
      subst hc
      simp only [aOp] at ho
      split at ho
      · rename_i i q hp
        have hx := opd_rel hf x
        rw [hp] at hx
        split at ho
        · rename_i vs cs hi hcs
          split at ho
          · rename_i hcond
            cases ho
            exact store_good H hx (opd_rel hf y) hn hi hcs hcond.1 hcond.2.1 hcond.2.2
          · cases ho
        · cases ho
      · cases ho
  case nilCheck x =>
    cases hc
    simp only [aOp] at ho
    split at ho
    · rename_i i q hp
      cases ho
      have hx := opd_rel hf x
      rw [hp] at hx
      obtain ⟨e, he, hxe⟩ := ptr_inv hx rfl
      refine ⟨a.eval x, ι, w, by simp only [execOp]; simp [hxe], hx, .refl H, fun _ => ⟨rfl, rfl⟩⟩
    · cases ho
  case binOp op t x y u =>
    cases hc
    simp only [aOp] at ho
    cases hb : aBin op (eqKind P op t) ((opd x).ev fr) ((opd y).ev fr) with
    | none => simp [hb] at ho
    | some v =>
      simp only [hb, Option.map_some, Option.some.injEq] at ho
      subst ho
      exact bin_good H rfl (opd_rel hf x) (opd_rel hf y) hb x y
  case unOp op t x =>
    split at hc
    · cases hc
      simp only [aOp] at ho
      split at ho
      · rename_i b hb
        cases ho
        have hx := opd_rel hf x
        rw [hb] at hx
        simp only [VRel] at hx
        exact good_pure H (x := .bool (!b)) (by simp [hx, Op.unary]) (by simp [VRel])
      · cases ho
    · cases hc
  case convert src dst x =>
    have hx := opd_rel hf x
    split at hc
    · rename_i k1 k hs hd
      cases hc
      simp only [aOp] at ho
      split at ho
      · rename_i k0 n hp
        cases ho
        rw [hp] at hx
        exact conv_good H hx hs hd
      · cases ho
    · rename_i e hs hd
      split at hc
      · rename_i he
        cases hc
        simp only [aOp] at ho
        split at ho
        · rename_i k l hcell
          split at ho
          · cases ho
          · rename_i hns
            cases hb : bytesOf l with
            | none => simp [hb] at ho
            | some s =>
              simp only [hb, Option.map_some, Option.some.injEq] at ho
              subst ho
              exact b2s_good H hx hs he hd hcell hb hns
        · cases ho
      · cases hc
    · rename_i k1 hs hd
      cases hc
      simp only [aOp] at ho
      split at ho
      · rename_i k0 n hp
        cases ho
        rw [hp] at hx
        exact i2s_good H hx hs hd
      · cases ho
    · cases hc
  case makeFunc fn first captured =>
    cases hc
    simp only [aOp, Option.some.injEq] at ho
    subst ho
    refine good_pure H (x := .func fn (first.map a.eval) (captured.map a.eval)) (by simp [Instr.makeFunc]) ?_
    simp only [VRel]
    refine ⟨_, _, rfl, ?_, ?_⟩
    · simpa using opds_rel hf first.toList
    · simpa using opds_rel hf captured.toList
  case makeSlice t l c =>
    split at hc
    · rename_i e he
      split at hc
      · rename_i i z hi hz
        split at hc
        · rename_i hzl
          cases hc
          simp only [aOp] at ho
          split at ho
          · rename_i lv cv hl hcv
            split at ho
            · rename_i hcond
              cases ho
              have hxl := opd_rel hf l
              have hxc := opd_rel hf c
              rw [hl] at hxl
              rw [hcv] at hxc
              exact mkslice_good H he hi hz hzl hxl hxc hcond.1 hcond.2.1 hcond.2.2.1 hcond.2.2.2.1
            · cases ho
          · cases ho
        · cases hc
      · cases hc
    · cases hc
  case slice t x lo hi mx =>
    have hx := opd_rel hf x
    split at hc
    · rename_i hu
      split at hc
      · rename_i hmx
        cases hc
        obtain rfl : mx = none := by cases mx <;> simp at hmx ⊢
        simp only [aOp] at ho
        split at ho
        · rename_i s hp
          rw [hp] at hx
          split at ho
          · rename_i m hm
            split at ho
            · rename_i k hk
              cases ho
              exact substr_good H hf hu hx hm hk
            · cases ho
          · cases ho
        · cases ho
      · cases hc
    · rename_i e hu
      split at hc
      · rename_i es hes
        split at hc
        · cases hc
        · rename_i hmh
          cases hc
          obtain ⟨inf, hinf, hsz⟩ := sizeA_some hes
          simp only [aOp] at ho
          split at ho
          · rename_i i q n es' hp
            rw [hp] at hx
            split at ho
            · rename_i m hm
              split at ho
              · rename_i b hb
                split at ho
                · rename_i k hk
                  split at ho
                  · rename_i hee
                    cases ho
                    subst hee
                    rw [← hsz] at hx ⊢
                    exact subslice_good H hf hu hinf hx hmh hm hb hk
                  · cases ho
                · cases ho
              · cases ho
            · cases ho
          · rename_i hp
            rw [hp] at hx
            split at ho
            · rename_i m b k hm hb hk
              cases ho
              exact subnil_good H hf hu hinf hx hmh hm hb hk
            · cases ho
          · cases ho
      · cases hc
    · cases hc
  case fieldAddr s x f =>
    split at hc
    · rename_i fs hu
      split at hc
      · rename_i fd hfd
        split at hc
        · rename_i k hk
          cases hc
          simp only [aOp] at ho
          split at ho
          · rename_i i q hp
            cases ho
            have hx := opd_rel hf x
            rw [hp] at hx
            exact fieldAddr_good H hu hfd hk hx
          · cases ho
        · cases hc
      · cases hc
    · cases hc
  case field s x f =>
    split at hc
    · rename_i fs hu
      split at hc
      · rename_i fd hfd
        split at hc
        · rename_i n hag hn
          cases hc
          simp only [aOp] at ho
          split at ho
          · rename_i cs hp
            have hx := opd_rel hf x
            rw [hp] at hx
            cases hs : sub? cs fd.offset n with
            | none => simp [hs] at ho
            | some l =>
              simp only [hs, Option.map_some, Option.some.injEq] at ho
              subst ho
              exact fieldN_good H hu hfd hag hn hx hs
          · cases ho
        · rename_i hag
          cases hc
          simp only [aOp] at ho
          split at ho
          · rename_i cs hp
            have hx := opd_rel hf x
            rw [hp] at hx
            cases hs : cs[fd.offset]? with
            | none => simp [hs] at ho
            | some v =>
              simp only [hs, Option.map_some, Option.some.injEq] at ho
              subst ho
              exact field1_good H hu hfd hag hx hs
          · cases ho
        · cases hc
      · cases hc
    · cases hc
  case indexAddr t x i =>
    split at hc
    · rename_i e he
      cases hn : sizeA P e with
      | none => simp [hn] at hc
      | some n =>
        simp [hn] at hc
        subst hc
        simp only [aOp] at ho
        split at ho
        · rename_i b q len es k j hp hq
          split at ho
          · rename_i hcond
            cases ho
            have hx := opd_rel hf x
            have hy := opd_rel hf i
            rw [hp] at hx
            rw [hq] at hy
            obtain ⟨h0, h1, rfl⟩ := hcond
            exact indexAddr_good H (elemA_some he) hn hx hy h0 h1
          · cases ho
        · cases ho
    · cases hc
  case index t x i =>
    split at hc
    · rename_i hu
      cases hc
      simp only [aOp] at ho
      split at ho
      · rename_i s k j hp hq
        have hx := opd_rel hf x
        have hy := opd_rel hf i
        rw [hp] at hx
        rw [hq] at hy
        split at ho
        · rename_i h0
          cases hb : s[j.toNat]? with
          | none => simp [hb] at ho
          | some b =>
            simp only [hb, Option.map_some, Option.some.injEq] at ho
            subst ho
            exact indexStr_good H hu hx hy h0 hb
        · cases ho
      · cases ho
    · cases hc
  case range t x =>
    split at hc
    · rename_i hu
      cases hc
      simp only [aOp] at ho
      split at ho
      · rename_i s hp
        cases ho
        have hx := opd_rel hf x
        rw [hp] at hx
        exact range_good H hu hx
      · cases ho
    · cases hc
  case next x b =>
    cases b
    · simp at hc
    · simp at hc
      subst hc
      skip
      simp only [aOp] at ho
      split at ho
      · rename_i i hp
        have hx := opd_rel hf x
        rw [hp] at hx
        split at ho
        · rename_i s q hi
          split at ho
          · rename_i hlt
            cases ho
            exact next_good H hx hi hlt
          · rename_i hlt
            cases ho
            exact over_good H hx hi hlt
        · cases ho
      · cases ho
  case extract x i =>
    cases hc
    simp only [aOp] at ho
    split at ho
    · rename_i vs hp
      have hx := opd_rel hf x
      rw [hp] at hx
      cases hs : vs[i]? with
      | none => simp [hs] at ho
      | some v =>
        simp only [hs, Option.map_some, Option.some.injEq] at ho
        subst ho
        exact extract_good H hx hs
    · cases ho
  case call c =>
    obtain ⟨callee, args, argTypes⟩ := c
    simp only [compCall] at hc
    split at hc
    · rename_i fo
      cases hc
      simp only [aOp] at ho
      split at ho
      · rename_i g fs cs hp
        cases ho
        have hx := opd_rel hf fo
        rw [hp] at hx
        simp only [VRel] at hx
        obtain ⟨xa, xb, hxe, h1, h2⟩ := hx
        refine ⟨xa ++ args.map a.eval ++ xb, ?_, ?_⟩
        · simp only [execOp, resolve, hxe, Deferred.ofValue, Sem.run_bind, Sem.run_pure, Result.andThen_ok, invoke]
          exact hcall g _ rfl _ _
        · have := (h1.append (opds_rel hf args.toList)).append h2
          simpa using this
      · rename_i i hp
        cases ho
        have hx := opd_rel hf fo
        rw [hp] at hx
        simp only [VRel] at hx
        obtain ⟨e, he, hxe⟩ := hx
        refine ⟨e, args.map a.eval, he, ?_, ?_⟩
        · simp [execOp, resolve, hxe, Deferred.ofValue, Sem.run_bind, Sem.run_pure, Result.andThen_ok, invoke]
        · have := opds_rel hf args.toList
          simpa using this
      · cases ho
    · split at hc
      · rename_i x t hargs htypes
        obtain rfl : args = #[x] := Array.toList_inj.1 (by simpa using hargs)
        obtain rfl : argTypes = #[t] := Array.toList_inj.1 (by simpa using htypes)
        have hx := opd_rel hf x
        split at hc
        · rename_i hu
          cases hc
          simp only [aOp] at ho
          split at ho
          · rename_i s hp
            cases ho
            rw [hp] at hx
            have := lenS_good (ty := type) H hu hx
            simpa [execOp, resolve, invoke, builtin] using this
          · cases ho
        · rename_i e hu
          cases hc
          simp only [aOp] at ho
          split at ho
          · rename_i i q n es hp
            cases ho
            rw [hp] at hx
            have := len_good (ty := type) H hu hx
            simpa [execOp, resolve, invoke, builtin] using this
          · rename_i hp
            cases ho
            rw [hp] at hx
            have := len0_good (ty := type) H hu hx
            simpa [execOp, resolve, invoke, builtin] using this
          · cases ho
        · cases hc
      · cases hc
    · split at hc
      · rename_i x y t u hargs htypes
        obtain rfl : args = #[x, y] := Array.toList_inj.1 (by simpa using hargs)
        obtain rfl : argTypes = #[t, u] := Array.toList_inj.1 (by simpa using htypes)
        have hx := opd_rel hf x
        have hy := opd_rel hf y
        split at hc
        · rename_i e d he hu
          have key : ∀ (i : TypeInfo), P.info? e = some i → (∀ k, d ≠ .int k) → (i.zero.any (fun z => z.cells.size == i.size) = true ∧ i.bytes ≠ 0) → ao = .append i.size i.bytes (opd x) (opd y) →
              OpGood P ι h w (execOp a.eval { dst := dst, op := .call { callee := .builtin .append, args := #[x, y], argTypes := #[t, u] }, type := type, pos := pos, after := after, guard := guard }) out := by
            intro i hi hd hz hao
            subst hao
            obtain ⟨hz1, hz2⟩ := hz
            obtain ⟨z, hz3, hz4⟩ : ∃ z, i.zero = some z ∧ z.cells.size = i.size := by
              cases hzz : i.zero with
              | none => simp [hzz] at hz1
              | some z => simp [hzz] at hz1; exact ⟨z, rfl, hz1⟩
            simp only [aOp] at ho
            split at ho
            · cases ho
            · rename_i n ys hys
              obtain ⟨g1, g2, g3⟩ := append_good (ty := type) H (elemA_some he) hu hd hi hz3 hz4 hz2 hx hy hys
              have fin : ∀ out', OpGood P ι h w (do pure (.value (← Builtin.append_ #[t, u] type #[a.eval x, a.eval y]))) out' → OpGood P ι h w (execOp a.eval { dst := dst, op := .call { callee := .builtin .append, args := #[x, y], argTypes := #[t, u] }, type := type, pos := pos, after := after, guard := guard }) out' := by
                intro out' hgood
                simpa [execOp, resolve, invoke, builtin] using hgood
              split at ho
              · rename_i hnil
                split at ho
                · rename_i hfit
                  have := g1 hnil hfit
                  split at ho
                  · rename_i hn; cases ho; rw [if_pos hn] at this; exact fin _ this
                  · rename_i hn; cases ho; rw [if_neg hn] at this; exact fin _ this
                · cases ho
              · rename_i i' q k es' hsl
                split at ho
                · rename_i hn; cases ho; exact fin _ (g2 _ _ _ _ hsl hn)
                · rename_i hn
                  split at ho
                  · rename_i vs hvs
                    split at ho
                    · rename_i xs hxs
                      split at ho
                      · rename_i hcond
                        cases ho
                        obtain ⟨rfl, hfit, _, hone⟩ := hcond
                        exact fin _ (g3 _ _ _ _ _ hsl hn hvs hxs hfit hone)
                      · cases ho
                    · cases ho
                  · cases ho
              · cases ho
          split at hc
          · rename_i i e' hi
            split at hc
            · rename_i hz
              cases hc
              exact key i hi (fun k => by simp) hz rfl
            · cases hc
          · rename_i i hi
            split at hc
            · rename_i hz
              cases hc
              exact key i hi (fun k => by simp) hz rfl
            · cases hc
          · cases hc
        · cases hc
      · cases hc
    · split at hc
      · rename_i x y hargs
        obtain rfl : args = #[x, y] := Array.toList_inj.1 (by simpa using hargs)
        cases hc
        simp only [aOp] at ho
        cases hm : aMin ((opd x).ev fr) ((opd y).ev fr) with
        | none => simp [hm] at ho
        | some v =>
          simp only [hm, Option.map_some, Option.some.injEq] at ho
          subst ho
          have := min_good (P := P) (ts := argTypes) (ty := type) H (opd_rel hf x) (opd_rel hf y) hm
          simpa [execOp, resolve, invoke, builtin] using this
      · cases hc
    · split at hc
      · rename_i x y hargs
        obtain rfl : args = #[x, y] := Array.toList_inj.1 (by simpa using hargs)
        cases hc
        simp only [aOp] at ho
        cases hm : aMax ((opd x).ev fr) ((opd y).ev fr) with
        | none => simp [hm] at ho
        | some v =>
          simp only [hm, Option.map_some, Option.some.injEq] at ho
          subst ho
          have := max_good (P := P) (ts := argTypes) (ty := type) H (opd_rel hf x) (opd_rel hf y) hm
          simpa [execOp, resolve, invoke, builtin] using this
      · cases hc
    · cases hc

end
end Go.Ax

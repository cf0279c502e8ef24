/-
The abstract machine's code is the model's: operations in sequence, regions, renaming, loops, calls.
The abstract machine's code is the model's (2): regions that draw their order; renaming.
The abstract machine's code is the model's (3): renaming, code, calls.
-/
import Derived.Test.YtidlbhppbopjjaaAxC
import Derived.LoopN
namespace Go.Ax
set_option linter.unusedVariables false
set_option linter.unusedSimpArgs false

section
variable {P : Program}

mutual
theorem det_unique {ι : Emb} : ∀ (v : AV), v.det = true → ∀ x y, VRel ι v x → VRel ι v y → x = y
  | .bool b, _, x, y, hx, hy => by simp only [VRel] at hx hy; rw [hx, hy]
  | .int k n, _, x, y, hx, hy => by simp only [VRel] at hx hy; rw [hx, hy]
  | .str l, _, x, y, hx, hy => by simp only [VRel] at hx hy; rw [hx, hy]
  | .nilptr, _, x, y, hx, hy => by simp only [VRel] at hx hy; rw [hx, hy]
  | .nilFunc, _, x, y, hx, hy => by simp only [VRel] at hx hy; rw [hx, hy]
  | .nilslice, _, x, y, hx, hy => by simp only [VRel] at hx hy; rw [hx, hy]
  | .ptr i o, _, x, y, hx, hy => by
    simp only [VRel] at hx hy
    obtain ⟨e, he, rfl⟩ := hx
    obtain ⟨e', he', rfl⟩ := hy
    rw [he] at he'; cases he'; rfl
  | .func fn a b, h, x, y, hx, hy => by
    simp only [AV.det, Bool.and_eq_true] at h
    simp only [VRel] at hx hy
    obtain ⟨xa, xb, rfl, h1, h2⟩ := hx
    obtain ⟨ya, yb, rfl, h3, h4⟩ := hy
    rw [Array.toList_inj.1 (dets_unique a h.1 _ _ h1 h3), Array.toList_inj.1 (dets_unique b h.2 _ _ h2 h4)]
  | .agg l, h, x, y, hx, hy => by
    simp only [VRel] at hx hy
    obtain ⟨c, rfl, h1⟩ := hx
    obtain ⟨d, rfl, h2⟩ := hy
    rw [Array.toList_inj.1 (dets_unique l (by simpa [AV.det] using h) _ _ h1 h2)]
  | .tuple l, h, x, y, hx, hy => by
    simp only [VRel] at hx hy
    obtain ⟨c, rfl, h1⟩ := hx
    obtain ⟨d, rfl, h2⟩ := hy
    rw [Array.toList_inj.1 (dets_unique l (by simpa [AV.det] using h) _ _ h1 h2)]
  | .junk, h, _, _, _, _ => by simp [AV.det] at h
  | .slice _ _ _ _, h, _, _, _, _ => by simp [AV.det] at h
theorem dets_unique {ι : Emb} : ∀ (l : List AV), AV.dets l = true → ∀ x y, VRels ι l x → VRels ι l y → x = y
  | [], _, x, y, hx, hy => by rw [hx.nil_inv, hy.nil_inv]
  | v :: l, h, x, y, hx, hy => by
    simp only [AV.dets, Bool.and_eq_true] at h
    obtain ⟨a, as, rfl, h1, hs1⟩ := hx.cons_inv
    obtain ⟨b, bs, rfl, h2, hs2⟩ := hy.cons_inv
    rw [det_unique v h.1 _ _ h1 h2, dets_unique l h.2 _ _ hs1 hs2]
end

/-- A call is sound: what the model's function hands back stands to what the abstract one does. -/
def SoundCall (P : Program) (f : FuncId) (args : List AV) (h : AHeap) (v : AV) (h' : AHeap) : Prop :=
  Callable P f ∧ ∀ (ι : Emb) (xs : Array Value) (w : World), VRels ι args xs.toList → HRel ι h w →
    Calls P f xs w fun e w' => ∃ ι' x, e = .returned x ∧ VRel ι' v x ∧ After ι h w h' ι' w'

def CallOk (P : Program) (call : ACall) : Prop := ∀ f args h v h', call f args h = some (v, h') → SoundCall P f args h v h'

/-! ### The frame -/

theorem put_rel {ι : Emb} {fr : List AV} {a : Act} (hf : VRels ι fr a.tmps.toList) (dst : Option Nat) {v : AV} {x : Value} (hv : VRel ι v x) : VRels ι (put fr dst v) (a.put dst x).tmps.toList := by
  cases dst with
  | none => exact hf
  | some d => simpa [put, Act.put] using hf.set d hv

theorem kill_rel {ι : Emb} : ∀ (l : List Nat) {fr : List AV} {xs : List Value}, VRels ι fr xs → VRels ι (killA l fr) xs
  | [], fr, xs, h => h
  | d :: l, fr, xs, h => by
    simp only [killA]
    refine kill_rel l ?_
    rcases Nat.lt_or_ge d xs.length with hd | hd
    · have := h.set d (v := .junk) (x := xs[d]) (by simp [VRel])
      rwa [List.set_getElem_self] at this
    · have hl := h.length
      rw [List.set_eq_of_length_le (by omega)]
      exact h
theorem putD_rel {ι : Emb} {fr : List AV} {a : Act} (hf : VRels ι fr a.tmps.toList) (i : AI) {v : AV} {x : Value} (hv : VRel ι v x) : VRels ι (putD fr i v) (a.put i.dst x).tmps.toList :=
  kill_rel i.dead (put_rel hf i.dst hv)

theorem put_defers {a : Act} {dst : Option Nat} {x : Value} (h : a.defers = []) : (a.put dst x).defers = [] := by
  cases dst <;> simpa [Act.put] using h

theorem wanted_rel {ι : Emb} {fr : List AV} {a : Act} (hf : VRels ι fr a.tmps.toList) {ops : Array Oper} {o : Oper} {i : AI} (hc : compI P ops o = some i) {b : Bool} (hw : wantedA fr i.guard = some b) :
    Region.wanted o (yielded ops a.tmps) = b ∧ i.dst = o.dst ∧ compOp P o = some i.op := by
  unfold compI at hc
  split at hc
  · cases hc
  · rename_i op hop
    split at hc
    · rename_i hg
      cases hc
      simp only [wantedA, Option.some.injEq] at hw
      subst hw
      exact ⟨by simp [Region.wanted, hg], rfl, hop⟩
    · rename_i j want hg
      split at hc
      · rename_i d hd
        cases hc
        refine ⟨?_, rfl, hop⟩
        simp only [wantedA] at hw
        simp only [Region.wanted, hg, yielded, hd, Option.bind_some]
        have hgt : ∀ v, fr.getD d .junk = v → v ≠ .junk → ∃ x, a.tmps[d]? = some x ∧ VRel ι v x := by
          intro v hv hne
          rw [List.getD_eq_getElem?_getD] at hv
          cases hfd : fr[d]? with
          | none => rw [hfd] at hv; exact absurd hv.symm hne
          | some u =>
            rw [hfd] at hv
            simp at hv
            subst hv
            obtain ⟨x, hx, hr⟩ := hf.get d u hfd
            exact ⟨x, by simpa using hx, hr⟩
        split at hw
        · rename_i t ht
          cases hw
          obtain ⟨x, hx, hr⟩ := hgt _ ht (by simp)
          simp only [VRel] at hr
          subst hr
          rw [hx]
          rfl
        · rename_i ht
          cases hw
          obtain ⟨x, hx, hr⟩ := hgt _ ht (by simp)
          simp only [VRel] at hr
          obtain ⟨c, rfl, hc⟩ := hr
          rw [hx]
          rfl
        · cases hw
      · cases hc

/-! ### Operations in sequence -/

def Comp (P : Program) (ops : Array Oper) : List Nat → List AI → Prop
  | [], [] => True
  | i :: l, ai :: is => (∃ o, ops[i]? = some o ∧ ∃ d, compI P ops o = some { ai with dead := d }) ∧ Comp P ops l is
  | _, _ => False

theorem comp_of {ops : Array Oper} : ∀ (l : List Oper) (k : Nat) (is : List AI), (∀ j, l[j]? = ops[k + j]?) → compIs P ops l = some is → ∀ ds, Comp P ops (List.range' k l.length) (withDead ds is)
  | [], k, is, _, h, ds => by simp only [compIs] at h; cases h; cases ds <;> simp [Comp, withDead]
  | o :: l, k, is, hl, h, ds => by
    simp only [compIs] at h
    split at h
    · rename_i i r hi hr
      cases h
      have ih := comp_of l (k + 1) r (fun j => by have := hl (j + 1); simpa [Nat.add_assoc, Nat.add_comm 1 j] using this) hr
      have ho : ops[k]? = some o := by have := hl 0; simpa using this.symm
      cases ds with
      | nil =>
        have i0 := ih []
        have e0 : ∀ l : List AI, withDead [] l = l := fun l => by cases l <;> rfl
        rw [e0] at i0 ⊢
        simp only [List.length_cons, List.range'_succ, Comp]
        exact ⟨⟨o, ho, i.dead, hi⟩, i0⟩
      | cons d ds =>
        simp only [List.length_cons, List.range'_succ, Comp, withDead]
        exact ⟨⟨o, ho, i.dead, hi⟩, ih ds⟩
    · cases h

theorem ops_sound {call : ACall} (hcall : CallOk P call) (ops : Array Oper) {Q : Exit → Act → World → Prop} : ∀ (l : List Nat) (is : List AI), Comp P ops l is → ∀ (fr fr' : List AV) (h h' : AHeap) (ι : Emb) (a : Act) (w : World),
    VRels ι fr a.tmps.toList → HRel ι h w → a.defers = [] → aOps call is fr h = some (fr', h') →
    (∀ ι' a' w', After ι h w h' ι' w' → VRels ι' fr' a'.tmps.toList → a'.defers = [] → Q .normal a' w') → wpOps P ops Q l a w
  | [], [], _, fr, fr', h, h', ι, a, w, hf, H, hd, hr, hq => by
    simp only [aOps, Option.some.injEq, Prod.mk.injEq] at hr
    obtain ⟨rfl, rfl⟩ := hr
    exact hq ι a w (.refl H) hf hd
  | [], _ :: _, hc, _, _, _, _, _, _, _, _, _, _, _, _ => by simp [Comp] at hc
  | _ :: _, [], hc, _, _, _, _, _, _, _, _, _, _, _, _ => by simp [Comp] at hc
  | i :: l, ai :: is, hc, fr, fr', h, h', ι, a, w, hf, H, hd, hr, hq => by
    obtain ⟨⟨o, ho, dd, hci⟩, hcl⟩ := hc
    simp only [wpOps, ho]
    simp only [aOps] at hr
    have next : ∀ (ι1 : Emb) (h1 : AHeap) (w1 : World) (v : AV) (x : Value), After ι h w h1 ι1 w1 → VRel ι1 v x → aOps call is (putD fr ai v) h1 = some (fr', h') → ai.dst = o.dst → wpOps P ops Q l (a.put o.dst x) w1 := by
      intro ι1 h1 w1 v x hA hv hr' hdst
      have hm : ∀ (i : Nat) (e : Nat × Nat × Nat), ι[i]? = some e → ι1[i]? = some e := hA.agree.mono (by rw [H.len]; exact Nat.le_refl _)
      have hf1 := putD_rel (hf.mono hm) ai hv
      rw [hdst] at hf1
      exact ops_sound hcall ops l is hcl _ fr' h1 h' ι1 _ w1 hf1 hA.rel (put_defers hd) hr' (fun ι2 a2 w2 hA2 => hq ι2 a2 w2 (hA.trans hA2))
    split at hr
    · cases hr
    · rename_i hw
      obtain ⟨hwa, hdst, hop⟩ := wanted_rel (P := P) hf hci hw
      simp only [hwa, Bool.false_eq_true, if_false]
      exact next ι h w .undef undef (.refl H) (by simp only [VRel]; exact ⟨#[], rfl, .nil⟩) hr hdst
    · rename_i hw
      obtain ⟨hwa, hdst, hop⟩ := wanted_rel (P := P) hf hci hw
      simp only [hwa, if_true]
      refine .inl ?_
      unfold Oper.wp
      split at hr
      · cases hr
      · rename_i v h1 hao
        obtain ⟨x, ι1, w1, hrun, hv, hA, _⟩ := op_good H hf hop hao (fun f args he => by cases he)
        rw [hrun]
        exact next ι1 h1 w1 v x hA hv hr hdst
      · rename_i h1 hao
        obtain ⟨ι1, w1, hrun, hA⟩ := op_good H hf hop hao (fun f args he => by cases he)
        rw [hrun]
        exact next ι1 h1 w1 .undef undef hA (by simp only [VRel]; exact ⟨#[], rfl, .nil⟩) hr hdst
      · rename_i f args hao
        split at hr
        · rename_i v h1 hcv
          obtain ⟨hcb, hs⟩ := hcall f args h v h1 hcv
          obtain ⟨xs, hrun, hxs⟩ := op_good H hf hop hao (fun f' args' he => by cases he; exact hcb)
          rw [hrun]
          refine (hs ι xs w hxs H).mono ?_
          rintro e w1 ⟨ι1, x, rfl, hv, hA⟩
          exact next ι1 h1 w1 v x hA hv hr hdst
        · cases hr

end
end Go.Ax

namespace Go.Ax
set_option linter.unusedVariables false
set_option linter.unusedSimpArgs false

section
variable {P : Program}

/-! ### Regions that draw their order -/

theorem toRo_rel {ι : Emb} {h : AHeap} {w : World} (H : HRel ι h w) : HRel ι (h.map AObj.toRo) w := by
  refine ⟨by simp [H.len], fun i o e hi he => ?_, fun i j o o' e e' hi hj he he' hx hl hne => ?_⟩
  · rw [List.getElem?_map] at hi
    cases hh : h[i]? with
    | none => rw [hh] at hi; cases hi
    | some q =>
      rw [hh] at hi
      simp at hi
      subst hi
      have := H.obj i q e hh he
      cases q with
      | dead => trivial
      | cells vs => obtain ⟨c, t, h1, h2⟩ := this; exact ⟨c, t, _, h1, h2⟩
      | ro vs => exact this
      | iter l p => trivial
  · rw [List.getElem?_map] at hi
    cases hh : h[i]? with
    | none => rw [hh] at hi; cases hi
    | some q =>
      rw [hh] at hi
      simp at hi
      subst hi
      cases q <;> simp [AObj.toRo, AObj.excl] at hx

theorem toRo_own {ι : Emb} {h : AHeap} (b : Nat) : ¬ Own (h.map AObj.toRo) ι b := by
  rintro ⟨i, o, e, hi, hx, _⟩
  rw [List.getElem?_map] at hi
  cases hh : h[i]? with
  | none => rw [hh] at hi; cases hi
  | some q =>
    rw [hh] at hi
    simp at hi
    subst hi
    cases q <;> simp [AObj.toRo, AObj.excl] at hx

theorem callR_sound {call : ACall} (hcall : CallOk P call) {f : FuncId} {args : List AV} {h : AHeap} {v : AV} (hc : callR call f args h = some v) :
    Callable P f ∧ ∀ (ι : Emb) (xs : Array Value) (w : World), VRels ι args xs.toList → HRel ι h w →
      ∃ x, VRel ι v x ∧ ∀ w1, Go.RowKit.Below w.heap.size w w1 → Calls P f xs w1 fun e w2 => e = .returned x ∧ Go.RowKit.Below w.heap.size w w2 := by
  unfold callR at hc
  split at hc
  · rename_i v' h' hcv
    split at hc
    · rename_i hsc
      cases hc
      obtain ⟨hcb, hs⟩ := hcall f args _ v h' hcv
      refine ⟨hcb, fun ι xs w hxs H => ?_⟩
      have H0 := toRo_rel H
      obtain ⟨e, w', fr, ⟨ι', x, rfl, hv, hA⟩, _⟩ := hs ι xs w hxs H0 []
      have hx : VRel ι v x := scalar_any v hsc x hv
      refine ⟨x, hx, fun w1 hb => (hs ι xs w1 hxs (H0.world hb.block)).mono ?_⟩
      rintro e w2 ⟨ι2, y, rfl, hv2, hA2⟩
      refine ⟨by rw [scalar_unique v hsc y x hv2 hx], hb.trans ((hA2.step.to_below (fun b => toRo_own b)).mono hb.size)⟩
    · cases hc
  · cases hc

/-- The value of an operation that is taken from a slot or from memory: the same in every world that has the same blocks. -/
theorem free_run {ι : Emb} {h : AHeap} {w : World} (H : HRel ι h w) {fr : List AV} {a : Act} (hf : VRels ι fr a.tmps.toList) {o : Oper} {ao : AOp} (hc : compOp P o = some ao) (hfree : ao.free = true) {v : AV} {h1 : AHeap}
    (ho : aOp fr h ao = some (.val v h1)) : ∃ x, VRel ι v x ∧ ∀ w1, Go.RowKit.Below w.heap.size w w1 → (execOp a.eval o).run P w1 = .ok (.value x) w1 := by
  obtain ⟨dst, op, type, pos, after, guard⟩ := o
  cases op <;> simp only [compOp, reduceCtorEq] at hc
  case move x =>
    cases hc
    simp only [aOp, Option.some.injEq, AOut.val.injEq] at ho
    obtain ⟨rfl, rfl⟩ := ho
    exact ⟨_, opd_rel hf x, fun w1 _ => by simp only [execOp]; rfl⟩
  case assign x =>
    cases hc
    simp only [aOp, Option.some.injEq, AOut.val.injEq] at ho
    obtain ⟨rfl, rfl⟩ := ho
    exact ⟨_, opd_rel hf x, fun w1 _ => by simp only [execOp]; rfl⟩
  case pick c x y =>
    cases hc
    simp only [aOp] at ho
    split at ho
    · rename_i b hb
      simp only [Option.some.injEq, AOut.val.injEq] at ho
      obtain ⟨rfl, rfl⟩ := ho
      have hcr := opd_rel hf c
      rw [hb] at hcr
      simp only [VRel] at hcr
      refine ⟨if b then a.eval x else a.eval y, ?_, fun w1 _ => by simp only [execOp]; simp [hcr, asBool]⟩
      cases b
      · exact opd_rel hf y
      · exact opd_rel hf x
    · cases ho
  case nilCheck x =>
    cases hc
    simp only [aOp] at ho
    split at ho
    · rename_i i q hp
      simp only [Option.some.injEq, AOut.val.injEq] at ho
      obtain ⟨rfl, rfl⟩ := ho
      have hx := opd_rel hf x
      rw [hp] at hx
      obtain ⟨e, he, hxe⟩ := ptr_inv hx rfl
      exact ⟨a.eval x, hx, fun w1 _ => by simp only [execOp]; simp [hxe]⟩
    · cases ho
  case extract x i =>
    cases hc
    simp only [aOp] at ho
    split at ho
    · rename_i vs hp
      have hx := opd_rel hf x
      rw [hp] at hx
      simp only [VRel] at hx
      obtain ⟨c, hxe, hcr⟩ := hx
      cases hs : vs[i]? with
      | none => simp [hs] at ho
      | some u =>
        simp only [hs, Option.map_some, Option.some.injEq, AOut.val.injEq] at ho
        obtain ⟨rfl, rfl⟩ := ho
        obtain ⟨y, hy, hr⟩ := hcr.get _ u hs
        rw [Array.getElem?_toList] at hy
        exact ⟨y, hr, fun w1 _ => by simp only [execOp]; simp [hxe, Instr.extract, hy]⟩
    · cases ho
  case load t x =>
    split at hc
    · rename_i n hag hn
      cases hc
      simp only [aOp] at ho
      split at ho
      · rename_i i q hp
        have hx := opd_rel hf x
        rw [hp] at hx
        split at ho
        · rename_i vs hr
          cases hs : sub? vs q n with
          | none => simp [hs] at ho
          | some l =>
            simp only [hs, Option.map_some, Option.some.injEq, AOut.val.injEq] at ho
            obtain ⟨rfl, rfl⟩ := ho
            obtain ⟨e, he, hxe⟩ := ptr_inv hx rfl
            obtain ⟨inf, hi, rfl⟩ := sizeA_some hn
            obtain ⟨cs, hlen, hrel, hcell⟩ := H.cellsAt hr he hs
            refine ⟨.agg cs.toArray, by simp only [VRel]; exact ⟨_, rfl, by simpa using hrel⟩, fun w1 hb => ?_⟩
            have hblk : e.1 < w.heap.size := by
              obtain ⟨c, t, fz, h1, _⟩ := H.rowRel hr he
              exact (Array.getElem?_eq_some_iff.1 h1).1
            have := run_loadCells_list (P := P) w1 _ cs (fun j v hj => by
              rw [add_at]
              rw [hb.cell hblk]
              have := hcell j v hj
              rwa [add_at] at this)
            rw [hlen] at this
            simp [execOp, hxe, Instr.loadAt, Instr.sureAddr, loadVar, aggA_some hag, run_sizeOf' hi, this]
        · cases ho
      · cases ho
    · rename_i hag
      cases hc
      simp only [aOp] at ho
      split at ho
      · rename_i i q hp
        have hx := opd_rel hf x
        rw [hp] at hx
        split at ho
        · rename_i vs hr
          cases hs : vs[q]? with
          | none => simp [hs] at ho
          | some u =>
            simp only [hs, Option.map_some, Option.some.injEq, AOut.val.injEq] at ho
            obtain ⟨rfl, rfl⟩ := ho
            obtain ⟨e, he, hxe⟩ := ptr_inv hx rfl
            obtain ⟨y, hy, hrel⟩ := H.cell hr he hs
            have hblk : e.1 < w.heap.size := by
              obtain ⟨c, t, fz, h1, _⟩ := H.rowRel hr he
              exact (Array.getElem?_eq_some_iff.1 h1).1
            refine ⟨y, hrel, fun w1 hb => ?_⟩
            have hy1 : w1.cell? ⟨e.1, e.2.1 + q, none⟩ = some y := by rw [hb.cell hblk]; exact hy
            simp [execOp, hxe, Instr.loadAt, Instr.sureAddr, loadVar, aggA_some hag, hy1]
        · cases ho
      · cases ho
    · cases hc
  all_goals
    exfalso
    revert hc
    intro hc
    first
      | (cases hc; simp [AOp.free] at hfree; done)
      | (repeat' split at hc) <;> first
          | (cases hc; done)
          | (cases hc; simp [AOp.free] at hfree; done)
          | (rename_i hx; simp only [Option.map_eq_some_iff] at hc; obtain ⟨_, _, rfl⟩ := hc; simp [AOp.free] at hfree; done)
          | (simp only [Option.map_eq_some_iff] at hc; obtain ⟨_, _, rfl⟩ := hc; simp [AOp.free] at hfree; done)
          | (simp only [compCall] at hc; (repeat' split at hc) <;> first | (cases hc; done) | (cases hc; simp [AOp.free] at hfree; done))

theorem still_val {fr : List AV} {h h1 : AHeap} {ao : AOp} {v : AV} (hs : ao.still = true) (ho : aOp fr h ao = some (.val v h1)) : h1 = h := by
  cases ao <;> simp only [AOp.still, reduceCtorEq] at hs <;> simp only [aOp] at ho <;>
    first
      | (simp only [Option.some.injEq, AOut.val.injEq] at ho; exact ho.2.symm)
      | (simp only [Option.map_eq_some_iff, AOut.val.injEq] at ho; obtain ⟨_, _, _, rfl⟩ := ho; rfl)
      | ((repeat' split at ho) <;> first
          | (cases ho; done)
          | (cases ho; rfl)
          | (simp only [Option.map_eq_some_iff, AOut.val.injEq] at ho; obtain ⟨_, _, _, rfl⟩ := ho; rfl))

theorem still_skip {fr : List AV} {h h1 : AHeap} {ao : AOp} (hs : ao.still = true) (ho : aOp fr h ao = some (.skip h1)) : False := by
  cases ao <;> simp only [AOp.still, reduceCtorEq] at hs <;> simp only [aOp] at ho <;>
    first
      | (cases ho; done)
      | (simp only [Option.map_eq_some_iff, reduceCtorEq, and_false, exists_false] at ho; done)
      | ((repeat' split at ho) <;> first
          | (cases ho; done)
          | (simp only [Option.map_eq_some_iff, reduceCtorEq, and_false, exists_false] at ho; done))

/-- Operations compiled, whatever is told to be dead behind them. -/
def CompL (P : Program) (ops : Array Oper) : List Oper → List AI → Prop
  | [], [] => True
  | o :: l, ai :: is => (∃ d, compI P ops o = some { ai with dead := d }) ∧ CompL P ops l is
  | _, _ => False
theorem compL_of {ops : Array Oper} : ∀ (l : List Oper) (is : List AI), compIs P ops l = some is → ∀ ds, CompL P ops l (withDead ds is)
  | [], is, h, ds => by simp only [compIs] at h; cases h; cases ds <;> simp [CompL, withDead]
  | o :: l, is, h, ds => by
    simp only [compIs] at h
    split at h
    · rename_i i r hi hr
      cases h
      have ih := compL_of l r hr
      cases ds with
      | nil =>
        have i0 := ih []
        have e0 : ∀ l : List AI, withDead [] l = l := fun l => by cases l <;> rfl
        rw [e0] at i0 ⊢
        exact ⟨⟨i.dead, hi⟩, i0⟩
      | cons d ds => exact ⟨⟨i.dead, hi⟩, ih ds⟩
    · cases h

theorem quiet_sound {call : ACall} (hcall : CallOk P call) (ops : Array Oper) {h : AHeap} {ι : Emb} {w : World} (H : HRel ι h w) {Q : Act → Prop} : ∀ (l : List Oper) (is : List AI), CompL P ops l is → ∀ (fr fr' : List AV) (a : Act),
    VRels ι fr a.tmps.toList → a.defers = [] → aQuiet call is fr h = some fr' → (∀ a', VRels ι fr' a'.tmps.toList → a'.defers = [] → Q a') →
    wpQuiet P ops (fun w1 => Go.RowKit.Below w.heap.size w w1) Q l a
  | [], is, hc, fr, fr', a, hf, hd, hr, hq => by
    cases is with
    | cons _ _ => exact hc.elim
    | nil =>
      simp only [aQuiet, Option.some.injEq] at hr
      subst hr
      exact wpQuiet_nil (hq a hf hd)
  | o :: l, is, hc, fr, fr', a, hf, hd, hr, hq => by
    cases is with
    | nil => exact hc.elim
    | cons ai r =>
      obtain ⟨⟨dd, hci⟩, hcr⟩ := hc
      have next : ∀ (v : AV) (x : Value), VRel ι v x → aQuiet call r (putD fr ai v) h = some fr' → ai.dst = o.dst → wpQuiet P ops (fun w1 => Go.RowKit.Below w.heap.size w w1) Q l (a.put o.dst x) := by
        intro v x hv hr' hdst
        have hf1 := putD_rel hf ai hv
        rw [hdst] at hf1
        exact quiet_sound hcall ops H l r hcr _ fr' _ hf1 (put_defers hd) hr' hq
      simp only [aQuiet] at hr
      split at hr
      · cases hr
      · rename_i hw
        obtain ⟨hwa, hdst, hop⟩ := wanted_rel (P := P) hf hci hw
        refine wpQuiet_step fun K hK => ?_
        rw [if_neg (by rw [hwa]; simp)]
        exact hK _ (next .undef undef (by simp only [VRel]; exact ⟨#[], rfl, .nil⟩) hr hdst)
      · rename_i hw
        obtain ⟨hwa, hdst, hop⟩ := wanted_rel (P := P) hf hci hw
        refine wpQuiet_step fun K hK => ?_
        rw [if_pos hwa]
        split at hr
        · cases hr
        · rename_i hst
          have hst' : ai.op.still = true := by simpa using hst
          split at hr
          · rename_i v h1 hao
            have := still_val hst' hao
            subst this
            split at hr
            · rename_i hdf
              simp only [Bool.or_eq_true] at hdf
              rcases hdf with hdet | hfree
              · obtain ⟨x, ι0, w0, hrun0, hv0, hA0, he0⟩ := op_good H hf hop hao (fun f args he => by cases he)
                obtain ⟨rfl, rfl⟩ := he0 rfl
                refine ⟨x, fun w1 hb => ?_, hK _ (next v x hv0 hr hdst)⟩
                obtain ⟨y, ι2, w2, hrun2, hv2, hA2, he2⟩ := op_good (H.world hb.block) hf hop hao (fun f args he => by cases he)
                obtain ⟨rfl, rfl⟩ := he2 rfl
                unfold Oper.quietAt
                rw [hrun2]
                exact ⟨rfl, det_unique v hdet y x hv2 hv0⟩
              · obtain ⟨x, hv, hrun⟩ := free_run H hf hop hfree hao
                exact ⟨x, fun w1 hb => by unfold Oper.quietAt; rw [hrun w1 hb]; exact ⟨rfl, rfl⟩, hK _ (next v x hv hr hdst)⟩
            · cases hr
          · rename_i f args hao
            split at hr
            · rename_i v hcv
              obtain ⟨hcb, hs⟩ := callR_sound hcall hcv
              obtain ⟨xs, hrun, hxs⟩ := op_good H hf hop hao (fun f' args' he => by cases he; exact hcb)
              obtain ⟨x, hv, hcalls⟩ := hs ι xs w hxs H
              refine ⟨x, fun w1 hb => ?_, hK _ (next v x hv hr hdst)⟩
              obtain ⟨ys, hrun1, hys⟩ := op_good (H.world hb.block) hf hop hao (fun f' args' he => by cases he; exact hcb)
              obtain ⟨y, hvy, hcallsy⟩ := hs ι ys w hys H
              unfold Oper.quietAt
              rw [hrun1]
              obtain ⟨v0, hv0, hsc⟩ : ∃ v0, v0 = v ∧ v0.scalar = true := ⟨v, rfl, by
                unfold callR at hcv
                split at hcv
                · split at hcv
                  · rename_i hsc; cases hcv; exact hsc
                  · cases hcv
                · cases hcv⟩
              subst hv0
              rw [scalar_unique v0 hsc x y hv hvy]
              exact ⟨rfl, hcallsy w1 hb⟩
            · cases hr
          · cases hr

end
end Go.Ax

namespace Go.Ax
set_option linter.unusedVariables false
set_option linter.unusedSimpArgs false

section
variable {P : Program}

/-! ### Renaming -/

theorem idx_some : ∀ (l : List Nat) (i k j : Nat), idx i l k = some j → ∃ p, j = k + p ∧ l[p]? = some i
  | [], i, k, j, h => by simp [idx] at h
  | a :: l, i, k, j, h => by
    simp only [idx] at h
    split at h
    · rename_i he; cases h; subst he; exact ⟨0, by simp, by simp⟩
    · obtain ⟨p, rfl, hp⟩ := idx_some l i (k + 1) j h
      exact ⟨p + 1, by omega, by simpa using hp⟩

theorem keepOk_mem {n0 n : Nat} : ∀ {l : List Nat}, keepOk n0 n l = true → ∀ i ∈ l, n0 ≤ i ∧ i < n
  | [], _, i, h => by simp at h
  | a :: l, hk, i, h => by
    simp only [keepOk, Bool.and_eq_true, decide_eq_true_eq] at hk
    rcases List.mem_cons.1 h with rfl | h
    · exact ⟨hk.1.1.1, hk.1.1.2⟩
    · exact keepOk_mem hk.2 i h

theorem keepOk_inj {n0 n : Nat} : ∀ {l : List Nat}, keepOk n0 n l = true → ∀ (p q i : Nat), l[p]? = some i → l[q]? = some i → p = q
  | [], _, p, q, i, h, _ => by simp at h
  | a :: l, hk, p, q, i, hp, hq => by
    simp only [keepOk, Bool.and_eq_true, Bool.not_eq_true', decide_eq_true_eq] at hk
    have hn : ∀ k, l[k]? = some a → False := fun k hk' => by
      have := List.mem_of_getElem? hk'
      have hc := hk.1.2
      rw [List.contains_eq_mem] at hc
      simp [this] at hc
    cases p with
    | zero =>
      cases q with
      | zero => rfl
      | succ q => simp at hp hq; subst hp; exact (hn q hq).elim
    | succ p =>
      cases q with
      | zero => simp at hp hq; subst hq; exact (hn p hp).elim
      | succ q =>
        simp at hp hq
        rw [keepOk_inj hk.2 p q i hp hq]

theorem rens_length (ρ : Nat → Option Nat) : ∀ (l : List AV), (AV.rens ρ l).length = l.length
  | [] => by simp [AV.rens]
  | v :: l => by simp [AV.rens, rens_length ρ l]

theorem rens_get (ρ : Nat → Option Nat) : ∀ (l : List AV) (j : Nat), (AV.rens ρ l)[j]? = (l[j]?).map (AV.ren ρ)
  | [], j => by simp [AV.rens]
  | v :: l, 0 => by simp [AV.rens]
  | v :: l, j + 1 => by simp [AV.rens, rens_get ρ l j]

theorem RowRel.ren {ι ι' : Emb} {ρ : Nat → Option Nat} (hρ : ∀ i j : Nat, ρ i = some j → ∀ e : Nat × Nat × Nat, ι[i]? = some e → ι'[j]? = some e) {e : Nat × Nat × Nat} {vs : List AV} {c : Array Value} (h : RowRel ι e vs c) : RowRel ι' e (AV.rens ρ vs) c :=
  ⟨h.1, by rw [rens_length]; exact h.2.1, fun j v hv => by
    rw [rens_get] at hv
    cases hu : vs[j]? with
    | none => rw [hu] at hv; cases hv
    | some u =>
      rw [hu] at hv
      simp at hv
      subst hv
      obtain ⟨x, hx, hr⟩ := h.2.2 j u hu
      exact ⟨x, hx, VRel.ren hρ u x hr⟩⟩

theorem ORel.ren {ι ι' : Emb} {ρ : Nat → Option Nat} (hρ : ∀ i j : Nat, ρ i = some j → ∀ e : Nat × Nat × Nat, ι[i]? = some e → ι'[j]? = some e) {w : World} {e : Nat × Nat × Nat} {o : AObj} (h : ORel ι w e o) : ORel ι' w e (o.ren ρ) := by
  cases o with
  | dead => trivial
  | cells vs => obtain ⟨c, t, h1, h2⟩ := h; exact ⟨c, t, h1, h2.ren hρ⟩
  | ro vs => obtain ⟨c, t, fz, h1, h2⟩ := h; exact ⟨c, t, fz, h1, h2.ren hρ⟩
  | iter l p => exact h

theorem ren_excl (ρ : Nat → Option Nat) (o : AObj) : (o.ren ρ).excl = o.excl := by cases o <;> rfl
theorem ren_live (ρ : Nat → Option Nat) (o : AObj) : (o.ren ρ).live = o.live := by cases o <;> rfl

/-- What code comes to: from block n0 on, blocks may have been named anew. -/
structure AfterN (n0 : Nat) (ι : Emb) (h : AHeap) (w : World) (h' : AHeap) (ι' : Emb) (w' : World) : Prop where
  rel : HRel ι' h' w'
  step : Step h ι w h' ι' w'
  agree : Agree n0 ι ι'
  le : n0 ≤ h'.length

theorem AfterN.refl {n0 : Nat} {ι : Emb} {h : AHeap} {w : World} (H : HRel ι h w) (hn : n0 ≤ h.length) : AfterN n0 ι h w h ι w := ⟨H, .refl .., Agree.refl _ _, hn⟩
theorem AfterN.trans {n0 : Nat} {ι ι' ι'' : Emb} {h h' h'' : AHeap} {w w' w'' : World} (a : AfterN n0 ι h w h' ι' w') (b : AfterN n0 ι' h' w' h'' ι'' w'') : AfterN n0 ι h w h'' ι'' w'' :=
  ⟨b.rel, a.step.trans b.step, a.agree.trans b.agree, b.le⟩
theorem After.toN {n0 : Nat} {ι ι' : Emb} {h h' : AHeap} {w w' : World} (a : After ι h w h' ι' w') (hn : n0 ≤ h.length) : AfterN n0 ι h w h' ι' w' :=
  ⟨a.rel, a.step, a.agree.less hn, Nat.le_trans hn a.le⟩

theorem renorm_sound {n0 : Nat} {ι : Emb} {h h' : AHeap} {w : World} (H : HRel ι h w) (hn : n0 ≤ h.length) {fr fr' : List AV} {xs : List Value} (hf : VRels ι fr xs) (hr : renorm n0 fr h = some (fr', h')) :
    ∃ ι', VRels ι' fr' xs ∧ AfterN n0 ι h w h' ι' w := by
  unfold renorm at hr
  split at hr
  · cases hr
    exact ⟨ι, hf, .refl H hn⟩
  · rename_i hlt
    simp only [] at hr
    generalize reach n0 h 100 (AV.idss fr ++ roots n0 h) [] = keep at hr
    split at hr
    · rename_i hk
      simp only [Option.some.injEq, Prod.mk.injEq] at hr
      obtain ⟨rfl, rfl⟩ := hr
      let ι' : Emb := ι.take n0 ++ keep.map fun i => ι.getD i default
      have hlen : ι.length = h.length := H.len
      have htl : (ι.take n0).length = n0 := by simp; omega
      have htl' : (h.take n0).length = n0 := by simp; omega
      have hkm := keepOk_mem hk
      have hg1 : ∀ (i : Nat), i < n0 → ι'[i]? = ι[i]? := fun i hi => by
        show (ι.take n0 ++ _)[i]? = _
        rw [List.getElem?_append_left (by omega), List.getElem?_take, if_pos hi]
      have hg2 : ∀ (p i : Nat), keep[p]? = some i → ι'[n0 + p]? = ι[i]? := fun p i hp => by
        show (ι.take n0 ++ _)[n0 + p]? = _
        rw [List.getElem?_append_right (by omega), htl, Nat.add_sub_cancel_left, List.getElem?_map, hp]
        have hb := hkm i (List.mem_of_getElem? hp)
        have hil : i < ι.length := by omega
        simp [List.getD_eq_getElem?_getD, hil]
      have hρ : ∀ i j : Nat, rho n0 keep i = some j → ∀ e : Nat × Nat × Nat, ι[i]? = some e → ι'[j]? = some e := by
        intro i j hij e he
        unfold rho at hij
        split at hij
        · rename_i hi
          cases hij
          rw [hg1 i hi]; exact he
        · obtain ⟨p, rfl, hp⟩ := idx_some keep i n0 j hij
          rw [hg2 p i hp]; exact he
      -- where a new block comes from
      have from_ : ∀ (j : Nat) (o : AObj) (e : Nat × Nat × Nat), ((h.take n0).map (AObj.ren (rho n0 keep)) ++ keep.map fun i => (h.getD i .dead).ren (rho n0 keep))[j]? = some o → ι'[j]? = some e →
          ∃ i o', h[i]? = some o' ∧ ι[i]? = some e ∧ o = o'.ren (rho n0 keep) ∧ ((j < n0 ∧ i = j) ∨ (∃ p, j = n0 + p ∧ keep[p]? = some i)) := by
        intro j o e hj he
        by_cases hjn : j < n0
        · rw [List.getElem?_append_left (by simp; omega), List.getElem?_map, List.getElem?_take, if_pos hjn] at hj
          rw [hg1 j hjn] at he
          cases hh : h[j]? with
          | none => rw [hh] at hj; cases hj
          | some q => rw [hh] at hj; simp at hj; exact ⟨j, q, hh, he, hj.symm, .inl ⟨hjn, rfl⟩⟩
        · obtain ⟨p, rfl⟩ : ∃ p, j = n0 + p := ⟨j - n0, by omega⟩
          rw [List.getElem?_append_right (by simp; omega), List.length_map, htl', Nat.add_sub_cancel_left, List.getElem?_map] at hj
          cases hp : keep[p]? with
          | none => rw [hp] at hj; cases hj
          | some i =>
            rw [hp] at hj
            simp only [Option.map_some, Option.some.injEq] at hj
            rw [hg2 p i hp] at he
            have hb := hkm i (List.mem_of_getElem? hp)
            have hil : i < h.length := hb.2
            refine ⟨i, h[i], List.getElem?_eq_getElem hil, he, ?_, .inr ⟨p, rfl, hp⟩⟩
            rw [← hj]
            simp [List.getD_eq_getElem?_getD, hil]
      refine ⟨ι', VRels.ren hρ fr xs hf, ⟨⟨?_, ?_, ?_⟩, ⟨rfl, rfl, rfl, Nat.le_refl _, fun _ _ _ => rfl, ?_⟩, fun i hi => hg1 i hi, by simp; omega⟩⟩
      · show (ι.take n0 ++ _).length = _
        simp; omega
      · intro j o e hj he
        obtain ⟨i, o', hi, hie, rfl, _⟩ := from_ j o e hj he
        exact (H.obj i o' e hi hie).ren hρ
      · intro j k o o' e e' hj hk' he he' hx hl hne
        obtain ⟨i, q, hi, hie, rfl, hfrom⟩ := from_ j o e hj he
        obtain ⟨i', q', hi', hie', rfl, hfrom'⟩ := from_ k o' e' hk' he'
        rw [ren_excl] at hx
        rw [ren_live] at hl
        refine H.sep i i' q q' e e' hi hi' hie hie' hx hl fun hii => ?_
        subst hii
        rcases hfrom with ⟨h1, rfl⟩ | ⟨p, rfl, hp⟩ <;> rcases hfrom' with ⟨h2, h3⟩ | ⟨p', rfl, hp'⟩
        · exact hne h3
        · have := hkm _ (List.mem_of_getElem? hp'); omega
        · have := hkm _ (List.mem_of_getElem? hp); omega
        · exact hne (by rw [keepOk_inj hk p p' i hp hp'])
      · intro b hb
        obtain ⟨j, o, e, hj, hx, he, rfl⟩ := hb
        obtain ⟨i, o', hi, hie, rfl, _⟩ := from_ j o e hj he
        rw [ren_excl] at hx
        exact .inl ⟨i, o', e, hi, hx, hie, rfl⟩
    · cases hr

theorem mask_rel {ι : Emb} : ∀ (m : List Bool) {fr : List AV} {xs : List Value}, VRels ι fr xs → VRels ι (mask m fr) xs
  | [], [], xs, h => by simpa [mask] using h
  | _ :: _, [], xs, h => by simpa [mask] using h
  | [], v :: fr, xs, h => by
    obtain ⟨y, ys, rfl, h1, h2⟩ := h.cons_inv
    simp only [mask]
    exact .cons (by simp [VRel]) (mask_rel [] h2)
  | b :: m, v :: fr, xs, h => by
    obtain ⟨y, ys, rfl, h1, h2⟩ := h.cons_inv
    simp only [mask]
    refine .cons ?_ (mask_rel m h2)
    cases b
    · simp [VRel]
    · exact h1

/-! ### Code -/

def AExit.toExit : AExit → Exit
  | .normal => .normal
  | .exit id => .exit id
  | .ret => .ret

/-- A piece of code, compiled, is sound. -/
def CodeOk (P : Program) (n0 : Nat) (c : Code) (run : List AV → AHeap → Option (AExit × List AV × AHeap)) : Prop :=
  ∀ (fr fr' : List AV) (h h' : AHeap) (ex : AExit) (ι : Emb) (a : Act) (w : World) (Q : Exit → Act → World → Prop), n0 ≤ h.length → a.defers = [] → VRels ι fr a.tmps.toList → HRel ι h w → run fr h = some (ex, fr', h') →
    (∀ ι' a' w', AfterN n0 ι h w h' ι' w' → VRels ι' fr' a'.tmps.toList → a'.defers = [] → Q ex.toExit a' w') → c.wp P Q a w

theorem loop_ok {n0 : Nat} {c : Code} {live : List Bool} {step : List AV → AHeap → Option (AExit × List AV × AHeap)} (hc : CodeOk P n0 c step) : ∀ (n : Nat) (fr fr' : List AV) (h h' : AHeap) (ex : AExit) (ι : Emb) (a : Act) (w : World) (Q : Exit → Act → World → Prop), n0 ≤ h.length → a.defers = [] → VRels ι fr a.tmps.toList → HRel ι h w →
    aLoop n0 live step n fr h = some (ex, fr', h') → (∀ ι' a' w', AfterN n0 ι h w h' ι' w' → VRels ι' fr' a'.tmps.toList → a'.defers = [] → Q ex.toExit a' w') → Code.rounds P c Q n a w
  | 0, fr, fr', h, h', ex, ι, a, w, Q, hn, hd, hf, H, hr, hq => by simp [aLoop] at hr
  | n + 1, fr, fr', h, h', ex, ι, a, w, Q, hn, hd, hf, H, hr, hq => by
    simp only [aLoop] at hr
    rw [rounds_succ]
    split at hr
    · cases hr
    · rename_i fr1 h1 hre
      obtain ⟨ι1, hf1, hA1⟩ := renorm_sound H hn (mask_rel live hf) hre
      split at hr
      · rename_i fr2 h2 hst
        refine hc fr1 fr2 h1 h2 .normal ι1 a w _ hA1.le hd hf1 hA1.rel hst fun ι2 a2 w2 hA2 hf2 hd2 => ?_
        exact loop_ok hc n fr2 fr' h2 h' ex ι2 a2 w2 Q hA2.le hd2 hf2 hA2.rel hr fun ι3 a3 w3 hA3 => hq ι3 a3 w3 ((hA1.trans hA2).trans hA3)
      · rename_i hne
        cases ex with
        | normal => exact (hne fr' h' hr).elim
        | exit id => exact hc fr1 fr' h1 h' (.exit id) ι1 a w _ hA1.le hd hf1 hA1.rel hr fun ι2 a2 w2 hA2 hf2 hd2 => hq ι2 a2 w2 (hA1.trans hA2) hf2 hd2
        | ret => exact hc fr1 fr' h1 h' .ret ι1 a w _ hA1.le hd hf1 hA1.rel hr fun ι2 a2 w2 hA2 hf2 hd2 => hq ι2 a2 w2 (hA1.trans hA2) hf2 hd2

theorem code_ok (hm : P.follows .mixedOrders = true) {call : ACall} (hcall : CallOk P call) (rounds n0 : Nat) : ∀ (c : Code) (s : List Adv), CodeOk P n0 c (aCode call rounds n0 (compC P c s).1)
  | .skip, s => by
    intro fr fr' h h' ex ι a w Q hn hd hf H hr hq
    simp only [compC, aCode, Option.some.injEq, Prod.mk.injEq] at hr
    obtain ⟨rfl, rfl, rfl⟩ := hr
    exact wp_skip (hq ι a w (.refl H hn) hf hd)
  | .region id ops draw, s => by
    intro fr fr' h h' ex ι a w Q hn hd hf H hr hq
    simp only [compC] at hr
    split at hr
    · simp [aCode] at hr
    · rename_i l hl
      cases draw with
      | false =>
        simp only [Bool.false_eq_true, if_false, aCode] at hr
        split at hr
        · rename_i fr1 h1 ho
          simp only [Option.some.injEq, Prod.mk.injEq] at hr
          obtain ⟨rfl, rfl, rfl⟩ := hr
          have hcomp := comp_of (P := P) (ops := ops) ops.toList 0 l (fun j => by simp) hl (s.headD default).dead
          rw [← List.range_eq_range'] at hcomp
          exact wp_region (ops_sound hcall ops (List.range ops.size) _ (by simpa using hcomp) fr _ h _ ι a w hf H hd ho fun ι' a' w' hA => hq ι' a' w' (hA.toN hn))
        · cases hr
      | true =>
        simp only [if_true] at hr
        split at hr
        · rename_i hB
          simp only [aCode] at hr
          split at hr
          · rename_i fr1 ho
            simp only [Option.some.injEq, Prod.mk.injEq] at hr
            obtain ⟨rfl, rfl, rfl⟩ := hr
            refine wp_region_quiet (C := fun w1 => Go.RowKit.Below w.heap.size w w1) hm hB ⟨rfl, rfl, rfl, Nat.le_refl _, fun _ _ => rfl⟩ ?_
            refine quiet_sound hcall ops H ops.toList _ (compL_of _ _ hl _) fr _ a hf hd ho fun a' hf' hd' w' hb => ?_
            exact hq ι a' w' ⟨H.world hb.block, Step.below hb, Agree.refl _ _, hn⟩ hf' hd'
          · cases hr
        · simp [aCode] at hr
  | .seq x y, s => by
    intro fr fr' h h' ex ι a w Q hn hd hf H hr hq
    simp only [compC, aCode] at hr
    refine wp_seq ?_
    split at hr
    · rename_i fr1 h1 hx
      refine code_ok hm hcall rounds n0 x s fr fr1 h h1 .normal ι a w _ hn hd hf H hx fun ι1 a1 w1 hA1 hf1 hd1 => ?_
      exact code_ok hm hcall rounds n0 y _ fr1 fr' h1 h' ex ι1 a1 w1 Q hA1.le hd1 hf1 hA1.rel hr fun ι2 a2 w2 hA2 => hq ι2 a2 w2 (hA1.trans hA2)
    · rename_i hne
      cases ex with
      | normal => exact (hne fr' h' hr).elim
      | exit id => exact code_ok hm hcall rounds n0 x s fr fr' h h' (.exit id) ι a w _ hn hd hf H hr hq
      | ret => exact code_ok hm hcall rounds n0 x s fr fr' h h' .ret ι a w _ hn hd hf H hr hq
  | .cond c x y, s => by
    intro fr fr' h h' ex ι a w Q hn hd hf H hr hq
    simp only [compC, aCode] at hr
    split at hr
    · rename_i t ht
      have hcr := opd_rel hf c
      rw [ht] at hcr
      simp only [VRel] at hcr
      refine wp_cond hcr ?_
      cases t with
      | true => exact code_ok hm hcall rounds n0 x s fr fr' h h' ex ι a w Q hn hd hf H hr hq
      | false => exact code_ok hm hcall rounds n0 y _ fr fr' h h' ex ι a w Q hn hd hf H hr hq
    · cases hr
  | .block id x, s => by
    intro fr fr' h h' ex ι a w Q hn hd hf H hr hq
    simp only [compC, aCode] at hr
    refine wp_block ?_
    split at hr
    · rename_i i fr1 h1 hx
      refine code_ok hm hcall rounds n0 x s fr fr1 h h1 (.exit i) ι a w _ hn hd hf H hx fun ι1 a1 w1 hA1 hf1 hd1 => ?_
      show if i = id then Q .normal a1 w1 else Q (.exit i) a1 w1
      split at hr
      · rename_i hi
        simp only [Option.some.injEq, Prod.mk.injEq] at hr
        obtain ⟨rfl, rfl, rfl⟩ := hr
        rw [if_pos hi]
        exact hq ι1 a1 w1 hA1 hf1 hd1
      · rename_i hi
        simp only [Option.some.injEq, Prod.mk.injEq] at hr
        obtain ⟨rfl, rfl, rfl⟩ := hr
        rw [if_neg hi]
        exact hq ι1 a1 w1 hA1 hf1 hd1
    · rename_i hne
      cases ex with
      | normal => exact code_ok hm hcall rounds n0 x s fr fr' h h' .normal ι a w _ hn hd hf H hr hq
      | exit i => exact (hne i fr' h' hr).elim
      | ret => exact code_ok hm hcall rounds n0 x s fr fr' h h' .ret ι a w _ hn hd hf H hr hq
  | .loop x, s => by
    intro fr fr' h h' ex ι a w Q hn hd hf H hr hq
    simp only [compC, aCode] at hr
    split at hr
    · rename_i e1 fr1 h1 hl
      simp only [Option.some.injEq, Prod.mk.injEq] at hr
      obtain ⟨rfl, rfl, rfl⟩ := hr
      exact wp_loop_rounds rounds (loop_ok (code_ok hm hcall rounds n0 x _) rounds fr fr1 h h1 e1 ι a w Q hn hd hf H hl fun ι' a' w' hA hf' hd' => hq ι' a' w' hA (mask_rel _ hf') hd')
    · cases hr
  | .exit id, s => by
    intro fr fr' h h' ex ι a w Q hn hd hf H hr hq
    simp only [compC, aCode, Option.some.injEq, Prod.mk.injEq] at hr
    obtain ⟨rfl, rfl, rfl⟩ := hr
    exact wp_exit (hq ι a w (.refl H hn) hf hd)
  | .ret, s => by
    intro fr fr' h h' ex ι a w Q hn hd hf H hr hq
    simp only [compC, aCode, Option.some.injEq, Prod.mk.injEq] at hr
    obtain ⟨rfl, rfl, rfl⟩ := hr
    exact wp_ret (hq ι a w (.refl H hn) hf hd)
  | .rangeFunc _ _ _ _, s => by intro fr fr' h h' ex ι a w Q hn hd hf H hr hq; simp [compC, aCode] at hr
  | .scope _, s => by intro fr fr' h h' ex ι a w Q hn hd hf H hr hq; simp [compC, aCode] at hr
  | .label _, s => by intro fr fr' h h' ex ι a w Q hn hd hf H hr hq; simp [compC, aCode] at hr
  | .goto _, s => by intro fr fr' h h' ex ι a w Q hn hd hf H hr hq; simp [compC, aCode] at hr
  | .refuse _, s => by intro fr fr' h h' ex ι a w Q hn hd hf H hr hq; simp [compC, aCode] at hr

/-! ### Calls -/

def resGet (tmps : Array Value) : ResultVar → Sem Value
  | .tmp t => pure (tmps.getD t undef)
  | .cell a t => do loadVar t (← asAddr (tmps.getD a undef))

theorem res_ok {ι : Emb} {h : AHeap} {w : World} (H : HRel ι h w) {fr : List AV} {tmps : Array Value} (hf : VRels ι fr tmps.toList) : ∀ (l : List ResultVar) (rs : List ARes) (vs : List AV), compRes P l = some rs → resAll fr h rs = some vs →
    ∃ xs : List Value, (l.mapM (resGet tmps)).run P w = .ok xs w ∧ VRels ι vs xs
  | [], rs, vs, hc, hr => by
    simp only [compRes] at hc
    cases hc
    simp only [resAll] at hr
    cases hr
    exact ⟨[], by simp, .nil⟩
  | .tmp t :: l, rs, vs, hc, hr => by
    simp only [compRes] at hc
    split at hc
    · rename_i r hl
      cases hc
      simp only [resAll, ARes.get] at hr
      split at hr
      · rename_i v us hv hus
        cases hr
        obtain ⟨xs, hx, hrel⟩ := res_ok H hf l r us hl hus
        refine ⟨tmps.getD t undef :: xs, by simp only [List.mapM_cons, Sem.run_bind, resGet, Sem.run_pure, Result.andThen_ok, hx], ?_⟩
        have := hf.getD t undef
        simp only [Option.some.injEq] at hv
        rw [hv] at this
        have he : tmps.toList.getD t undef = tmps.getD t undef := by simp [List.getD_eq_getElem?_getD]
        rw [he] at this
        exact .cons this hrel
      · cases hr
    · cases hc
  | .cell a t :: l, rs, vs, hc, hr => by
    simp only [compRes] at hc
    have hpt : ∀ i o, fr.getD a .junk = .ptr i o → ∃ e, ι[i]? = some e ∧ tmps.getD a undef = .pointer (some ⟨e.1, e.2.1 + o, none⟩) := by
      intro i o hp
      have := hf.getD a undef
      rw [hp] at this
      have he : tmps.toList.getD a undef = tmps.getD a undef := by simp [List.getD_eq_getElem?_getD]
      rw [he] at this
      simpa only [VRel] using this
    split at hc
    · rename_i n r hag hn hl
      cases hc
      simp only [resAll, ARes.get] at hr
      split at hr
      · rename_i v us hv hus
        cases hr
        obtain ⟨xs, hx, hrel⟩ := res_ok H hf l r us hl hus
        split at hv
        · rename_i i o hp
          split at hv
          · rename_i row hrow
            cases hs : sub? row o n with
            | none => simp [hs] at hv
            | some ls =>
              simp only [hs, Option.map_some, Option.some.injEq] at hv
              subst hv
              obtain ⟨e, he, hpe⟩ := hpt i o hp
              obtain ⟨inf, hi, rfl⟩ := sizeA_some hn
              obtain ⟨cs, hlen, hcr, hcell⟩ := H.cellsAt hrow he hs
              have hload := run_loadCells_list (P := P) w _ cs hcell
              rw [hlen] at hload
              refine ⟨.agg cs.toArray :: xs, ?_, .cons (by simp only [VRel]; exact ⟨_, rfl, by simpa using hcr⟩) hrel⟩
              simp only [List.mapM_cons, Sem.run_bind, resGet, hpe, asAddr, Sem.run_pure, Result.andThen_ok, loadVar, aggA_some hag, if_true, run_sizeOf' hi, hload, hx]
          · cases hv
        · cases hv
      · cases hr
    · rename_i r hag hl
      cases hc
      simp only [resAll, ARes.get] at hr
      split at hr
      · rename_i v us hv hus
        cases hr
        obtain ⟨xs, hx, hrel⟩ := res_ok H hf l r us hl hus
        split at hv
        · rename_i i o hp
          split at hv
          · rename_i row hrow
            obtain ⟨e, he, hpe⟩ := hpt i o hp
            obtain ⟨y, hy, hyr⟩ := H.cell hrow he hv
            refine ⟨y :: xs, ?_, .cons hyr hrel⟩
            simp only [List.mapM_cons, Sem.run_bind, resGet, hpe, asAddr, Sem.run_pure, Result.andThen_ok, loadVar, aggA_some hag, Bool.false_eq_true, if_false, run_load, hy, hx]
          · cases hv
        · cases hv
      · cases hr
    · cases hc

theorem tup_rel {ι : Emb} {vs : List AV} {xs : List Value} (h : VRels ι vs xs) : VRel ι (tup vs) (if h : xs.toArray.size = 1 then xs.toArray[0] else .tuple xs.toArray) := by
  match vs, xs, h with
  | [], xs, h => rw [h.nil_inv]; simp [tup, VRel, VRels]
  | [v], xs, h =>
    obtain ⟨y, ys, rfl, h1, h2⟩ := h.cons_inv
    rw [h2.nil_inv]
    simpa [tup] using h1
  | v :: u :: vs, xs, h =>
    have hl := h.length
    rw [dif_neg (by simp at hl ⊢; omega)]
    simp only [tup, VRel]
    exact ⟨_, rfl, by simpa using h⟩

/-- Which functions are compiled. -/
def FOk (P : Program) (F : FuncId → Option AFn) : Prop := ∀ f fa, F f = some fa → ∃ fn s, P.funcs[f]? = some fn ∧ compF P fn s = some fa

def TOk (P : Program) (T : FuncId → Option (List AV → AHeap → Option (AV × AHeap))) : Prop := ∀ f g, T f = some g → ∀ args h v h', g args h = some (v, h') → SoundCall P f args h v h'

theorem fn_ok (hm : P.follows .mixedOrders = true) {F : FuncId → Option AFn} (hF : FOk P F) {T : FuncId → Option (List AV → AHeap → Option (AV × AHeap))} (hT : TOk P T) (rounds : Nat) : ∀ n, CallOk P (aFn F T rounds n)
  | 0 => fun f args h v h' hr => by simp [aFn] at hr
  | n + 1 => fun f args h v h' hr => by
    simp only [aFn] at hr
    split at hr
    · rename_i g hg
      exact hT f g hg args h v h' hr
    · split at hr
      · cases hr
      · rename_i fa hfa
        obtain ⟨fn, s, hfn, hcf⟩ := hF f fa hfa
        unfold compF at hcf
        split at hcf
        · rename_i c r hbody hres
          split at hcf
          · cases hcf
          · rename_i hname
            cases hcf
            have hcb : Callable P f := fun xs w => by
              have hname' : ¬ fn.name = "runtime.NumGoroutine" := by simpa using hname
              simp [callFunc, hfn, hname', hbody]
            split at hr
            · cases hr
            · cases hr
            · rename_i ex fr h1 hne hrun
              split at hr
              · cases hr
              · rename_i vs hvs
                split at hr
                · cases hr
                · rename_i vs' h'' hre
                  simp only [Option.some.injEq, Prod.mk.injEq] at hr
                  obtain ⟨rfl, rfl⟩ := hr
                  refine ⟨hcb, fun ι xs w hxs H => ?_⟩
                  refine calls_of_wp hfn hbody ?_
                  have hfr : VRels ι (args ++ List.replicate (fn.ntmps - args.length) .undef) (xs ++ Array.replicate (fn.ntmps - xs.size) undef).toList := by
                    have hl := hxs.length
                    simp at hl
                    rw [Array.toList_append, Array.toList_replicate, ← hl]
                    exact hxs.append (VRels.replicate (by simp only [VRel]; exact ⟨#[], rfl, .nil⟩) _)
                  refine code_ok hm (fn_ok hm hF hT rounds n) rounds h.length c s _ fr h h1 ex ι _ w _ (Nat.le_refl _) rfl hfr H hrun fun ι1 a1 w1 hA1 hf1 hd1 => ?_
                  obtain ⟨ys, hys, hyr⟩ := res_ok (P := P) hA1.rel hf1 fn.results.toList r vs hres hvs
                  obtain ⟨ι2, hf2, hA2⟩ := renorm_sound hA1.rel hA1.le hyr hre
                  have hA := hA1.trans hA2
                  have hresrun : (results fn a1.tmps).run P w1 = .ok (if h : ys.toArray.size = 1 then ys.toArray[0] else .tuple ys.toArray) w1 := by
                    show (do let vs ← fn.results.mapM (resGet a1.tmps); pure (if h : vs.size = 1 then vs[0] else .tuple vs) : Sem Value).run P w1 = _
                    rw [Array.mapM_eq_mapM_toList]
                    simp only [Sem.run_bind, Sem.run_map, hys, Result.andThen_ok, Sem.run_pure]
                  have post : bodyPost P fn (fun e w' => ∃ ι' x, e = .returned x ∧ VRel ι' (tup vs') x ∧ After ι h w h'' ι' w') .ret a1 w1 :=
                    ⟨hd1, _, hresrun, ι2, _, rfl, tup_rel hf2, ⟨hA.rel, hA.step, hA.agree, hA.le⟩⟩
                  cases ex with
                  | normal => exact post
                  | ret => exact post
                  | exit id => exact (hne id rfl).elim
        · cases hcf

/-- What a law's row asks of its walk. -/
theorem walk_of (hm : P.follows .mixedOrders = true) {F : FuncId → Option AFn} (hF : FOk P F) {T : FuncId → Option (List AV → AHeap → Option (AV × AHeap))} (hT : TOk P T) {rounds n : Nat} {f : FuncId} {args : List AV} {h h' : AHeap}
    (hr : aFn F T rounds n f args h = some (.bool true, h')) {ι : Emb} {xs : Array Value} {w : World} (hxs : VRels ι args xs.toList) (H : HRel ι h w) (hown : ∀ b, ¬ Own h ι b) :
    Calls P f xs w fun e w' => e = .returned (.bool true) ∧ Go.RowKit.Below w.heap.size w w' :=
  ((fn_ok hm hF hT rounds n f args h _ h' hr).2 ι xs w hxs H).mono fun e w' ⟨ι', x, he, hv, hA⟩ => by
    simp only [VRel] at hv
    subst hv
    exact ⟨he, hA.step.to_below hown⟩

theorem tOk_none : TOk P (fun _ => none) := fun f g h => by cases h

end
end Go.Ax

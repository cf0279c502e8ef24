/-
The abstract machine's code is the model's: operations in sequence, regions, renaming, loops, calls.
The abstract machine's code is the model's (2): regions that draw their order; renaming.
Regions that draw their order and make blocks.
The abstract machine's code is the model's (3): renaming, code, calls.
-/
import Derived.Test.YtidlbhppbopjjaaAxC
import Derived.OrdersIn
import Derived.LoopNIn
namespace Go.Ax
set_option linter.unusedVariables false
set_option linter.unusedSimpArgs false

section
variable {P : Program}

mutual
theorem det_unique {ι : Emb} : ∀ (v : AV), v.det = true → ∀ x y, VRel ι v x → VRel ι v y → x = y
  | .bool b, _, x, y, hx, hy => by simp only [VRel] at hx hy; rw [hx, hy]
  | .int k n, _, x, y, hx, hy => by simp only [VRel] at hx hy; rw [hx, hy]
  | .str l, _, x, y, hx, hy => by simp only [VRel] at hx hy; rw [hx, hy]
  | .nilptr, _, x, y, hx, hy => by simp only [VRel] at hx hy; rw [hx, hy]
  | .nilFunc, _, x, y, hx, hy => by simp only [VRel] at hx hy; rw [hx, hy]
  | .nilslice, _, x, y, hx, hy => by simp only [VRel] at hx hy; rw [hx, hy]
  | .ptr i o, _, x, y, hx, hy => by
    simp only [VRel] at hx hy
    obtain ⟨e, he, rfl⟩ := hx
    obtain ⟨e', he', rfl⟩ := hy
    rw [he] at he'; cases he'; rfl
  | .yld i, _, x, y, hx, hy => by
    simp only [VRel] at hx hy
    obtain ⟨e, he, rfl⟩ := hx
    obtain ⟨e', he', rfl⟩ := hy
    rw [he] at he'; cases he'; rfl
  | .func fn a b, h, x, y, hx, hy => by
    simp only [AV.det, Bool.and_eq_true] at h
    simp only [VRel] at hx hy
    obtain ⟨xa, xb, rfl, h1, h2⟩ := hx
    obtain ⟨ya, yb, rfl, h3, h4⟩ := hy
    rw [Array.toList_inj.1 (dets_unique a h.1 _ _ h1 h3), Array.toList_inj.1 (dets_unique b h.2 _ _ h2 h4)]
  | .agg l, h, x, y, hx, hy => by
    simp only [VRel] at hx hy
    obtain ⟨c, rfl, h1⟩ := hx
    obtain ⟨d, rfl, h2⟩ := hy
    rw [Array.toList_inj.1 (dets_unique l (by simpa [AV.det] using h) _ _ h1 h2)]
  | .tuple l, h, x, y, hx, hy => by
    simp only [VRel] at hx hy
    obtain ⟨c, rfl, h1⟩ := hx
    obtain ⟨d, rfl, h2⟩ := hy
    rw [Array.toList_inj.1 (dets_unique l (by simpa [AV.det] using h) _ _ h1 h2)]
  | .junk, h, _, _, _, _ => by simp [AV.det] at h
  | .slice _ _ _ _, h, _, _, _, _ => by simp [AV.det] at h
theorem dets_unique {ι : Emb} : ∀ (l : List AV), AV.dets l = true → ∀ x y, VRels ι l x → VRels ι l y → x = y
  | [], _, x, y, hx, hy => by rw [hx.nil_inv, hy.nil_inv]
  | v :: l, h, x, y, hx, hy => by
    simp only [AV.dets, Bool.and_eq_true] at h
    obtain ⟨a, as, rfl, h1, hs1⟩ := hx.cons_inv
    obtain ⟨b, bs, rfl, h2, hs2⟩ := hy.cons_inv
    rw [det_unique v h.1 _ _ h1 h2, dets_unique l h.2 _ _ hs1 hs2]
end

/-- A call is sound: what the model's function hands back stands to what the abstract one does. -/
def SoundCall (P : Program) (f : FuncId) (args : List AV) (h : AHeap) (v : AV) (h' : AHeap) : Prop :=
  Callable P f ∧ ∀ (ι : Emb) (xs : Array Value) (w : World), VRels ι args xs.toList → HRel ι h w →
    Calls P f xs w fun e w' => ∃ ι' x, e = .returned x ∧ VRel ι' v x ∧ After ι h w h' ι' w'

/-- A later state: the first n blocks lie where they lay, no loop's record has turned but in how it stands. -/
def Later (n : Nat) (ι : Emb) (w : World) (ι' : Emb) (w' : World) : Prop :=
  (∀ i : Nat, i < n → ι'[i]? = ι[i]?) ∧ ∀ b r, loopAt w b = some r → loopAt w' b = some r

/-- The rounds of the loop that is block i, met in this state. -/
def HandGood (P : Program) (i : Nat) (hd : AHand) (ι : Emb) (w : World) : Prop :=
  ∀ (args : List AV) (xs : Array Value) (h : AHeap) (v : AV) (h' : AHeap), VRels ι args xs.toList → HRel ι h w → hd args h = some (v, h') →
    ∃ (e : Nat × Nat × Nat) (fn : FuncId) (tmps : Array Value) (assign body : Code), ι[i]? = some e ∧ (Instr.yield e.1 xs).run P w = .ok (.round e.1 fn tmps assign body) w ∧
      RoundIn Fence.wide 0 P e.1 fn tmps assign body w fun x w' => ∃ ι' y, x = .returned y ∧ VRel ι' v y ∧ After ι h w h' ι' w'

def YOk (P : Program) (Y : AYs) (n : Nat) (ι : Emb) (w : World) : Prop :=
  ∀ (ι' : Emb) (w' : World), Later n ι w ι' w' → ∀ i hd, Y i = some hd → HandGood P i hd ι' w'

/-- Sound, where these rounds are. -/
def SoundCallY (P : Program) (Y : AYs) (f : FuncId) (args : List AV) (h : AHeap) (v : AV) (h' : AHeap) : Prop :=
  Callable P f ∧ ∀ (ι : Emb) (xs : Array Value) (w : World), VRels ι args xs.toList → HRel ι h w → YOk P Y h.length ι w →
    Calls P f xs w fun e w' => ∃ ι' x, e = .returned x ∧ VRel ι' v x ∧ After ι h w h' ι' w'

def CallOk (P : Program) (call : ACall) : Prop := ∀ Y f args h v h', call Y f args h = some (v, h') → SoundCallY P Y f args h v h'

theorem Later.refl (n : Nat) (ι : Emb) (w : World) : Later n ι w ι w := ⟨fun _ _ => rfl, fun _ _ h => h⟩
theorem Later.trans {n : Nat} {ι ι1 ι2 : Emb} {w w1 w2 : World} (a : Later n ι w ι1 w1) (b : Later n ι1 w1 ι2 w2) : Later n ι w ι2 w2 :=
  ⟨fun i hi => (b.1 i hi).trans (a.1 i hi), fun k r h => b.2 k r (a.2 k r h)⟩
theorem Later.less {n m : Nat} {ι ι1 : Emb} {w w1 : World} (a : Later n ι w ι1 w1) (h : m ≤ n) : Later m ι w ι1 w1 := ⟨fun i hi => a.1 i (by omega), a.2⟩
theorem YOk.later {P : Program} {Y : AYs} {n : Nat} {ι ι1 : Emb} {w w1 : World} (h : YOk P Y n ι w) (l : Later n ι w ι1 w1) : YOk P Y n ι1 w1 := fun ι' w' l' => h ι' w' (l.trans l')
theorem YOk.more {P : Program} {Y : AYs} {n m : Nat} {ι : Emb} {w : World} (h : YOk P Y n ι w) (hn : n ≤ m) : YOk P Y m ι w := fun ι' w' l' => h ι' w' (l'.less hn)
theorem YOk.none {P : Program} {n : Nat} {ι : Emb} {w : World} : YOk P noY n ι w := fun _ _ _ i hd h => by cases h
theorem After.later {ι ι' : Emb} {h h' : AHeap} {w w' : World} (a : After ι h w h' ι' w') {n : Nat} (hn : n ≤ h.length) : Later n ι w ι' w' := ⟨fun i hi => a.agree i (by omega), a.step.loops⟩
theorem SoundCall.toY {P : Program} {Y : AYs} {f : FuncId} {args : List AV} {h : AHeap} {v : AV} {h' : AHeap} (s : SoundCall P f args h v h') : SoundCallY P Y f args h v h' := ⟨s.1, fun ι xs w h1 h2 _ => s.2 ι xs w h1 h2⟩
theorem SoundCallY.of {P : Program} {f : FuncId} {args : List AV} {h : AHeap} {v : AV} {h' : AHeap} (s : SoundCallY P noY f args h v h') : SoundCall P f args h v h' := ⟨s.1, fun ι xs w h1 h2 => s.2 ι xs w h1 h2 .none⟩

/-- Frames of whatever make: `r`: the loop of which it is a round. -/
abbrev fw (r : Option Nat) : Fence := { Fence.wide with round := r }

/-! ### The frame -/

theorem put_rel {ι : Emb} {fr : List AV} {a : Act} (hf : VRels ι fr a.tmps.toList) (dst : Option Nat) {v : AV} {x : Value} (hv : VRel ι v x) : VRels ι (put fr dst v) (a.put dst x).tmps.toList := by
  cases dst with
  | none => exact hf
  | some d => simpa [put, Act.put] using hf.set d hv

theorem kill_rel {ι : Emb} : ∀ (l : List Nat) {fr : List AV} {xs : List Value}, VRels ι fr xs → VRels ι (killA l fr) xs
  | [], fr, xs, h => h
  | d :: l, fr, xs, h => by
    simp only [killA]
    refine kill_rel l ?_
    rcases Nat.lt_or_ge d xs.length with hd | hd
    · have := h.set d (v := .junk) (x := xs[d]) (by simp [VRel])
      rwa [List.set_getElem_self] at this
    · have hl := h.length
      rw [List.set_eq_of_length_le (by omega)]
      exact h
theorem putD_rel {ι : Emb} {fr : List AV} {a : Act} (hf : VRels ι fr a.tmps.toList) (i : AI) {v : AV} {x : Value} (hv : VRel ι v x) : VRels ι (putD fr i v) (a.put i.dst x).tmps.toList :=
  kill_rel i.dead (put_rel hf i.dst hv)

theorem put_defers (a : Act) (dst : Option Nat) (x : Value) : (a.put dst x).defers = a.defers := by
  cases dst <;> simp [Act.put]

theorem wanted_rel {ι : Emb} {fr : List AV} {a : Act} (hf : VRels ι fr a.tmps.toList) {ops : Array Oper} {o : Oper} {i : AI} (hc : compI P ops o = some i) {b : Bool} (hw : wantedA fr i.guard = some b) :
    Region.wanted o (yielded ops a.tmps) = b ∧ i.dst = o.dst ∧ compOp P o = some i.op := by
  unfold compI at hc
  split at hc
  · cases hc
  · rename_i op hop
    split at hc
    · rename_i hg
      cases hc
      simp only [wantedA, Option.some.injEq] at hw
      subst hw
      exact ⟨by simp [Region.wanted, hg], rfl, hop⟩
    · rename_i j want hg
      split at hc
      · rename_i d hd
        cases hc
        refine ⟨?_, rfl, hop⟩
        simp only [wantedA] at hw
        simp only [Region.wanted, hg, yielded, hd, Option.bind_some]
        have hgt : ∀ v, fr.getD d .junk = v → v ≠ .junk → ∃ x, a.tmps[d]? = some x ∧ VRel ι v x := by
          intro v hv hne
          rw [List.getD_eq_getElem?_getD] at hv
          cases hfd : fr[d]? with
          | none => rw [hfd] at hv; exact absurd hv.symm hne
          | some u =>
            rw [hfd] at hv
            simp at hv
            subst hv
            obtain ⟨x, hx, hr⟩ := hf.get d u hfd
            exact ⟨x, by simpa using hx, hr⟩
        split at hw
        · rename_i t ht
          cases hw
          obtain ⟨x, hx, hr⟩ := hgt _ ht (by simp)
          simp only [VRel] at hr
          subst hr
          rw [hx]
          rfl
        · rename_i ht
          cases hw
          obtain ⟨x, hx, hr⟩ := hgt _ ht (by simp)
          simp only [VRel] at hr
          obtain ⟨c, rfl, hc⟩ := hr
          rw [hx]
          rfl
        · cases hw
      · cases hc

/-! ### Operations in sequence -/

def Comp (P : Program) (ops : Array Oper) : List Nat → List AI → Prop
  | [], [] => True
  | i :: l, ai :: is => (∃ o, ops[i]? = some o ∧ ∃ d, compI P ops o = some { ai with dead := d }) ∧ Comp P ops l is
  | _, _ => False

theorem comp_of {ops : Array Oper} : ∀ (l : List Oper) (k : Nat) (is : List AI), (∀ j, l[j]? = ops[k + j]?) → compIs P ops l = some is → ∀ ds, Comp P ops (List.range' k l.length) (withDead ds is)
  | [], k, is, _, h, ds => by simp only [compIs] at h; cases h; cases ds <;> simp [Comp, withDead]
  | o :: l, k, is, hl, h, ds => by
    simp only [compIs] at h
    split at h
    · rename_i i r hi hr
      cases h
      have ih := comp_of l (k + 1) r (fun j => by have := hl (j + 1); simpa [Nat.add_assoc, Nat.add_comm 1 j] using this) hr
      have ho : ops[k]? = some o := by have := hl 0; simpa using this.symm
      cases ds with
      | nil =>
        have i0 := ih []
        have e0 : ∀ l : List AI, withDead [] l = l := fun l => by cases l <;> rfl
        rw [e0] at i0 ⊢
        simp only [List.length_cons, List.range'_succ, Comp]
        exact ⟨⟨o, ho, i.dead, hi⟩, i0⟩
      | cons d ds =>
        simp only [List.length_cons, List.range'_succ, Comp, withDead]
        exact ⟨⟨o, ho, i.dead, hi⟩, ih ds⟩
    · cases h

theorem no_defer {o : Oper} {ao : AOp} (hc : compOp P o = some ao) : ∀ c, o.op ≠ .defer c := by
  intro c hd
  obtain ⟨dst, op, type, pos, after, guard⟩ := o
  simp only at hd
  subst hd
  simp [compOp] at hc

/-- One operation. -/
theorem step_sound {call : ACall} (hcall : CallOk P call) {Y : AYs} (ops : Array Oper) {o : Oper} {ai : AI} {dd : List Nat} (hci : compI P ops o = some { ai with dead := dd }) {fr fr' : List AV} {h h' : AHeap} {ι : Emb} {a : Act} {w : World} {n0 : Nat}
    (hf : VRels ι fr a.tmps.toList) (H : HRel ι h w) (hY : YOk P Y n0 ι w) (hn : n0 ≤ h.length) (hr : aStep call Y ai fr h = some (fr', h')) {K : Act → World → Prop} {Q : Exit → Act → World → Prop} {r : Option Nat}
    (hK : ∀ ι' a' w', After ι h w h' ι' w' → VRels ι' fr' a'.tmps.toList → a'.defers = a.defers → K a' w') :
    if Region.wanted o (yielded ops a.tmps) then o.wpIn (fw r) 0 P a w K Q else (∀ f, o.about P w a.eval = some f → (fw r).fn f) ∧ K (a.put o.dst undef) w := by
  have next : ∀ (ι1 : Emb) (h1 : AHeap) (w1 : World) (v : AV) (x : Value), After ι h w h1 ι1 w1 → VRel ι1 v x → fr' = putD fr ai v → h' = h1 → ai.dst = o.dst → K (a.put o.dst x) w1 := by
    intro ι1 h1 w1 v x hA hv hfr hh hdst
    subst hfr hh
    have hm : ∀ (i : Nat) (e : Nat × Nat × Nat), ι[i]? = some e → ι1[i]? = some e := hA.agree.mono (by rw [H.len]; exact Nat.le_refl _)
    have hf1 := putD_rel (hf.mono hm) ai hv
    rw [hdst] at hf1
    exact hK ι1 _ w1 hA hf1 (put_defers ..)
  unfold aStep at hr
  split at hr
  · cases hr
  · rename_i hw
    obtain ⟨hwa, hdst, hop⟩ := wanted_rel (P := P) hf hci hw
    simp only [Option.some.injEq, Prod.mk.injEq] at hr
    simp only [hwa, Bool.false_eq_true, if_false]
    exact ⟨fun _ _ => trivial, next ι h w .undef undef (.refl H) (by simp only [VRel]; exact ⟨#[], rfl, .nil⟩) hr.1.symm hr.2.symm hdst⟩
  · rename_i hw
    obtain ⟨hwa, hdst, hop⟩ := wanted_rel (P := P) hf hci hw
    simp only [hwa, if_true]
    refine ⟨fun _ _ => trivial, ?_⟩
    rw [Oper.semAt_eq _ _ _ (no_defer hop)]
    split at hr
    · cases hr
    · rename_i v h1 hao
      simp only [Option.some.injEq, Prod.mk.injEq] at hr
      obtain ⟨x, ι1, w1, hrun, hv, hA, _⟩ := op_good H hf hop hao (fun f args he => by cases he)
      rw [hrun]
      exact next ι1 h1 w1 v x hA hv hr.1.symm hr.2.symm hdst
    · rename_i h1 hao
      simp only [Option.some.injEq, Prod.mk.injEq] at hr
      obtain ⟨ι1, w1, hrun, hA⟩ := op_good H hf hop hao (fun f args he => by cases he)
      rw [hrun]
      exact next ι1 h1 w1 .undef undef hA (by simp only [VRel]; exact ⟨#[], rfl, .nil⟩) hr.1.symm hr.2.symm hdst
    · rename_i f args hao
      split at hr
      · rename_i v h1 hcv
        simp only [Option.some.injEq, Prod.mk.injEq] at hr
        obtain ⟨hcb, hs⟩ := hcall Y f args h v h1 hcv
        obtain ⟨xs, hrun, hxs⟩ := op_good H hf hop hao (fun f' args' he => by cases he; exact hcb)
        rw [hrun]
        have hc : CallsIn (fw r) (0 - 1) P f xs w _ := callsIn_wide.2 (hs ι xs w hxs H (hY.more hn))
        refine ⟨fun h => (by cases h), hc.mono ?_⟩
        rintro e w1 ⟨ι1, x, rfl, hv, hA⟩
        exact next ι1 h1 w1 v x hA hv hr.1.symm hr.2.symm hdst
      · cases hr
    · rename_i j args hao
      split at hr
      · rename_i g hg
        split at hr
        · rename_i v h1 hcv
          simp only [Option.some.injEq, Prod.mk.injEq] at hr
          obtain ⟨e0, xs, he0, hrun, hxs⟩ := op_good H hf hop hao (fun f' args' he => by cases he)
          obtain ⟨e, fn, tmps, assign, body, he, hy, hR⟩ := hY ι w (.refl _ _ _) j g hg args xs h v h1 hxs H hcv
          obtain rfl : e0 = e := by rw [he0] at he; exact Option.some.inj he
          rw [hrun, hy]
          have hR' : RoundIn (fw r) (0 - 1) P e0.1 fn tmps assign body w _ := hR
          refine ⟨fun h => (by cases h), hR'.mono ?_⟩
          rintro e w1 ⟨ι1, x, rfl, hv, hA⟩
          exact next ι1 h1 w1 v x hA hv hr.1.symm hr.2.symm hdst
        · cases hr
      · cases hr

theorem ops_sound {call : ACall} (hcall : CallOk P call) {Y : AYs} (ops : Array Oper) {Q : Exit → Act → World → Prop} {r : Option Nat} {n0 : Nat} : ∀ (l : List Nat) (is : List AI), Comp P ops l is → ∀ (fr fr' : List AV) (h h' : AHeap) (ι : Emb) (a : Act) (w : World),
    VRels ι fr a.tmps.toList → HRel ι h w → YOk P Y n0 ι w → n0 ≤ h.length → aOps call Y is fr h = some (fr', h') →
    (∀ ι' a' w', After ι h w h' ι' w' → VRels ι' fr' a'.tmps.toList → a'.defers = a.defers → Q .normal a' w') → wpOpsIn (fw r) 0 P ops Q l a w
  | [], [], _, fr, fr', h, h', ι, a, w, hf, H, hY, hn, hr, hq => by
    simp only [aOps, Option.some.injEq, Prod.mk.injEq] at hr
    obtain ⟨rfl, rfl⟩ := hr
    exact hq ι a w (.refl H) hf rfl
  | [], _ :: _, hc, _, _, _, _, _, _, _, _, _, _, _, _, _ => by simp [Comp] at hc
  | _ :: _, [], hc, _, _, _, _, _, _, _, _, _, _, _, _, _ => by simp [Comp] at hc
  | i :: l, ai :: is, hc, fr, fr', h, h', ι, a, w, hf, H, hY, hn, hr, hq => by
    obtain ⟨⟨o, ho, dd, hci⟩, hcl⟩ := hc
    simp only [wpOpsIn, ho]
    simp only [aOps] at hr
    split at hr
    · cases hr
    · rename_i fr1 h1 hst
      exact step_sound hcall ops hci hf H hY hn hst fun ι1 a1 w1 hA hf1 hd1 =>
        ops_sound hcall ops l is hcl fr1 fr' h1 h' ι1 a1 w1 hf1 hA.rel (hY.later (hA.later hn)) (Nat.le_trans hn hA.le) hr fun ι2 a2 w2 hA2 hf2 hd2 => hq ι2 a2 w2 (hA.trans hA2) hf2 (hd2.trans hd1)

end
end Go.Ax

namespace Go.Ax
set_option linter.unusedVariables false
set_option linter.unusedSimpArgs false

section
variable {P : Program}

/-! ### Regions that draw their order -/

theorem toRo_rel {ι : Emb} {h : AHeap} {w : World} (H : HRel ι h w) : HRel ι (h.map AObj.toRo) w := by
  refine ⟨by simp [H.len], fun i o e hi he => ?_, fun i j o o' e e' hi hj he he' hx hl hne => ?_⟩
  · rw [List.getElem?_map] at hi
    cases hh : h[i]? with
    | none => rw [hh] at hi; cases hi
    | some q =>
      rw [hh] at hi
      simp at hi
      subst hi
      have := H.obj i q e hh he
      cases q with
      | dead => trivial
      | cells vs => obtain ⟨c, t, h1, h2⟩ := this; exact ⟨c, t, _, h1, h2⟩
      | ro vs => exact this
      | iter l p => trivial
      | loop st => trivial
  · rw [List.getElem?_map] at hi
    cases hh : h[i]? with
    | none => rw [hh] at hi; cases hi
    | some q =>
      rw [hh] at hi
      simp at hi
      subst hi
      cases q <;> simp [AObj.toRo, AObj.excl] at hx

theorem toRo_own {ι : Emb} {h : AHeap} (b : Nat) : ¬ Own (h.map AObj.toRo) ι b := by
  rintro ⟨i, o, e, hi, hx, _⟩
  rw [List.getElem?_map] at hi
  cases hh : h[i]? with
  | none => rw [hh] at hi; cases hi
  | some q =>
    rw [hh] at hi
    simp at hi
    subst hi
    cases q <;> simp [AObj.toRo, AObj.excl] at hx

theorem callR_sound {call : ACall} (hcall : CallOk P call) {f : FuncId} {args : List AV} {h : AHeap} {v : AV} (hc : callR call f args h = some v) :
    Callable P f ∧ ∀ (ι : Emb) (xs : Array Value) (w : World), VRels ι args xs.toList → HRel ι h w →
      ∃ x, VRel ι v x ∧ ∀ w1, Go.RowKit.Below w.heap.size w w1 → Calls P f xs w1 fun e w2 => e = .returned x ∧ Go.RowKit.Below w.heap.size w w2 := by
  unfold callR at hc
  split at hc
  · rename_i v' h' hcv
    split at hc
    · rename_i hsc
      cases hc
      obtain ⟨hcb, hs0⟩ := hcall noY f args _ v h' hcv
      have hs := fun ι xs w a b => hs0 ι xs w a b .none
      refine ⟨hcb, fun ι xs w hxs H => ?_⟩
      have H0 := toRo_rel H
      obtain ⟨e, w', fr, ⟨ι', x, rfl, hv, hA⟩, _⟩ := hs ι xs w hxs H0 []
      have hx : VRel ι v x := scalar_any v hsc x hv
      refine ⟨x, hx, fun w1 hb => (hs ι xs w1 hxs (H0.world hb.block)).mono ?_⟩
      rintro e w2 ⟨ι2, y, rfl, hv2, hA2⟩
      refine ⟨by rw [scalar_unique v hsc y x hv2 hx], hb.trans ((hA2.step.to_below (fun b => toRo_own b)).mono hb.size)⟩
    · cases hc
  · cases hc

/-- The value of an operation that is taken from a slot or from memory: the same in every world that has the same blocks. -/
theorem free_run {ι : Emb} {h : AHeap} {w : World} (H : HRel ι h w) {fr : List AV} {a : Act} (hf : VRels ι fr a.tmps.toList) {o : Oper} {ao : AOp} (hc : compOp P o = some ao) (hfree : ao.free = true) {v : AV} {h1 : AHeap}
    (ho : aOp fr h ao = some (.val v h1)) : ∃ x, VRel ι v x ∧ ∀ w1, Go.RowKit.Below w.heap.size w w1 → (execOp a.eval o).run P w1 = .ok (.value x) w1 := by
  obtain ⟨dst, op, type, pos, after, guard⟩ := o
  cases op <;> simp only [compOp, reduceCtorEq] at hc
  case move x =>
    cases hc
    simp only [aOp, Option.some.injEq, AOut.val.injEq] at ho
    obtain ⟨rfl, rfl⟩ := ho
    exact ⟨_, opd_rel hf x, fun w1 _ => by simp only [execOp]; rfl⟩
  case assign x =>
    cases hc
    simp only [aOp, Option.some.injEq, AOut.val.injEq] at ho
    obtain ⟨rfl, rfl⟩ := ho
    exact ⟨_, opd_rel hf x, fun w1 _ => by simp only [execOp]; rfl⟩
  case pick c x y =>
    cases hc
    simp only [aOp] at ho
    split at ho
    · rename_i b hb
      simp only [Option.some.injEq, AOut.val.injEq] at ho
      obtain ⟨rfl, rfl⟩ := ho
      have hcr := opd_rel hf c
      rw [hb] at hcr
      simp only [VRel] at hcr
      refine ⟨if b then a.eval x else a.eval y, ?_, fun w1 _ => by simp only [execOp]; simp [hcr, asBool]⟩
      cases b
      · exact opd_rel hf y
      · exact opd_rel hf x
    · cases ho
  case nilCheck x =>
    cases hc
    simp only [aOp] at ho
    split at ho
    · rename_i i q hp
      simp only [Option.some.injEq, AOut.val.injEq] at ho
      obtain ⟨rfl, rfl⟩ := ho
      have hx := opd_rel hf x
      rw [hp] at hx
      obtain ⟨e, he, hxe⟩ := ptr_inv hx rfl
      exact ⟨a.eval x, hx, fun w1 _ => by simp only [execOp]; simp [hxe]⟩
    · cases ho
  case extract x i =>
    cases hc
    simp only [aOp] at ho
    split at ho
    · rename_i vs hp
      have hx := opd_rel hf x
      rw [hp] at hx
      simp only [VRel] at hx
      obtain ⟨c, hxe, hcr⟩ := hx
      cases hs : vs[i]? with
      | none => simp [hs] at ho
      | some u =>
        simp only [hs, Option.map_some, Option.some.injEq, AOut.val.injEq] at ho
        obtain ⟨rfl, rfl⟩ := ho
        obtain ⟨y, hy, hr⟩ := hcr.get _ u hs
        rw [Array.getElem?_toList] at hy
        exact ⟨y, hr, fun w1 _ => by simp only [execOp]; simp [hxe, Instr.extract, hy]⟩
    · cases ho
  case load t x =>
    split at hc
    · rename_i n hag hn
      cases hc
      simp only [aOp] at ho
      split at ho
      · rename_i i q hp
        have hx := opd_rel hf x
        rw [hp] at hx
        split at ho
        · rename_i vs hr
          cases hs : sub? vs q n with
          | none => simp [hs] at ho
          | some l =>
            simp only [hs, Option.map_some, Option.some.injEq, AOut.val.injEq] at ho
            obtain ⟨rfl, rfl⟩ := ho
            obtain ⟨e, he, hxe⟩ := ptr_inv hx rfl
            obtain ⟨inf, hi, rfl⟩ := sizeA_some hn
            obtain ⟨cs, hlen, hrel, hcell⟩ := H.cellsAt hr he hs
            refine ⟨.agg cs.toArray, by simp only [VRel]; exact ⟨_, rfl, by simpa using hrel⟩, fun w1 hb => ?_⟩
            have hblk : e.1 < w.heap.size := by
              obtain ⟨c, t, fz, h1, _⟩ := H.rowRel hr he
              exact (Array.getElem?_eq_some_iff.1 h1).1
            have := run_loadCells_list (P := P) w1 _ cs (fun j v hj => by
              rw [add_at]
              rw [hb.cell hblk]
              have := hcell j v hj
              rwa [add_at] at this)
            rw [hlen] at this
            simp [execOp, hxe, Instr.loadAt, Instr.sureAddr, loadVar, aggA_some hag, run_sizeOf' hi, this]
        · cases ho
      · cases ho
    · rename_i hag
      cases hc
      simp only [aOp] at ho
      split at ho
      · rename_i i q hp
        have hx := opd_rel hf x
        rw [hp] at hx
        split at ho
        · rename_i vs hr
          cases hs : vs[q]? with
          | none => simp [hs] at ho
          | some u =>
            simp only [hs, Option.map_some, Option.some.injEq, AOut.val.injEq] at ho
            obtain ⟨rfl, rfl⟩ := ho
            obtain ⟨e, he, hxe⟩ := ptr_inv hx rfl
            obtain ⟨y, hy, hrel⟩ := H.cell hr he hs
            have hblk : e.1 < w.heap.size := by
              obtain ⟨c, t, fz, h1, _⟩ := H.rowRel hr he
              exact (Array.getElem?_eq_some_iff.1 h1).1
            refine ⟨y, hrel, fun w1 hb => ?_⟩
            have hy1 : w1.cell? ⟨e.1, e.2.1 + q, none⟩ = some y := by rw [hb.cell hblk]; exact hy
            simp [execOp, hxe, Instr.loadAt, Instr.sureAddr, loadVar, aggA_some hag, hy1]
        · cases ho
      · cases ho
    · cases hc
  all_goals
    exfalso
    revert hc
    intro hc
    first
      | (cases hc; simp [AOp.free] at hfree; done)
      | (repeat' split at hc) <;> first
          | (cases hc; done)
          | (cases hc; simp [AOp.free] at hfree; done)
          | (rename_i hx; simp only [Option.map_eq_some_iff] at hc; obtain ⟨_, _, rfl⟩ := hc; simp [AOp.free] at hfree; done)
          | (simp only [Option.map_eq_some_iff] at hc; obtain ⟨_, _, rfl⟩ := hc; simp [AOp.free] at hfree; done)
          | (simp only [compCall] at hc; (repeat' split at hc) <;> first | (cases hc; done) | (cases hc; simp [AOp.free] at hfree; done))

theorem still_val {fr : List AV} {h h1 : AHeap} {ao : AOp} {v : AV} (hs : ao.still = true) (ho : aOp fr h ao = some (.val v h1)) : h1 = h := by
  cases ao <;> simp only [AOp.still, reduceCtorEq] at hs <;> simp only [aOp] at ho <;>
    first
      | (simp only [Option.some.injEq, AOut.val.injEq] at ho; exact ho.2.symm)
      | (simp only [Option.map_eq_some_iff, AOut.val.injEq] at ho; obtain ⟨_, _, _, rfl⟩ := ho; rfl)
      | ((repeat' split at ho) <;> first
          | (cases ho; done)
          | (cases ho; rfl)
          | (simp only [Option.map_eq_some_iff, AOut.val.injEq] at ho; obtain ⟨_, _, _, rfl⟩ := ho; rfl))

theorem still_skip {fr : List AV} {h h1 : AHeap} {ao : AOp} (hs : ao.still = true) (ho : aOp fr h ao = some (.skip h1)) : False := by
  cases ao <;> simp only [AOp.still, reduceCtorEq] at hs <;> simp only [aOp] at ho <;>
    first
      | (cases ho; done)
      | (simp only [Option.map_eq_some_iff, reduceCtorEq, and_false, exists_false] at ho; done)
      | ((repeat' split at ho) <;> first
          | (cases ho; done)
          | (simp only [Option.map_eq_some_iff, reduceCtorEq, and_false, exists_false] at ho; done))

/-- Operations compiled, whatever is told to be dead behind them. -/
def CompL (P : Program) (ops : Array Oper) : List Oper → List AI → Prop
  | [], [] => True
  | o :: l, ai :: is => (∃ d, compI P ops o = some { ai with dead := d }) ∧ CompL P ops l is
  | _, _ => False
theorem compL_of {ops : Array Oper} : ∀ (l : List Oper) (is : List AI), compIs P ops l = some is → ∀ ds, CompL P ops l (withDead ds is)
  | [], is, h, ds => by simp only [compIs] at h; cases h; cases ds <;> simp [CompL, withDead]
  | o :: l, is, h, ds => by
    simp only [compIs] at h
    split at h
    · rename_i i r hi hr
      cases h
      have ih := compL_of l r hr
      cases ds with
      | nil =>
        have i0 := ih []
        have e0 : ∀ l : List AI, withDead [] l = l := fun l => by cases l <;> rfl
        rw [e0] at i0 ⊢
        exact ⟨⟨i.dead, hi⟩, i0⟩
      | cons d ds => exact ⟨⟨i.dead, hi⟩, ih ds⟩
    · cases h

theorem quiet_sound {call : ACall} (hcall : CallOk P call) (ops : Array Oper) {h : AHeap} {ι : Emb} {w : World} (H : HRel ι h w) {Q : Act → Prop} : ∀ (l : List Oper) (is : List AI), CompL P ops l is → ∀ (fr fr' : List AV) (a : Act),
    VRels ι fr a.tmps.toList → aQuiet call is fr h = some fr' → (∀ a', VRels ι fr' a'.tmps.toList → a'.defers = a.defers → Q a') →
    wpQuiet P ops (fun w1 => Go.RowKit.Below w.heap.size w w1) Q l a
  | [], is, hc, fr, fr', a, hf, hr, hq => by
    cases is with
    | cons _ _ => exact hc.elim
    | nil =>
      simp only [aQuiet, Option.some.injEq] at hr
      subst hr
      exact wpQuiet_nil (hq a hf rfl)
  | o :: l, is, hc, fr, fr', a, hf, hr, hq => by
    cases is with
    | nil => exact hc.elim
    | cons ai r =>
      obtain ⟨⟨dd, hci⟩, hcr⟩ := hc
      have next : ∀ (v : AV) (x : Value), VRel ι v x → aQuiet call r (putD fr ai v) h = some fr' → ai.dst = o.dst → wpQuiet P ops (fun w1 => Go.RowKit.Below w.heap.size w w1) Q l (a.put o.dst x) := by
        intro v x hv hr' hdst
        have hf1 := putD_rel hf ai hv
        rw [hdst] at hf1
        exact quiet_sound hcall ops H l r hcr _ fr' _ hf1 hr' fun a' h1 h2 => hq a' h1 (h2.trans (put_defers ..))
      simp only [aQuiet] at hr
      split at hr
      · cases hr
      · rename_i hw
        obtain ⟨hwa, hdst, hop⟩ := wanted_rel (P := P) hf hci hw
        refine wpQuiet_step fun K hK => ?_
        rw [if_neg (by rw [hwa]; simp)]
        exact hK _ (next .undef undef (by simp only [VRel]; exact ⟨#[], rfl, .nil⟩) hr hdst)
      · rename_i hw
        obtain ⟨hwa, hdst, hop⟩ := wanted_rel (P := P) hf hci hw
        refine wpQuiet_step fun K hK => ?_
        rw [if_pos hwa]
        split at hr
        · cases hr
        · rename_i hst
          have hst' : ai.op.still = true := by simpa using hst
          split at hr
          · rename_i v h1 hao
            have := still_val hst' hao
            subst this
            split at hr
            · rename_i hdf
              simp only [Bool.or_eq_true] at hdf
              rcases hdf with hdet | hfree
              · obtain ⟨x, ι0, w0, hrun0, hv0, hA0, he0⟩ := op_good H hf hop hao (fun f args he => by cases he)
                obtain ⟨rfl, rfl⟩ := he0 rfl
                refine ⟨x, fun w1 hb => ?_, hK _ (next v x hv0 hr hdst)⟩
                obtain ⟨y, ι2, w2, hrun2, hv2, hA2, he2⟩ := op_good (H.world hb.block) hf hop hao (fun f args he => by cases he)
                obtain ⟨rfl, rfl⟩ := he2 rfl
                unfold Oper.quietAt
                rw [hrun2]
                exact ⟨rfl, det_unique v hdet y x hv2 hv0⟩
              · obtain ⟨x, hv, hrun⟩ := free_run H hf hop hfree hao
                exact ⟨x, fun w1 hb => by unfold Oper.quietAt; rw [hrun w1 hb]; exact ⟨rfl, rfl⟩, hK _ (next v x hv hr hdst)⟩
            · cases hr
          · rename_i f args hao
            split at hr
            · rename_i v hcv
              obtain ⟨hcb, hs⟩ := callR_sound hcall hcv
              obtain ⟨xs, hrun, hxs⟩ := op_good H hf hop hao (fun f' args' he => by cases he; exact hcb)
              obtain ⟨x, hv, hcalls⟩ := hs ι xs w hxs H
              refine ⟨x, fun w1 hb => ?_, hK _ (next v x hv hr hdst)⟩
              obtain ⟨ys, hrun1, hys⟩ := op_good (H.world hb.block) hf hop hao (fun f' args' he => by cases he; exact hcb)
              obtain ⟨y, hvy, hcallsy⟩ := hs ι ys w hys H
              unfold Oper.quietAt
              rw [hrun1]
              obtain ⟨v0, hv0, hsc⟩ : ∃ v0, v0 = v ∧ v0.scalar = true := ⟨v, rfl, by
                unfold callR at hcv
                split at hcv
                · split at hcv
                  · rename_i hsc; cases hcv; exact hsc
                  · cases hcv
                · cases hcv⟩
              subst hv0
              rw [scalar_unique v0 hsc x y hv hvy]
              exact ⟨rfl, hcallsy w1 hb⟩
            · cases hr
          · cases hr


/-! ### In frames of whatever make -/

theorem wpOpIn_of_qOp {ops : Array Oper} {C : World → Prop} {r : Option Nat} {i : Nat} {a : Act} {K : Act → Prop} {K' : Act → World → Prop} {Q' : Exit → Act → World → Prop} {w : World} (hnd : ∀ (i : Nat) o, ops[i]? = some o → ∀ c, o.op ≠ .defer c) (hC : C w)
    (h : ∀ a w', C w' → K a → K' a w') (hh : qOp P ops C i K a) : wpOpIn (fw r) 0 P ops Q' i K' a w := by
  unfold qOp at hh
  unfold wpOpIn
  split
  · rename_i ho; simp only [ho] at hh; exact h _ _ hC hh
  · rename_i o ho
    simp only [ho] at hh
    split
    · rename_i hw
      simp only [hw, if_true] at hh
      obtain ⟨v, h1, h2⟩ := hh
      refine ⟨fun _ _ => trivial, ?_⟩
      rw [Oper.semAt_eq _ _ _ (hnd i o ho)]
      have h3 := h1 w hC
      unfold Oper.quietAt at h3
      generalize (execOp a.eval o).run P w = q at *
      cases q with
      | ok n w' =>
        cases n <;> simp only [Oper.quietUpon] at h3 <;> simp only [Oper.uponIn]
        case value u =>
          obtain ⟨e1, e2⟩ := h3
          rw [e1, e2]
          exact h _ _ hC h2
        case skip =>
          obtain ⟨e1, e2⟩ := h3
          rw [e1, ← e2]
          exact h _ _ hC h2
        case enter f args =>
          obtain ⟨e1, hc⟩ := h3
          rw [e1]
          have hc' : CallsIn (fw r) (0 - 1) P f args w _ := callsIn_wide.2 hc
          refine ⟨fun h => (by cases h), hc'.mono ?_⟩
          rintro e w'' ⟨he, hw''⟩
          subst he
          exact h _ _ hw'' h2
      | halt x w' => simp only [Oper.quietUpon] at h3
    · rename_i hw
      simp only [hw] at hh
      exact ⟨fun _ _ => trivial, h _ _ hC hh⟩

theorem wpAnyIn_of_quiet {ops : Array Oper} {C : World → Prop} {r : Option Nat} (hnd : ∀ (i : Nat) o, ops[i]? = some o → ∀ c, o.op ≠ .defer c) {Q : Act → Prop} {Q' : Exit → Act → World → Prop} (hQ : ∀ a w, C w → Q a → Q' .normal a w) : ∀ (fuel : Nat) (listed : Array Bool) (a : Act) (w : World), C w →
    wpAnyQ P .any ops C Q fuel listed a → wpAnyIn (fw r) 0 P .any ops Q' fuel listed a w
  | 0, _, _, _, hw, h => ⟨h.1, hQ _ _ hw h.2⟩
  | fuel + 1, _, _, _, hw, h => ⟨fun h0 => hQ _ _ hw (h.1 h0), fun i hi => wpOpIn_of_qOp hnd hw (fun a' w' hw' => wpAnyIn_of_quiet hnd hQ fuel _ a' w' hw') (h.2 i hi)⟩

theorem wpIn_region_quiet {ops : Array Oper} {C : World → Prop} {r : Option Nat} {id : Nat} {Q : Exit → Act → World → Prop} {a : Act} {w : World} (hnd : ∀ (i : Nat) o, ops[i]? = some o → ∀ c, o.op ≠ .defer c) (hm : P.follows .mixedOrders = true) (hB : Region.lexB .any ops = true) (hC : C { w with drawn := w.drawn + 1 })
    (h : wpQuiet P ops C (fun a' => ∀ w', C w' → Q .normal a' w') ops.toList a) : (Code.region id ops true).wpIn (fw r) 0 P Q a w := by
  simp only [Region.lexB, Bool.and_eq_true] at hB
  refine wpIn_region_any hm (wpAnyIn_of_quiet hnd (Q := fun a' => ∀ w', C w' → Q .normal a' w') (fun _ w' hw' h => h w' hw') _ _ _ _ hC ?_)
  have := wpAnyQ_lex (C := C) (md := .any) hB.1 ops.toList 0 (Array.replicate ops.size false) a (by simp) (by simpa using hB.2) h
  simpa using this

theorem compIs_all {ops : Array Oper} : ∀ (l : List Oper) (is : List AI), compIs P ops l = some is → ∀ o ∈ l, ∀ c, o.op ≠ .defer c
  | [], is, h, o, ho => by cases ho
  | x :: l, is, h, o, ho => by
    simp only [compIs] at h
    split at h
    · rename_i i r hi hr
      rcases List.mem_cons.1 ho with rfl | ho
      · unfold compI at hi
        split at hi
        · cases hi
        · rename_i op hop
          exact no_defer hop
      · exact compIs_all l r hr o ho
    · cases h

end
end Go.Ax

namespace Go.Ax
set_option linter.unusedVariables false
set_option linter.unusedSimpArgs false

section
variable {P : Program}

/-! ### What waits for what -/

def Closed (ops : Array Oper) (L : Nat → Bool) : Prop := ∀ i o, ops[i]? = some o → L i = true → ∀ e ∈ waits o, L e = true

theorem cloW_bit (tbl : List Nat) : ∀ (w : List Nat) (m i : Nat), (w.foldl (fun m i => m ||| 2 ^ i ||| tbl.getD i 0) m).testBit i = true → m.testBit i = true ∨ ∃ e ∈ w, e = i ∨ (tbl.getD e 0).testBit i = true
  | [], m, i, h => .inl h
  | x :: w, m, i, h => by
    rw [List.foldl_cons] at h
    rcases cloW_bit tbl w _ i h with h | ⟨e, he, h⟩
    · rw [Nat.testBit_or, Nat.testBit_or, Nat.testBit_two_pow] at h
      simp only [Bool.or_eq_true, decide_eq_true_eq] at h
      rcases h with (h | h) | h
      · exact .inl h
      · exact .inr ⟨x, List.mem_cons_self, .inl h⟩
      · exact .inr ⟨x, List.mem_cons_self, .inr h⟩
    · exact .inr ⟨e, List.mem_cons_of_mem _ he, h⟩

/-- What the table tells of operation j lies in whatever is closed and holds what it waits for. -/
def TblOk (ops : Array Oper) (tbl : List Nat) : Prop :=
  ∀ j i, (tbl.getD j 0).testBit i = true → ∀ L, Closed ops L → (∀ o, ops[j]? = some o → ∀ e ∈ waits o, L e = true) → L i = true

theorem cloT_ok {ops : Array Oper} : ∀ (ws : List (List Nat)) (tbl : List Nat), TblOk ops tbl → tbl.length + ws.length = ops.size → (∀ t w, ws[t]? = some w → ∃ o, ops[tbl.length + t]? = some o ∧ waits o = w) → TblOk ops (cloT ws tbl)
  | [], tbl, h, _, _ => h
  | w :: ws, tbl, h, hl, hw => by
    refine cloT_ok ws _ ?_ (by simp at hl ⊢; omega) (fun t w' ht => ?_)
    · intro j i hb L hL hj
      by_cases hjl : j < tbl.length
      · rw [List.getD_eq_getElem?_getD, List.getElem?_append_left hjl, ← List.getD_eq_getElem?_getD] at hb
        exact h j i hb L hL hj
      · by_cases hje : j = tbl.length
        · subst hje
          rw [List.getD_eq_getElem?_getD, List.getElem?_append_right (Nat.le_refl _)] at hb
          simp only [Nat.sub_self, List.getElem?_cons_zero, Option.getD_some] at hb
          obtain ⟨o, ho, how⟩ := hw 0 w rfl
          rw [Nat.add_zero] at ho
          have hin := hj o ho
          rw [how] at hin
          rcases cloW_bit tbl w 0 i hb with h0 | ⟨e, he, h1⟩
          · simp at h0
          · have hLe := hin e he
            rcases h1 with rfl | h1
            · exact hLe
            · exact h e i h1 L hL fun o' ho' => hL e o' ho' hLe
        · rw [List.getD_eq_getElem?_getD, List.getElem?_eq_none (by simp; omega)] at hb
          simp at hb
    · obtain ⟨o, ho, how⟩ := hw (t + 1) w' (by simpa using ht)
      exact ⟨o, by rw [← ho]; congr 1; simp; omega, how⟩

theorem tblOk {ops : Array Oper} : TblOk ops (cloT (ops.toList.map waits) []) := by
  refine cloT_ok _ [] (fun j i hb => by simp at hb) (by simp) fun t w ht => ?_
  rw [List.getElem?_map] at ht
  cases ho : ops.toList[t]? with
  | none => rw [ho] at ht; cases ht
  | some o =>
    rw [ho] at ht
    cases ht
    exact ⟨o, by simpa using ho, rfl⟩

/-! ### Frames -/

/-- The slots of the operations that `sel` tells hold their values; the others what they held. -/
structure FrOk (lk : List AI) (fr0 : List AV) (sel : Nat → Option AV) (ι : Emb) (xs : List Value) : Prop where
  len : fr0.length = xs.length
  old : ∀ x : Nat, (∀ (i : Nat) ai, lk[i]? = some ai → ai.dst ≠ some x) → ∀ v, fr0[x]? = some v → ∃ y, xs[x]? = some y ∧ VRel ι v y
  new : ∀ (i : Nat) ai v (x : Nat), lk[i]? = some ai → ai.dst = some x → sel i = some v → x < fr0.length → ∃ y, xs[x]? = some y ∧ VRel ι v y

theorem put_length (fr : List AV) (d : Option Nat) (v : AV) : (put fr d v).length = fr.length := by cases d <;> simp [put]
theorem drawF_length (sel : Nat → Option AV) : ∀ (l : List AI) (s : Nat) (fr : List AV), (drawF sel s l fr).length = fr.length
  | [], s, fr => rfl
  | i :: l, s, fr => by simp only [drawF]; rw [drawF_length sel l, put_length]
theorem put_get {fr : List AV} {d : Option Nat} {v u : AV} {x : Nat} (h : (put fr d v)[x]? = some u) : (d = some x ∧ u = v) ∨ (d ≠ some x ∧ fr[x]? = some u) := by
  cases d with
  | none => exact .inr ⟨by simp, h⟩
  | some e =>
    simp only [put] at h
    by_cases he : e = x
    · subst he
      rw [List.getElem?_set] at h
      split at h
      · split at h
        · simp only [Option.some.injEq] at h; exact .inl ⟨rfl, h.symm⟩
        · cases h
      · exact absurd rfl ‹_›
    · rw [List.getElem?_set_ne he] at h
      exact .inr ⟨by simpa using he, h⟩
theorem drawF_cases (sel : Nat → Option AV) : ∀ (l : List AI) (s : Nat) (fr : List AV) (x : Nat) (v : AV), (drawF sel s l fr)[x]? = some v →
    (∃ (i : Nat) (ai : AI), l[i]? = some ai ∧ ai.dst = some x ∧ v = (sel (s + i)).getD .junk) ∨ ((∀ (i : Nat) ai, l[i]? = some ai → ai.dst ≠ some x) ∧ fr[x]? = some v)
  | [], s, fr, x, v, h => .inr ⟨fun i ai h => by simp at h, h⟩
  | a :: l, s, fr, x, v, h => by
    simp only [drawF] at h
    rcases drawF_cases sel l (s + 1) _ x v h with ⟨i, ai, h1, h2, h3⟩ | ⟨h1, h2⟩
    · exact .inl ⟨i + 1, ai, by simpa using h1, h2, by rw [h3]; congr 2; omega⟩
    · rcases put_get h2 with ⟨h3, h4⟩ | ⟨h3, h4⟩
      · exact .inl ⟨0, a, rfl, h3, h4⟩
      · refine .inr ⟨fun i ai hi => ?_, h4⟩
        cases i with
        | zero => simp at hi; subst hi; exact h3
        | succ i => exact h1 i ai (by simpa using hi)

theorem FrOk.rel {lk : List AI} {fr0 : List AV} {sel : Nat → Option AV} {ι : Emb} {xs : List Value} (h : FrOk lk fr0 sel ι xs) : VRels ι (drawF sel 0 lk fr0) xs := by
  refine VRels.of_get (by rw [drawF_length, h.len]) fun x v hv => ?_
  have hx : x < xs.length := by
    have := (List.getElem?_eq_some_iff.1 hv).1
    rw [drawF_length, h.len] at this
    exact this
  rcases drawF_cases sel lk 0 fr0 x v hv with ⟨i, ai, h1, h2, h3⟩ | ⟨h1, h2⟩
  · rw [Nat.zero_add] at h3
    cases hs : sel i with
    | none => rw [hs] at h3; subst h3; exact ⟨xs[x], List.getElem?_eq_getElem hx, by simp [VRel]⟩
    | some u =>
      rw [hs] at h3
      have h3 : v = u := h3
      rw [h3]
      exact h.new i ai u x h1 h2 hs (by rw [h.len]; exact hx)
  · exact h.old x h1 v h2

theorem FrOk.less {lk : List AI} {fr0 : List AV} {sel sel' : Nat → Option AV} {ι ι' : Emb} {xs : List Value} (h : FrOk lk fr0 sel ι xs) (hs : ∀ i v, i < lk.length → sel' i = some v → sel i = some v)
    (ho : ∀ v ∈ fr0, ∀ y, VRel ι v y → VRel ι' v y) (hn : ∀ i v, i < lk.length → sel' i = some v → ∀ y, VRel ι v y → VRel ι' v y) : FrOk lk fr0 sel' ι' xs :=
  ⟨h.len, fun x hx v hv => let ⟨y, hy, hr⟩ := h.old x hx v hv; ⟨y, hy, ho v (List.mem_of_getElem? hv) y hr⟩,
   fun i ai v x h1 h2 h3 h4 =>
    have hi : i < lk.length := (List.getElem?_eq_some_iff.1 h1).1
    let ⟨y, hy, hr⟩ := h.new i ai v x h1 h2 (hs i v hi h3) h4; ⟨y, hy, hn i v hi h3 y hr⟩⟩

theorem nodupB_ne : ∀ {l : List Nat}, nodupB l = true → ∀ (i j x : Nat), l[i]? = some x → l[j]? = some x → i = j
  | [], _, i, j, x, h, _ => by simp at h
  | a :: l, hn, i, j, x, hi, hj => by
    simp only [nodupB, Bool.and_eq_true, Bool.not_eq_true'] at hn
    have no : ∀ k : Nat, l[k]? = some a → False := fun k hk => by
      have hc := hn.1
      rw [List.contains_eq_mem] at hc
      simp [List.mem_of_getElem? hk] at hc
    cases i with
    | zero =>
      simp at hi; subst hi
      cases j with
      | zero => rfl
      | succ j => simp at hj; exact (no j hj).elim
    | succ i =>
      cases j with
      | zero => simp at hj; subst hj; simp at hi; exact (no i hi).elim
      | succ j => simp at hi hj; rw [nodupB_ne hn.2 i j x hi hj]

theorem filterMap_at {α : Type} (f : α → Option Nat) : ∀ (l : List α) (i : Nat) (a : α) (x : Nat), l[i]? = some a → f a = some x → ∃ p, (l.filterMap f)[p]? = some x ∧ p = ((l.take i).filterMap f).length
  | [], i, a, x, h, _ => by simp at h
  | b :: l, 0, a, x, h, hx => by
    simp at h; subst h
    exact ⟨0, by simp [List.filterMap_cons, hx], by simp⟩
  | b :: l, i + 1, a, x, h, hx => by
    obtain ⟨p, hp, he⟩ := filterMap_at f l i a x (by simpa using h) hx
    cases hb : f b with
    | none => exact ⟨p, by simpa [List.filterMap_cons, hb] using hp, by simp [List.filterMap_cons, hb, he]⟩
    | some y => exact ⟨p + 1, by simpa [List.filterMap_cons, hb] using hp, by simp [List.filterMap_cons, hb, he]⟩

theorem take_len_lt {α : Type} (f : α → Option Nat) (l : List α) {i j : Nat} {a : α} {x : Nat} (hi : l[i]? = some a) (hx : f a = some x) (hij : i < j) : ((l.take i).filterMap f).length < ((l.take j).filterMap f).length := by
  have e : l.take j = l.take i ++ (l.drop i).take (j - i) := by
    rw [← List.take_add]; congr 1; omega
  rw [e, List.filterMap_append, List.length_append]
  have : (l.drop i).take (j - i) = a :: ((l.drop (i + 1)).take (j - i - 1)) := by
    obtain ⟨h1, h2⟩ := List.getElem?_eq_some_iff.1 hi
    rw [List.drop_eq_getElem_cons h1, h2]
    obtain ⟨k, hk⟩ : ∃ k, j - i = k + 1 := ⟨j - i - 1, by omega⟩
    rw [hk]; simp
  rw [this]
  simp [List.filterMap_cons, hx]

/-- No two operations write one slot. -/
theorem dst_inj {lk : List AI} (hn : nodupB (lk.filterMap (·.dst)) = true) {i j : Nat} {a b : AI} {x : Nat} (hi : lk[i]? = some a) (hj : lk[j]? = some b) (ha : a.dst = some x) (hb : b.dst = some x) : i = j := by
  obtain ⟨p, hp, hpe⟩ := filterMap_at AI.dst lk i a x hi ha
  obtain ⟨q, hq, hqe⟩ := filterMap_at AI.dst lk j b x hj hb
  have := nodupB_ne hn p q x hp hq
  rcases Nat.lt_trichotomy i j with h | h | h
  · have := take_len_lt AI.dst lk hi ha h; omega
  · exact h
  · have := take_len_lt AI.dst lk hj hb h; omega

/-! ### Memory -/

theorem drawH_append (sel : Nat → Bool) : ∀ (a b : List (AV × List AObj)) (s : Nat), drawH sel s (a ++ b) = drawH sel s a ++ drawH sel (s + a.length) b
  | [], b, s => by simp [drawH]
  | e :: a, b, s => by
    simp only [List.cons_append, drawH, List.append_assoc]
    rw [drawH_append sel a b (s + 1)]
    simp only [List.length_cons]
    congr 3; omega
theorem drawH_len (sel sel' : Nat → Bool) : ∀ (es : List (AV × List AObj)) (s : Nat), (drawH sel s es).length = (drawH sel' s es).length
  | [], s => rfl
  | e :: es, s => by
    simp only [drawH, List.length_append]
    rw [drawH_len sel sel' es]
    congr 1
    split <;> split <;> simp
theorem drawH_congr {sel sel' : Nat → Bool} : ∀ (es : List (AV × List AObj)) (s : Nat), (∀ i, s ≤ i → i < s + es.length → sel i = sel' i) → drawH sel s es = drawH sel' s es
  | [], s, _ => rfl
  | e :: es, s, h => by
    simp only [drawH]
    rw [h s (Nat.le_refl _) (by simp), drawH_congr es (s + 1) (fun i h1 h2 => h i (by omega) (by simp; omega))]
/-- Less is let in: the same blocks, or none. -/
theorem drawH_less {sel sel' : Nat → Bool} : ∀ (es : List (AV × List AObj)) (s : Nat), (∀ i, s ≤ i → i < s + es.length → sel i = true → sel' i = true) → ∀ (t : Nat) (o : AObj), (drawH sel s es)[t]? = some o → o = .dead ∨ (drawH sel' s es)[t]? = some o
  | [], s, _, t, o, h => by simp [drawH] at h
  | e :: es, s, hs, t, o, h => by
    simp only [drawH] at h ⊢
    have e1 : (if sel s = true then e.2 else List.replicate e.2.length .dead).length = e.2.length := by split <;> simp
    have e2 : (if sel' s = true then e.2 else List.replicate e.2.length .dead).length = e.2.length := by split <;> simp
    by_cases ht : t < e.2.length
    · rw [List.getElem?_append_left (by rw [e1]; exact ht)] at h
      rw [List.getElem?_append_left (by rw [e2]; exact ht)]
      by_cases h1 : sel s = true
      · rw [if_pos h1] at h
        rw [if_pos (hs s (Nat.le_refl _) (by simp) h1)]
        exact .inr h
      · rw [if_neg h1, List.getElem?_replicate, if_pos ht] at h
        cases h
        exact .inl rfl
    · rw [List.getElem?_append_right (by rw [e1]; omega), e1] at h
      rw [List.getElem?_append_right (by rw [e2]; omega), e2]
      exact drawH_less es (s + 1) (fun i h1 h2 => hs i (by omega) (by simp; omega)) _ o h

/-- The blocks name only what lay ahead, and each other. -/
def EsOk (n0 : Nat) (m : Nat) (es : List (AV × List AObj)) : Prop :=
  ∀ (j : Nat) (e : AV × List AObj), es[j]? = some e → newsOk n0 (m + (drawH (fun _ => true) 0 (es.take j)).length) e.1 e.2 = true

theorem idsIn_of {n0 m q : Nat} {l : List Nat} (h : idsIn n0 m q l = true) : ∀ i ∈ l, i < n0 ∨ (m ≤ i ∧ i < m + q) := by
  intro i hi
  have := List.all_eq_true.1 h i hi
  simpa using this

theorem newsOk_v {n0 m : Nat} {v : AV} {news : List AObj} (h : newsOk n0 m v news = true) : ∀ i ∈ v.ids, i < n0 ∨ (m ≤ i ∧ i < m + news.length) := by
  simp only [newsOk, Bool.and_eq_true] at h
  exact idsIn_of h.1
theorem newsOk_o {n0 m : Nat} {v : AV} {news : List AObj} (h : newsOk n0 m v news = true) : ∀ o ∈ news, o.isCells = true ∧ ∀ i ∈ o.ids, i < n0 ∨ (m ≤ i ∧ i < m + news.length) := by
  simp only [newsOk, Bool.and_eq_true] at h
  intro o ho
  have := List.all_eq_true.1 h.2 o ho
  simp only [Bool.and_eq_true] at this
  exact ⟨this.1, idsIn_of this.2⟩

theorem RowRel.congr {ι ι' : Emb} {e : Nat × Nat × Nat} {vs : List AV} {c : Array Value} (h : RowRel ι e vs c) (hi : ∀ i ∈ AV.idss vs, ∀ e : Nat × Nat × Nat, ι[i]? = some e → ι'[i]? = some e) : RowRel ι' e vs c :=
  ⟨h.1, h.2.1, fun j v hv => by
    obtain ⟨x, hx, hr⟩ := h.2.2 j v hv
    refine ⟨x, hx, VRel.congr v x (fun i him => hi i ?_) hr⟩
    have : ∀ (l : List AV) (j : Nat), l[j]? = some v → i ∈ AV.idss l := by
      intro l
      induction l with
      | nil => intro j h; simp at h
      | cons u l ih =>
        intro j h
        simp only [AV.idss, List.mem_append]
        cases j with
        | zero => simp at h; subst h; exact .inl him
        | succ j => exact .inr (ih j (by simpa using h))
    exact this vs j hv⟩
theorem ORel.congr {ι ι' : Emb} {w w' : World} {e : Nat × Nat × Nat} {o : AObj} (h : ORel ι w e o) (hb : o.live = true → w'.heap[e.1]? = w.heap[e.1]?) (hi : ∀ i ∈ o.ids, ∀ e : Nat × Nat × Nat, ι[i]? = some e → ι'[i]? = some e) : ORel ι' w' e o := by
  cases o with
  | dead => trivial
  | cells vs => obtain ⟨c, t, h1, h2⟩ := h; exact ⟨c, t, by rw [hb rfl]; exact h1, h2.congr (by simpa [AObj.ids] using hi)⟩
  | ro vs => obtain ⟨c, t, fz, h1, h2⟩ := h; exact ⟨c, t, fz, by rw [hb rfl]; exact h1, h2.congr (by simpa [AObj.ids] using hi)⟩
  | iter l p => exact ⟨by rw [hb rfl]; exact h.1, h.2⟩
  | loop st => obtain ⟨r, h1, h2⟩ := h; exact ⟨r, by rw [hb rfl]; exact h1, h2⟩

theorem RowRel.lt {ι : Emb} {e : Nat × Nat × Nat} {vs : List AV} {c : Array Value} (h : RowRel ι e vs c) : ∀ i ∈ AV.idss vs, i < ι.length := by
  have : ∀ l : List AV, (∀ v ∈ l, ∃ x, VRel ι v x) → ∀ i ∈ AV.idss l, i < ι.length := by
    intro l
    induction l with
    | nil => intro _ i h; simp [AV.idss] at h
    | cons v l ih =>
      intro hv i hi
      simp only [AV.idss, List.mem_append] at hi
      rcases hi with hi | hi
      · obtain ⟨x, hx⟩ := hv v List.mem_cons_self
        exact VRel.lt v x hx i hi
      · exact ih (fun u hu => hv u (List.mem_cons_of_mem _ hu)) i hi
  refine this vs fun v hv => ?_
  obtain ⟨j, hj⟩ := List.getElem?_of_mem hv
  obtain ⟨x, _, hx⟩ := h.2.2 j v hj
  exact ⟨x, hx⟩
theorem ORel.lt {ι : Emb} {w : World} {e : Nat × Nat × Nat} {o : AObj} (h : ORel ι w e o) : ∀ i ∈ o.ids, i < ι.length := by
  cases o with
  | dead => intro i hi; simp [AObj.ids] at hi
  | cells vs => obtain ⟨c, t, h1, h2⟩ := h; simpa [AObj.ids] using h2.lt
  | ro vs => obtain ⟨c, t, fz, h1, h2⟩ := h; simpa [AObj.ids] using h2.lt
  | iter l p => intro i hi; simp [AObj.ids] at hi
  | loop st => intro i hi; simp [AObj.ids] at hi
theorem HRel.ids {ι : Emb} {h : AHeap} {w : World} (H : HRel ι h w) : ∀ o ∈ h, ∀ i ∈ o.ids, i < h.length := by
  intro o ho
  obtain ⟨j, hj⟩ := List.getElem?_of_mem ho
  obtain ⟨e, he⟩ := H.emb hj
  have := (H.obj j o e hj he).lt
  rwa [H.len] at this

theorem getElem?_toRo (h : AHeap) (i : Nat) : (h.map AObj.toRo)[i]? = (h[i]?).map AObj.toRo := List.getElem?_map

/-- The first blocks alone, some of them gone. -/
theorem HRel.cut {ι : Emb} {h h' : AHeap} {w : World} (H : HRel ι h w) (hm : h'.length ≤ h.length) (hb : ∀ (t : Nat) (o : AObj), h'[t]? = some o → o = .dead ∨ (h[t]? = some o ∧ ∀ i ∈ o.ids, i < h'.length)) : HRel (ι.take h'.length) h' w := by
  have hl := H.len
  have get : ∀ (t : Nat) (e : Nat × Nat × Nat), (ι.take h'.length)[t]? = some e → ι[t]? = some e := fun t e he => by
    rw [List.getElem?_take] at he
    split at he
    · exact he
    · cases he
  have back : ∀ (t : Nat) (e : Nat × Nat × Nat), t < h'.length → ι[t]? = some e → (ι.take h'.length)[t]? = some e := fun t e ht he => by
    rw [List.getElem?_take, if_pos ht]; exact he
  refine ⟨by simp; omega, fun t o e ht he => ?_, fun t s o o' e e' ht hs he he' hx hlv hne => ?_⟩
  · rcases hb t o ht with rfl | ⟨h1, h2⟩
    · trivial
    · exact (H.obj t o e h1 (get t e he)).congr (fun _ => rfl) fun i hi e he => back i e (h2 i hi) he
  · rcases hb t o ht with rfl | ⟨h1, _⟩
    · simp [AObj.excl] at hx
    · rcases hb s o' hs with rfl | ⟨h2, _⟩
      · simp [AObj.live] at hlv
      · exact H.sep t s o o' e e' h1 h2 (get t e he) (get s e' he') hx hlv hne

theorem isCells_excl {o : AObj} (h : o.isCells = true) : o.excl = true ∧ o.live = true := by cases o <;> simp_all [AObj.isCells, AObj.excl, AObj.live]

/-- Blocks come where none were. -/
theorem HRel.fill {ι ι1 : Emb} {A N D Z Ar : AHeap} {w w1 : World} (H : HRel ι (A ++ D ++ Z) w) (hD : D.length = N.length) (H1 : HRel ι1 (Ar ++ N) w1) (hAr : Ar.length = A.length) (hag : ∀ i : Nat, i < A.length → ι1[i]? = ι[i]?)
    (bel : Go.RowKit.Below w.heap.size w w1) (hN : ∀ o ∈ N, o.isCells = true) (fresh : ∀ b, Own (Ar ++ N) ι1 b → w.heap.size ≤ b)
    (hidA : ∀ o ∈ A ++ Z, ∀ i ∈ o.ids, i < A.length ∨ A.length + N.length ≤ i) (hidN : ∀ o ∈ N, ∀ i ∈ o.ids, i < A.length + N.length) :
    ∃ ι' : Emb, ι'.length = ι.length ∧ (∀ i : Nat, i < A.length ∨ A.length + N.length ≤ i → ι'[i]? = ι[i]?) ∧ (∀ i : Nat, i < A.length + N.length → ι'[i]? = ι1[i]?) ∧ HRel ι' (A ++ N ++ Z) w1 ∧ Step (A ++ D ++ Z) ι w (A ++ N ++ Z) ι' w1 := by
  have hl := H.len
  have hl1 := H1.len
  simp only [List.length_append] at hl hl1
  let ι' : Emb := ι1.take (A.length + N.length) ++ ι.drop (A.length + N.length)
  have g1 : ∀ i : Nat, i < A.length + N.length → ι'[i]? = ι1[i]? := fun i hi => by
    show (_ ++ _)[i]? = _
    rw [List.getElem?_append_left (by simp; omega), List.getElem?_take, if_pos hi]
  have g2 : ∀ i : Nat, A.length + N.length ≤ i → ι'[i]? = ι[i]? := fun i hi => by
    show (_ ++ _)[i]? = _
    rw [List.getElem?_append_right (by simp; omega), List.getElem?_drop]
    congr 1; simp; omega
  have g0 : ∀ i : Nat, i < A.length ∨ A.length + N.length ≤ i → ι'[i]? = ι[i]? := fun i hi => by
    rcases hi with hi | hi
    · rw [g1 i (by omega), hag i hi]
    · exact g2 i hi
  -- where a block comes from
  have src : ∀ (t : Nat) (o : AObj) (e : Nat × Nat × Nat), (A ++ N ++ Z)[t]? = some o → ι'[t]? = some e →
      (o ∈ A ++ Z ∧ (A ++ D ++ Z)[t]? = some o ∧ ι[t]? = some e ∧ (t < A.length ∨ A.length + N.length ≤ t)) ∨ (o ∈ N ∧ (Ar ++ N)[t]? = some o ∧ ι1[t]? = some e) := by
    intro t o e ht he
    by_cases h1 : t < A.length
    · rw [List.append_assoc, List.getElem?_append_left h1] at ht
      refine .inl ⟨List.mem_append_left _ (List.mem_of_getElem? ht), ?_, by rw [← g0 t (.inl h1)]; exact he, .inl h1⟩
      rw [List.append_assoc, List.getElem?_append_left h1]; exact ht
    · by_cases h2 : t < A.length + N.length
      · rw [List.append_assoc, List.getElem?_append_right (by omega), List.getElem?_append_left (by omega)] at ht
        refine .inr ⟨List.mem_of_getElem? ht, ?_, by rw [← g1 t h2]; exact he⟩
        rw [List.getElem?_append_right (by omega), hAr]; exact ht
      · rw [List.getElem?_append_right (by simp; omega)] at ht
        refine .inl ⟨List.mem_append_right _ (List.mem_of_getElem? ht), ?_, by rw [← g0 t (.inr (by omega))]; exact he, .inr (by omega)⟩
        rw [List.getElem?_append_right (by simp; omega)]
        rw [← ht]; congr 1; simp; omega
  refine ⟨ι', by show (ι1.take (A.length + N.length) ++ ι.drop (A.length + N.length)).length = _; simp; omega, g0, g1, ⟨by show (ι1.take (A.length + N.length) ++ ι.drop (A.length + N.length)).length = _; simp; omega, fun t o e ht he => ?_, fun t s o o' e e' ht hs he he' hx hlv hne => ?_⟩, ⟨bel.os, bel.tape, bel.output, bel.size, fun b hb _ => bel.block b hb, fun b hb => ?_, loops_all bel.block⟩⟩
  · rcases src t o e ht he with ⟨hm, h1, h2, _⟩ | ⟨hm, h1, h2⟩
    · have := H.obj t o e h1 h2
      exact this.congr (fun hl => bel.block _ (this.block_lt hl)) fun i hi e he => by rw [g0 i (hidA o hm i hi)]; exact he
    · exact (H1.obj t o e h1 h2).congr (fun _ => rfl) fun i hi e he => by rw [g1 i (hidN o hm i hi)]; exact he
  · rcases src t o e ht he with ⟨hm, h1, h2, _⟩ | ⟨hm, h1, h2⟩ <;> rcases src s o' e' hs he' with ⟨hm', h3, h4, _⟩ | ⟨hm', h3, h4⟩
    · exact H.sep t s o o' e e' h1 h3 h2 h4 hx hlv hne
    · have := (H.obj t o e h1 h2).block_lt (by cases o <;> simp_all [AObj.excl, AObj.live])
      have := fresh _ ⟨s, o', e', h3, (isCells_excl (hN o' hm')).1, h4, rfl⟩
      omega
    · have := (H.obj s o' e' h3 h4).block_lt hlv
      have := fresh _ ⟨t, o, e, h1, hx, h2, rfl⟩
      omega
    · exact H1.sep t s o o' e e' h1 h3 h2 h4 hx hlv hne
  · obtain ⟨t, o, e, ht, hx, he, rfl⟩ := hb
    rcases src t o e ht he with ⟨hm, h1, h2, _⟩ | ⟨hm, h1, h2⟩
    · exact .inl ⟨t, o, e, h1, hx, h2, rfl⟩
    · exact .inr (fresh _ ⟨t, o, e, h1, hx, h2, rfl⟩)


theorem drawH_mem {sel : Nat → Bool} : ∀ (es : List (AV × List AObj)) (s : Nat) (o : AObj), o ∈ drawH sel s es → o = .dead ∨ ∃ (i : Nat) (e : AV × List AObj), es[i]? = some e ∧ o ∈ e.2
  | [], s, o, h => by simp [drawH] at h
  | e :: es, s, o, h => by
    simp only [drawH, List.mem_append] at h
    rcases h with h | h
    · split at h
      · exact .inr ⟨0, e, rfl, h⟩
      · exact .inl (List.eq_of_mem_replicate h)
    · rcases drawH_mem es (s + 1) o h with h | ⟨i, e', hi, ho⟩
      · exact .inl h
      · exact .inr ⟨i + 1, e', by simpa using hi, ho⟩

/-- Where operation j's blocks begin, behind those that lay ahead. -/
def off (es : List (AV × List AObj)) (j : Nat) : Nat := (drawH (fun _ => true) 0 (es.take j)).length
theorem off_of (sel : Nat → Bool) (es : List (AV × List AObj)) (j : Nat) : (drawH sel 0 (es.take j)).length = off es j := drawH_len _ _ _ _
theorem off_succ {es : List (AV × List AObj)} {j : Nat} {e : AV × List AObj} (h : es[j]? = some e) : off es (j + 1) = off es j + e.2.length := by
  unfold off
  rw [List.take_add_one, h]
  simp [drawH_append, drawH]
theorem off_le (es : List (AV × List AObj)) {i j : Nat} (h : i ≤ j) : off es i ≤ off es j := by
  obtain ⟨d, rfl⟩ : ∃ d, j = i + d := ⟨j - i, by omega⟩
  induction d with
  | zero => exact Nat.le_refl _
  | succ d ih =>
    refine Nat.le_trans (ih (by omega)) ?_
    cases he : es[i + d]? with
    | none =>
      have hn : es.length ≤ i + d := by simpa using he
      unfold off
      rw [← Nat.add_assoc, List.take_of_length_le hn, List.take_of_length_le (Nat.le_succ_of_le hn)]
      exact Nat.le_refl _
    | some e => have := off_succ he; rw [← Nat.add_assoc]; omega

theorem drawGo_spec {call : ACall} {all : List AI} {tbl : List Nat} {fr0 : List AV} {h0 : AHeap} : ∀ (r : List AI) (j : Nat) (es es' : List (AV × List AObj)), drawGo call all tbl fr0 h0 r j es = some es' → es.length = j →
    (∃ more, es' = es ++ more ∧ more.length = r.length) ∧ ∀ (t : Nat) ai, r[t]? = some ai → ∃ v news, es'[j + t]? = some (v, news) ∧
      drawVal call ai (drawF (fun k => if (tbl.getD (j + t) 0).testBit k then ((es'.take (j + t))[k]?).map (·.1) else none) 0 all fr0) (h0 ++ drawH (fun k => (tbl.getD (j + t) 0).testBit k) 0 (es'.take (j + t))) = some (v, news) ∧
      newsOk h0.length (h0.length + off es' (j + t)) v news = true
  | [], j, es, es', h, hl => by
    simp only [drawGo, Option.some.injEq] at h
    subst h
    exact ⟨⟨[], by simp, rfl⟩, fun t ai ht => by simp at ht⟩
  | i :: r, j, es, es', h, hl => by
    simp only [drawGo] at h
    split at h
    · rename_i v news hv
      split at h
      · rename_i hok
        obtain ⟨⟨more, rfl, hm⟩, ih⟩ := drawGo_spec r (j + 1) _ es' h (by simp [hl])
        refine ⟨⟨(v, news) :: more, by simp, by simp [hm]⟩, fun t ai ht => ?_⟩
        cases t with
        | zero =>
          simp at ht; subst ht
          have ht : ((es ++ [(v, news)]) ++ more).take (j + 0) = es := by rw [List.append_assoc, Nat.add_zero]; exact List.take_left' hl
          refine ⟨v, news, ?_, ?_, ?_⟩
          · rw [List.append_assoc, List.getElem?_append_right (by omega)]; simp [hl]
          · rw [ht]; exact hv
          · rw [← off_of (fun k => (tbl.getD j 0).testBit k), ht]
            rw [List.length_append] at hok
            exact hok
        | succ t =>
          obtain ⟨v', news', h1, h2, h3⟩ := ih t ai (by simpa using ht)
          rw [show j + 1 + t = j + (t + 1) by omega] at h1 h2 h3
          exact ⟨v', news', h1, h2, h3⟩
      · cases h
    · cases h

/-- One operation of a region that draws its order. -/
theorem draw_step {call : ACall} (hcall : CallOk P call) (ops : Array Oper) {o : Oper} {ai : AI} {dd : List Nat} (hci : compI P ops o = some { ai with dead := dd }) {fr : List AV} {h : AHeap} {ι : Emb} {a : Act} {w : World}
    (hf : VRels ι fr a.tmps.toList) (H : HRel ι h w) {v : AV} {news : List AObj} (hv : drawVal call ai fr h = some (v, news)) {K : Act → World → Prop} {Q : Exit → Act → World → Prop} {r : Option Nat}
    (hK : ∀ (ι1 : Emb) (x : Value) (w1 : World) (hr : AHeap), Go.RowKit.Below w.heap.size w w1 → HRel ι1 (hr ++ news) w1 → hr.length = h.length → (∀ i : Nat, i < h.length → ι1[i]? = ι[i]?) → VRel ι1 v x →
      (∀ b, Own (hr ++ news) ι1 b → w.heap.size ≤ b) → K (a.put o.dst x) w1) :
    if Region.wanted o (yielded ops a.tmps) then o.wpIn (fw r) 0 P a w K Q else (∀ f, o.about P w a.eval = some f → (fw r).fn f) ∧ K (a.put o.dst undef) w := by
  have H0 := toRo_rel H
  have hml : (h.map AObj.toRo).length = h.length := by simp
  have fin : ∀ (h' : AHeap) (ι1 : Emb) (w1 : World) (x : Value), After ι (h.map AObj.toRo) w h' ι1 w1 → VRel ι1 v x → news = h'.drop h.length → K (a.put o.dst x) w1 := by
    intro h' ι1 w1 x hA hvx hn
    have hle := hA.le
    rw [hml] at hle
    have e : h'.take h.length ++ news = h' := by rw [hn]; exact List.take_append_drop ..
    refine hK ι1 x w1 (h'.take h.length) (hA.step.to_below fun b => toRo_own b) (by rw [e]; exact hA.rel) (by simp; omega) (fun i hi => hA.agree i (by rw [hml]; exact hi)) hvx fun b hb => ?_
    rw [e] at hb
    exact (hA.step.own b hb).resolve_left (toRo_own b)
  unfold drawVal at hv
  split at hv
  · cases hv
  · rename_i hw
    obtain ⟨hwa, hdst, hop⟩ := wanted_rel (P := P) hf hci hw
    simp only [Option.some.injEq, Prod.mk.injEq] at hv
    simp only [hwa, Bool.false_eq_true, if_false]
    refine ⟨fun _ _ => trivial, fin (h.map AObj.toRo) ι w undef (.refl H0) (by rw [← hv.1]; simp only [VRel]; exact ⟨#[], rfl, .nil⟩) ?_⟩
    rw [← hv.2, List.drop_of_length_le (by rw [hml]; exact Nat.le_refl _)]
  · rename_i hw
    obtain ⟨hwa, hdst, hop⟩ := wanted_rel (P := P) hf hci hw
    simp only [hwa, if_true]
    refine ⟨fun _ _ => trivial, ?_⟩
    rw [Oper.semAt_eq _ _ _ (no_defer hop)]
    split at hv
    · rename_i v' h' hao
      simp only [Option.some.injEq, Prod.mk.injEq] at hv
      obtain ⟨rfl, hn⟩ := hv
      obtain ⟨x, ι1, w1, hrun, hvx, hA, _⟩ := op_good H0 hf hop hao (fun f args he => by cases he)
      rw [hrun]
      exact fin h' ι1 w1 x hA hvx hn.symm
    · rename_i f args hao
      split at hv
      · rename_i v' h' hcv
        simp only [Option.some.injEq, Prod.mk.injEq] at hv
        obtain ⟨rfl, hn⟩ := hv
        obtain ⟨hcb, hs⟩ := hcall noY f args _ v' h' hcv
        obtain ⟨xs, hrun, hxs⟩ := op_good H0 hf hop hao (fun f' args' he => by cases he; exact hcb)
        rw [hrun]
        have hc : CallsIn (fw r) (0 - 1) P f xs w _ := callsIn_wide.2 (hs ι xs w hxs H0 .none)
        refine ⟨fun h => (by cases h), hc.mono ?_⟩
        rintro e w1 ⟨ι1, x, rfl, hvx, hA⟩
        exact fin h' ι1 w1 x hA hvx hn.symm
      · cases hv
    · cases hv

/-- What holds once the operations L have come up. -/
structure DrawSt (lk : List AI) (es : List (AV × List AObj)) (fr0 : List AV) (h0 : AHeap) (ι0 : Emb) (ds : List Deferred) (w0 : World) (L : Nat → Bool) (ι : Emb) (a : Act) (w : World) : Prop where
  rel : HRel ι (h0 ++ drawH L 0 es) w
  fr : FrOk lk fr0 (fun i => if L i then (es[i]?).map (·.1) else none) ι a.tmps.toList
  step : Step h0 ι0 w0 (h0 ++ drawH L 0 es) ι w
  agree : Agree h0.length ι0 ι
  defers : a.defers = ds

theorem put_tmps_ne {a : Act} {d : Option Nat} {x : Value} {y : Nat} (h : d ≠ some y) : (a.put d x).tmps.toList[y]? = a.tmps.toList[y]? := by
  cases d with
  | none => rfl
  | some e =>
    simp only [Act.put, Array.toList_setIfInBounds]
    exact List.getElem?_set_ne (fun h' => h (by rw [h']))
theorem put_tmps_eq {a : Act} {x : Value} {y : Nat} (h : y < a.tmps.toList.length) : (a.put (some y) x).tmps.toList[y]? = some x := by
  simp only [Act.put, Array.toList_setIfInBounds]
  exact List.getElem?_set_self h
theorem put_tmps_len (a : Act) (d : Option Nat) (x : Value) : (a.put d x).tmps.toList.length = a.tmps.toList.length := by
  cases d <;> simp [Act.put]

theorem head_step {call : ACall} (hcall : CallOk P call) (ops : Array Oper) {lk : List AI} {tbl : List Nat} {es : List (AV × List AObj)} {fr0 : List AV} {h0 : AHeap} {ι0 : Emb} {ds : List Deferred} {w0 : World} {L : Nat → Bool} {ι : Emb} {a : Act} {w : World}
    (hlen : es.length = lk.length) (hnd : nodupB (lk.filterMap (·.dst)) = true) (hfr0 : ∀ v ∈ fr0, ∀ i ∈ v.ids, i < h0.length) (hh0 : ∀ o ∈ h0, ∀ i ∈ o.ids, i < h0.length)
    (hes : ∀ (t : Nat) ai, lk[t]? = some ai → ∃ v news, es[t]? = some (v, news) ∧
      drawVal call ai (drawF (fun k => if (tbl.getD t 0).testBit k then ((es.take t)[k]?).map (·.1) else none) 0 lk fr0) (h0 ++ drawH (fun k => (tbl.getD t 0).testBit k) 0 (es.take t)) = some (v, news) ∧
      newsOk h0.length (h0.length + off es t) v news = true)
    (S : DrawSt lk es fr0 h0 ι0 ds w0 L ι a w) {j : Nat} {o : Oper} {ai : AI} {dd : List Nat} (hj : lk[j]? = some ai) (hci : compI P ops o = some { ai with dead := dd }) (hLj : L j = false) (hT : ∀ i, (tbl.getD j 0).testBit i = true → L i = true)
    {K : Act → World → Prop} {Q : Exit → Act → World → Prop} {r : Option Nat} (hK : ∀ ι' a' w', DrawSt lk es fr0 h0 ι0 ds w0 (fun i => if i = j then true else L i) ι' a' w' → K a' w') :
    if Region.wanted o (yielded ops a.tmps) then o.wpIn (fw r) 0 P a w K Q else (∀ f, o.about P w a.eval = some f → (fw r).fn f) ∧ K (a.put o.dst undef) w := by
  obtain ⟨v, news, hej, hval, hok⟩ := hes j ai hj
  have hjl : j < es.length := (List.getElem?_eq_some_iff.1 hej).1
  have hsplit : es = es.take j ++ (v, news) :: es.drop (j + 1) := by
    conv => lhs; rw [← List.take_append_drop j es]
    rw [List.drop_eq_getElem_cons hjl, (List.getElem?_eq_some_iff.1 hej).2]
  -- an operation's values name only blocks that lay ahead, and its own
  have hids : ∀ (i : Nat) (u : AV) (ns : List AObj), es[i]? = some (u, ns) → newsOk h0.length (h0.length + off es i) u ns = true := fun i u ns hi => by
    have hil : i < lk.length := by rw [← hlen]; exact (List.getElem?_eq_some_iff.1 hi).1
    obtain ⟨u', ns', h1, _, h2⟩ := hes i lk[i] (List.getElem?_eq_getElem hil)
    rw [hi] at h1; cases h1; exact h2
  have hoff1 : ∀ (i : Nat) (u : AV) (ns : List AObj), es[i]? = some (u, ns) → i < j → off es i + ns.length ≤ off es j := fun i u ns hi hij => by
    have := off_succ hi
    have := off_le es (show i + 1 ≤ j by omega)
    simp only at *; omega
  have hoff2 : ∀ i : Nat, j < i → off es j + news.length ≤ off es i := fun i hij => by
    have := off_succ hej
    have := off_le es (show j + 1 ≤ i by omega)
    simp only at *; omega
  obtain ⟨A, hA⟩ : ∃ A, A = h0 ++ drawH L 0 (es.take j) := ⟨_, rfl⟩
  obtain ⟨Z, hZ⟩ : ∃ Z, Z = drawH L (j + 1) (es.drop (j + 1)) := ⟨_, rfl⟩
  have hAl : A.length = h0.length + off es j := by rw [hA, List.length_append, off_of]
  have htl : (es.take j).length = j := by simp; omega
  have hall : h0 ++ drawH L 0 es = A ++ List.replicate news.length .dead ++ Z := by
    conv => lhs; rw [hsplit]
    rw [drawH_append, drawH, htl, Nat.zero_add, hLj, if_neg (by simp), hA, hZ]
    simp
  have hall' : h0 ++ drawH (fun i => if i = j then true else L i) 0 es = A ++ news ++ Z := by
    conv => lhs; rw [hsplit]
    rw [drawH_append, drawH, htl, Nat.zero_add, if_pos (by simp), hA, hZ,
      drawH_congr (sel := fun i => if i = j then true else L i) (sel' := L) (es.take j) 0 (fun i _ hi => by rw [htl] at hi; exact if_neg (by omega)),
      drawH_congr (sel := fun i => if i = j then true else L i) (sel' := L) (es.drop (j + 1)) (j + 1) (fun i hi _ => if_neg (by omega))]
    simp
  obtain ⟨hj', hhj⟩ : ∃ h, h = h0 ++ drawH (fun k => (tbl.getD j 0).testBit k) 0 (es.take j) := ⟨_, rfl⟩
  have hhjl : hj'.length = A.length := by rw [hhj, hAl, List.length_append, off_of]
  rw [← hhj] at hval
  have H := S.rel
  rw [hall] at H
  -- the memory that the operation sees
  have Hcut : HRel (ι.take hj'.length) hj' w := by
    refine H.cut (by rw [hhjl]; simp) fun t o' ht => ?_
    rw [hhj] at ht
    by_cases h1 : t < h0.length
    · rw [List.getElem?_append_left h1] at ht
      refine .inr ⟨?_, fun i hi => ?_⟩
      · rw [List.append_assoc, List.getElem?_append_left (by rw [hAl]; omega), hA, List.getElem?_append_left h1]; exact ht
      · have := hh0 o' (List.mem_of_getElem? ht) i hi
        rw [hhjl, hAl]; omega
    · rw [List.getElem?_append_right (by omega)] at ht
      rcases drawH_less (sel' := L) (es.take j) 0 (fun i _ _ hi => hT i hi) _ o' ht with hd | hd
      · exact .inl hd
      · by_cases hdead : o' = .dead
        · exact .inl hdead
        · have htb : t < A.length := by
            have := (List.getElem?_eq_some_iff.1 hd).1
            rw [off_of] at this
            rw [hAl]; omega
          refine .inr ⟨?_, fun i hi => ?_⟩
          · rw [List.append_assoc, List.getElem?_append_left htb, hA, List.getElem?_append_right (by omega)]; exact hd
          · rcases drawH_mem _ _ o' (List.mem_of_getElem? hd) with h2 | ⟨i', e', he', ho'⟩
            · exact absurd h2 hdead
            · have hi'j : i' < j := by have := (List.getElem?_eq_some_iff.1 he').1; rw [htl] at this; exact this
              rw [List.getElem?_take, if_pos hi'j] at he'
              have := (newsOk_o (hids i' e'.1 e'.2 he') o' ho').2 i hi
              have := hoff1 i' e'.1 e'.2 he' hi'j
              rw [hhjl, hAl]; omega
  have up : ∀ (u : AV) (y : Value), (∀ i ∈ u.ids, i < A.length) → VRel ι u y → VRel (ι.take hj'.length) u y := fun u y hu h => VRel.congr u y (fun i hi e he => by
    rw [List.getElem?_take, if_pos (by rw [hhjl]; exact hu i hi)]; exact he) h
  have hf := (S.fr.less (sel' := fun k => if (tbl.getD j 0).testBit k then ((es.take j)[k]?).map (·.1) else none) (ι' := ι.take hj'.length)
    (fun i u _ hu => by
      split at hu
      · rename_i hb
        show (if L i = true then _ else _) = _
        rw [if_pos (hT i hb)]
        rw [List.getElem?_take] at hu
        split at hu
        · exact hu
        · cases hu
      · cases hu)
    (fun u hu y h => up u y (fun i hi => by have := hfr0 u hu i hi; rw [hAl]; omega) h)
    (fun i u _ hu y h => up u y (fun i' hi' => by
      split at hu
      · rw [List.getElem?_take] at hu
        split at hu
        · rename_i hij
          cases hei : es[i]? with
          | none => rw [hei] at hu; cases hu
          | some e =>
            rw [hei] at hu
            cases hu
            have := newsOk_v (hids i e.1 e.2 hei) i' hi'
            have := hoff1 i e.1 e.2 hei hij
            rw [hAl]; omega
        · cases hu
      · cases hu) h)).rel
  refine draw_step hcall ops hci hf Hcut hval fun ι1 x w1 hr bel H1 hrl hag hvx fresh => ?_
  have idsA : ∀ o ∈ A ++ Z, ∀ i ∈ o.ids, i < A.length ∨ A.length + news.length ≤ i := by
    intro o' ho' i hi
    rcases List.mem_append.1 ho' with ho' | ho'
    · left
      rw [hA] at ho'
      rcases List.mem_append.1 ho' with ho' | ho'
      · have := hh0 o' ho' i hi; rw [hAl]; omega
      · rcases drawH_mem _ _ o' ho' with rfl | ⟨i', e', he', hoe⟩
        · simp [AObj.ids] at hi
        · have hi'j : i' < j := by have := (List.getElem?_eq_some_iff.1 he').1; rw [htl] at this; exact this
          rw [List.getElem?_take, if_pos hi'j] at he'
          have := (newsOk_o (hids i' e'.1 e'.2 he') o' hoe).2 i hi
          have := hoff1 i' e'.1 e'.2 he' hi'j
          rw [hAl]; omega
    · rw [hZ] at ho'
      rcases drawH_mem _ _ o' ho' with rfl | ⟨i', e', he', hoe⟩
      · simp [AObj.ids] at hi
      · rw [List.getElem?_drop] at he'
        have := (newsOk_o (hids _ e'.1 e'.2 he') o' hoe).2 i hi
        have := hoff2 (j + 1 + i') (by omega)
        rw [hAl]; omega
  have idsN : ∀ o ∈ news, ∀ i ∈ o.ids, i < A.length + news.length := fun o' ho' i hi => by
    have := (newsOk_o hok o' ho').2 i hi
    rw [hAl]; omega
  obtain ⟨ι', hl', g0, g1, H', St⟩ := H.fill (N := news) (by simp) H1 (by rw [hrl, hhjl]) (fun i hi => by
      rw [hag i (by rw [hhjl]; exact hi), List.getElem?_take, if_pos (by rw [hhjl]; exact hi)]) bel (fun o' ho' => (newsOk_o hok o' ho').1) fresh idsA idsN
  have up' : ∀ (u : AV) (y : Value), (∀ i ∈ u.ids, i < A.length ∨ A.length + news.length ≤ i) → VRel ι u y → VRel ι' u y := fun u y hu h => VRel.congr u y (fun i hi e he => by rw [g0 i (hu i hi)]; exact he) h
  have hdst : ai.dst = o.dst := by
    unfold compI at hci
    split at hci
    · cases hci
    · split at hci
      · exact (congrArg AI.dst (Option.some.inj hci)).symm
      · split at hci
        · exact (congrArg AI.dst (Option.some.inj hci)).symm
        · cases hci
  rw [← hall, ← hall'] at St
  rw [← hall'] at H'
  refine hK ι' _ w1 ⟨H', ⟨by rw [put_tmps_len]; exact S.fr.len, fun y hy u hu => ?_, fun i bi u y hi hd hu hyl => ?_⟩, S.step.trans St, fun i hi => ?_, (put_defers ..).trans S.defers⟩
  · obtain ⟨z, hz, hr'⟩ := S.fr.old y hy u hu
    refine ⟨z, by rw [put_tmps_ne (by rw [← hdst]; exact hy j ai hj)]; exact hz, up' u z (fun i hi => .inl ?_) hr'⟩
    have := hfr0 u (List.mem_of_getElem? hu) i hi
    rw [hAl]; omega
  · by_cases hij : i = j
    · subst hij
      rw [hj] at hi; cases hi
      simp only [if_true, hej, Option.map_some, Option.some.injEq] at hu
      subst hu
      rw [hd] at hdst
      refine ⟨x, by rw [← hdst]; exact put_tmps_eq (by rw [← S.fr.len]; exact hyl), VRel.congr v x (fun i' hi' e he => ?_) hvx⟩
      have := newsOk_v hok i' hi'
      rw [g1 i' (by rw [hAl]; omega)]; exact he
    · simp only [if_neg hij] at hu
      obtain ⟨z, hz, hr'⟩ := S.fr.new i bi u y hi hd hu hyl
      refine ⟨z, by rw [put_tmps_ne (fun h => hij (dst_inj hnd hi hj hd (by rw [hdst]; exact h)))]; exact hz, up' u z (fun i' hi' => ?_) hr'⟩
      split at hu
      · cases hei : es[i]? with
        | none => rw [hei] at hu; cases hu
        | some e =>
          rw [hei] at hu
          cases hu
          have := newsOk_v (hids i e.1 e.2 hei) i' hi'
          rcases Nat.lt_or_gt_of_ne hij with h | h
          · have := hoff1 i e.1 e.2 hei h
            rw [hAl]; omega
          · have := hoff2 i h
            rw [hAl]; omega
      · cases hu
  · rw [g0 i (.inl (by rw [hAl]; omega))]; exact S.agree i hi


theorem compL_get {ops : Array Oper} : ∀ (l : List Oper) (is : List AI), CompL P ops l is → l.length = is.length ∧ ∀ (j : Nat) o ai, l[j]? = some o → is[j]? = some ai → ∃ d, compI P ops o = some { ai with dead := d }
  | [], [], _ => ⟨rfl, fun j o ai h => by simp at h⟩
  | [], _ :: _, h => by simp [CompL] at h
  | _ :: _, [], h => by simp [CompL] at h
  | o :: l, ai :: is, h => by
    obtain ⟨h1, h2⟩ := h
    obtain ⟨hl, ih⟩ := compL_get l is h2
    refine ⟨by simp [hl], fun j o' ai' ho hi => ?_⟩
    cases j with
    | zero => simp at ho hi; subst ho hi; exact h1
    | succ j => exact ih j o' ai' (by simpa using ho) (by simpa using hi)

theorem killAll_rel {ι : Emb} : ∀ (l : List AI) {fr : List AV} {xs : List Value}, VRels ι fr xs → VRels ι (killAll l fr) xs
  | [], fr, xs, h => h
  | i :: l, fr, xs, h => by simp only [killAll]; exact killAll_rel l (kill_rel i.dead h)

theorem countP_lt {p q : Nat → Bool} : ∀ (l : List Nat), (∀ x ∈ l, p x = true → q x = true) → (∃ x ∈ l, q x = true ∧ p x = false) → l.countP p < l.countP q
  | [], _, ⟨x, hx, _⟩ => by cases hx
  | a :: l, h, ⟨x, hx, hq, hp⟩ => by
    have hle : l.countP p ≤ l.countP q := List.countP_mono_left fun x hx => h x (List.mem_cons_of_mem _ hx)
    rw [List.countP_cons, List.countP_cons]
    rcases List.mem_cons.1 hx with rfl | hx
    · rw [hp, hq]; simp; omega
    · have := countP_lt l (fun x hx => h x (List.mem_cons_of_mem _ hx)) ⟨x, hx, hq, hp⟩
      have ha := h a List.mem_cons_self
      cases hpa : p a with
      | true => rw [ha hpa]; simp; omega
      | false => simp; split <;> omega

theorem waits_ready {o : Oper} {listed : Array Bool} : (∀ e ∈ o.after, Region.binds .any e = true → listed.getD e.on false = true) ↔ ∀ e ∈ waits o, listed.getD e false = true := by
  unfold waits
  simp only [List.mem_map, List.mem_filter, Array.mem_toList_iff]
  exact ⟨fun h e ⟨x, ⟨h1, h2⟩, he⟩ => he ▸ h x h1 h2, fun h e h1 h2 => h _ ⟨e, ⟨h1, h2⟩, rfl⟩⟩

section
variable {call : ACall} (hcall : CallOk P call) {Y : AYs} {ops : Array Oper} {l : List AI} {tbl : List Nat} {k : Nat}
include hcall

/-- The operations that wait for all before them. -/
theorem draw_tail (hl : ∀ (j : Nat) o ai, ops.toList[j]? = some o → l[j]? = some ai → ∃ d, compI P ops o = some { ai with dead := d }) (hll : l.length = ops.size) (hT : TblOk ops tbl) (hlt : ∀ j o, ops[j]? = some o → ∀ e ∈ waits o, e < j)
    (hbar : ∀ j, k ≤ j → j < ops.size → ∀ i, i < j → (tbl.getD j 0).testBit i = true) {Q : Exit → Act → World → Prop} {r : Option Nat} {n0 : Nat} : ∀ (d t : Nat) (listed : Array Bool) (fr fr' : List AV) (h h' : AHeap) (ι : Emb) (a : Act) (w : World),
    t + d = ops.size → k ≤ t → listed.size = ops.size → (∀ i, i < ops.size → listed.getD i true = decide (i < t)) → VRels ι fr a.tmps.toList → HRel ι h w → YOk P Y n0 ι w → n0 ≤ h.length → aOps call Y (l.drop t) fr h = some (fr', h') →
    (∀ ι' a' w', After ι h w h' ι' w' → VRels ι' fr' a'.tmps.toList → a'.defers = a.defers → Q .normal a' w') → ∀ fuel, d ≤ fuel → wpAnyIn (fw r) 0 P .any ops Q fuel listed a w
  | 0, t, listed, fr, fr', h, h', ι, a, w, ht, hk, hsz, hL, hf, H, hY, hn, hr, hq, fuel, hfu => by
    rw [List.drop_of_length_le (by omega)] at hr
    simp only [aOps, Option.some.injEq, Prod.mk.injEq] at hr
    obtain ⟨rfl, rfl⟩ := hr
    refine wpAnyIn_done ?_ (hq ι a w (.refl H) hf rfl) fuel
    refine List.filter_eq_nil_iff.2 fun i hi => ?_
    rw [List.mem_range] at hi
    rw [hL i hi]
    simp; omega
  | d + 1, t, listed, fr, fr', h, h', ι, a, w, ht, hk, hsz, hL, hf, H, hY, hn, hr, hq, fuel, hfu => by
    have htl : t < l.length := by omega
    have hts : t < ops.size := by omega
    have hot : ops[t]? = some ops[t] := Array.getElem?_eq_getElem hts
    have hgD : ∀ i, i < ops.size → listed.getD i false = decide (i < t) := fun i hi => by
      rw [← hL i hi]
      simp [hsz, hi]
    -- t may come up, and nothing else
    have hready : t ∈ Region.ready .any ops listed := mem_ready.2 ⟨by rw [hL t hts]; simp, ops[t], hot, waits_ready.2 fun e he => by
      have := hlt t _ hot e he
      rw [hgD e (by omega)]; simpa using this⟩
    have honly : ∀ i ∈ Region.ready .any ops listed, i = t := fun i hi => by
      obtain ⟨hun, oi, hoi, hall⟩ := mem_ready.1 hi
      have his : i < ops.size := (Array.getElem?_eq_some_iff.1 hoi).1
      rw [hL i his] at hun
      simp at hun
      rcases Nat.lt_or_ge t i with h' | h'
      · have hb := hbar i (by omega) his t h'
        have hcl : Closed ops (fun i => listed.getD i false) := fun i o ho hi e he => by
          have his := (Array.getElem?_eq_some_iff.1 ho).1
          have hit : i < t := by have := hgD i his; simp only at hi; rw [this] at hi; simpa using hi
          have := hlt i o ho e he
          show listed.getD e false = true
          rw [hgD e (by omega)]; simp; omega
        have hLt : listed.getD t false = true := hT i t hb (fun i => listed.getD i false) hcl fun o ho e he => by
          rw [hoi] at ho; cases ho
          exact waits_ready.1 hall e he
        rw [hgD t hts] at hLt
        simp at hLt
      · omega
    cases fuel with
    | zero => omega
    | succ fuel =>
      refine ⟨fun h0 => (by rw [h0] at hready; cases hready), fun i hi => ?_⟩
      obtain rfl := honly i hi
      rw [List.drop_eq_getElem_cons htl] at hr
      simp only [aOps] at hr
      split at hr
      · cases hr
      · rename_i fr1 h1 hst
        obtain ⟨dd, hci⟩ := hl i ops[i] l[i] (by simp) (List.getElem?_eq_getElem htl)
        unfold wpOpIn
        simp only [hot]
        refine step_sound hcall ops hci hf H hY hn hst fun ι1 a1 w1 hA hf1 hd1 => ?_
        refine draw_tail hl hll hT hlt hbar d (i + 1) _ fr1 fr' h1 h' ι1 a1 w1 (by omega) (by omega) (by simpa using hsz) (fun i' hi' => ?_) hf1 hA.rel (hY.later (hA.later hn)) (Nat.le_trans hn hA.le) hr
          (fun ι2 a2 w2 hA2 hf2 hd2 => hq ι2 a2 w2 (hA.trans hA2) hf2 (hd2.trans hd1)) fuel (by omega)
        by_cases hii : i' = i
        · subst hii
          simp [hsz, hi']
        · have := hL i' hi'
          have e : (listed.setIfInBounds i true).getD i' true = listed.getD i' true := getD_set_ne true (fun h => hii h.symm)
          rw [e, this]
          simp; omega

theorem draw_head (hl : ∀ (j : Nat) o ai, ops.toList[j]? = some o → l[j]? = some ai → ∃ d, compI P ops o = some { ai with dead := d }) (hll : l.length = ops.size) (hT : TblOk ops tbl) (hlt : ∀ j o, ops[j]? = some o → ∀ e ∈ waits o, e < j)
    (hbar : ∀ j, k ≤ j → j < ops.size → ∀ i, i < j → (tbl.getD j 0).testBit i = true) (hkl : k ≤ l.length) (hnd : nodupB ((l.take k).filterMap (·.dst)) = true) {es : List (AV × List AObj)} {fr0 fr1 fr' : List AV} {h0 h1 h' : AHeap} {ι0 : Emb} {ds : List Deferred} {w0 : World}
    (hlen : es.length = (l.take k).length) (hfr0 : ∀ v ∈ fr0, ∀ i ∈ v.ids, i < h0.length) (hh0 : ∀ o ∈ h0, ∀ i ∈ o.ids, i < h0.length)
    (hes : ∀ (t : Nat) ai, (l.take k)[t]? = some ai → ∃ v news, es[t]? = some (v, news) ∧
      drawVal call ai (drawF (fun k => if (tbl.getD t 0).testBit k then ((es.take t)[k]?).map (·.1) else none) 0 (l.take k) fr0) (h0 ++ drawH (fun k => (tbl.getD t 0).testBit k) 0 (es.take t)) = some (v, news) ∧
      newsOk h0.length (h0.length + off es t) v news = true)
    (hf1 : fr1 = killAll (l.take k) (drawF (fun k => (es[k]?).map (·.1)) 0 (l.take k) fr0)) (hh1 : h1 = h0 ++ drawH (fun _ => true) 0 es)
    {Q : Exit → Act → World → Prop} {r : Option Nat} {n0 : Nat} (hY : YOk P Y n0 ι0 w0) (hn : n0 ≤ h0.length) (hr : aOps call Y (l.drop k) fr1 h1 = some (fr', h'))
    (hq : ∀ ι' a' w', HRel ι' h' w' → Step h0 ι0 w0 h' ι' w' → Agree h0.length ι0 ι' → h0.length ≤ h'.length → VRels ι' fr' a'.tmps.toList → a'.defers = ds → Q .normal a' w') : ∀ (fuel : Nat) (listed : Array Bool) (ι : Emb) (a : Act) (w : World),
    listed.size = ops.size → (List.range ops.size).countP (fun i => !listed.getD i true) ≤ fuel → Closed ops (fun i => listed.getD i false) → (∀ i, k ≤ i → listed.getD i false = false) → DrawSt (l.take k) es fr0 h0 ι0 ds w0 (fun i => listed.getD i false) ι a w → wpAnyIn (fw r) 0 P .any ops Q fuel listed a w := by
  intro fuel
  induction fuel with
  | zero => 
    intro listed ι a w hsz hc hcl hkk S
    by_cases hall : ∀ i, i < k → listed.getD i false = true
    · have hk0 : k = ops.size := by
        rcases Nat.lt_or_ge k ops.size with h | h
        · have h3 := List.countP_eq_zero.1 (Nat.le_zero.1 hc) k (List.mem_range.2 h)
          have h4 := hkk k (Nat.le_refl _)
          simp [hsz, h] at h3 h4
          rw [h3] at h4; cases h4
        · omega
      have hsel : ∀ i, i < es.length → listed.getD i false = true := fun i hi => hall i (by rw [hlen] at hi; simp at hi; omega)
      have e1 : drawH (fun i => listed.getD i false) 0 es = drawH (fun _ => true) 0 es := drawH_congr es 0 fun i _ hi => hsel i (by simpa using hi)
      have hrel := S.rel
      have hst := S.step
      rw [e1, ← hh1] at hrel hst
      refine draw_tail hcall hl hll hT hlt hbar 0 k listed fr1 fr' h1 h' ι a w (by omega) (Nat.le_refl _) hsz (fun i hi => ?_) ?_ hrel (hY.later ⟨fun i hi => S.agree i (by omega), S.step.loops⟩) (by rw [hh1, List.length_append]; omega) hr (fun ι2 a2 w2 hA2 hf2 hd2 => hq ι2 a2 w2 hA2.rel (hst.trans hA2.step) (S.agree.trans (hA2.agree.less (by rw [hh1, List.length_append]; omega))) (Nat.le_trans (by rw [hh1, List.length_append]; omega) hA2.le) hf2 (hd2.trans S.defers)) 0 (Nat.le_refl _)
      · have := hall i (by omega)
        simp [hsz, hi] at this ⊢
        rw [this]; simp; omega
      · rw [hf1]
        exact killAll_rel _ (S.fr.less (sel' := fun k => (es[k]?).map (·.1)) (ι' := ι) (fun i v hi hv => by
          show (if listed.getD i false = true then _ else _) = _
          rw [if_pos (hsel i (by rw [hlen]; exact hi))]; exact hv) (fun _ _ _ h => h) (fun _ _ _ _ _ h => h)).rel
    · exfalso
      refine hall fun i hi => ?_
      have his : i < ops.size := by omega
      have h3 := List.countP_eq_zero.1 (Nat.le_zero.1 hc) i (List.mem_range.2 his)
      simp [hsz, his] at h3 ⊢
      exact h3
  | succ fuel ih =>
    intro listed ι a w hsz hc hcl hkk S
    by_cases hall : ∀ i, i < k → listed.getD i false = true
    · have hsel : ∀ i, i < es.length → listed.getD i false = true := fun i hi => hall i (by rw [hlen] at hi; simp at hi; omega)
      have e1 : drawH (fun i => listed.getD i false) 0 es = drawH (fun _ => true) 0 es := drawH_congr es 0 fun i _ hi => hsel i (by simpa using hi)
      have hrel := S.rel
      have hst := S.step
      rw [e1, ← hh1] at hrel hst
      have hcnt : ops.size - k ≤ fuel + 1 := by
        refine Nat.le_trans ?_ hc
        have : ∀ m, k ≤ m → m ≤ ops.size → m - k ≤ (List.range m).countP (fun i => !listed.getD i true) := by
          intro m
          induction m with
          | zero => intro h1 _; omega
          | succ m ihm =>
            intro h1 h2
            rw [List.range_succ, List.countP_append]
            by_cases hm : k ≤ m
            · have := ihm hm (by omega)
              have h4 := hkk m hm
              have hms : m < ops.size := by omega
              simp [hsz, hms] at h4
              have : [m].countP (fun i => !listed.getD i true) = 1 := by simp [hsz, hms, h4]
              omega
            · omega
        exact this _ (by omega) (Nat.le_refl _)
      refine draw_tail hcall hl hll hT hlt hbar (ops.size - k) k listed fr1 fr' h1 h' ι a w (by omega) (Nat.le_refl _) hsz (fun i hi => ?_) ?_ hrel (hY.later ⟨fun i hi => S.agree i (by omega), S.step.loops⟩) (by rw [hh1, List.length_append]; omega) hr (fun ι2 a2 w2 hA2 hf2 hd2 => hq ι2 a2 w2 hA2.rel (hst.trans hA2.step) (S.agree.trans (hA2.agree.less (by rw [hh1, List.length_append]; omega))) (Nat.le_trans (by rw [hh1, List.length_append]; omega) hA2.le) hf2 (hd2.trans S.defers)) (fuel + 1) hcnt
      · by_cases hik : i < k
        · have := hall i hik
          simp [hsz, hi] at this ⊢
          rw [this]; simpa using hik
        · have := hkk i (by omega)
          simp [hsz, hi] at this ⊢
          rw [this]; simpa using hik
      · rw [hf1]
        exact killAll_rel _ (S.fr.less (sel' := fun k => (es[k]?).map (·.1)) (ι' := ι) (fun i v hi hv => by
          show (if listed.getD i false = true then _ else _) = _
          rw [if_pos (hsel i (by rw [hlen]; exact hi))]; exact hv) (fun _ _ _ h => h) (fun _ _ _ _ _ h => h)).rel
    · -- some operation of the first ones has not come up
      have hex : ∃ i, i < k ∧ listed.getD i false = false := by
        rcases Classical.em (∃ i, i < k ∧ listed.getD i false = false) with h | h
        · exact h
        · refine absurd (fun i hi => ?_) hall
          cases hv : listed.getD i false with
          | true => rfl
          | false => exact absurd ⟨i, hi, hv⟩ h
      -- the least of them may come up
      have hmin : ∃ j ∈ Region.ready .any ops listed, True := by
        obtain ⟨i0, hi0, hu0⟩ := hex
        have : ∀ m i, i ≤ m → i < k → listed.getD i false = false → ∃ j ∈ Region.ready .any ops listed, True := by
          intro m
          induction m using Nat.strongRecOn with
          | _ m ihm =>
            intro i him hik hu
            have his : i < ops.size := by omega
            have hoi : ops[i]? = some ops[i] := Array.getElem?_eq_getElem his
            by_cases hw : ∀ e ∈ waits ops[i], listed.getD e false = true
            · exact ⟨i, mem_ready.2 ⟨by simp [hsz, his] at hu ⊢; exact hu, _, hoi, waits_ready.2 hw⟩, trivial⟩
            · have : ∃ e ∈ waits ops[i], listed.getD e false = false := by
                rcases Classical.em (∃ e ∈ waits ops[i], listed.getD e false = false) with h | h
                · exact h
                · refine absurd (fun e he => ?_) hw
                  cases hv : listed.getD e false with
                  | true => rfl
                  | false => exact absurd ⟨e, he, hv⟩ h
              obtain ⟨e, he, hue⟩ := this
              have hei := hlt i _ hoi e he
              exact ihm e (by omega) e (Nat.le_refl _) (by omega) hue
        exact this i0 i0 (Nat.le_refl _) hi0 hu0
      refine ⟨fun h0 => (by obtain ⟨j, hj, _⟩ := hmin; rw [h0] at hj; cases hj), fun i hi => ?_⟩
      obtain ⟨hun, oi, hoi, hrd⟩ := mem_ready.1 hi
      have his : i < ops.size := (Array.getElem?_eq_some_iff.1 hoi).1
      have hwr := waits_ready.1 hrd
      have hTi : ∀ i', (tbl.getD i 0).testBit i' = true → listed.getD i' false = true := fun i' hb => hT i i' hb (fun i => listed.getD i false) hcl fun o ho e he => by
        rw [hoi] at ho; cases ho
        exact hwr e he
      have hik : i < k := by
        rcases Nat.lt_or_ge i k with h | h
        · exact h
        · obtain ⟨i0, hi0, hu0⟩ := hex
          have := hTi i0 (hbar i h his i0 (by omega))
          rw [hu0] at this; cases this
      have hui : listed.getD i false = false := by simp [hsz, his] at hun ⊢; exact hun
      have hil : i < l.length := by omega
      obtain ⟨dd, hci⟩ := hl i oi l[i] (by simpa using hoi) (List.getElem?_eq_getElem hil)
      unfold wpOpIn
      simp only [hoi]
      refine head_step hcall ops hlen hnd hfr0 hh0 hes S (j := i) (ai := l[i]) (by rw [List.getElem?_take, if_pos hik]; exact List.getElem?_eq_getElem hil) hci hui hTi fun ι' a' w' S' => ?_
      have hset : (fun i' => (listed.setIfInBounds i true).getD i' false) = fun i' => if i' = i then true else listed.getD i' false := by
        funext i'
        by_cases hii : i' = i
        · subst hii; simp [hsz, his]
        · rw [if_neg hii]; exact getD_set_ne false (fun h => hii h.symm)
      refine ih _ ι' a' w' (by simpa using hsz) ?_ ?_ ?_ (by rw [hset]; exact S')
      · have := countP_lt (p := fun i' => !(listed.setIfInBounds i true).getD i' true) (q := fun i' => !listed.getD i' true) (List.range ops.size) (fun x hx hp => ?_) ⟨i, List.mem_range.2 his, by simp [hsz, his] at hun ⊢; exact hun, by simp [hsz, his]⟩
        · omega
        · by_cases hxi : x = i
          · subst hxi; simp [hsz, his] at hp
          · have e : (listed.setIfInBounds i true).getD x true = listed.getD x true := getD_set_ne true (fun h => hxi h.symm)
            rw [e] at hp; exact hp
      · rw [hset]
        intro i' o ho hi' e he
        simp only at hi' ⊢
        by_cases hee : e = i
        · rw [if_pos hee]
        · rw [if_neg hee]
          by_cases hii : i' = i
          · subst hii
            rw [hoi] at ho; cases ho
            exact hwr e he
          · rw [if_neg hii] at hi'
            exact hcl i' o ho hi' e he
      · intro i' hi'
        have := congrFun hset i'
        refine this.trans ?_
        show (if i' = i then true else listed.getD i' false) = false
        rw [if_neg (by omega)]
        exact hkk i' hi'
end

/-- Blocks that are still to come. -/
theorem HRel.app_dead {ι : Emb} {h : AHeap} {w : World} (H : HRel ι h w) (m : Nat) : HRel (ι ++ List.replicate m (0, 0, 0)) (h ++ List.replicate m .dead) w := by
  have hl := H.len
  have old : ∀ (t : Nat) (o : AObj) (e : Nat × Nat × Nat), (h ++ List.replicate m .dead)[t]? = some o → (ι ++ List.replicate m (0, 0, 0))[t]? = some e → o = .dead ∨ (h[t]? = some o ∧ ι[t]? = some e) := by
    intro t o e ht he
    by_cases hth : t < h.length
    · rw [List.getElem?_append_left hth] at ht
      rw [List.getElem?_append_left (by omega)] at he
      exact .inr ⟨ht, he⟩
    · rw [List.getElem?_append_right (by omega), List.getElem?_replicate] at ht
      split at ht
      · cases ht; exact .inl rfl
      · cases ht
  refine ⟨by simp [hl], fun t o e ht he => ?_, fun t s o o' e e' ht hs he he' hx hlv hne => ?_⟩
  · rcases old t o e ht he with rfl | ⟨h1, h2⟩
    · trivial
    · exact (H.obj t o e h1 h2).mono (fun i e hi => by rw [List.getElem?_append_left (emb_lt hi)]; exact hi) (fun _ => rfl)
  · rcases old t o e ht he with rfl | ⟨h1, h2⟩
    · simp [AObj.excl] at hx
    · rcases old s o' e' hs he' with rfl | ⟨h3, h4⟩
      · simp [AObj.live] at hlv
      · exact H.sep t s o o' e e' h1 h3 h2 h4 hx hlv hne

theorem drawH_none : ∀ (es : List (AV × List AObj)) (s : Nat), drawH (fun _ => false) s es = List.replicate (drawH (fun _ => true) s es).length .dead
  | [], s => rfl
  | e :: es, s => by
    simp only [drawH, Bool.false_eq_true, if_false, if_true, List.length_append]
    rw [drawH_none es, ← List.replicate_append_replicate]

/-- A region that draws its order. -/
theorem draw_sound (hm : P.follows .mixedOrders = true) {call : ACall} (hcall : CallOk P call) {Y : AYs} {ops : Array Oper} {l : List AI} {k : Nat} (hc : CompL P ops ops.toList l) (hok : drawOk ops l (cloT (ops.toList.map waits) []) k = true)
    {fr0 fr1 fr' : List AV} {h0 h1 h' : AHeap} {ι : Emb} {a : Act} {w : World} (hf : VRels ι fr0 a.tmps.toList) (H : HRel ι h0 w) {n0 : Nat} (hY : YOk P Y n0 ι w) (hn : n0 ≤ h0.length) (hd : aDraw call (l.take k) (cloT (ops.toList.map waits) []) fr0 h0 = some (fr1, h1))
    (hr : aOps call Y (l.drop k) fr1 h1 = some (fr', h')) {Q : Exit → Act → World → Prop} {r : Option Nat} {id : Nat} (hq : ∀ ι' a' w', After ι h0 w h' ι' w' → VRels ι' fr' a'.tmps.toList → a'.defers = a.defers → Q .normal a' w') :
    (Code.region id ops true).wpIn (fw r) 0 P Q a w := by
  obtain ⟨hll, hget⟩ := compL_get _ _ hc
  simp at hll
  simp only [drawOk, Bool.and_eq_true, decide_eq_true_eq] at hok
  obtain ⟨⟨⟨hw, hnd⟩, hkl⟩, hb⟩ := hok
  have hlt : ∀ j o, ops[j]? = some o → ∀ e ∈ waits o, e < j := fun j o ho e he => by
    have := List.all_eq_true.1 hw (o, j) (by
      rw [List.mem_zipIdx_iff_getElem?]
      simpa using ho)
    have := List.all_eq_true.1 this e he
    simpa using this
  have hbar : ∀ j, k ≤ j → j < ops.size → ∀ i, i < j → ((cloT (ops.toList.map waits) []).getD j 0).testBit i = true := fun j hkj hj i hij => by
    have := List.all_eq_true.1 hb j (List.mem_range.2 (by omega))
    simp only [Bool.or_eq_true, decide_eq_true_eq] at this
    exact List.all_eq_true.1 (this.resolve_left (by omega)) i (List.mem_range.2 hij)
  unfold aDraw at hd
  split at hd
  · rename_i es hgo
    simp only [Option.some.injEq, Prod.mk.injEq] at hd
    obtain ⟨hf1, hh1⟩ := hd
    obtain ⟨⟨more, he, hml⟩, hes⟩ := drawGo_spec _ 0 [] es hgo rfl
    simp at he
    subst he
    refine wpIn_region_any hm ?_
    have Hd : HRel ι h0 { w with drawn := w.drawn + 1 } := H.world fun _ _ => rfl
    let m := (drawH (fun _ => true) 0 es).length
    have e0 : (fun i => (Array.replicate ops.size false).getD i false) = fun _ => false := by
      funext i
      by_cases hi : i < ops.size <;> simp [hi]
    refine draw_head hcall (hl := hget) (hll := hll.symm) (hT := tblOk) (hlt := hlt) (hbar := hbar) (hkl := by omega) (hnd := hnd) (es := es) (fr0 := fr0) (h0 := h0) (ι0 := ι) (ds := a.defers) (w0 := w) (hlen := by simpa using hml) ?_ ?_ (fun t ai ht => by simpa using hes t ai ht) hf1.symm hh1.symm hY hn hr
      (fun ι' a' w' h1 h2 h3 h4 h5 h6 => hq ι' a' w' ⟨h1, h2, h3, h4⟩ h5 h6) ops.size _ (ι ++ List.replicate m (0, 0, 0)) a _ (by simp) ?_ ?_ ?_ ?_
    · intro v hv i hi
      obtain ⟨j, hj⟩ := List.getElem?_of_mem hv
      obtain ⟨x, _, hx⟩ := hf.get j v hj
      have := VRel.lt v x hx i hi
      rwa [H.len] at this
    · exact H.ids
    · exact Nat.le_trans List.countP_le_length (by simp)
    · rw [e0]; intro i o ho hi; simp at hi
    · intro i hi; exact congrFun e0 i
    · rw [e0]
      refine ⟨?_, ⟨hf.length, fun x _ v hv => ?_, fun i ai v x _ _ hs _ => by simp at hs⟩, ?_, ?_, rfl⟩
      · rw [drawH_none]; exact Hd.app_dead m
      · obtain ⟨y, hy, hr⟩ := hf.get x v hv
        exact ⟨y, hy, hr.mono fun i e hi => by rw [List.getElem?_append_left (emb_lt hi)]; exact hi⟩
      · refine ⟨rfl, rfl, rfl, Nat.le_refl _, fun _ _ _ => rfl, fun b hb => ?_, fun _ _ h => h⟩
        obtain ⟨t, o, e, ht, hx, he, rfl⟩ := hb
        rw [drawH_none] at ht
        by_cases hth : t < h0.length
        · rw [List.getElem?_append_left hth] at ht
          rw [List.getElem?_append_left (by rw [H.len]; exact hth)] at he
          exact .inl ⟨t, o, e, ht, hx, he, rfl⟩
        · rw [List.getElem?_append_right (by omega), List.getElem?_replicate] at ht
          split at ht
          · cases ht; simp [AObj.excl] at hx
          · cases ht
      · intro i hi
        rw [List.getElem?_append_left (by rw [H.len]; exact hi)]
  · cases hd

end
end Go.Ax

namespace Go.Ax
set_option linter.unusedVariables false
set_option linter.unusedSimpArgs false

section
variable {P : Program}

/-! ### Renaming -/

theorem idx_some : ∀ (l : List Nat) (i k j : Nat), idx i l k = some j → ∃ p, j = k + p ∧ l[p]? = some i
  | [], i, k, j, h => by simp [idx] at h
  | a :: l, i, k, j, h => by
    simp only [idx] at h
    split at h
    · rename_i he; cases h; subst he; exact ⟨0, by simp, by simp⟩
    · obtain ⟨p, rfl, hp⟩ := idx_some l i (k + 1) j h
      exact ⟨p + 1, by omega, by simpa using hp⟩

theorem keepOk_mem {n0 n : Nat} : ∀ {l : List Nat}, keepOk n0 n l = true → ∀ i ∈ l, n0 ≤ i ∧ i < n
  | [], _, i, h => by simp at h
  | a :: l, hk, i, h => by
    simp only [keepOk, Bool.and_eq_true, decide_eq_true_eq] at hk
    rcases List.mem_cons.1 h with rfl | h
    · exact ⟨hk.1.1.1, hk.1.1.2⟩
    · exact keepOk_mem hk.2 i h

theorem keepOk_inj {n0 n : Nat} : ∀ {l : List Nat}, keepOk n0 n l = true → ∀ (p q i : Nat), l[p]? = some i → l[q]? = some i → p = q
  | [], _, p, q, i, h, _ => by simp at h
  | a :: l, hk, p, q, i, hp, hq => by
    simp only [keepOk, Bool.and_eq_true, Bool.not_eq_true', decide_eq_true_eq] at hk
    have hn : ∀ k, l[k]? = some a → False := fun k hk' => by
      have := List.mem_of_getElem? hk'
      have hc := hk.1.2
      rw [List.contains_eq_mem] at hc
      simp [this] at hc
    cases p with
    | zero =>
      cases q with
      | zero => rfl
      | succ q => simp at hp hq; subst hp; exact (hn q hq).elim
    | succ p =>
      cases q with
      | zero => simp at hp hq; subst hq; exact (hn p hp).elim
      | succ q =>
        simp at hp hq
        rw [keepOk_inj hk.2 p q i hp hq]

theorem rens_length (ρ : Nat → Option Nat) : ∀ (l : List AV), (AV.rens ρ l).length = l.length
  | [] => by simp [AV.rens]
  | v :: l => by simp [AV.rens, rens_length ρ l]

theorem rens_get (ρ : Nat → Option Nat) : ∀ (l : List AV) (j : Nat), (AV.rens ρ l)[j]? = (l[j]?).map (AV.ren ρ)
  | [], j => by simp [AV.rens]
  | v :: l, 0 => by simp [AV.rens]
  | v :: l, j + 1 => by simp [AV.rens, rens_get ρ l j]

theorem RowRel.ren {ι ι' : Emb} {ρ : Nat → Option Nat} (hρ : ∀ i j : Nat, ρ i = some j → ∀ e : Nat × Nat × Nat, ι[i]? = some e → ι'[j]? = some e) {e : Nat × Nat × Nat} {vs : List AV} {c : Array Value} (h : RowRel ι e vs c) : RowRel ι' e (AV.rens ρ vs) c :=
  ⟨h.1, by rw [rens_length]; exact h.2.1, fun j v hv => by
    rw [rens_get] at hv
    cases hu : vs[j]? with
    | none => rw [hu] at hv; cases hv
    | some u =>
      rw [hu] at hv
      simp at hv
      subst hv
      obtain ⟨x, hx, hr⟩ := h.2.2 j u hu
      exact ⟨x, hx, VRel.ren hρ u x hr⟩⟩

theorem ORel.ren {ι ι' : Emb} {ρ : Nat → Option Nat} (hρ : ∀ i j : Nat, ρ i = some j → ∀ e : Nat × Nat × Nat, ι[i]? = some e → ι'[j]? = some e) {w : World} {e : Nat × Nat × Nat} {o : AObj} (h : ORel ι w e o) : ORel ι' w e (o.ren ρ) := by
  cases o with
  | dead => trivial
  | cells vs => obtain ⟨c, t, h1, h2⟩ := h; exact ⟨c, t, h1, h2.ren hρ⟩
  | ro vs => obtain ⟨c, t, fz, h1, h2⟩ := h; exact ⟨c, t, fz, h1, h2.ren hρ⟩
  | iter l p => exact h
  | loop st => exact h

theorem ren_excl (ρ : Nat → Option Nat) (o : AObj) : (o.ren ρ).excl = o.excl := by cases o <;> rfl
theorem ren_live (ρ : Nat → Option Nat) (o : AObj) : (o.ren ρ).live = o.live := by cases o <;> rfl

/-- What code comes to: from block n0 on, blocks may have been named anew. -/
structure AfterN (n0 : Nat) (ι : Emb) (h : AHeap) (w : World) (h' : AHeap) (ι' : Emb) (w' : World) : Prop where
  rel : HRel ι' h' w'
  step : Step h ι w h' ι' w'
  agree : Agree n0 ι ι'
  le : n0 ≤ h'.length

theorem AfterN.refl {n0 : Nat} {ι : Emb} {h : AHeap} {w : World} (H : HRel ι h w) (hn : n0 ≤ h.length) : AfterN n0 ι h w h ι w := ⟨H, .refl .., Agree.refl _ _, hn⟩
theorem AfterN.trans {n0 : Nat} {ι ι' ι'' : Emb} {h h' h'' : AHeap} {w w' w'' : World} (a : AfterN n0 ι h w h' ι' w') (b : AfterN n0 ι' h' w' h'' ι'' w'') : AfterN n0 ι h w h'' ι'' w'' :=
  ⟨b.rel, a.step.trans b.step, a.agree.trans b.agree, b.le⟩
theorem After.toN {n0 : Nat} {ι ι' : Emb} {h h' : AHeap} {w w' : World} (a : After ι h w h' ι' w') (hn : n0 ≤ h.length) : AfterN n0 ι h w h' ι' w' :=
  ⟨a.rel, a.step, a.agree.less hn, Nat.le_trans hn a.le⟩

theorem renorm_sound {n0 : Nat} {ι : Emb} {h h' : AHeap} {w : World} (H : HRel ι h w) (hn : n0 ≤ h.length) {fr fr' : List AV} {xs : List Value} (hf : VRels ι fr xs) (hr : renorm n0 fr h = some (fr', h')) :
    ∃ ι', VRels ι' fr' xs ∧ AfterN n0 ι h w h' ι' w := by
  unfold renorm at hr
  split at hr
  · cases hr
    exact ⟨ι, hf, .refl H hn⟩
  · rename_i hlt
    simp only [] at hr
    generalize reach n0 h 100 (AV.idss fr ++ roots n0 h) [] = keep at hr
    split at hr
    · rename_i hk
      simp only [Option.some.injEq, Prod.mk.injEq] at hr
      obtain ⟨rfl, rfl⟩ := hr
      let ι' : Emb := ι.take n0 ++ keep.map fun i => ι.getD i default
      have hlen : ι.length = h.length := H.len
      have htl : (ι.take n0).length = n0 := by simp; omega
      have htl' : (h.take n0).length = n0 := by simp; omega
      have hkm := keepOk_mem hk
      have hg1 : ∀ (i : Nat), i < n0 → ι'[i]? = ι[i]? := fun i hi => by
        show (ι.take n0 ++ _)[i]? = _
        rw [List.getElem?_append_left (by omega), List.getElem?_take, if_pos hi]
      have hg2 : ∀ (p i : Nat), keep[p]? = some i → ι'[n0 + p]? = ι[i]? := fun p i hp => by
        show (ι.take n0 ++ _)[n0 + p]? = _
        rw [List.getElem?_append_right (by omega), htl, Nat.add_sub_cancel_left, List.getElem?_map, hp]
        have hb := hkm i (List.mem_of_getElem? hp)
        have hil : i < ι.length := by omega
        simp [List.getD_eq_getElem?_getD, hil]
      have hρ : ∀ i j : Nat, rho n0 keep i = some j → ∀ e : Nat × Nat × Nat, ι[i]? = some e → ι'[j]? = some e := by
        intro i j hij e he
        unfold rho at hij
        split at hij
        · rename_i hi
          cases hij
          rw [hg1 i hi]; exact he
        · obtain ⟨p, rfl, hp⟩ := idx_some keep i n0 j hij
          rw [hg2 p i hp]; exact he
      -- where a new block comes from
      have from_ : ∀ (j : Nat) (o : AObj) (e : Nat × Nat × Nat), ((h.take n0).map (AObj.ren (rho n0 keep)) ++ keep.map fun i => (h.getD i .dead).ren (rho n0 keep))[j]? = some o → ι'[j]? = some e →
          ∃ i o', h[i]? = some o' ∧ ι[i]? = some e ∧ o = o'.ren (rho n0 keep) ∧ ((j < n0 ∧ i = j) ∨ (∃ p, j = n0 + p ∧ keep[p]? = some i)) := by
        intro j o e hj he
        by_cases hjn : j < n0
        · rw [List.getElem?_append_left (by simp; omega), List.getElem?_map, List.getElem?_take, if_pos hjn] at hj
          rw [hg1 j hjn] at he
          cases hh : h[j]? with
          | none => rw [hh] at hj; cases hj
          | some q => rw [hh] at hj; simp at hj; exact ⟨j, q, hh, he, hj.symm, .inl ⟨hjn, rfl⟩⟩
        · obtain ⟨p, rfl⟩ : ∃ p, j = n0 + p := ⟨j - n0, by omega⟩
          rw [List.getElem?_append_right (by simp; omega), List.length_map, htl', Nat.add_sub_cancel_left, List.getElem?_map] at hj
          cases hp : keep[p]? with
          | none => rw [hp] at hj; cases hj
          | some i =>
            rw [hp] at hj
            simp only [Option.map_some, Option.some.injEq] at hj
            rw [hg2 p i hp] at he
            have hb := hkm i (List.mem_of_getElem? hp)
            have hil : i < h.length := hb.2
            refine ⟨i, h[i], List.getElem?_eq_getElem hil, he, ?_, .inr ⟨p, rfl, hp⟩⟩
            rw [← hj]
            simp [List.getD_eq_getElem?_getD, hil]
      refine ⟨ι', VRels.ren hρ fr xs hf, ⟨⟨?_, ?_, ?_⟩, ⟨rfl, rfl, rfl, Nat.le_refl _, fun _ _ _ => rfl, ?_, fun _ _ h => h⟩, fun i hi => hg1 i hi, by simp; omega⟩⟩
      · show (ι.take n0 ++ _).length = _
        simp; omega
      · intro j o e hj he
        obtain ⟨i, o', hi, hie, rfl, _⟩ := from_ j o e hj he
        exact (H.obj i o' e hi hie).ren hρ
      · intro j k o o' e e' hj hk' he he' hx hl hne
        obtain ⟨i, q, hi, hie, rfl, hfrom⟩ := from_ j o e hj he
        obtain ⟨i', q', hi', hie', rfl, hfrom'⟩ := from_ k o' e' hk' he'
        rw [ren_excl] at hx
        rw [ren_live] at hl
        refine H.sep i i' q q' e e' hi hi' hie hie' hx hl fun hii => ?_
        subst hii
        rcases hfrom with ⟨h1, rfl⟩ | ⟨p, rfl, hp⟩ <;> rcases hfrom' with ⟨h2, h3⟩ | ⟨p', rfl, hp'⟩
        · exact hne h3
        · have := hkm _ (List.mem_of_getElem? hp'); omega
        · have := hkm _ (List.mem_of_getElem? hp); omega
        · exact hne (by rw [keepOk_inj hk p p' i hp hp'])
      · intro b hb
        obtain ⟨j, o, e, hj, hx, he, rfl⟩ := hb
        obtain ⟨i, o', hi, hie, rfl, _⟩ := from_ j o e hj he
        rw [ren_excl] at hx
        exact .inl ⟨i, o', e, hi, hx, hie, rfl⟩
    · cases hr

theorem mask_rel {ι : Emb} : ∀ (m : List Bool) {fr : List AV} {xs : List Value}, VRels ι fr xs → VRels ι (mask m fr) xs
  | [], [], xs, h => by simpa [mask] using h
  | _ :: _, [], xs, h => by simpa [mask] using h
  | [], v :: fr, xs, h => by
    obtain ⟨y, ys, rfl, h1, h2⟩ := h.cons_inv
    simp only [mask]
    exact .cons (by simp [VRel]) (mask_rel [] h2)
  | b :: m, v :: fr, xs, h => by
    obtain ⟨y, ys, rfl, h1, h2⟩ := h.cons_inv
    simp only [mask]
    refine .cons ?_ (mask_rel m h2)
    cases b
    · simp [VRel]
    · exact h1

/-! ### Code -/

def AExit.toExit : AExit → Exit
  | .normal => .normal
  | .exit id => .exit id
  | .ret => .ret

theorem Step.later {ι ι' : Emb} {h h' : AHeap} {w w' : World} (s : Step h ι w h' ι' w') {n : Nat} (ha : Agree n ι ι') : Later n ι w ι' w' := ⟨ha, s.loops⟩
theorem AfterN.later {n0 : Nat} {ι ι' : Emb} {h h' : AHeap} {w w' : World} (a : AfterN n0 ι h w h' ι' w') : Later n0 ι w ι' w' := ⟨a.agree, a.step.loops⟩

/-- The marks that loops over functions have left. -/
def MarksOk (B : Nat) (w : World) : List Deferred → Prop
  | [] => True
  | d :: ds => (∃ D, d.target = .collected D ∧ B ≤ D ∧ w.heap[D]? = some (.deferred (some [])) ∧ ∀ d' ∈ ds, d'.target ≠ .collected D) ∧ MarksOk B w ds

theorem not_own_deferred {ι : Emb} {h : AHeap} {w : World} (H : HRel ι h w) {D : Nat} {ds : Option (List Deferred)} (hD : w.heap[D]? = some (.deferred ds)) {i : Nat} {o : AObj} {e : Nat × Nat × Nat} (hi : h[i]? = some o) (he : ι[i]? = some e) (hl : o.live = true) : e.1 ≠ D := by
  intro hDe
  have := H.obj i o e hi he
  rw [← hDe] at hD
  cases o with
  | dead => simp [AObj.live] at hl
  | cells vs => obtain ⟨c, t, h1, _⟩ := this; rw [h1] at hD; cases hD
  | ro vs => obtain ⟨c, t, fz, h1, _⟩ := this; rw [h1] at hD; cases hD
  | iter l p => rw [this.1] at hD; cases hD
  | loop st => obtain ⟨r, h1, _⟩ := this; rw [h1] at hD; cases hD
theorem excl_live {o : AObj} (h : o.excl = true) : o.live = true := by cases o <;> simp_all [AObj.excl, AObj.live]

theorem MarksOk.step {B : Nat} {ι ι' : Emb} {h h' : AHeap} {w w' : World} (H : HRel ι h w) (s : Step h ι w h' ι' w') : ∀ {ds : List Deferred}, MarksOk B w ds → MarksOk B w' ds
  | [], _ => trivial
  | d :: ds, ⟨⟨D, h1, h2, h3, h4⟩, hr⟩ =>
    ⟨⟨D, h1, h2, by
      rw [s.same D (Array.getElem?_eq_some_iff.1 h3).1 (fun ⟨i, o, e, hi, hx, he, hb⟩ => not_own_deferred H h3 hi he (excl_live hx) hb)]
      exact h3, h4⟩, MarksOk.step H s hr⟩
theorem MarksOk.same {B : Nat} {w w' : World} (hb : ∀ b, b < w.heap.size → w'.heap[b]? = w.heap[b]?) : ∀ {ds : List Deferred}, MarksOk B w ds → MarksOk B w' ds
  | [], _ => trivial
  | d :: ds, ⟨⟨D, h1, h2, h3, h4⟩, hr⟩ => ⟨⟨D, h1, h2, by rw [hb D (Array.getElem?_eq_some_iff.1 h3).1]; exact h3, h4⟩, MarksOk.same hb hr⟩
theorem MarksOk.lt {B : Nat} {w : World} : ∀ {ds : List Deferred}, MarksOk B w ds → ∀ d ∈ ds, ∀ D, d.target = .collected D → D < w.heap.size
  | [], _, d, hd, D, h => by cases hd
  | d :: ds, ⟨⟨D, h1, h2, h3, h4⟩, hr⟩, d', hd, D', h => by
    rcases List.mem_cons.1 hd with rfl | hd
    · rw [h1] at h; cases h; exact (Array.getElem?_eq_some_iff.1 h3).1
    · exact hr.lt d' hd D' h

/-- A piece of code, compiled, is sound. -/
def CodeOk (P : Program) (Y : AYs) (inr : Bool) (n0 : Nat) (c : Code) (run : List AV → AHeap → Option (AExit × List AV × AHeap)) : Prop :=
  ∀ (ro : Option Nat) (B : Nat) (fr fr' : List AV) (h h' : AHeap) (ex : AExit) (ι : Emb) (a : Act) (w : World) (Q : Exit → Act → World → Prop), ro.isSome = inr → B ≤ w.heap.size → n0 ≤ h.length → MarksOk B w a.defers → VRels ι fr a.tmps.toList → HRel ι h w → YOk P Y n0 ι w → run fr h = some (ex, fr', h') →
    (∀ ι' a' w', AfterN n0 ι h w h' ι' w' → VRels ι' fr' a'.tmps.toList → MarksOk B w' a'.defers → Q ex.toExit a' w') → c.wpIn (fw ro) 0 P Q a w

theorem loop_ok {Y : AYs} {inr : Bool} {n0 : Nat} {c : Code} {live : List Bool} {step : List AV → AHeap → Option (AExit × List AV × AHeap)} (hc : CodeOk P Y inr n0 c step) : ∀ (n : Nat) (ro : Option Nat) (B : Nat) (fr fr' : List AV) (h h' : AHeap) (ex : AExit) (ι : Emb) (a : Act) (w : World) (Q : Exit → Act → World → Prop), ro.isSome = inr → B ≤ w.heap.size → n0 ≤ h.length → MarksOk B w a.defers → VRels ι fr a.tmps.toList → HRel ι h w → YOk P Y n0 ι w →
    aLoop n0 live step n fr h = some (ex, fr', h') → (∀ ι' a' w', AfterN n0 ι h w h' ι' w' → VRels ι' fr' a'.tmps.toList → MarksOk B w' a'.defers → Q ex.toExit a' w') → Code.roundsIn (fw ro) 0 P c Q n a w
  | 0, ro, B, fr, fr', h, h', ex, ι, a, w, Q, hro, hB, hn, hd, hf, H, hY, hr, hq => by simp [aLoop] at hr
  | n + 1, ro, B, fr, fr', h, h', ex, ι, a, w, Q, hro, hB, hn, hd, hf, H, hY, hr, hq => by
    simp only [aLoop] at hr
    rw [roundsIn_succ]
    split at hr
    · cases hr
    · rename_i fr1 h1 hre
      obtain ⟨ι1, hf1, hA1⟩ := renorm_sound H hn (mask_rel live hf) hre
      have hY1 := hY.later hA1.later
      split at hr
      · rename_i fr2 h2 hst
        refine hc ro B fr1 fr2 h1 h2 .normal ι1 a w _ hro hB hA1.le hd hf1 hA1.rel hY1 hst fun ι2 a2 w2 hA2 hf2 hd2 => ?_
        exact loop_ok hc n ro B fr2 fr' h2 h' ex ι2 a2 w2 Q hro (Nat.le_trans hB hA2.step.size) hA2.le hd2 hf2 hA2.rel (hY1.later hA2.later) hr fun ι3 a3 w3 hA3 => hq ι3 a3 w3 ((hA1.trans hA2).trans hA3)
      · rename_i hne
        cases ex with
        | normal => exact (hne fr' h' hr).elim
        | exit id => exact hc ro B fr1 fr' h1 h' (.exit id) ι1 a w _ hro hB hA1.le hd hf1 hA1.rel hY1 hr fun ι2 a2 w2 hA2 hf2 hd2 => hq ι2 a2 w2 (hA1.trans hA2) hf2 hd2
        | ret => exact hc ro B fr1 fr' h1 h' .ret ι1 a w _ hro hB hA1.le hd hf1 hA1.rel hY1 hr fun ι2 a2 w2 hA2 hf2 hd2 => hq ι2 a2 w2 (hA1.trans hA2) hf2 hd2

/-! ### Loops over functions -/

/-- A loop's record is written. -/
theorem loopSet_rel {ι : Emb} {h : AHeap} {w : World} (H : HRel ι h w) {i : Nat} {st : LSt} {e : Nat × Nat × Nat} (hi : h[i]? = some (.loop st)) (he : ι[i]? = some e) {r r' : Loop} (hr : w.heap[e.1]? = some (.loop r)) (hs : stillL r' = stillL r) {o : AObj} (ho : o = .dead ∨ ∃ st', o = .loop st' ∧ LRel st' r') :
    HRel ι (h.set i o) (w.putObj e.1 (.loop r')) ∧ Step h ι w (h.set i o) ι (w.putObj e.1 (.loop r')) := by
  have hil : i < h.length := (List.getElem?_eq_some_iff.1 hi).1
  have hlt : e.1 < w.heap.size := (Array.getElem?_eq_some_iff.1 hr).1
  have hget : ∀ (j : Nat) (q : AObj), (h.set i o)[j]? = some q → (j = i ∧ q = o) ∨ (j ≠ i ∧ h[j]? = some q) := fun j q hq => by
    by_cases hj : j = i
    · subst hj; rw [List.getElem?_set_self hil] at hq; exact .inl ⟨rfl, (Option.some.inj hq).symm⟩
    · rw [List.getElem?_set_ne (fun e => hj e.symm)] at hq; exact .inr ⟨hj, hq⟩
  have hox : o.live = true → (AObj.loop st).live = true := fun _ => rfl
  have hol : ∀ j q e', h[j]? = some q → ι[j]? = some e' → j ≠ i → q.live = true → e'.1 ≠ e.1 := fun j q e' hj he' hne hlv hee => H.sep i j _ q e e' hi hj he he' rfl hlv (fun h => hne h.symm) hee.symm
  refine ⟨⟨by simp [H.len], fun j q e' hq he' => ?_, fun j k q q' e' e'' hq hq' he' he'' hx hl hne => ?_⟩, ⟨rfl, rfl, rfl, by simp, fun b hb hno => World.putObj_heap_other (fun hbe => hno ⟨i, _, e, hi, rfl, he, hbe.symm⟩), fun b hb => ?_, fun b q hb => ?_⟩⟩
  · rcases hget j q hq with ⟨rfl, rfl⟩ | ⟨hj, hq'⟩
    · rw [he] at he'; cases he'
      rcases ho with rfl | ⟨st', rfl, hl⟩
      · trivial
      · exact ⟨r', World.putObj_heap_same hlt, hl⟩
    · exact (H.obj j q e' hq' he').mono (fun _ _ h => h) (fun hl => World.putObj_heap_other (hol j q e' hq' he' hj hl))
  · rcases hget j q hq with ⟨rfl, rfl⟩ | ⟨hj, hqj⟩ <;> rcases hget k q' hq' with ⟨rfl, rfl⟩ | ⟨hk, hqk⟩
    · exact absurd rfl hne
    · rw [he] at he'; cases he'
      exact fun h => hol k q' e'' hqk he'' hk hl h.symm
    · rw [he] at he''; cases he''
      exact hol j q e' hqj he' hj (excl_live hx)
    · exact H.sep j k q q' e' e'' hqj hqk he' he'' hx hl hne
  · obtain ⟨j, q, e', hq, hx, he', rfl⟩ := hb
    rcases hget j q hq with ⟨rfl, rfl⟩ | ⟨hj, hqj⟩
    · exact .inl ⟨j, _, e', hi, rfl, he', rfl⟩
    · exact .inl ⟨j, q, e', hqj, hx, he', rfl⟩
  · by_cases hbe : b = e.1
    · subst hbe
      unfold loopAt at hb ⊢
      rw [hr] at hb
      rw [World.putObj_heap_same hlt]
      simp only [Option.some.injEq] at hb ⊢
      rw [hs]; exact hb
    · rw [loopAt_same (World.putObj_heap_other hbe)]; exact hb

theorem setPs_rel {ι : Emb} : ∀ (ps : List Nat) (args : List AV) (xs : List Value) (fr : List AV) (t : Array Value), VRels ι args xs → VRels ι fr t.toList → VRels ι (setPs ps args fr) ((ps.zip xs).foldl (fun (t : Array Value) p => t.setIfInBounds p.1 p.2) t).toList
  | [], args, xs, fr, t, _, h => by simpa [setPs] using h
  | p :: ps, [], xs, fr, t, ha, h => by rw [ha.nil_inv]; simpa [setPs] using h
  | p :: ps, v :: vs, xs, fr, t, ha, h => by
    obtain ⟨y, ys, rfl, h1, h2⟩ := ha.cons_inv
    simp only [setPs, List.zip_cons_cons, List.foldl_cons]
    exact setPs_rel ps vs ys _ _ h2 (by simpa using h.set p h1)

theorem emb_ids {ι : Emb} {fr : List AV} {xs : List Value} (h : VRels ι fr xs) : ∀ i ∈ AV.idss fr, i < ι.length := VRels.lt fr xs h

theorem round_good {Y : AYs} {assign body : Code} {ra rb : Nat → List AV → AHeap → Option (AExit × List AV × AHeap)} (hra : ∀ n, CodeOk P Y true n assign (ra n)) (hrb : ∀ n, CodeOk P Y true n body (rb n)) {i n0 : Nat} {ps : Array Tmp} {fr : List AV} {ι : Emb} {w : World} {e : Nat × Nat × Nat} {κ : Loop}
    (he : ι[i]? = some e) (hκ : loopAt w e.1 = some κ) (h1 : κ.assign = assign) (h2 : κ.body = body) (h3 : κ.params = ps) (hfr : VRels ι fr κ.tmps.toList) (hids : ∀ j ∈ AV.idss fr, j < i) (hY : YOk P Y n0 ι w) (hn0 : n0 ≤ i) {ι' : Emb} {w' : World} (hl : Later (i + 1) ι w ι' w') :
    HandGood P i (aRound i ps.toList fr ra rb) ι' w' := by
  intro args xs h v h' hxs H hd
  have he' : ι'[i]? = some e := by rw [hl.1 i (by omega)]; exact he
  unfold aRound at hd
  split at hd
  · rename_i hi
    obtain ⟨r, hr, hst, hpe⟩ := H.obj i _ e hi he'
    have hκ' := hl.2 _ _ hκ
    unfold loopAt at hκ'
    rw [hr] at hκ'
    simp only [Option.some.injEq] at hκ'
    have ra1 : r.assign = assign := by rw [← h1, ← hκ']; rfl
    have rb1 : r.body = body := by rw [← h2, ← hκ']; rfl
    have rp1 : r.params = ps := by rw [← h3, ← hκ']; rfl
    have rt1 : r.tmps = κ.tmps := by rw [← hκ']; rfl
    split at hd
    · rename_i hlen
      have hxl : xs.size = r.params.size := by
        have := hxs.length
        rw [rp1]; simp at this hlen; omega
      refine ⟨e, r.fn, _, r.assign, r.body, he', run_yield hr hxl, roundIn_of_wpIn trivial ?_⟩
      have hfr' : VRels ι' fr r.tmps.toList := by
        rw [rt1]
        exact VRels.congr fr _ (fun j hj e0 he0 => by rw [hl.1 j (by have := hids j hj; omega)]; exact he0) hfr
      have htm : VRels ι' (setPs ps.toList args fr) ((r.params.zip xs).foldl (fun tmps (t, a) => tmps.setIfInBounds t a) r.tmps).toList := by
        have := setPs_rel ps.toList args xs.toList fr r.tmps hxs hfr'
        rw [← Array.toList_zip, Array.foldl_toList] at this
        rw [rp1]; exact this
      split at hd
      · rename_i fr1 g1 hasg
        split at hd
        · rename_i hi1
          have hYl : YOk P Y n0 ι' w' := hY.later (hl.less (by omega))
          have hil : i < h.length := (List.getElem?_eq_some_iff.1 hi).1
          rw [ra1]
          refine hra h.length (some e.1) w'.heap.size _ fr1 h g1 .normal ι' _ w' _ rfl (Nat.le_refl _) (Nat.le_refl _) trivial htm H (hYl.more (by omega)) hasg fun ι1 a1 w1 hA1 hf1 hm1 => ?_
          have he1 : ι1[i]? = some e := by rw [hA1.agree i hil]; exact he'
          obtain ⟨r1, hr1, hst1, hpe1⟩ := hA1.rel.obj i _ e hi1 he1
          refine ⟨_, run_beginRound hr1 hst1, ?_⟩
          obtain ⟨H2, S2⟩ := loopSet_rel hA1.rel hi1 he1 hr1 (r' := { r1 with state := .busy }) rfl (o := .loop .busy) (.inr ⟨.busy, rfl, rfl⟩)
          have hA2 : AfterN h.length ι' h w' (g1.set i (.loop .busy)) ι1 (w1.putObj e.1 (.loop { r1 with state := .busy })) := hA1.trans ⟨H2, S2, Agree.refl _ _, by simpa using hA1.le⟩
          split at hd
          · rename_i ex fr2 g2 hbod
            rw [rb1]
            refine hrb h.length (some e.1) w'.heap.size _ fr2 _ g2 ex ι1 a1 _ _ rfl hA2.step.size hA2.le (hm1.step hA1.rel S2) hf1 H2 ((hYl.more (by omega)).later hA2.later) hbod fun ι2 a2 w2 hA3 hf2 hm2 => ?_
            split at hd
            · rename_i fr3 g3 hre
              obtain ⟨ι3, _, hA4⟩ := renorm_sound hA3.rel hA3.le (fr := []) (xs := []) .nil hre
              split at hd
              · rename_i hi3
                simp only [Option.some.injEq, Prod.mk.injEq] at hd
                obtain ⟨rfl, rfl⟩ := hd
                have hA := (hA2.trans hA3).trans hA4
                have he3 : ι3[i]? = some e := by rw [hA.agree i hil]; exact he'
                obtain ⟨r3, hr3, hst3⟩ := hA.rel.obj i _ e hi3 he3
                have fin : ∀ jump : Option Code, jump = ex.toCode → (ex == .normal) = jump.isNone →
                    ∃ v w4, (Instr.endRound e.1 jump).run P w2 = .ok v w4 ∧ ∃ ι4 y, Ending.returned v = .returned y ∧ VRel ι4 (.bool (ex == .normal)) y ∧ After ι' h w' (g3.set i (.loop ex.st)) ι4 w4 := by
                  intro jump hj hb
                  obtain ⟨H4, S4⟩ := loopSet_rel hA.rel hi3 he3 hr3 (r' := { r3 with state := if jump.isNone then .ready else .done, pending := jump }) rfl (o := .loop ex.st) (.inr ⟨ex.st, rfl, by
                    subst hj
                    cases ex <;> simp [AExit.st, LRel, AExit.toCode]⟩)
                  exact ⟨_, _, run_endRound jump hr3, ι3, _, rfl, by rw [hb]; simp only [VRel], ⟨H4, hA.step.trans S4, hA.agree, by simpa using hA.le⟩⟩
                cases ex with
                | normal => exact fin none rfl rfl
                | ret => exact fin (some .ret) rfl rfl
                | exit id => exact fin (some (.exit id)) rfl rfl
              · cases hd
            · cases hd
          · cases hd
        · cases hd
      · cases hd
    · cases hd
  · cases hd

theorem range_ok {call : ACall} (hcall : CallOk P call) {Y : AYs} {n0 : Nat} {g : Operand} {ps : Array Tmp} {assign body : Code} {ra rb : Nat → List AV → AHeap → Option (AExit × List AV × AHeap)} (hra : ∀ n, CodeOk P Y true n assign (ra n)) (hrb : ∀ n, CodeOk P Y true n body (rb n)) :
    CodeOk P Y false n0 (.rangeFunc g ps assign body) (fun fr h => aRange call Y ((opd g).ev fr) (aRound h.length ps.toList fr ra rb) fr h) := by
  intro ro B fr fr' h h' ex ι a w Q hro hB hn hd hf H hY hr hq
  have hro : ro = none := by cases ro with
    | none => rfl
    | some l => cases hro
  subst hro
  simp only [aRange] at hr
  split at hr
  · rename_i f fs cs hg
    have hgr := opd_rel hf g
    rw [hg] at hgr
    simp only [VRel] at hgr
    obtain ⟨xa, xb, hxe, hxa, hxb⟩ := hgr
    split at hr
    · rename_i v h3 hc
      refine wpIn_rangeFunc fun fn _ => ?_
      obtain ⟨κ, hκ⟩ : ∃ κ : Loop, κ = { state := .ready, pending := none, fn, tmps := a.tmps, params := ps, assign, body, defers := w.heap.size } := ⟨_, rfl⟩
      -- the two blocks
      have Hd : HRel ι h (w.alloc (.deferred (some []))) := H.world fun b hb => by show (w.heap.push _)[b]? = _; rw [Array.getElem?_push, if_neg (by omega)]
      have Sd : Step h ι w h ι (w.alloc (.deferred (some []))) := ⟨rfl, rfl, rfl, by simp, fun b hb _ => by show (w.heap.push _)[b]? = _; rw [Array.getElem?_push, if_neg (by omega)], fun _ h => .inl h, loops_all fun b hb => by show (w.heap.push _)[b]? = _; rw [Array.getElem?_push, if_neg (by omega)]⟩
      obtain ⟨W1, hW1⟩ : ∃ W1, (w.alloc (.deferred (some []))).alloc (.loop κ) = W1 := ⟨_, rfl⟩
      have hL : W1.heap[w.heap.size + 1]? = some (.loop κ) := by
        rw [← hW1]; have := World.alloc_heap_new (w.alloc (.deferred (some []))) (.loop κ); rwa [World.size_alloc] at this
      have hD : W1.heap[w.heap.size]? = some (.deferred (some [])) := by
        rw [← hW1]
        show ((w.heap.push _).push _)[w.heap.size]? = _
        rw [Array.getElem?_push, if_neg (by simp), Array.getElem?_push, if_pos rfl]
      obtain ⟨H1, S1, A1⟩ := alloc_rel Hd (.loop κ) (.loop .ready) (w.heap.size + 1, 0, 0) (by simp) ⟨κ, by
        have := World.alloc_heap_new (w.alloc (.deferred (some []))) (.loop κ); rwa [World.size_alloc] at this, by rw [hκ]; exact ⟨rfl, rfl⟩⟩
      have hw1 : ({ (w.alloc (.deferred (some []))) with heap := (w.alloc (.deferred (some []))).heap.push (.loop κ) } : World) = W1 := hW1
      rw [hw1] at H1 S1
      have S1 := Sd.trans S1
      have hel : (ι ++ [(w.heap.size + 1, 0, 0)])[h.length]? = some (w.heap.size + 1, 0, 0) := Emb.last H _
      have hκs : loopAt W1 (w.heap.size + 1) = some κ := by unfold loopAt; rw [hL]; rw [hκ]; rfl
      have hids : ∀ j ∈ AV.idss fr, j < h.length := fun j hj => by have := emb_ids hf j hj; rwa [H.len] at this
      have hY1 : YOk P (fun j => if j = h.length then some (aRound h.length ps.toList fr ra rb) else Y j) (h ++ [AObj.loop .ready]).length (ι ++ [(w.heap.size + 1, 0, 0)]) W1 := by
        intro ι' w' hl i hd hi
        simp only [List.length_append, List.length_cons, List.length_nil] at hl
        have hYl : Later n0 ι w ι' w' := (Later.trans (S1.later (A1.less hn)) (hl.less (by omega)))
        simp only [] at hi
        split at hi
        · rename_i hih
          cases hi
          subst hih
          exact round_good hra hrb hel hκs (by rw [hκ]) (by rw [hκ]) (by rw [hκ]) (by
            rw [hκ]; exact hf.mono (fun i e hi => by rw [List.getElem?_append_left (emb_lt hi)]; exact hi)) hids (hY.later (S1.later (A1.less hn))) hn (ι := ι ++ [(w.heap.size + 1, 0, 0)]) (w := W1) hl
        · exact hY ι' w' hYl i hd hi
      obtain ⟨hcb, hs⟩ := hcall _ f _ _ v h3 hc
      have hargs : VRels (ι ++ [(w.heap.size + 1, 0, 0)]) (fs ++ [.yld h.length] ++ cs) (xa ++ #[Value.func (.yield (w.heap.size + 1)) #[] #[]] ++ xb).toList := by
        have m1 : ∀ {l : List AV} {xs : List Value}, VRels ι l xs → VRels (ι ++ [(w.heap.size + 1, 0, 0)]) l xs := fun h => h.mono (fun i e hi => by rw [List.getElem?_append_left (emb_lt hi)]; exact hi)
        simp only [Array.toList_append]
        exact ((m1 hxa).append (.cons (by simp only [VRel]; exact ⟨_, hel, rfl⟩) .nil)).append (m1 hxb)
      refine ⟨w.heap.size + 1, [{ target := .collected w.heap.size, args := #[] }], W1, { target := .fn (.func f) xb, args := xa ++ #[Value.func (.yield (w.heap.size + 1)) #[] #[]] }, W1, f, xa ++ #[Value.func (.yield (w.heap.size + 1)) #[] #[]] ++ xb, W1, ?_, ?_, fun _ _ => trivial, ?_, fun h => (by cases h), callsIn_wide.2 ((hs _ _ W1 hargs H1 hY1).mono ?_)⟩
      · rw [← hW1, hκ]; exact run_enterLoop_outer ..
      · simp only [rangeCall, resolve, hxe, Deferred.ofValue, Sem.run_bind, Sem.run_pure, Result.andThen_ok]
        simp [go_sem, hxe]
      · simp only [invoke]; exact hcb _ _
      · rintro en w3 ⟨ι3, x, rfl, _, A3⟩
        have hm1 : MarksOk B W1 (⟨.collected w.heap.size, #[]⟩ :: a.defers) := ⟨⟨w.heap.size, rfl, hB, hD, fun d hd' hc => by have := hd.lt d hd' _ hc; omega⟩, hd.step H S1⟩
        have hm3 := hm1.step H1 A3.step
        have hel3 : ι3[h.length]? = some (w.heap.size + 1, 0, 0) := by rw [A3.agree _ (by simp)]; exact hel
        have hAg : Agree h.length ι ι3 := A1.trans (A3.agree.less (by simp))
        have hle : h.length ≤ h3.length := by have := A3.le; simp at this; omega
        split at hr
        · rename_i hi
          simp only [Option.some.injEq, Prod.mk.injEq] at hr
          obtain ⟨rfl, rfl, rfl⟩ := hr
          obtain ⟨r3, hr3, hs3, hp3⟩ := A3.rel.obj _ _ _ hi hel3
          obtain ⟨H4, S4⟩ := loopSet_rel A3.rel hi hel3 hr3 (r' := { r3 with state := .exhausted }) rfl (o := .dead) (.inl rfl)
          refine ⟨none, _, by rw [← hp3]; exact run_endLoop hr3 (by rw [hs3]; simp), ?_⟩
          exact hq ι3 _ _ ⟨H4, (S1.trans A3.step).trans S4, hAg.less hn, by simp; omega⟩ (hf.mono fun i e hi => by rw [hAg i (by rw [← H.len]; exact emb_lt hi)]; exact hi) (hm3.step A3.rel S4)
        · rename_i e1 hi
          simp only [Option.some.injEq, Prod.mk.injEq] at hr
          obtain ⟨rfl, rfl, rfl⟩ := hr
          obtain ⟨r3, hr3, hs3, hp3⟩ := A3.rel.obj _ _ _ hi hel3
          obtain ⟨H4, S4⟩ := loopSet_rel A3.rel hi hel3 hr3 (r' := { r3 with state := .exhausted }) rfl (o := .dead) (.inl rfl)
          refine ⟨e1.toCode, _, by rw [← hp3]; exact run_endLoop hr3 (by rw [hs3]; simp), ?_⟩
          have := hq ι3 { a with defers := ⟨.collected w.heap.size, #[]⟩ :: a.defers } _ ⟨H4, (S1.trans A3.step).trans S4, hAg.less hn, by simp; omega⟩ (hf.mono fun i e hi => by rw [hAg i (by rw [← H.len]; exact emb_lt hi)]; exact hi) (hm3.step A3.rel S4)
          cases e1 with
          | normal => exact this
          | ret => exact wpIn_ret this
          | exit id => exact wpIn_exit this
        · cases hr
    · cases hr
  · cases hr

theorem code_ok (hm : P.follows .mixedOrders = true) {call : ACall} (hcall : CallOk P call) {Y : AYs} (rounds : Nat) : ∀ (c : Code) (s : List Adv) (inr : Bool) (n0 : Nat), CodeOk P Y inr n0 c (aCode call Y rounds inr n0 (compC P c s).1)
  | .skip, s, inr, n0 => by
    intro ro B fr fr' h h' ex ι a w Q hro hB hn hd hf H hY hr hq
    simp only [compC, aCode, Option.some.injEq, Prod.mk.injEq] at hr
    obtain ⟨rfl, rfl, rfl⟩ := hr
    exact wpIn_skip (hq ι a w (.refl H hn) hf hd)
  | .region id ops draw, s, inr, n0 => by
    intro ro B fr fr' h h' ex ι a w Q hro hB hn hd hf H hY hr hq
    simp only [compC] at hr
    split at hr
    · simp [aCode] at hr
    · rename_i l hl
      have fin : ∀ ι' a' w', After ι h w h' ι' w' → VRels ι' fr' a'.tmps.toList → a'.defers = a.defers → Q ex.toExit a' w' := fun ι' a' w' hA hf' hd' => hq ι' a' w' (hA.toN hn) hf' (by rw [hd']; exact hd.step H hA.step)
      cases draw with
      | false =>
        simp only [Bool.false_eq_true, if_false, aCode] at hr
        split at hr
        · rename_i fr1 h1 ho
          simp only [Option.some.injEq, Prod.mk.injEq] at hr
          obtain ⟨rfl, rfl, rfl⟩ := hr
          have hcomp := comp_of (P := P) (ops := ops) ops.toList 0 l (fun j => by simp) hl (s.headD default).dead
          rw [← List.range_eq_range'] at hcomp
          exact wpIn_region (ops_sound hcall ops (List.range ops.size) _ (by simpa using hcomp) fr _ h _ ι a w hf H hY hn ho fin)
        · cases hr
      | true =>
        simp only [if_true] at hr
        have hnd : ∀ (i : Nat) o, ops[i]? = some o → ∀ c, o.op ≠ .defer c := fun i o ho => compIs_all ops.toList l hl o (List.mem_of_getElem? (by simpa using ho))
        split at hr
        · rename_i hB'
          simp only [Bool.and_eq_true] at hB'
          simp only [aCode] at hr
          split at hr
          · rename_i fr1 ho
            simp only [Option.some.injEq, Prod.mk.injEq] at hr
            obtain ⟨rfl, rfl, rfl⟩ := hr
            refine wpIn_region_quiet (C := fun w1 => Go.RowKit.Below w.heap.size w w1) hnd hm hB'.1 ⟨rfl, rfl, rfl, Nat.le_refl _, fun _ _ => rfl⟩ ?_
            refine quiet_sound hcall ops H ops.toList _ (compL_of _ _ hl _) fr _ a hf ho fun a' hf' hd' w' hb => ?_
            exact fin ι a' w' ⟨H.world hb.block, Step.below hb, Agree.refl _ _, Nat.le_refl _⟩ hf' hd'
          · cases hr
        · simp only [compDraw] at hr
          split at hr
          · rename_i hok
            simp only [aCode] at hr
            split at hr
            · rename_i fr1 h1 hdr
              split at hr
              · rename_i fr2 h2 hop
                simp only [Option.some.injEq, Prod.mk.injEq] at hr
                obtain ⟨rfl, rfl, rfl⟩ := hr
                exact draw_sound hm hcall (compL_of _ _ hl _) hok hf H hY hn hdr hop fin
              · cases hr
            · cases hr
          · simp [aCode] at hr
  | .seq x y, s, inr, n0 => by
    intro ro B fr fr' h h' ex ι a w Q hro hB hn hd hf H hY hr hq
    simp only [compC, aCode] at hr
    refine wpIn_seq ?_
    split at hr
    · rename_i fr1 h1 hx
      refine code_ok hm hcall rounds x s inr n0 ro B fr fr1 h h1 .normal ι a w _ hro hB hn hd hf H hY hx fun ι1 a1 w1 hA1 hf1 hd1 => ?_
      exact code_ok hm hcall rounds y _ inr n0 ro B fr1 fr' h1 h' ex ι1 a1 w1 Q hro (Nat.le_trans hB hA1.step.size) hA1.le hd1 hf1 hA1.rel (hY.later hA1.later) hr fun ι2 a2 w2 hA2 => hq ι2 a2 w2 (hA1.trans hA2)
    · rename_i hne
      cases ex with
      | normal => exact (hne fr' h' hr).elim
      | exit id => exact code_ok hm hcall rounds x s inr n0 ro B fr fr' h h' (.exit id) ι a w _ hro hB hn hd hf H hY hr hq
      | ret => exact code_ok hm hcall rounds x s inr n0 ro B fr fr' h h' .ret ι a w _ hro hB hn hd hf H hY hr hq
  | .cond c x y, s, inr, n0 => by
    intro ro B fr fr' h h' ex ι a w Q hro hB hn hd hf H hY hr hq
    simp only [compC, aCode] at hr
    split at hr
    · rename_i t ht
      have hcr := opd_rel hf c
      rw [ht] at hcr
      simp only [VRel] at hcr
      refine wpIn_cond hcr ?_
      cases t with
      | true => exact code_ok hm hcall rounds x s inr n0 ro B fr fr' h h' ex ι a w Q hro hB hn hd hf H hY hr hq
      | false => exact code_ok hm hcall rounds y _ inr n0 ro B fr fr' h h' ex ι a w Q hro hB hn hd hf H hY hr hq
    · cases hr
  | .block id x, s, inr, n0 => by
    intro ro B fr fr' h h' ex ι a w Q hro hB hn hd hf H hY hr hq
    simp only [compC, aCode] at hr
    refine wpIn_block ?_
    split at hr
    · rename_i i fr1 h1 hx
      refine code_ok hm hcall rounds x s inr n0 ro B fr fr1 h h1 (.exit i) ι a w _ hro hB hn hd hf H hY hx fun ι1 a1 w1 hA1 hf1 hd1 => ?_
      show if i = id then Q .normal a1 w1 else Q (.exit i) a1 w1
      split at hr
      · rename_i hi
        simp only [Option.some.injEq, Prod.mk.injEq] at hr
        obtain ⟨rfl, rfl, rfl⟩ := hr
        rw [if_pos hi]
        exact hq ι1 a1 w1 hA1 hf1 hd1
      · rename_i hi
        simp only [Option.some.injEq, Prod.mk.injEq] at hr
        obtain ⟨rfl, rfl, rfl⟩ := hr
        rw [if_neg hi]
        exact hq ι1 a1 w1 hA1 hf1 hd1
    · rename_i hne
      cases ex with
      | normal => exact code_ok hm hcall rounds x s inr n0 ro B fr fr' h h' .normal ι a w _ hro hB hn hd hf H hY hr hq
      | exit i => exact (hne i fr' h' hr).elim
      | ret => exact code_ok hm hcall rounds x s inr n0 ro B fr fr' h h' .ret ι a w _ hro hB hn hd hf H hY hr hq
  | .loop x, s, inr, n0 => by
    intro ro B fr fr' h h' ex ι a w Q hro hB hn hd hf H hY hr hq
    simp only [compC, aCode] at hr
    split at hr
    · rename_i e1 fr1 h1 hl
      simp only [Option.some.injEq, Prod.mk.injEq] at hr
      obtain ⟨rfl, rfl, rfl⟩ := hr
      exact wpIn_loop_rounds rounds (loop_ok (code_ok hm hcall rounds x _ inr n0) rounds ro B fr fr1 h h1 e1 ι a w Q hro hB hn hd hf H hY hl fun ι' a' w' hA hf' hd' => hq ι' a' w' hA (mask_rel _ hf') hd')
    · cases hr
  | .exit id, s, inr, n0 => by
    intro ro B fr fr' h h' ex ι a w Q hro hB hn hd hf H hY hr hq
    simp only [compC, aCode, Option.some.injEq, Prod.mk.injEq] at hr
    obtain ⟨rfl, rfl, rfl⟩ := hr
    exact wpIn_exit (hq ι a w (.refl H hn) hf hd)
  | .ret, s, inr, n0 => by
    intro ro B fr fr' h h' ex ι a w Q hro hB hn hd hf H hY hr hq
    simp only [compC, aCode, Option.some.injEq, Prod.mk.injEq] at hr
    obtain ⟨rfl, rfl, rfl⟩ := hr
    exact wpIn_ret (hq ι a w (.refl H hn) hf hd)
  | .rangeFunc g ps x y, s, inr, n0 => by
    intro ro B fr fr' h h' ex ι a w Q hro hB hn hd hf H hY hr hq
    simp only [compC, aCode] at hr
    cases inr with
    | true => simp at hr
    | false =>
      simp only [Bool.false_eq_true, if_false] at hr
      exact range_ok hcall (fun n => code_ok hm hcall rounds x s.tail true n) (fun n => code_ok hm hcall rounds y _ true n) ro B fr fr' h h' ex ι a w Q hro hB hn hd hf H hY hr hq
  | .scope _, s, inr, n0 => by intro ro B fr fr' h h' ex ι a w Q hro hB hn hd hf H hY hr hq; simp [compC, aCode] at hr
  | .label _, s, inr, n0 => by intro ro B fr fr' h h' ex ι a w Q hro hB hn hd hf H hY hr hq; simp [compC, aCode] at hr
  | .goto _, s, inr, n0 => by intro ro B fr fr' h h' ex ι a w Q hro hB hn hd hf H hY hr hq; simp [compC, aCode] at hr
  | .refuse _, s, inr, n0 => by intro ro B fr fr' h h' ex ι a w Q hro hB hn hd hf H hY hr hq; simp [compC, aCode] at hr

/-! ### Calls -/

def resGet (tmps : Array Value) : ResultVar → Sem Value
  | .tmp t => pure (tmps.getD t undef)
  | .cell a t => do loadVar t (← asAddr (tmps.getD a undef))

theorem res_ok {ι : Emb} {h : AHeap} {w : World} (H : HRel ι h w) {fr : List AV} {tmps : Array Value} (hf : VRels ι fr tmps.toList) : ∀ (l : List ResultVar) (rs : List ARes) (vs : List AV), compRes P l = some rs → resAll fr h rs = some vs →
    ∃ xs : List Value, (l.mapM (resGet tmps)).run P w = .ok xs w ∧ VRels ι vs xs
  | [], rs, vs, hc, hr => by
    simp only [compRes] at hc
    cases hc
    simp only [resAll] at hr
    cases hr
    exact ⟨[], by simp, .nil⟩
  | .tmp t :: l, rs, vs, hc, hr => by
    simp only [compRes] at hc
    split at hc
    · rename_i r hl
      cases hc
      simp only [resAll, ARes.get] at hr
      split at hr
      · rename_i v us hv hus
        cases hr
        obtain ⟨xs, hx, hrel⟩ := res_ok H hf l r us hl hus
        refine ⟨tmps.getD t undef :: xs, by simp only [List.mapM_cons, Sem.run_bind, resGet, Sem.run_pure, Result.andThen_ok, hx], ?_⟩
        have := hf.getD t undef
        simp only [Option.some.injEq] at hv
        rw [hv] at this
        have he : tmps.toList.getD t undef = tmps.getD t undef := by simp [List.getD_eq_getElem?_getD]
        rw [he] at this
        exact .cons this hrel
      · cases hr
    · cases hc
  | .cell a t :: l, rs, vs, hc, hr => by
    simp only [compRes] at hc
    have hpt : ∀ i o, fr.getD a .junk = .ptr i o → ∃ e, ι[i]? = some e ∧ tmps.getD a undef = .pointer (some ⟨e.1, e.2.1 + o, none⟩) := by
      intro i o hp
      have := hf.getD a undef
      rw [hp] at this
      have he : tmps.toList.getD a undef = tmps.getD a undef := by simp [List.getD_eq_getElem?_getD]
      rw [he] at this
      simpa only [VRel] using this
    split at hc
    · rename_i n r hag hn hl
      cases hc
      simp only [resAll, ARes.get] at hr
      split at hr
      · rename_i v us hv hus
        cases hr
        obtain ⟨xs, hx, hrel⟩ := res_ok H hf l r us hl hus
        split at hv
        · rename_i i o hp
          split at hv
          · rename_i row hrow
            cases hs : sub? row o n with
            | none => simp [hs] at hv
            | some ls =>
              simp only [hs, Option.map_some, Option.some.injEq] at hv
              subst hv
              obtain ⟨e, he, hpe⟩ := hpt i o hp
              obtain ⟨inf, hi, rfl⟩ := sizeA_some hn
              obtain ⟨cs, hlen, hcr, hcell⟩ := H.cellsAt hrow he hs
              have hload := run_loadCells_list (P := P) w _ cs hcell
              rw [hlen] at hload
              refine ⟨.agg cs.toArray :: xs, ?_, .cons (by simp only [VRel]; exact ⟨_, rfl, by simpa using hcr⟩) hrel⟩
              simp only [List.mapM_cons, Sem.run_bind, resGet, hpe, asAddr, Sem.run_pure, Result.andThen_ok, loadVar, aggA_some hag, if_true, run_sizeOf' hi, hload, hx]
          · cases hv
        · cases hv
      · cases hr
    · rename_i r hag hl
      cases hc
      simp only [resAll, ARes.get] at hr
      split at hr
      · rename_i v us hv hus
        cases hr
        obtain ⟨xs, hx, hrel⟩ := res_ok H hf l r us hl hus
        split at hv
        · rename_i i o hp
          split at hv
          · rename_i row hrow
            obtain ⟨e, he, hpe⟩ := hpt i o hp
            obtain ⟨y, hy, hyr⟩ := H.cell hrow he hv
            refine ⟨y :: xs, ?_, .cons hyr hrel⟩
            simp only [List.mapM_cons, Sem.run_bind, resGet, hpe, asAddr, Sem.run_pure, Result.andThen_ok, loadVar, aggA_some hag, Bool.false_eq_true, if_false, run_load, hy, hx]
          · cases hv
        · cases hv
      · cases hr
    · cases hc

theorem tup_rel {ι : Emb} {vs : List AV} {xs : List Value} (h : VRels ι vs xs) : VRel ι (tup vs) (if h : xs.toArray.size = 1 then xs.toArray[0] else .tuple xs.toArray) := by
  match vs, xs, h with
  | [], xs, h => rw [h.nil_inv]; simp [tup, VRel, VRels]
  | [v], xs, h =>
    obtain ⟨y, ys, rfl, h1, h2⟩ := h.cons_inv
    rw [h2.nil_inv]
    simpa [tup] using h1
  | v :: u :: vs, xs, h =>
    have hl := h.length
    rw [dif_neg (by simp at hl ⊢; omega)]
    simp only [tup, VRel]
    exact ⟨_, rfl, by simpa using h⟩

/-- Which functions are compiled. -/
def FOk (P : Program) (F : FuncId → Option AFn) : Prop := ∀ f fa, F f = some fa → ∃ fn s, P.funcs[f]? = some fn ∧ compF P fn s = some fa

def TOk (P : Program) (T : FuncId → Option (List AV → AHeap → Option (AV × AHeap))) : Prop := ∀ f g, T f = some g → ∀ args h v h', g args h = some (v, h') → SoundCall P f args h v h'

/-- The marks are taken up one after the other; the result is what lies behind. -/
theorem leave_marks {fn : Func} {tmps : Array Value} {h : AHeap} {ι0 : Emb} {h0 : AHeap} {w0 : World} {R : Ending → World → Prop} : ∀ (ds : List Deferred) (ι : Emb) (w : World), HRel ι h w → Step h0 ι0 w0 h ι w → MarksOk w0.heap.size w ds →
    (∀ w', HRel ι h w' → Step h0 ι0 w0 h ι w' → ∃ v, (results fn tmps).run P w' = .ok v w' ∧ R (.returned v) w') → LeavesInM Fence.wide 0 P fn tmps R ds .returning w
  | [], ι, w, H, S, _, hR => hR w H S
  | d :: ds, ι, w, H, S, ⟨⟨D, h1, h2, h3, h4⟩, hm⟩, hR => by
    have hlt : D < w.heap.size := (Array.getElem?_eq_some_iff.1 h3).1
    refine ⟨by simp, .inl ⟨D, _, h1, run_takeDeferred h3, ?_⟩⟩
    have hob : ∀ (i : Nat) (o : AObj) (e : Nat × Nat × Nat), h[i]? = some o → ι[i]? = some e → o.live = true → e.1 ≠ D := fun i o e hi he hl => not_own_deferred H h3 hi he hl
    refine leave_marks ds ι _ ⟨H.len, fun i o e hi he => (H.obj i o e hi he).mono (fun _ _ h => h) (fun hl => World.putObj_heap_other (hob i o e hi he hl)), H.sep⟩
      ⟨S.os, S.tape, S.output, by simpa using S.size, fun b hb hno => by rw [World.putObj_heap_other (by omega)]; exact S.same b hb hno, S.own, fun b r hb => ?_⟩ ?_ hR
    · by_cases hbD : b = D
      · subst hbD
        have := loopAt_lt hb
        omega
      · rw [loopAt_same (World.putObj_heap_other hbD)]; exact S.loops b r hb
    · have : ∀ ds : List Deferred, (∀ d' ∈ ds, d'.target ≠ .collected D) → MarksOk w0.heap.size w ds → MarksOk w0.heap.size (w.putObj D (.deferred none)) ds := by
        intro ds
        induction ds with
        | nil => intro _ _; trivial
        | cons d' ds ih =>
          rintro hne ⟨⟨D', a1, a2, a3, a4⟩, ar⟩
          exact ⟨⟨D', a1, a2, by rw [World.putObj_heap_other (fun hDD => hne d' List.mem_cons_self (by rw [a1, hDD]))]; exact a3, a4⟩, ih (fun d hd => hne d (List.mem_cons_of_mem _ hd)) ar⟩
      exact this ds h4 hm

theorem fn_ok (hm : P.follows .mixedOrders = true) {F : FuncId → Option AFn} (hF : FOk P F) {T : FuncId → Option (List AV → AHeap → Option (AV × AHeap))} (hT : TOk P T) (rounds : Nat) : ∀ n, CallOk P (aFn F T rounds n)
  | 0 => fun Y f args h v h' hr => by simp [aFn] at hr
  | n + 1 => fun Y f args h v h' hr => by
    simp only [aFn] at hr
    split at hr
    · rename_i g hg
      exact (hT f g hg args h v h' hr).toY
    · split at hr
      · cases hr
      · rename_i fa hfa
        obtain ⟨fn, s, hfn, hcf⟩ := hF f fa hfa
        unfold compF at hcf
        split at hcf
        · rename_i c r hbody hres
          split at hcf
          · cases hcf
          · rename_i hname
            cases hcf
            have hcb : Callable P f := fun xs w => by
              have hname' : ¬ fn.name = "runtime.NumGoroutine" := by simpa using hname
              simp [callFunc, hfn, hname', hbody]
            split at hr
            · cases hr
            · cases hr
            · rename_i ex fr h1 hne hrun
              split at hr
              · cases hr
              · rename_i vs hvs
                split at hr
                · cases hr
                · rename_i vs' h'' hre
                  simp only [Option.some.injEq, Prod.mk.injEq] at hr
                  obtain ⟨rfl, rfl⟩ := hr
                  refine ⟨hcb, fun ι xs w hxs H hY => ?_⟩
                  refine (callsIn_wide (n := 0)).1 (callsIn_of_wp_marks hfn hbody trivial ?_)
                  have hfr : VRels ι (args ++ List.replicate (fn.ntmps - args.length) .undef) (xs ++ Array.replicate (fn.ntmps - xs.size) undef).toList := by
                    have hl := hxs.length
                    simp at hl
                    rw [Array.toList_append, Array.toList_replicate, ← hl]
                    exact hxs.append (VRels.replicate (by simp only [VRel]; exact ⟨#[], rfl, .nil⟩) _)
                  refine code_ok hm (fn_ok hm hF hT rounds n) rounds c s false h.length none w.heap.size _ fr h h1 ex ι _ w _ rfl (Nat.le_refl _) (Nat.le_refl _) trivial hfr H hY hrun fun ι1 a1 w1 hA1 hf1 hd1 => ?_
                  have post : LeavesInM Fence.wide 0 P fn a1.tmps (fun e w' => ∃ ι' x, e = .returned x ∧ VRel ι' (tup vs') x ∧ After ι h w h'' ι' w') a1.defers .returning w1 := by
                    refine leave_marks a1.defers ι1 w1 hA1.rel hA1.step hd1 fun w2 H2 S2 => ?_
                    obtain ⟨ys, hys, hyr⟩ := res_ok (P := P) H2 hf1 fn.results.toList r vs hres hvs
                    obtain ⟨ι2, hf2, hA2⟩ := renorm_sound H2 hA1.le hyr hre
                    have hresrun : (results fn a1.tmps).run P w2 = .ok (if h : ys.toArray.size = 1 then ys.toArray[0] else .tuple ys.toArray) w2 := by
                      show (do let vs ← fn.results.mapM (resGet a1.tmps); pure (if h : vs.size = 1 then vs[0] else .tuple vs) : Sem Value).run P w2 = _
                      rw [Array.mapM_eq_mapM_toList]
                      simp only [Sem.run_bind, Sem.run_map, hys, Result.andThen_ok, Sem.run_pure]
                    exact ⟨_, hresrun, ι2, _, rfl, tup_rel hf2, ⟨hA2.rel, S2.trans hA2.step, hA1.agree.trans hA2.agree, hA2.le⟩⟩
                  cases ex with
                  | normal => exact post
                  | ret => exact post
                  | exit id => exact (hne id rfl).elim
        · cases hcf

/-- What a law's row asks of its walk. -/
theorem walk_of (hm : P.follows .mixedOrders = true) {F : FuncId → Option AFn} (hF : FOk P F) {T : FuncId → Option (List AV → AHeap → Option (AV × AHeap))} (hT : TOk P T) {rounds n : Nat} {f : FuncId} {args : List AV} {h h' : AHeap}
    (hr : aFn F T rounds n noY f args h = some (.bool true, h')) {ι : Emb} {xs : Array Value} {w : World} (hxs : VRels ι args xs.toList) (H : HRel ι h w) (hown : ∀ b, ¬ Own h ι b) :
    Calls P f xs w fun e w' => e = .returned (.bool true) ∧ Go.RowKit.Below w.heap.size w w' :=
  ((fn_ok hm hF hT rounds n noY f args h _ h' hr).of.2 ι xs w hxs H).mono fun e w' ⟨ι', x, he, hv, hA⟩ => by
    simp only [VRel] at hv
    subst hv
    exact ⟨he, hA.step.to_below hown⟩

theorem tOk_none : TOk P (fun _ => none) := fun f g h => by cases h

end
end Go.Ax

/-
The second machine's operations, code and functions are the abstract one's (3).
Contracts of functions for the second machine; what a run says of the model.
-/
import Derived.Test.YtidlbhppbopjjaaKxA
namespace Go.Ax
set_option linter.unusedVariables false
set_option linter.unusedSimpArgs false

section
variable {β : Type} {fr : List KV} {h : KHeap}

theorem evs_erv (l : List AOpd) : l.map (·.ev (ers fr)) = ers (l.map (·.evK fr)) := by
  rw [ers_map]
  exact List.map_congr_left fun x _ => ev_erv fr x

theorem kOp_sim {op : AOp} {k : KV → KHeap → Option β} {r : β} (e : kOp fr h op k = some r) : ∃ v h', OpRes fr h op v h' ∧ k v h' = some r := by
  unfold kOp at e
  simp only [newRows, forceC_eq, forceVs_eq, valK_eq, pushK_eq, setHK_eq] at e
  cases op with
  | mov x => exact ⟨_, _, .inl (by simp only [aOp, ev_erv]), e⟩
  | pick c a b =>
    simp only at e
    split at e
    · rename_i t hc
      rcases selK_some e with ⟨rfl, e⟩ | ⟨rfl, e⟩ <;> exact ⟨_, _, .inl (by simp only [aOp, ev_erv, hc, erv]; rfl), e⟩
    · cases e
  | new cells => exact ⟨_, _, .inl (by simp only [aOp, erh_push, erh_length, ero, ers_inj, erv]), e⟩
  | box x =>
    obtain ⟨cs, hc, e⟩ := optK_some e
    exact ⟨_, _, .inl (by simp only [aOp, ev_erv, cells_sim, hc, Option.map_some, erh_push, erh_length, ero, erv]), e⟩
  | build z ps =>
    obtain ⟨cs, hc, e⟩ := optK_some e
    have := fill_sim fr ps (injs z)
    rw [ers_inj, hc] at this
    exact ⟨_, _, .inl (by simp only [aOp, this, Option.map_some, erv]), e⟩
  | buildSlice es n z ps =>
    obtain ⟨cs, hc, e⟩ := optK_some e
    have := fill_sim fr ps (injs z)
    rw [ers_inj, hc] at this
    exact ⟨_, _, .inl (by simp only [aOp, this, Option.map_some, erv, erh_push, erh_length, ero]), e⟩
  | load1 a =>
    simp only at e
    split at e
    · rename_i i o ha
      obtain ⟨vs, h1, e⟩ := rowK_sim e
      obtain ⟨v, h2, e⟩ := optK_some e
      exact ⟨_, _, .inl (by simp only [aOp, ev_erv, ha, erv, h1, ers_get, h2, Option.map_some]), e⟩
    · rename_i i r' j es ha
      split at e
      · rename_i b cs l hi
        obtain ⟨hc, e⟩ := selK_t e
        have hes : es = cs.length := by simpa using hc
        obtain ⟨row, h1, e⟩ := optK_some e
        obtain ⟨v, h2, e9⟩ := optK_some e
        have hj : j < cs.length := by
          rcases Nat.lt_or_ge j (rowKV cs row).length with h' | h'
          · rw [← ers_length, ers_rowKV, rowAV_length] at h'; exact h'
          · rw [List.getElem?_eq_none h'] at h2; cases h2
        have h3 := flat_get h1 j hj
        rw [← ers_rowKV, ers_get, h2] at h3
        subst hes
        exact ⟨_, _, .inl (by simp only [aOp, ev_erv, ha, erv, recs_row hi, h3, Option.map_some]), e9⟩
      · cases e
    · cases e
  | loadN n a =>
    simp only at e
    split at e
    · rename_i i o ha
      obtain ⟨vs, h1, e⟩ := rowK_sim e
      obtain ⟨v, h2, e⟩ := optK_some e
      exact ⟨_, _, .inl (by simp only [aOp, ev_erv, ha, erv, h1, subK_sim, h2, Option.map_some]), e⟩
    · rename_i i r' j es ha
      split at e
      · rename_i b cs l hi
        obtain ⟨hc, e⟩ := selK_t e
        have hes : es = cs.length := by simpa using hc
        obtain ⟨row, h1, e⟩ := optK_some e
        obtain ⟨v, h2, e9⟩ := optK_some e
        have hs := subK_sim (rowKV cs row) j n
        rw [h2, ers_rowKV, Option.map_some] at hs
        have hj : j + n ≤ cs.length := by
          unfold sub? at hs
          split at hs
          · rename_i h'; rw [rowAV_length] at h'; exact h'
          · cases hs
        have h3 := flat_sub1 h1 j n hj
        unfold sub? at hs
        rw [if_pos (by rw [rowAV_length]; exact hj)] at hs
        rw [hs] at h3
        subst hes
        exact ⟨_, _, .inl (by simp only [aOp, ev_erv, ha, erv, recs_row hi, h3, Option.map_some]), e9⟩
      · cases e
    · cases e
  | store n a v =>
    simp only at e
    split at e
    · rename_i i o ha
      split at e
      · rename_i vs hi
        obtain ⟨cs, h1, e⟩ := optK_some e
        obtain ⟨hc, e⟩ := selK_t e
        simp only [Bool.and_eq_true, beq_iff_eq, decide_eq_true_eq] at hc
        refine ⟨_, _, .inr ⟨?_, rfl⟩, e⟩
        simp only [aOp, ev_erv, ha, erv, erh_get, hi, Option.map_some, ero, cells_sim, h1, ers_length, ones_sim, erh_set, splice_sim]
        rw [if_pos ⟨hc.1.1, hc.1.2, hc.2⟩]
      · cases e
    · rename_i i r' j es ha
      split at e
      · rename_i cs l hi
        obtain ⟨hc, e⟩ := selK_t e
        have hes : es = cs.length := by simpa using hc
        obtain ⟨row, h1, e⟩ := optK_some e
        obtain ⟨vs, h2, e⟩ := optK_some e
        obtain ⟨hn, e⟩ := selK_t e
        have hn' : vs.length = n := by simpa using hn
        obtain ⟨row', h3, e9⟩ := optK_some e
        have h4 := flat_splice h1 h3
        obtain ⟨_, h5, h6⟩ := rowSet_spec cs row row' j vs h3
        subst hes
        have hl : r' < l.length := by
          rcases Nat.lt_or_ge r' l.length with h' | h'
          · exact h'
          · rw [List.getElem?_eq_none h'] at h1; cases h1
        have hb : r' * cs.length + j + n ≤ (flat cs l).length := by
          rw [flat_length]
          have : (r' + 1) * cs.length ≤ l.length * cs.length := Nat.mul_le_mul_right _ hl
          rw [Nat.succ_mul] at this
          omega
        refine ⟨_, _, .inr ⟨?_, rfl⟩, e9⟩
        simp only [aOp, ev_erv, ha, erv, erh_get, hi, Option.map_some, ero, cells_sim, h2, ers_length, ones_sim, erh_set, h4]
        rw [if_pos ⟨hn', hb, h6⟩]
      · cases e
    · cases e
  | nilCheck x =>
    simp only at e
    split at e
    · rename_i i o ha
      exact ⟨_, _, .inl (by simp only [aOp, ev_erv, ha, erv]), e⟩
    · rename_i i r' j es ha
      exact ⟨_, _, .inl (by simp only [aOp, ev_erv, ha, erv]), e⟩
    · cases e
  | bin op ek x y =>
    obtain ⟨v, h1, h2⟩ := kBin_sim e
    exact ⟨_, _, .inl (by simp only [aOp, ev_erv, h1, Option.map_some]), h2⟩
  | not x =>
    simp only at e
    split at e
    · rename_i b hx
      exact ⟨_, _, .inl (by simp only [aOp, ev_erv, hx, erv]), e⟩
    · cases e
  | conv kd x =>
    simp only at e
    split at e
    · rename_i k' n hx
      exact ⟨_, _, .inl (by simp only [aOp, ev_erv, hx, erv, wr]), e⟩
    · cases e
  | b2s x =>
    simp only at e
    split at e
    · rename_i hx
      exact ⟨_, _, .inl (by simp only [aOp, ev_erv, hx, erv, cellsOf, bytesOf, Option.map_some]), e⟩
    · rename_i i o n es' hx
      obtain ⟨hc, e⟩ := selK_t e
      have hc' : es' = 1 := by simpa using hc
      obtain ⟨vs, h1, e⟩ := rowK_sim e
      obtain ⟨l, h2, e⟩ := optK_some e
      obtain ⟨s, h3, e⟩ := optK_some e
      exact ⟨_, _, .inl (by simp only [aOp, ev_erv, hx, erv, cellsOf, if_pos hc', h1, subK_sim, h2, Option.map_some, bytesOfK_sim l s h3]), e⟩
    · rename_i i r' n es' hx
      split at e
      · rename_i b l hi
        obtain ⟨hc, e⟩ := selK_t e
        simp only [Bool.and_eq_true, beq_iff_eq, decide_eq_true_eq] at hc
        have h3 := flat_sub l r' n hc.2
        simp only [List.length_cons, List.length_nil, Nat.zero_add] at h3
        refine ⟨_, _, .inl ?_, e⟩
        rw [hc.1] at hx
        simp only [aOp, ev_erv, hx, erv, cellsOf, if_true, recs_row hi, h3, bytesR_sim, Option.map_some]
      · cases e
    · cases e
  | i2s x =>
    simp only at e
    split at e
    · rename_i k' n hx
      exact ⟨_, _, .inl (by simp only [aOp, ev_erv, hx, erv, encU]), e⟩
    · cases e
  | mkfunc fn a b => exact ⟨_, _, .inl (by simp only [aOp, evs_erv, erv]), e⟩
  | mkslice es bytes z l c =>
    simp only at e
    split at e
    · rename_i l' c' hl hc
      obtain ⟨hk, e⟩ := selK_t e
      simp only [Bool.and_eq_true, beq_iff_eq, leI, decide_eq_true_eq] at hk
      have ha : aOp (ers fr) (erh h) (.mkslice es bytes z l c) = some (.val (.slice (erh h).length 0 l'.toNat es) (erh h ++ [.cells ((List.replicate c'.toNat z).flatten)])) := by
        simp only [aOp, ev_erv, hl, hc, erv]
        rw [if_pos ⟨hk.1, hk.2.1, hk.2.2.1, hk.2.2.2.1, hk.2.2.2.2⟩]
      split at e
      · rename_i cs hcs
        split at e
        · rename_i row hrow
          have h1 := rowOf_spec cs _ row [] hrow
          rw [ers_inj] at h1
          simp only [ers, List.append_nil] at h1
          refine ⟨_, _, .inl ?_, e⟩
          rw [ha, erh_push, erh_length, h1, ← flat_replicate]
          simp [erv, ero]
        · cases e
      · refine ⟨_, _, .inl ?_, e⟩
        rw [ha, erh_push, erh_length]
        simp [erv, ero, ers_flatten, ers_inj]
    · cases e
  | substr x lo hi =>
    simp only at e
    split at e
    · rename_i s hx
      obtain ⟨b, hb, e⟩ := kBound_sim e
      obtain ⟨a, ha, e⟩ := kBound_sim e
      exact ⟨_, _, .inl (by simp only [aOp, ev_erv, hx, erv, hb, ha, subS]), e⟩
    · cases e
  | subslice es x lo hi mx =>
    simp only at e
    split at e
    · rename_i i o n es' hx
      obtain ⟨m, hm, e⟩ := kBound_sim e
      obtain ⟨b, hb, e⟩ := kBound_sim e
      obtain ⟨a, ha, e⟩ := kBound_sim e
      obtain ⟨hc, e⟩ := selK_t e
      have hc' : es' = es := by simpa using hc
      exact ⟨_, _, .inl (by simp only [aOp, ev_erv, hx, erv, hm, hb, ha, if_pos hc']), e⟩
    · rename_i i r' n es' hx
      obtain ⟨m, hm, e⟩ := kBound_sim e
      obtain ⟨b, hb, e⟩ := kBound_sim e
      obtain ⟨a, ha, e⟩ := kBound_sim e
      obtain ⟨hc, e⟩ := selK_t e
      have hc' : es' = es := by simpa using hc
      subst hc'
      exact ⟨_, _, .inl (by simp only [aOp, ev_erv, hx, erv, hm, hb, ha, if_true, Nat.add_mul]), e⟩
    · rename_i hx
      obtain ⟨m, hm, e⟩ := kBound_sim e
      obtain ⟨b, hb, e⟩ := kBound_sim e
      obtain ⟨a, ha, e⟩ := kBound_sim e
      exact ⟨_, _, .inl (by simp only [aOp, ev_erv, hx, erv, hm, hb, ha]), e⟩
    · cases e
  | fieldAddr off x =>
    simp only at e
    split at e
    · rename_i i o hx
      exact ⟨_, _, .inl (by simp only [aOp, ev_erv, hx, erv]), e⟩
    · rename_i i r' j es hx
      exact ⟨_, _, .inl (by simp only [aOp, ev_erv, hx, erv, Nat.add_assoc]), e⟩
    · cases e
  | field1 off x =>
    simp only at e
    split at e
    · rename_i cs hx
      obtain ⟨v, hv, e⟩ := optK_some e
      exact ⟨_, _, .inl (by simp only [aOp, ev_erv, hx, erv, ers_get, hv, Option.map_some]), e⟩
    · cases e
  | fieldN off n x =>
    simp only at e
    split at e
    · rename_i cs hx
      obtain ⟨v, hv, e⟩ := optK_some e
      exact ⟨_, _, .inl (by simp only [aOp, ev_erv, hx, erv, subK_sim, hv, Option.map_some]), e⟩
    · cases e
  | indexAddr es x i =>
    simp only at e
    split at e
    · rename_i b o n es' kd j hx hj
      obtain ⟨hc, e⟩ := selK_t e
      simp only [Bool.and_eq_true, beq_iff_eq, inR, decide_eq_true_eq] at hc
      refine ⟨_, _, .inl ?_, e⟩
      simp only [aOp, ev_erv, hx, hj, erv]
      rw [if_pos ⟨hc.1.1, hc.1.2, hc.2⟩]
    · rename_i b r' n es' kd j hx hj
      obtain ⟨hc, e⟩ := selK_t e
      simp only [Bool.and_eq_true, beq_iff_eq, inR, decide_eq_true_eq] at hc
      refine ⟨_, _, .inl ?_, e⟩
      simp only [aOp, ev_erv, hx, hj, erv]
      rw [if_pos ⟨hc.1.1, hc.1.2, hc.2⟩, hc.2, Nat.add_mul, Nat.add_zero]
    · cases e
  | indexStr x i =>
    simp only at e
    split at e
    · rename_i s kd j hx hj
      obtain ⟨hc, e⟩ := selK_t e
      obtain ⟨b, hb, e⟩ := optK_some e
      have hc' := of_decide_eq_true hc
      exact ⟨_, _, .inl (by simp only [aOp, ev_erv, hx, hj, erv, if_pos hc', hb, Option.map_some]), e⟩
    · cases e
  | range x =>
    simp only at e
    split at e
    · rename_i s hx
      exact ⟨_, _, .inl (by simp only [aOp, ev_erv, hx, erv, erh_push, erh_length, ero]), e⟩
    · cases e
  | next x =>
    simp only at e
    split at e
    · rename_i i hx
      split at e
      · rename_i s pos hi
        rcases selK_some e with ⟨hc, e⟩ | ⟨hc, e⟩
        · have hc' : pos < s.length := by rw [Nat.blt_eq] at hc; exact hc
          refine ⟨_, _, .inl ?_, e⟩
          simp only [aOp, ev_erv, hx, erv, erh_get, hi, Option.map_some, ero, if_pos hc', erh_set, ers, decC, decW]
        · have hc' : ¬ pos < s.length := by rw [← Nat.blt_eq, hc]; simp
          refine ⟨_, _, .inl ?_, e⟩
          simp only [aOp, ev_erv, hx, erv, erh_get, hi, Option.map_some, ero, if_neg hc', ers]
      · cases e
    · cases e
  | extract x i =>
    simp only at e
    split at e
    · rename_i vs hx
      obtain ⟨v, hv, e⟩ := optK_some e
      exact ⟨_, _, .inl (by simp only [aOp, ev_erv, hx, erv, ers_get, hv, Option.map_some]), e⟩
    · cases e
  | call f a => cases e
  | lenS x =>
    simp only at e
    split at e
    · rename_i s hx
      exact ⟨_, _, .inl (by simp only [aOp, ev_erv, hx, erv]), e⟩
    · cases e
  | len x =>
    simp only at e
    split at e <;> first
      | (rename_i hx; exact ⟨_, _, .inl (by simp only [aOp, ev_erv, hx, erv]), e⟩)
      | cases e
  | append es bytes x y =>
    obtain ⟨v, h', h1, h2⟩ := kAppend_sim e
    exact ⟨v, h', .inl h1, h2⟩
  | min x y =>
    simp only at e
    split at e
    · rename_i k1 a k2 b hx hy
      obtain ⟨hc, e⟩ := selK_t e
      have hc' := of_decide_eq_true hc
      exact ⟨_, _, .inl (by simp only [aOp, ev_erv, hx, hy, erv, aMin, if_pos hc', Option.map_some, minI]), e⟩
    · cases e
  | max x y =>
    simp only at e
    split at e
    · rename_i k1 a k2 b hx hy
      obtain ⟨hc, e⟩ := selK_t e
      have hc' := of_decide_eq_true hc
      exact ⟨_, _, .inl (by simp only [aOp, ev_erv, hx, hy, erv, aMax, if_pos hc', Option.map_some, maxI]), e⟩
    · cases e

/-! ### Operations in sequence -/

theorem boolK_sim {v : KV} {k : KV → Option β} {r : β} (e : boolK v k = some r) : k v = some r := by
  unfold boolK at e
  split at e
  · rcases selK_some e with ⟨rfl, e⟩ | ⟨rfl, e⟩ <;> exact e
  · exact e

theorem putK_sim {dst : Option Nat} {v : KV} {k : List KV → Option β} {r : β} (e : putK fr dst v k = some r) : ∃ fr', put (ers fr) dst (erv v) = ers fr' ∧ k fr' = some r := by
  unfold putK at e
  cases dst with
  | none => exact ⟨fr, rfl, e⟩
  | some d =>
    have := boolK_sim e
    rw [setK_eq] at this
    exact ⟨_, (ers_set fr d v).symm, this⟩

theorem killV_sim : ∀ (l : List Nat) (fr : List KV), ers (killV l fr) = killA l (ers fr)
  | [], fr => rfl
  | d :: l, fr => by
    simp only [killV, killA]
    rw [killV_sim l, ers_set]
    simp [erv]
theorem putDK_sim {i : AI} {v : KV} {k : List KV → Option β} {r : β} (e : putDK fr i v k = some r) : ∃ fr', putD (ers fr) i (erv v) = ers fr' ∧ k fr' = some r := by
  obtain ⟨fr1, h1, e⟩ := putK_sim e
  rw [killK_eq] at e
  exact ⟨_, by rw [putD, h1, killV_sim], e⟩

theorem kWanted_sim {g : Option (Nat × Bool)} {a b : Option β} {r : β} (e : kWanted fr g a b = some r) : (wantedA (ers fr) g = some true ∧ a = some r) ∨ (wantedA (ers fr) g = some false ∧ b = some r) := by
  unfold kWanted at e
  cases g with
  | none => exact .inl ⟨rfl, e⟩
  | some p =>
    obtain ⟨s, want⟩ := p
    simp only at e
    split at e
    · rename_i t ht
      simp only [wantedA, ers_getD, ← getK_eq, ht, erv]
      cases t <;> cases want <;> simp [selK] at e ⊢ <;> exact e
    · rename_i ht
      simp only [wantedA, ers_getD, ← getK_eq, ht, erv, ers]
      exact .inr ⟨trivial, e⟩
    · cases e

/-- The calls of the two machines. -/
def YSim (aY : AYs) (kY : KYs β) : Prop :=
  ∀ j kg, kY j = some kg → ∃ ag, aY j = some ag ∧ ∀ args h kk r, kg args h kk = some r → ∃ v h', ag (ers args) (erh h) = some (erv v, erh h') ∧ kk v h' = some r
theorem YSim.none : YSim (β := β) noY noYK := fun j kg h => by cases h
def CallSim (acall : ACall) (call : KCall β) : Prop :=
  ∀ aY kY, YSim aY kY → ∀ f args h k r, call kY f args h k = some r → ∃ v h', acall aY f (ers args) (erh h) = some (erv v, erh h') ∧ k v h' = some r

variable {acall : ACall} {call : KCall β} {aY : AYs} {kY : KYs β}

theorem aOp_call_sim {f : AOpd} {args : List AOpd} {g : FuncId} {fs cs : List KV} (hf : f.evK fr = .func (.func g) fs cs) :
    aOp (ers fr) (erh h) (.call f args) = some (.call g (ers (fs ++ args.map (·.evK fr) ++ cs))) := by
  simp only [aOp, ev_erv, hf, erv, ers_append, evs_erv]
  rw [← evs_erv]
  simp only [ev_erv]

theorem aOp_yld_sim {f : AOpd} {args : List AOpd} {j : Nat} (hf : f.evK fr = .yld j) :
    aOp (ers fr) (erh h) (.call f args) = some (.yield j (ers (args.map (·.evK fr)))) := by
  simp only [aOp, ev_erv, hf, erv, evs_erv]
  rw [← evs_erv]
  simp only [ev_erv]

theorem kStep_sim (hc : CallSim acall call) (hY : YSim aY kY) {i : AI} {k : List KV → KHeap → Option β} {r : β} (e : kStep call kY i fr h k = some r) :
    ∃ fr' h', aStep acall aY i (ers fr) (erh h) = some (ers fr', erh h') ∧ k fr' h' = some r := by
  simp only [kStep, forceVs_eq] at e
  unfold aStep
  rcases kWanted_sim e with ⟨hw, e⟩ | ⟨hw, e⟩ <;> simp only [hw]
  · split at e
    · rename_i f args hop
      split at e
      · rename_i g fs cs hf
        obtain ⟨v, h', h1, e⟩ := hc _ _ hY _ _ _ _ _ e
        obtain ⟨fr', h2, e⟩ := putDK_sim e
        refine ⟨fr', h', ?_, e⟩
        rw [hop, aOp_call_sim hf]
        simp only [h1, h2]
      · rename_i j hf
        split at e
        · rename_i g hg
          obtain ⟨ag, hag, hs⟩ := hY j g hg
          obtain ⟨v, h', h1, e⟩ := hs _ _ _ _ e
          obtain ⟨fr', h2, e⟩ := putDK_sim e
          refine ⟨fr', h', ?_, e⟩
          rw [hop, aOp_yld_sim hf]
          simp only [hag, h1, h2]
        · cases e
      · cases e
    · obtain ⟨v, h', h1, e⟩ := kOp_sim e
      obtain ⟨fr', h2, e⟩ := putDK_sim e
      refine ⟨fr', h', ?_, e⟩
      rcases h1 with h1 | ⟨h1, rfl⟩
      · simp only [h1, h2]
      · have h2' : putD (ers fr) i .undef = ers fr' := h2
        simp only [h1, h2']
  · obtain ⟨fr', h2, e⟩ := putDK_sim e
    have h2' : putD (ers fr) i .undef = ers fr' := h2
    exact ⟨fr', h, by rw [h2'], e⟩

theorem kOps_sim (hc : CallSim acall call) (hY : YSim aY kY) : ∀ (l : List AI) (fr : List KV) (h : KHeap) (k : List KV → KHeap → Option β) (r : β), kOps call kY l fr h k = some r →
    ∃ fr' h', aOps acall aY l (ers fr) (erh h) = some (ers fr', erh h') ∧ k fr' h' = some r
  | [], fr, h, k, r, e => ⟨fr, h, rfl, e⟩
  | i :: l, fr, h, k, r, e => by
    rw [kOps_cons] at e
    obtain ⟨fr1, h1, hs, e⟩ := kStep_sim hc hY e
    obtain ⟨fr2, h2, ho, e⟩ := kOps_sim hc hY l _ _ _ _ e
    exact ⟨fr2, h2, by simp only [aOps, hs, ho], e⟩

theorem toRo_sim (h : KHeap) : (erh h).map AObj.toRo = erh (h.map KObj.toRo) := by
  simp only [erh, List.map_map]
  apply List.map_congr_left
  intro o _
  cases o with
  | recs b cs l => cases b <;> rfl
  | _ => rfl

theorem kQuiet_sim (hc : CallSim acall call) : ∀ (l : List AI) (fr : List KV) (h : KHeap) (k : List KV → Option β) (r : β), kQuiet call l fr h k = some r →
    ∃ fr', aQuiet acall l (ers fr) (erh h) = some (ers fr') ∧ k fr' = some r
  | [], fr, h, k, r, e => ⟨fr, rfl, e⟩
  | i :: l, fr, h, k, r, e => by
    simp only [kQuiet_cons, kQStep, forceVs_eq, forceC_eq] at e
    simp only [aQuiet]
    rcases kWanted_sim e with ⟨hw, e⟩ | ⟨hw, e⟩ <;> simp only [hw]
    · obtain ⟨hs, e⟩ := selK_t e
      have hs' : ¬ i.op.still = false := by rw [hs]; simp
      rw [if_neg hs']
      split at e
      · rename_i f args hop
        split at e
        · rename_i g fs cs hf
          obtain ⟨v, h', h1, e⟩ := hc _ _ .none _ _ _ _ _ e
          obtain ⟨hv, e⟩ := selK_t e
          obtain ⟨fr', h2, e⟩ := putDK_sim e
          obtain ⟨fr'', h3, e⟩ := kQuiet_sim hc l _ _ _ _ e
          refine ⟨fr'', ?_, e⟩
          rw [hop, aOp_call_sim hf]
          simp only [callR, toRo_sim, h1, hv, if_true, h2, h3]
        · cases e
      · obtain ⟨v, h', h1, e⟩ := kOp_sim e
        obtain ⟨hv, e⟩ := selK_t e
        obtain ⟨fr', h2, e⟩ := putDK_sim e
        obtain ⟨fr'', h3, e⟩ := kQuiet_sim hc l _ _ _ _ e
        refine ⟨fr'', ?_, e⟩
        rcases h1 with h1 | ⟨h1, rfl⟩
        · simp only [h1, hv, if_true, h2, h3]
        · exact (still_skip hs h1).elim
    · obtain ⟨fr', h2, e⟩ := putDK_sim e
      obtain ⟨fr'', h3, e⟩ := kQuiet_sim hc l _ _ _ _ e
      have h2' : putD (ers fr) i .undef = ers fr' := h2
      exact ⟨fr'', by rw [h2', h3], e⟩

/-! ### Renaming -/

mutual
theorem ren_sim (ρ : Nat → Option Nat) : ∀ v : KV, erv (v.ren ρ) = (erv v).ren ρ
  | .junk | .bool _ | .int _ _ | .str _ | .nilptr | .nilslice | .nilFunc => by simp [KV.ren, erv, AV.ren]
  | .ptr i o => by simp only [KV.ren, erv, AV.ren]; cases ρ i <;> rfl
  | .rptr i r c es => by simp only [KV.ren, erv, AV.ren]; cases ρ i <;> rfl
  | .slice i o n es => by simp only [KV.ren, erv, AV.ren]; cases ρ i <;> rfl
  | .rslice i r n es => by simp only [KV.ren, erv, AV.ren]; cases ρ i <;> rfl
  | .yld i => by simp only [KV.ren, erv, AV.ren]; cases ρ i <;> rfl
  | .func fn a b => by simp [KV.ren, erv, AV.ren, rens_sim ρ a, rens_sim ρ b]
  | .agg l => by simp [KV.ren, erv, AV.ren, rens_sim ρ l]
  | .tuple l => by simp [KV.ren, erv, AV.ren, rens_sim ρ l]
theorem rens_sim (ρ : Nat → Option Nat) : ∀ l : List KV, ers (KV.rens ρ l) = AV.rens ρ (ers l)
  | [] => by simp [KV.rens, ers, AV.rens]
  | v :: l => by simp [KV.rens, ers, AV.rens, ren_sim ρ v, rens_sim ρ l]
end

theorem objRen_sim (ρ : Nat → Option Nat) (o : KObj) : ero (o.ren ρ) = (ero o).ren ρ := by
  cases o with
  | recs b cs l => cases b <;> simp [KObj.ren, ero, AObj.ren, flat_ren]
  | _ => simp [KObj.ren, ero, AObj.ren, rens_sim]
theorem objIds_sim (o : KObj) : (ero o).ids = o.ids := by
  cases o with
  | recs b cs l => cases b <;> simp [KObj.ids, ero, AObj.ids, flat_ids]
  | _ => simp [KObj.ids, ero, AObj.ids]
theorem erh_getD (h : KHeap) (i : Nat) : (erh h).getD i .dead = ero (h.getD i .dead) := by
  rw [List.getD_eq_getElem?_getD, List.getD_eq_getElem?_getD, erh_get]
  cases h[i]? <;> rfl

theorem reach_sim (n0 : Nat) (h : KHeap) : ∀ (n : Nat) (todo acc : List Nat), reach n0 (erh h) n todo acc = reachK n0 h n todo acc
  | 0, todo, acc => by simp [reach, reachK]
  | n + 1, [], acc => by simp [reach, reachK]
  | n + 1, i :: todo, acc => by
    simp only [reach, reachK]
    split
    · exact reach_sim n0 h n todo acc
    · rw [erh_getD, objIds_sim]; exact reach_sim n0 h n _ _

theorem renorm_sim {n0 : Nat} {fr fr' : List KV} {h h' : KHeap} (e : renormK n0 fr h = some (fr', h')) : renorm n0 (ers fr) (erh h) = some (ers fr', erh h') := by
  unfold renormK at e
  unfold renorm
  rw [erh_length]
  split at e
  · cases e; rw [if_pos (by assumption)]
  · rw [if_neg (by assumption)]
    have hroots : roots n0 (erh h) = rootsK n0 h := by
      unfold roots rootsK
      rw [← List.map_take, List.flatMap_map]
      congr 1
      funext o
      exact objIds_sim o
    simp only [hroots, reach_sim] at e ⊢
    split at e
    · rename_i hk
      rw [if_pos hk]
      simp only [Option.some.injEq, Prod.mk.injEq] at e
      obtain ⟨rfl, rfl⟩ := e
      simp only [rens_sim, erh, List.map_append, List.map_map, Option.some.injEq, Prod.mk.injEq, true_and]
      congr 1
      · rw [← List.map_take, List.map_map]
        exact List.map_congr_left fun o _ => (objRen_sim _ o).symm
      · exact List.map_congr_left fun i _ => by
          show AObj.ren _ ((erh h).getD i .dead) = ero _
          rw [objRen_sim, erh_getD]
    · cases e

theorem mask_sim : ∀ (m : List Bool) (l : List KV), ers (maskK m l) = mask m (ers l)
  | [], [] => by simp [maskK, mask, ers]
  | _ :: _, [] => by simp [maskK, mask, ers]
  | [], v :: l => by simp [maskK, mask, ers, erv, mask_sim [] l]
  | b :: m, v :: l => by cases b <;> simp [maskK, mask, ers, erv, mask_sim m l]

/-! ### Code -/

/-- A run of code. -/
def RunSim (run : List AV → AHeap → Option (AExit × List AV × AHeap)) (krun : List KV → KHeap → KCont β → Option β) : Prop :=
  ∀ fr h k r, krun fr h k = some r → ∃ e fr' h', run (ers fr) (erh h) = some (e, ers fr', erh h') ∧ k e fr' h' = some r

theorem loop_sim {n0 : Nat} {live : List Bool} {step : List AV → AHeap → Option (AExit × List AV × AHeap)} {kstep : List KV → KHeap → KCont β → Option β} (hs : RunSim step kstep) :
    ∀ (n : Nat) (fr : List KV) (h : KHeap) (k : KCont β) (r : β), kLoop n0 live kstep n fr h k = some r → ∃ e fr' h', aLoop n0 live step n (ers fr) (erh h) = some (e, ers fr', erh h') ∧ k e fr' h' = some r
  | 0, fr, h, k, r, e => by cases e
  | n + 1, fr, h, k, r, e => by
    simp only [kLoop_succ, forceVs_eq, forceH_eq] at e
    obtain ⟨⟨fr1, h1⟩, hr, e⟩ := optK_some e
    obtain ⟨ex, fr2, h2, hst, e⟩ := hs _ _ _ _ e
    have hr' := renorm_sim hr
    rw [mask_sim] at hr'
    simp only [aLoop, hr', hst]
    cases ex with
    | normal => exact loop_sim hs n fr2 h2 k r e
    | exit id => exact ⟨_, fr2, h2, rfl, e⟩
    | ret => exact ⟨_, fr2, h2, rfl, e⟩

/-! ### Regions that draw their order -/

theorem drawF_sim (sel : Nat → Option KV) : ∀ (l : List AI) (j : Nat) (fr : List KV), ers (drawFK sel j l fr) = drawF (fun k => (sel k).map erv) j l (ers fr)
  | [], j, fr => rfl
  | i :: l, j, fr => by
    simp only [drawFK, drawF]
    rw [drawF_sim sel l]
    congr 1
    cases i.dst with
    | none => rfl
    | some d =>
      simp only [put, ers_set]
      cases sel j <;> simp [erv]

theorem drawH_sim (sel : Nat → Bool) : ∀ (es : List (KV × List KObj)) (j : Nat), erh (drawHK sel j es) = drawH sel j (es.map fun e => (erv e.1, erh e.2))
  | [], j => rfl
  | e :: es, j => by
    simp only [drawHK, List.map_cons, drawH]
    rw [← drawH_sim sel es]
    simp only [erh, List.map_append]
    congr 1
    split
    · rfl
    · simp [ero]

theorem isCells_sim (o : KObj) : (ero o).isCells = o.isCells := by
  cases o with
  | recs b cs l => cases b <;> rfl
  | _ => rfl

theorem newsOk_sim (n0 m : Nat) (v : KV) (news : List KObj) : newsOk n0 m (erv v) (erh news) = newsOkK n0 m v news := by
  unfold newsOk newsOkK
  rw [erh_length]
  congr 1
  simp only [erh, List.all_map]
  congr 1
  funext o
  simp only [Function.comp, isCells_sim, objIds_sim]

theorem drop_sim (h : KHeap) (n : Nat) : (erh h).drop n = erh (h.drop n) := by simp [erh, List.map_drop]

theorem notStore_skip {ao : AOp} (hn : ao.notStore = true) {fr : List AV} {h h1 : AHeap} (ho : aOp fr h ao = some (.skip h1)) : False := by
  cases ao <;> simp only [AOp.notStore, reduceCtorEq] at hn <;> simp only [aOp] at ho <;>
    first
      | (cases ho; done)
      | (simp only [Option.map_eq_some_iff, reduceCtorEq, and_false, exists_false] at ho; done)
      | ((repeat' split at ho) <;> first
          | (cases ho; done)
          | (simp only [Option.map_eq_some_iff, reduceCtorEq, and_false, exists_false] at ho; done))

theorem kDrawVal_sim (hc : CallSim acall call) {i : AI} {k : KV → List KObj → Option β} {r : β} (e : kDrawVal call i fr h k = some r) :
    ∃ v news, drawVal acall i (ers fr) (erh h) = some (erv v, erh news) ∧ k v news = some r := by
  unfold kDrawVal at e
  unfold drawVal
  rcases kWanted_sim e with ⟨hw, e⟩ | ⟨hw, e⟩ <;> simp only [hw]
  · rw [forceC_eq] at e
    split at e
    · rename_i f args hop
      split at e
      · rename_i g fs cs hf
        rw [forceVs_eq] at e
        obtain ⟨v, h', h1, e⟩ := hc _ _ .none _ _ _ _ _ e
        rw [forceH_eq] at e
        refine ⟨v, _, ?_, e⟩
        rw [hop, toRo_sim, aOp_call_sim hf]
        simp only [h1, drop_sim, erh_length]
      · cases e
    · obtain ⟨hn, e⟩ := selK_t e
      obtain ⟨v, h', h1, e⟩ := kOp_sim e
      rw [forceH_eq] at e
      refine ⟨v, _, ?_, e⟩
      rcases h1 with h1 | ⟨h1, rfl⟩
      · rw [toRo_sim, h1]
        simp only [drop_sim, erh_length]
      · exact (notStore_skip hn h1).elim
  · exact ⟨.undef, [], rfl, e⟩

theorem kDrawGo_sim (hc : CallSim acall call) {all : List AI} {tbl : List Nat} {fr0 : List KV} {h0 : KHeap} : ∀ (l : List AI) (j : Nat) (es : List (KV × List KObj)) (k : List (KV × List KObj) → Option β) (r : β), kDrawGo call all tbl fr0 h0 l j es k = some r →
    ∃ es', drawGo acall all tbl (ers fr0) (erh h0) l j (es.map fun e => (erv e.1, erh e.2)) = some (es'.map fun e => (erv e.1, erh e.2)) ∧ k es' = some r
  | [], j, es, k, r, e => ⟨es, rfl, e⟩
  | i :: l, j, es, k, r, e => by
    rw [kDrawGo_cons, forceVs_eq, forceH_eq] at e
    obtain ⟨v, news, h1, e⟩ := kDrawVal_sim hc e
    obtain ⟨hn, e⟩ := selK_t e
    obtain ⟨es', h2, e⟩ := kDrawGo_sim hc l _ _ _ _ e
    refine ⟨es', ?_, e⟩
    simp only [drawGo]
    have e1 : (fun k => if (tbl.getD j 0).testBit k = true then ((es.map fun e => (erv e.1, erh e.2))[k]?).map (·.1) else none) = fun k => (if (tbl.getD j 0).testBit k = true then (es[k]?).map (·.1) else none).map erv := by
      funext k
      split
      · rw [List.getElem?_map]; cases es[k]? <;> rfl
      · rfl
    have e2 : erh h0 ++ drawH (fun k => (tbl.getD j 0).testBit k) 0 (es.map fun e => (erv e.1, erh e.2)) = erh (h0 ++ drawHK (fun k => (tbl.getD j 0).testBit k) 0 es) := by
      rw [← drawH_sim]; simp [erh]
    rw [e1, ← drawF_sim, e2, h1]
    simp only [erh_length, newsOk_sim, hn, if_true]
    simpa using h2

theorem killAll_sim : ∀ (l : List AI) (fr : List KV), ers (killAllV l fr) = killAll l (ers fr)
  | [], fr => rfl
  | i :: l, fr => by simp only [killAllV, killAll]; rw [killAll_sim l, killV_sim]

theorem kDraw_sim (hc : CallSim acall call) {l : List AI} {tbl : List Nat} {fr0 : List KV} {h0 : KHeap} {k : List KV → KHeap → Option β} {r : β} (e : kDraw call l tbl fr0 h0 k = some r) :
    ∃ fr' h', aDraw acall l tbl (ers fr0) (erh h0) = some (ers fr', erh h') ∧ k fr' h' = some r := by
  unfold kDraw at e
  obtain ⟨es, h1, e⟩ := kDrawGo_sim hc _ _ _ _ _ e
  rw [forceVs_eq, forceH_eq] at e
  refine ⟨_, _, ?_, e⟩
  unfold aDraw
  simp only [List.map_nil] at h1
  rw [h1]
  simp only [killAll_sim, drawF_sim, Option.some.injEq, Prod.mk.injEq]
  constructor
  · congr 2
    funext k
    rw [List.getElem?_map]; cases es[k]? <;> rfl
  · rw [← drawH_sim]; simp [erh]

/-! ### Loops over functions -/

theorem setPs_sim : ∀ (ps : List Nat) (args fr : List KV), ers (setPsK ps args fr) = setPs ps (ers args) (ers fr)
  | [], args, fr => by cases args <;> rfl
  | p :: ps, [], fr => rfl
  | p :: ps, v :: vs, fr => by simp only [setPsK, ers, setPs]; rw [setPs_sim ps, ers_set]

theorem kRound_sim {i : Nat} {ps : List Nat} {fr : List KV} {ra rb : Nat → List AV → AHeap → Option (AExit × List AV × AHeap)} {ka kb : Nat → List KV → KHeap → KCont β → Option β} (ha : ∀ n, RunSim (ra n) (ka n)) (hb : ∀ n, RunSim (rb n) (kb n))
    {args : List KV} {h : KHeap} {kk : KV → KHeap → Option β} {r : β} (e : kRound i ps fr ka kb args h kk = some r) :
    ∃ v h', aRound i ps (ers fr) ra rb (ers args) (erh h) = some (erv v, erh h') ∧ kk v h' = some r := by
  unfold kRound at e
  unfold aRound
  rw [erh_get]
  split at e
  · rename_i hi
    rw [hi]
    simp only [Option.map_some, ero]
    obtain ⟨hl, e⟩ := selK_t e
    have hl' : (ers args).length = ps.length := by rw [ers_length]; simpa using hl
    rw [if_pos hl']
    rw [forceVs_eq] at e
    obtain ⟨ex, fr1, h1, h2, e⟩ := ha _ _ _ _ _ e
    rw [setPs_sim] at h2
    rw [erh_length, h2]
    cases ex with
    | exit id => cases e
    | ret => cases e
    | normal =>
      simp only at e ⊢
      split at e
      · rename_i hi1
        rw [erh_get, hi1]
        simp only [Option.map_some, ero]
        rw [setHK_eq] at e
        obtain ⟨ex, fr2, g2, h3, e⟩ := hb _ _ _ _ _ e
        rw [erh_set] at h3
        simp only [ero] at h3
        rw [h3]
        simp only
        unfold roundEnd at e
        obtain ⟨⟨fr3, g3⟩, h4, e⟩ := optK_some e
        have h4' := renorm_sim h4
        rw [show ers [] = [] from rfl] at h4'
        rw [forceH_eq] at e
        rw [h4']
        simp only at e ⊢
        split at e
        · rename_i hi3
          rw [erh_get, hi3]
          simp only [Option.map_some, ero]
          cases ex with
          | normal => simp only [setHK_eq] at e; exact ⟨.bool true, g3.set i (.loop .ready), by rw [erh_set]; rfl, e⟩
          | exit id => simp only [setHK_eq] at e; exact ⟨.bool false, g3.set i (.loop (.done (.exit id))), by rw [erh_set]; rfl, e⟩
          | ret => simp only [setHK_eq] at e; exact ⟨.bool false, g3.set i (.loop (.done .ret)), by rw [erh_set]; rfl, e⟩
        · cases e
      · cases e
  · cases e

theorem kRange_sim (hc : CallSim acall call) (hY : YSim aY kY) {g : KV} {ahand : AHand} {khand : KHand β} (hh : ∀ args h kk r, khand args h kk = some r → ∃ v h', ahand (ers args) (erh h) = some (erv v, erh h') ∧ kk v h' = some r)
    {fr : List KV} {h : KHeap} {k : KCont β} {r : β} (e : kRange call kY g khand fr h k = some r) : ∃ ex fr' h', aRange acall aY (erv g) ahand (ers fr) (erh h) = some (ex, ers fr', erh h') ∧ k ex fr' h' = some r := by
  unfold kRange at e
  split at e
  · rename_i f fs cs
    rw [pushK_eq] at e
    have hYs : YSim (fun j => if j = (erh h).length then some ahand else aY j) (fun j => if Nat.beq j h.length = true then some khand else kY j) := by
      intro j kg hj
      simp only [erh_length] at hj ⊢
      split at hj
      · rename_i hb
        rw [if_pos (Nat.eq_of_beq_eq_true hb)]
        cases hj
        exact ⟨ahand, rfl, hh⟩
      · rename_i hb
        rw [if_neg (fun he => hb (by rw [he]; exact Nat.beq_refl _))]
        exact hY j kg hj
    obtain ⟨v, h', h1, e⟩ := hc _ _ hYs _ _ _ _ _ e
    simp only [aRange, erv]
    have ha : ers (fs ++ [.yld h.length] ++ cs) = ers fs ++ [.yld (erh h).length] ++ ers cs := by
      simp [ers_append, ers, erv, erh_length]
    rw [ha, erh_push] at h1
    simp only [ero] at h1
    rw [h1]
    simp only [erh_length, erh_get]
    split at e
    · rename_i hi
      rw [setHK_eq] at e
      rw [hi]
      simp only [Option.map_some, ero]
      exact ⟨_, _, _, by rw [erh_set]; rfl, e⟩
    · rename_i ex hi
      rw [setHK_eq] at e
      rw [hi]
      simp only [Option.map_some, ero]
      exact ⟨_, _, _, by rw [erh_set]; rfl, e⟩
    · cases e
  · cases e

/-! ### Code -/

/-- The loops of code, the loops over functions too. -/
def AC.loops : AC → List (Nat × AC)
  | .seq a b => a.loops ++ b.loops
  | .cond _ a b => a.loops ++ b.loops
  | .block _ a => a.loops
  | .loop id live out a => (id, .loop id live out a) :: a.loops
  | .rangeFunc id g ps x y => [(id, .rangeFunc id g ps x y)]
  | _ => []

/-- What is told of loops is so. -/
def LoopsOk (acall : ACall) (R n0 : Nat) (L : Nat → Option (KLoop β)) (c : AC) : Prop :=
  ∀ id c' g, (id, c') ∈ c.loops → L id = some g → RunSim (fun fr h => aCode acall noY R false n0 c' fr h) g

theorem LoopsOk.none {R n0 : Nat} {c : AC} : LoopsOk (β := β) acall R n0 (fun _ => none) c := fun _ _ _ _ h => by cases h

theorem kCode_sim (hc : CallSim acall call) (hY : YSim aY kY) {L : Nat → Option (KLoop β)} {R : Nat} : ∀ (c : AC) (inr : Bool) (n0 : Nat), (inr = false → (∀ id, L id = none) ∨ (aY = noY ∧ LoopsOk acall R n0 L c)) → RunSim (fun fr h => aCode acall aY R inr n0 c fr h) (fun fr h k => kCode call kY L R inr n0 c fr h k)
  | .fail, _, _, _ => fun fr h k r e => by cases e
  | .skip, _, _, _ => fun fr h k r e => ⟨_, fr, h, rfl, e⟩
  | .ops l, _, _, _ => fun fr h k r e => by
    obtain ⟨fr', h', h1, e⟩ := kOps_sim hc hY l fr h _ r e
    exact ⟨_, fr', h', by simp only [aCode, h1], e⟩
  | .quiet l, _, _, _ => fun fr h k r e => by
    obtain ⟨fr', h1, e⟩ := kQuiet_sim hc l fr h _ r e
    exact ⟨_, fr', h, by simp only [aCode, h1], e⟩
  | .draw l tbl n, _, _, _ => fun fr h k r e => by
    simp only [kCode_draw] at e
    obtain ⟨fr1, h1, hd, e⟩ := kDraw_sim hc e
    obtain ⟨fr', h', h2, e⟩ := kOps_sim hc hY _ fr1 h1 _ r e
    exact ⟨_, fr', h', by simp only [aCode, hd, h2], e⟩
  | .rangeFunc id g ps x y, inr, n0, hl => fun fr h k r e => by
    simp only [kCode_range] at e
    cases inr with
    | true => cases e
    | false =>
      rw [show selK false none _ = _ from rfl] at e
      split at e
      · rename_i gg hg
        rcases hl rfl with h0 | ⟨hn, h0⟩
        · rw [h0 id] at hg; cases hg
        · rw [hn]; exact h0 id _ gg (by simp [AC.loops]) hg _ _ _ _ e
      · simp only [aCode, Bool.false_eq_true, if_false, ev_erv]
        have := kRange_sim hc hY (fun args h kk r e => kRound_sim (fun n => kCode_sim hc hY x true n (fun h => by cases h)) (fun n => kCode_sim hc hY y true n (fun h => by cases h)) e) e
        rw [erh_length]
        exact this
  | .seq a b, inr, n0, hl => fun fr h k r e => by
    simp only [kCode_seq, kCode_cond, kCode_block, kCode_loop] at e
    obtain ⟨ex, fr1, h1, ha, e⟩ := kCode_sim hc hY a inr n0 (fun hi => (hl hi).imp_right fun ⟨hn, hl⟩ => ⟨hn, fun id c g hm => hl id c g (by simp [AC.loops, hm])⟩) _ _ _ _ e
    simp only [aCode]
    simp only at ha
    cases ex with
    | normal =>
      simp only [ha]
      exact kCode_sim hc hY b inr n0 (fun hi => (hl hi).imp_right fun ⟨hn, hl⟩ => ⟨hn, fun id c g hm => hl id c g (by simp [AC.loops, hm])⟩) _ _ _ _ e
    | exit id => exact ⟨_, fr1, h1, by simp only [ha], e⟩
    | ret => exact ⟨_, fr1, h1, by simp only [ha], e⟩
  | .cond c a b, inr, n0, hl => fun fr h k r e => by
    simp only [kCode_seq, kCode_cond, kCode_block, kCode_loop] at e
    simp only [aCode, ev_erv]
    split at e
    · rename_i t ht
      simp only [ht, erv]
      rcases selK_some e with ⟨rfl, e⟩ | ⟨rfl, e⟩
      · exact kCode_sim hc hY a inr n0 (fun hi => (hl hi).imp_right fun ⟨hn, hl⟩ => ⟨hn, fun id c g hm => hl id c g (by simp [AC.loops, hm])⟩) _ _ _ _ e
      · exact kCode_sim hc hY b inr n0 (fun hi => (hl hi).imp_right fun ⟨hn, hl⟩ => ⟨hn, fun id c g hm => hl id c g (by simp [AC.loops, hm])⟩) _ _ _ _ e
    · cases e
  | .block id a, inr, n0, hl => fun fr h k r e => by
    simp only [kCode_seq, kCode_cond, kCode_block, kCode_loop] at e
    obtain ⟨ex, fr1, h1, ha, e⟩ := kCode_sim hc hY a inr n0 hl _ _ _ _ e
    simp only [aCode]
    simp only at ha
    cases ex with
    | normal => exact ⟨_, fr1, h1, by simp only [ha], e⟩
    | ret => exact ⟨_, fr1, h1, by simp only [ha], e⟩
    | exit i =>
      simp only [blkK] at e
      rcases selK_some e with ⟨hi, e⟩ | ⟨hi, e⟩
      · have : i = id := by simpa using hi
        exact ⟨_, fr1, h1, by simp only [ha, if_pos this], e⟩
      · have : ¬ i = id := by simpa using hi
        exact ⟨_, fr1, h1, by simp only [ha, if_neg this], e⟩
  | .loop id live out a, inr, n0, hl => fun fr h k r e => by
    simp only [kCode_seq, kCode_cond, kCode_block, kCode_loop] at e
    split at e
    · rename_i g hg
      cases inr with
      | true => cases hg
      | false =>
        rcases hl rfl with h0 | ⟨hn, h0⟩
        · simp only [Bool.false_eq_true, if_false, h0 id] at hg; cases hg
        · rw [hn]; exact h0 id _ g (by simp [AC.loops]) (by simpa using hg) _ _ _ _ e
    · obtain ⟨ex, fr1, h1, ha, e⟩ := loop_sim (kCode_sim hc hY a inr n0 (fun hi => (hl hi).imp_right fun ⟨hn, hl⟩ => ⟨hn, fun id c g hm => hl id c g (by simp [AC.loops, hm])⟩)) R fr h _ r e
      rw [forceC_eq] at e
      simp only [aCode]
      exact ⟨ex, _, h1, by rw [ha]; simp only [mask_sim], e⟩
  | .exit id, _, _, _ => fun fr h k r e => ⟨_, fr, h, rfl, e⟩
  | .ret, _, _, _ => fun fr h k r e => ⟨_, fr, h, rfl, e⟩

/-! ### Functions -/

theorem resK_sim : ∀ (l : List ARes) (k : List KV → Option β) (r : β), resK fr h l k = some r → ∃ vs, resAll (ers fr) (erh h) l = some (ers vs) ∧ k vs = some r
  | [], k, r, e => ⟨[], rfl, e⟩
  | .tmp t :: l, k, r, e => by
    obtain ⟨vs, h1, e⟩ := resK_sim l _ r e
    rw [valK_eq] at e
    exact ⟨_, by simp only [resAll, ARes.get, h1, ers_getD, ← getK_eq, ers], e⟩
  | .cell1 t :: l, k, r, e => by
    simp only [resK] at e
    split at e
    · rename_i i o ht
      obtain ⟨row, h1, e⟩ := rowK_sim e
      obtain ⟨v, h2, e⟩ := optK_some e
      obtain ⟨vs, h3, e⟩ := resK_sim l _ r e
      exact ⟨_, by simp only [resAll, ARes.get, ers_getD, ← getK_eq, ht, erv, h1, ers_get, h2, Option.map_some, h3, ers], e⟩
    · cases e
  | .cellN t n :: l, k, r, e => by
    simp only [resK] at e
    split at e
    · rename_i i o ht
      obtain ⟨row, h1, e⟩ := rowK_sim e
      obtain ⟨c, h2, e⟩ := optK_some e
      rw [forceC_eq] at e
      obtain ⟨vs, h3, e⟩ := resK_sim l _ r e
      exact ⟨_, by simp only [resAll, ARes.get, ers_getD, ← getK_eq, ht, erv, h1, subK_sim, h2, Option.map_some, h3, ers], e⟩
    · cases e

theorem tup_sim (vs : List KV) : tup (ers vs) = erv (tupK vs) := by
  match vs with
  | [] => simp [tup, tupK, ers, erv]
  | [v] => simp [tup, tupK, ers]
  | v :: u :: l => simp [tup, tupK, ers, erv]

/-- What a function's end comes to. -/
theorem endFn_sim {n0 : Nat} {res : List ARes} {k : KV → KHeap → Option β} {e : AExit} {fr : List KV} {h : KHeap} {r : β} (he : endFn n0 res k e fr h = some r) :
    (∀ id, e ≠ .exit id) ∧ ∃ vs vs' v h', resAll (ers fr) (erh h) res = some vs ∧ renorm n0 vs (erh h) = some (vs', erh h') ∧ tup vs' = erv v ∧ k v h' = some r := by
  have key : ∀ e' : Option β, e' = some r → e' = (resK fr h res fun vs => optK (renormK n0 vs h) fun r => forceVs r.1 fun vs => forceH r.2 fun h => k (tupK vs) h) → ∃ vs vs' v h', resAll (ers fr) (erh h) res = some vs ∧ renorm n0 vs (erh h) = some (vs', erh h') ∧ tup vs' = erv v ∧ k v h' = some r := by
    intro e' h1 h2
    rw [h1] at h2
    obtain ⟨vs, h3, h2⟩ := resK_sim res _ r h2.symm
    obtain ⟨⟨vs', h'⟩, h4, h2⟩ := optK_some h2
    rw [forceVs_eq, forceH_eq] at h2
    exact ⟨_, _, _, _, h3, renorm_sim h4, tup_sim vs', h2⟩
  cases e with
  | exit id => cases he
  | normal => exact ⟨fun id => by simp, key _ he rfl⟩
  | ret => exact ⟨fun id => by simp, key _ he rfl⟩

theorem kBody_sim (hc : CallSim acall call) (hY : YSim aY kY) {L : Nat → Option (KLoop β)} {R : Nat} {fn : AFn} {args : List KV} {h : KHeap} {k : KV → KHeap → Option β} {r : β} (hl : (∀ id, L id = none) ∨ (aY = noY ∧ LoopsOk acall R h.length L fn.code))
    (e : kBodyY call kY L R fn args h k = some r) : ∃ v h', (match aCode acall aY R false (erh h).length fn.code (ers args ++ List.replicate (fn.ntmps - (ers args).length) .undef) (erh h) with
        | none => none
        | some (.exit _, _, _) => none
        | some (_, fr, h') => match resAll fr h' fn.res with
          | none => none
          | some vs => match renorm (erh h).length vs h' with
            | none => none
            | some (vs, h') => some (tup vs, h')) = some (erv v, erh h') ∧ k v h' = some r := by
  unfold kBodyY at e
  rw [forceC_eq] at e
  obtain ⟨ex, fr1, h1, ha, e⟩ := kCode_sim hc hY fn.code false h.length (fun _ => hl) _ _ _ _ e
  simp only [ers_append, ers_replicate] at ha
  have hu : erv KV.undef = AV.undef := by simp [erv, ers]
  rw [hu] at ha
  rw [erh_length, ers_length, ha]
  obtain ⟨hne, vs, vs', v, h', h2, h3, h4, h5⟩ := endFn_sim e
  refine ⟨v, h', ?_, h5⟩
  cases ex with
  | exit id => exact (hne id rfl).elim
  | normal => simp only [h2, h3, h4]
  | ret => simp only [h2, h3, h4]

theorem kFn_sim {F : FuncId → Option AFn} {T : FuncId → Option KT} {R : Nat} : ∀ n, CallSim (β := β) (aFn F (KT.tab T) R n) (kFn F T R n)
  | 0 => fun aY kY hY f args h k r e => by cases e
  | n + 1 => fun aY kY hY f args h k r e => by
    simp only [kFn_succ] at e
    simp only [aFn, KT.tab]
    split at e
    · rename_i t ht
      simp only [ht, Option.map_some]
      exact t.sim β args h k r e
    · rename_i ht
      simp only [ht, Option.map_none]
      split at e
      · cases e
      · rename_i fn hfn
        simp only [hfn]
        exact kBody_sim (kFn_sim n) hY (.inl fun _ => rfl) e

/-- A function whose body is run, loops told apart. -/
theorem kTop_sim {F : FuncId → Option AFn} {T : FuncId → Option KT} {R n : Nat} {f : FuncId} {fn : AFn} (hT : T f = none) (hF : F f = some fn) {L : Nat → Option (KLoop β)} {args : List KV} {h : KHeap} {k : KV → KHeap → Option β} {r : β}
    (hl : LoopsOk (aFn F (KT.tab T) R n) R h.length L fn.code) (e : kBody (kFn F T R n) L R fn args h k = some r) : ∃ v h', aFn F (KT.tab T) R (n + 1) noY f (ers args) (erh h) = some (erv v, erh h') ∧ k v h' = some r := by
  have := kBody_sim (kFn_sim n) .none (.inr ⟨rfl, hl⟩) e
  simp only [aFn, KT.tab, hT, hF, Option.map_none]
  exact this

end
end Go.Ax

namespace Go.Ax
set_option linter.unusedVariables false
set_option linter.unusedSimpArgs false

/-- The most rounds of a loop, the deepest call. -/
abbrev RR : Nat := 18446744073709551616
abbrev DD : Nat := 99

def ContractOk (P : Program) (f : FuncId) (a : List AV → AHeap → Option (AV × AHeap)) : Prop :=
  ∀ args h v h', a args h = some (v, h') → SoundCall P f args h v h'

def KTOk (P : Program) (T : FuncId → Option KT) : Prop := ∀ f t, T f = some t → ContractOk P f t.a

theorem KTOk.tab {P : Program} {T : FuncId → Option KT} (h : KTOk P T) : TOk P (KT.tab T) := by
  intro f g hg
  unfold KT.tab at hg
  cases ht : T f with
  | none => rw [ht] at hg; cases hg
  | some t => rw [ht] at hg; cases hg; exact h f t ht

theorem KTOk.none {P : Program} : KTOk P (fun _ => none) := fun f t h => by cases h

/-- What a run says: the model's function answers so. -/
theorem run_sound {P : Program} (hm : P.follows .mixedOrders = true) {F : FuncId → Option AFn} (hF : FOk P F) {T : FuncId → Option KT} (hT : KTOk P T) {f : FuncId} {fn : AFn} (hTf : T f = none) (hFf : F f = some fn)
    {L : Nat → Option (KLoop (KV × KHeap))} {args : List KV} {h : KHeap} {v : KV} {h' : KHeap} (hl : LoopsOk (aFn F (KT.tab T) RR DD) RR h.length L fn.code)
    (e : kBody (kFn F T RR DD) L RR fn args h (fun v h => some (v, h)) = some (v, h')) : SoundCall P f (ers args) (erh h) (erv v) (erh h') := by
  obtain ⟨v1, h1, ha, he⟩ := kTop_sim hTf hFf hl e
  cases he
  exact (fn_ok hm hF hT.tab RR (DD + 1) noY _ _ _ _ _ ha).of

/-- What a law's row asks of its walk. -/
theorem walk_run {P : Program} (hm : P.follows .mixedOrders = true) {F : FuncId → Option AFn} (hF : FOk P F) {T : FuncId → Option KT} (hT : KTOk P T) {f : FuncId} {fn : AFn} (hTf : T f = none) (hFf : F f = some fn)
    {L : Nat → Option (KLoop (KV × KHeap))} {args : List KV} {h h' : KHeap} (hl : LoopsOk (aFn F (KT.tab T) RR DD) RR h.length L fn.code)
    (e : kBody (kFn F T RR DD) L RR fn args h (fun v h => some (v, h)) = some (.bool true, h'))
    {ι : Emb} {xs : Array Value} {w : World} (hxs : VRels ι (ers args) xs.toList) (H : HRel ι (erh h) w) (hown : ∀ b, ¬ Own (erh h) ι b) :
    Calls P f xs w fun e W' => e = .returned (.bool true) ∧ Go.RowKit.Below w.heap.size w W' :=
  ((run_sound hm hF hT hTf hFf hl e).2 ι xs w hxs H).mono fun e w' ⟨ι', x, he, hv, hA⟩ => by
    simp only [erv, VRel] at hv
    subst hv
    exact ⟨he, hA.step.to_below hown⟩

/-! ### Loops -/

/-- The values of the slots that are read. -/
def pickM : List Bool → List KV → Option (List KV)
  | [], [] => some []
  | true :: m, v :: l => (pickM m l).map (v :: ·)
  | false :: m, _ :: l => pickM m l
  | _, _ => none
/-- A frame with these values in these slots. -/
def fillM : List Bool → List KV → List KV
  | [], _ => []
  | false :: m, vs => .junk :: fillM m vs
  | true :: m, v :: vs => v :: fillM m vs
  | true :: m, [] => .junk :: fillM m []
theorem pickM_mask : ∀ (m : List Bool) (l vs : List KV), pickM m l = some vs → maskK m l = fillM m vs
  | [], [], vs, h => by simp [maskK, fillM]
  | [], _ :: _, vs, h => by simp [pickM] at h
  | true :: m, [], vs, h => by simp [pickM] at h
  | false :: m, [], vs, h => by simp [pickM] at h
  | true :: m, v :: l, vs, h => by
    simp only [pickM] at h
    obtain ⟨q, hq, rfl⟩ := map_some h
    simp [maskK, fillM, pickM_mask m l q hq]
  | false :: m, v :: l, vs, h => by
    simp only [pickM] at h
    simp [maskK, fillM, pickM_mask m l vs h]

section
variable {β : Type}

/-- A loop behind its head: the frame is masked, the blocks are named anew. -/
noncomputable def kLoopM (n0 : Nat) (live : List Bool) (step : List KV → KHeap → KCont β → Option β) (n : Nat) : List KV → KHeap → KCont β → Option β :=
  Nat.rec (motive := fun _ => List KV → KHeap → KCont β → Option β) (fun _ _ _ => none)
    (fun _ ih fr h k => step fr h (seqK k fun fr h => optK (renormK n0 (maskK live fr) h) fun r => forceVs r.1 fun fr => forceH r.2 fun h => ih fr h k)) n
theorem kLoopM_zero (n0 : Nat) (live : List Bool) (step : List KV → KHeap → KCont β → Option β) (fr : List KV) (h : KHeap) (k : KCont β) : kLoopM n0 live step 0 fr h k = none := rfl
theorem kLoopM_succ (n0 : Nat) (live : List Bool) (step : List KV → KHeap → KCont β → Option β) (n : Nat) (fr : List KV) (h : KHeap) (k : KCont β) :
    kLoopM n0 live step (n + 1) fr h k = step fr h (seqK k fun fr h => optK (renormK n0 (maskK live fr) h) fun r => forceVs r.1 fun fr => forceH r.2 fun h => kLoopM n0 live step n fr h k) := rfl

theorem kLoop_M (n0 : Nat) (live : List Bool) (step : List KV → KHeap → KCont β → Option β) : ∀ (n : Nat) (fr : List KV) (h : KHeap) (k : KCont β), kLoop n0 live step n fr h k = optK (renormK n0 (maskK live fr) h) fun r => kLoopM n0 live step n r.1 r.2 k
  | 0, fr, h, k => by
    simp only [kLoop_zero, kLoopM_zero]
    cases renormK n0 (maskK live fr) h <;> rfl
  | n + 1, fr, h, k => by
    simp only [kLoop_succ, kLoopM_succ, forceVs_eq, forceH_eq]
    have : (fun fr h => kLoop n0 live step n fr h k) = fun fr h => optK (renormK n0 (maskK live fr) h) fun r => kLoopM n0 live step n r.1 r.2 k := by
      funext fr h
      exact kLoop_M n0 live step n fr h k
    rw [this]

theorem LoopsOk.of {F : FuncId → Option AFn} {T : FuncId → Option KT} {R n n0 : Nat} {L : Nat → Option (KLoop β)} {c : AC}
    (H : ∀ id c' g, (id, c') ∈ c.loops → L id = some g → ∃ L', LoopsOk (aFn F (KT.tab T) R n) R n0 L' c' ∧ ∀ fr h k r, g fr h k = some r → kCode (kFn F T R n) noYK L' R false n0 c' fr h k = some r) :
    LoopsOk (aFn F (KT.tab T) R n) R n0 L c := by
  intro id c' g hm hL
  obtain ⟨L', h1, h2⟩ := H id c' g hm hL
  intro fr h k r e
  exact kCode_sim (kFn_sim n) .none c' false n0 (fun _ => .inr ⟨rfl, h1⟩) fr h k r (h2 fr h k r e)
end

/-- A test of anything. -/
noncomputable def cd (p : Prop) : Bool := @decide p (Classical.propDecidable p)
theorem cd_iff {p : Prop} : (cd p = true) = p := propext (@decide_eq_true_iff p (Classical.propDecidable p))

theorem LoopsOk.one {β : Type} {F : FuncId → Option AFn} {T : FuncId → Option KT} {R n n0 : Nat} {L : Nat → Option (KLoop β)} {c : AC} (id : Nat) (live out : List Bool) (a : AC) (hc : c.loops = [(id, .loop id live out a)]) {g : KLoop β} (hL : L id = some g)
    (H : ∀ fr h k r, g fr h k = some r → kLoop n0 live (fun fr h k => kCode (kFn F T R n) noYK (fun _ => Option.none) R false n0 a fr h k) R fr h (fun e fr h => forceC (maskK out fr) fun fr => k e fr h) = some r) : LoopsOk (aFn F (KT.tab T) R n) R n0 L c := by
  refine LoopsOk.of ?_
  intro id' c' g' hm hL'
  rw [hc] at hm
  simp only [List.mem_singleton, Prod.mk.injEq] at hm
  obtain ⟨rfl, rfl⟩ := hm
  rw [hL] at hL'
  cases hL'
  exact ⟨fun _ => Option.none, LoopsOk.none, fun fr h k r e => H fr h k r e⟩

/-! ### Functions of plain values -/

/-- A function's answer to plain values, out of a run in empty memory: the same in every memory. -/
theorem pure_sound {P : Program} {f : FuncId} {args : List AV} {v : AV} {h0 : AHeap} (hs : SoundCall P f args [] v h0) (ha : AV.scalars args = true) (hv : v.scalar = true) (h : AHeap) : SoundCall P f args h v h := by
  refine ⟨hs.1, fun ι xs w hxs H => ?_⟩
  refine (hs.2 [] xs w (scalars_any args ha xs.toList hxs) (HRel.nil w)).mono ?_
  rintro e w' ⟨ι', x, rfl, hx, hA⟩
  have hb := hA.step.to_below (fun _ => Own.nil)
  exact ⟨ι, x, rfl, scalar_any v hv x hx, H.world hb.block, Step.below hb, Agree.refl _ _, Nat.le_refl _⟩

/-- A function `g` of plain values, where `c` holds. -/
def KT.pure (c : List AV → Bool) (g : List AV → Option AV) : KT where
  a args h := if c args = true then match g args with
    | some v => some (v, h)
    | none => none
    else none
  k β args h kk := selK (c (ers args)) (optK (g (ers args)) fun v => kk (inj v) h) none
  sim β args h kk r e := by
    obtain ⟨hc, e⟩ := selK_t e
    obtain ⟨v, hv, e⟩ := optK_some e
    refine ⟨_, _, ?_, e⟩
    rw [if_pos hc, hv, erv_inj]

theorem KT.pure_ok {P : Program} {f : FuncId} {c : List AV → Bool} {g : List AV → Option AV}
    (hg : ∀ args v, c args = true → g args = some v → AV.scalars args = true ∧ v.scalar = true ∧ ∃ h0, SoundCall P f args [] v h0) : ContractOk P f (KT.pure c g).a := by
  intro args h v h' hr
  simp only [KT.pure] at hr
  split at hr
  · rename_i hc
    split at hr
    · rename_i v' hv
      cases hr
      obtain ⟨h1, h2, h0, hs⟩ := hg args v hc hv
      exact pure_sound hs h1 h2 h
    · cases hr
  · cases hr

/-- A contract of plain values out of a run. -/
theorem KT.pure_run {P : Program} (hm : P.follows .mixedOrders = true) {F : FuncId → Option AFn} (hF : FOk P F) {T : FuncId → Option KT} (hT : KTOk P T) {f : FuncId} {fn : AFn} (hTf : T f = none) (hFf : F f = some fn)
    {L : Nat → Option (KLoop (KV × KHeap))} (hl : LoopsOk (aFn F (KT.tab T) RR DD) RR 0 L fn.code) {c : List AV → Bool} {g : List AV → Option AV}
    (H : ∀ args v, c args = true → g args = some v → AV.scalars args = true ∧ v.scalar = true ∧ ∃ h', kBody (kFn F T RR DD) L RR fn (injs args) [] (fun v h => some (v, h)) = some (inj v, h')) : ContractOk P f (KT.pure c g).a := by
  refine KT.pure_ok fun args v hc hg => ?_
  obtain ⟨h1, h2, h', e⟩ := H args v hc hg
  have := run_sound hm hF hT hTf hFf (h := []) hl e
  rw [ers_inj, erv_inj] at this
  exact ⟨h1, h2, _, this⟩

abbrev noC : List AV → Bool := fun _ => true

/-! ### Numbers -/

theorem w64 (x : Int) (h1 : -9223372036854775808 ≤ x) (h2 : x ≤ 9223372036854775807) : wr .i64 x = x := by
  simp only [wr, IntKind.wrap, IntKind.bits, IntKind.signed]
  simp
  omega
theorem wu64 (x : Int) (h1 : 0 ≤ x) (h2 : x ≤ 18446744073709551615) : wr .u64 x = x := by
  simp only [wr, IntKind.wrap, IntKind.bits, IntKind.signed]
  simp
  omega
theorem wu64_mod (x : Int) : wr .u64 x = x % 18446744073709551616 := by
  simp only [wr, IntKind.wrap, IntKind.bits, IntKind.signed]
  simp
theorem wu8 (x : Int) : wr .u8 x = x % 256 := by
  simp only [wr, IntKind.wrap, IntKind.bits, IntKind.signed]
  simp
theorem wi32 (x : Int) (h1 : -2147483648 ≤ x) (h2 : x ≤ 2147483647) : wr .i32 x = x := by
  simp only [wr, IntKind.wrap, IntKind.bits, IntKind.signed]
  simp
  omega

theorem wf_range {k : IntKind} {a : Int} (w : (Lit.int k a).wf = true) : k.min ≤ a ∧ a ≤ k.max := by
  simp only [Lit.wf, Bool.and_eq_true, decide_eq_true_eq] at w
  exact w
theorem wf_u64 {a : Int} (w : (Lit.int .u64 a).wf = true) : 0 ≤ a ∧ a < 18446744073709551616 := by
  have h := wf_range w
  have h1 : IntKind.u64.min = 0 := by decide
  have h2 : IntKind.u64.max = 18446744073709551615 := by decide
  omega
theorem wf_i64 {a : Int} (w : (Lit.int .i64 a).wf = true) : -9223372036854775808 ≤ a ∧ a ≤ 9223372036854775807 := by
  have h := wf_range w
  have h1 : IntKind.i64.min = -9223372036854775808 := by decide
  have h2 : IntKind.i64.max = 9223372036854775807 := by decide
  omega

/-! ### Tests, decided -/
section
variable {β : Type}
theorem selK_pos {c : Bool} {a b : Option β} (h : c = true) : selK c a b = a := by rw [h]; rfl
theorem selK_neg {c : Bool} {a b : Option β} (h : c = false) : selK c a b = b := by rw [h]; rfl
theorem selK_true {a b : Option β} : selK true a b = a := rfl
theorem selK_false {a b : Option β} : selK false a b = b := rfl
theorem selK_ite {c : Bool} {a b : Option β} : selK c a b = if c = true then a else b := by cases c <;> rfl
theorem ltI_iff {a b : Int} : (ltI a b = true) = (a < b) := by simp [ltI]
theorem leI_iff {a b : Int} : (leI a b = true) = (a ≤ b) := by simp [leI]
theorem eqI_iff {a b : Int} : (eqI a b = true) = (a = b) := by simp [eqI]
theorem eqS_iff {a b : List UInt8} : (eqS a b = true) = (a = b) := by simp [eqS]
theorem eqB_iff {a b : Bool} : (eqB a b = true) = (a = b) := by simp [eqB]
theorem inR_iff {a : Int} {n : Nat} : (inR a n = true) = (0 ≤ a ∧ a < (n : Int)) := by simp [inR]
theorem inB_iff {a : Int} {n : Nat} : (inB a n = true) = (0 ≤ a ∧ a ≤ (n : Int)) := by simp [inB]
theorem capOk_iff {n b : Nat} : (capOk n b = true) = ((4 * n + 1000) * b ≤ 281474976710656) := by simp [capOk]
theorem nz_iff {n : Nat} : ((n == 0) = true) = (n = 0) := by simp
theorem blt_iff {a b : Nat} : (Nat.blt a b = true) = (a < b) := by simp
theorem fitS_iff {a b : List UInt8} : (fitS a b = true) = (((a.length + b.length : Nat) : Int) ≤ 9223372036854775807) := propext decide_eq_true_iff
end

end Go.Ax

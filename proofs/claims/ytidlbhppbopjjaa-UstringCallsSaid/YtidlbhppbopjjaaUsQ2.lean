/-
Chapter 3: the loops of the reference's Bad and Runes, of Same.
-/
import Derived.Test.YtidlbhppbopjjaaUsQ1
namespace Go.Proofs.Ytidlbhppbopjjaa.Ax
open Go.Ax
set_option linter.unusedVariables false
set_option linter.unusedSimpArgs false
set_option maxRecDepth 100000

theorem pnt_unit (s r : List UInt8) (u : List UInt8 × Nat) (us ds : List (List UInt8 × Nat)) (hu : Units (ds ++ u :: us)) (hs : s = joined (ds ++ u :: us) ++ r) :
    (joined ds).length < s.length ∧ pntN s ((joined ds).length : Nat) = (u.2 : Int) ∧ pntZ s ((joined ds).length : Nat) = (u.1.length : Int) ∧ u.2 ≠ 0 ∧ u.2 ≤ 0x10FFFF ∧ u.1.length ≠ 0 ∧ (joined ds).length + u.1.length = (joined (ds ++ [u])).length ∧ (joined (ds ++ [u])).length ≤ s.length := by
  have h1 : Un u.1 u.2 := hu u (by simp)
  have hd : s.drop (joined ds).length = u.1 ++ (joined us ++ r) := by
    rw [hs, joined_append, joined_cons]
    simp only [List.append_assoc]
    exact List.drop_left' rfl
  obtain ⟨hdec, hg⟩ := h1.2.2.1 (joined us ++ r)
  have h0 : u.1.length ≠ 0 := fun e => h1.1 (List.length_eq_zero_iff.1 e)
  have hne : u.1 ++ (joined us ++ r) ≠ [] := fun e => h1.1 (List.append_eq_nil_iff.1 e).1
  have hp := (pnt_good _ hne hg).1
  have hl : s.length = (joined ds).length + (u.1.length + (joined us ++ r).length) := by
    rw [hs, joined_append, joined_cons]
    simp only [List.length_append]; omega
  have hj : (joined (ds ++ [u])).length = (joined ds).length + u.1.length := by rw [joined_append, joined_cons, joined_nil]; simp
  unfold pntN pntZ
  rw [Int.toNat_natCast, hd, hp, hdec]
  exact ⟨by omega, rfl, rfl, h1.2.2.2.2.2, h1.2.2.2.2.1, h0, hj.symm, by omega⟩
theorem pnt_stop (s r : List UInt8) (ds : List (List UInt8 × Nat)) (hr : Stop r) (hne : r ≠ []) (hs : s = joined ds ++ r) :
    (joined ds).length < s.length ∧ (pntN s ((joined ds).length : Nat) = 0 ∨ pntZ s ((joined ds).length : Nat) = 0) := by
  have hd : s.drop (joined ds).length = r := by rw [hs]; exact List.drop_left' rfl
  have hl : s.length = (joined ds).length + r.length := by rw [hs, List.length_append]
  have := List.length_pos_iff.2 hne
  refine ⟨by omega, ?_⟩
  unfold pntN pntZ
  rw [Int.toNat_natCast, hd]
  rcases pnt_bad r hne (hr.resolve_left hne) with h | h
  · exact .inl (by rw [h]; rfl)
  · exact .inr (by rw [h]; rfl)

noncomputable def rbadLoop {β : Type} : KLoop β := fun fr h k => f49_D0 fr none fun x0 x3 => match x0, x3, h with
  | .str s, .int .i64 p, [] => selK (cd (p = 0 ∧ s.length ≤ 1000000000)) (selK (eqI (bad s) (-1)) (k (.exit 0) (f49_E0 .junk) []) (k .ret (f49_E0 (.int .i64 (bad s))) [])) none
  | _, _, _ => none
noncomputable def rbadLT {β : Type} : Nat → Option (KLoop β)
  | 0 => some rbadLoop
  | _ => none

section
variable {β : Type}

theorem rbad_rounds (s r : List UInt8) (hsl : s.length ≤ 1000000000) (hr : Stop r) (k : KCont β) : ∀ (us ds : List (List UInt8 × Nat)) (m : Nat), Units (ds ++ us) → s = joined (ds ++ us) ++ r → us.length < m →
    rbad_bodyK m (f49_S0 (.str s) (.int .i64 ((joined ds).length : Nat))) [] k =
    selK (eqI (bad s) (-1)) (k (.exit 0) (f49_E0 .junk) []) (k .ret (f49_E0 (.int .i64 (bad s))) [])
  | [], ds, m, hu, hs, hm => by
    obtain ⟨m, rfl⟩ : ∃ q, m = q + 1 := ⟨m - 1, by omega⟩
    rw [List.append_nil] at hu hs
    obtain ⟨hp, hrs⟩ := pts_of ds r hu hr
    rw [← hs] at hp hrs
    rw [rbad_body]
    by_cases hne : r = []
    · have hl : s.length = (joined ds).length := by rw [hs, hne]; simp
      rw [selK_pos (c := eqI (bad s) (-1)) (by rw [eqI_iff, bad_neg, hrs, hne]), selK_neg (by rw [ltI_iff0]; omega)]
    · obtain ⟨h1, h2⟩ := pnt_stop s r ds hr hne hs
      have hb : bad s = ((joined ds).length : Int) := by unfold bad; rw [hrs, if_neg hne, hp]
      rw [selK_neg (c := eqI (bad s) (-1)) (by rw [eqI_iff0, hb]; omega), selK_pos (by rw [ltI_iff]; omega), selK_pos (by rw [cd_iff]; omega), hid_eq, hid_eq, hb]
      by_cases hz : pntZ s ((joined ds).length : Nat) = 0
      · rw [selK_pos (by rw [eqI_iff]; exact hz)]
      · rw [selK_neg (by rw [eqI_iff0]; exact hz), selK_pos (by rw [eqI_iff]; exact h2.resolve_right hz)]
  | u :: us, ds, m, hu, hs, hm => by
    obtain ⟨m, rfl⟩ : ∃ q, m = q + 1 := ⟨m - 1, by simp at hm; omega⟩
    obtain ⟨h1, h2, h3, h4, h5, h6, h7, h8⟩ := pnt_unit s r u us ds hu hs
    have ih := rbad_rounds s r hsl hr k us (ds ++ [u]) m (by simpa using hu) (by simpa using hs) (by simp at hm; omega)
    rw [rbad_body, selK_pos (by rw [ltI_iff]; omega), selK_pos (by rw [cd_iff]; omega), hid_eq, hid_eq, h2, h3, selK_neg (by rw [eqI_iff0]; omega), selK_neg (by rw [eqI_iff0]; omega), w64 _ (by omega) (by omega)]
    rw [← h7] at ih
    rw [Int.natCast_add] at ih
    exact ih

theorem rbadLoop_ok : LoopsOk (β := β) (aFn F (KT.tab TPnt) RR DD) RR 0 rbadLT f49.code := by
  refine LoopsOk.one 0 f49_M0 f49_O0 f49_L0 rfl rfl ?_
  intro fr h k r e0
  obtain ⟨x0, x3, hm, e⟩ := f49_D0_inv e0
  split at e
  · rename_i s p
    obtain ⟨hc, e2⟩ := selK_t e
    rw [cd_iff] at hc
    obtain ⟨rfl, hsl⟩ := hc
    rw [kLoop_M, hm]
    refine (?_ : _ = _).trans e2
    obtain ⟨hu, hst, hj⟩ := pts_spec s
    have hlen := pts_len (pts s) hu
    have hl2 : (joined (pts s)).length ≤ s.length := by
      have := congrArg List.length hj
      rw [List.length_append] at this
      omega
    exact rbad_rounds s (rst s) hsl hst k (pts s) [] RR hu hj (by show _ < 18446744073709551616; omega)
  · cases e
end

/-! ### Runes -/

noncomputable def rrunEnd {β : Type} (s : List UInt8) (R : List (Row RK)) (k : KCont β) : Option β :=
  selK (eqI (bad s) (-1)) (selK (Nat.beq R.length 0) (k (.exit 0) (f51_E0 .junk .nilslice) []) (k (.exit 0) (f51_E0 .junk (.rslice 0 0 R.length 2)) [.recs false RK R]))
    (selK (Nat.beq R.length 0) (k .ret (f51_E0 .nilslice .junk) []) (k .ret (f51_E0 (.rslice 0 0 R.length 2) .junk) [.recs false RK R]))
noncomputable def rrunLoop {β : Type} : KLoop β := fun fr h k => f51_D0 fr none fun x0 x3 x4 => match x0, x3, x4, h with
  | .str s, .nilslice, .int .i64 p, [] => selK (cd (p = 0 ∧ s.length ≤ 1000000)) (rrunEnd s (runesQ s) k) none
  | _, _, _, _ => none
noncomputable def rrunLT {β : Type} : Nat → Option (KLoop β)
  | 0 => some rrunLoop
  | _ => none

section
variable {β : Type}
theorem runesR_app : ∀ (us vs : List (List UInt8 × Nat)) (p : Nat), runesR p (us ++ vs) = runesR p us ++ runesR (p + (joined us).length) vs
  | [], vs, p => by simp [runesR, joined]
  | u :: us, vs, p => by
    simp only [List.cons_append, runesR, joined_cons, List.length_append]
    rw [runesR_app us vs, Nat.add_assoc]

theorem rrun_rounds1 (s r : List UInt8) (hsl : s.length ≤ 1000000) (hr : Stop r) (k : KCont β) : ∀ (us ds : List (List UInt8 × Nat)) (m : Nat), Units (ds ++ us) → s = joined (ds ++ us) ++ r → (ds ++ us).length ≤ s.length → ds ≠ [] → us.length < m →
    rrun_bodyK m (f51_S0 (.str s) (.rslice 0 0 (runesR 0 ds).length 2) (.int .i64 ((joined ds).length : Nat))) [.recs false RK (runesR 0 ds)] k = rrunEnd s (runesR 0 (ds ++ us)) k
  | [], ds, m, hu, hs, hl, hd, hm => by
    obtain ⟨m, rfl⟩ : ∃ q, m = q + 1 := ⟨m - 1, by omega⟩
    rw [List.append_nil] at hu hs ⊢
    obtain ⟨hp, hrs⟩ := pts_of ds r hu hr
    rw [← hs] at hp hrs
    have hz : Nat.beq (runesR 0 ds).length 0 = false := by
      rw [runesR_length]
      cases ds with
      | nil => exact absurd rfl hd
      | cons => rfl
    refine (rrun_body1 m s _ _ (runesR 0 ds) k).trans ?_
    unfold rrunEnd
    rw [hz]
    by_cases hne : r = []
    · have hl : s.length = (joined ds).length := by rw [hs, hne]; simp
      rw [selK_pos (c := eqI (bad s) (-1)) (by rw [eqI_iff, bad_neg, hrs, hne]), selK_neg (by rw [ltI_iff0]; omega)]
      rfl
    · obtain ⟨h1, h2⟩ := pnt_stop s r ds hr hne hs
      have hb : bad s = ((joined ds).length : Int) := by unfold bad; rw [hrs, if_neg hne, hp]
      rw [selK_neg (c := eqI (bad s) (-1)) (by rw [eqI_iff0, hb]; omega), selK_pos (by rw [ltI_iff]; omega), selK_pos (by rw [cd_iff]; omega), hid_eq, hid_eq]
      by_cases hz : pntZ s ((joined ds).length : Nat) = 0
      · rw [selK_pos (by rw [eqI_iff]; exact hz)]; rfl
      · rw [selK_neg (by rw [eqI_iff0]; exact hz), selK_pos (by rw [eqI_iff]; exact h2.resolve_right hz)]; rfl
  | u :: us, ds, m, hu, hs, hl, hd, hm => by
    obtain ⟨m, rfl⟩ : ∃ q, m = q + 1 := ⟨m - 1, by simp at hm; omega⟩
    obtain ⟨h1, h2, h3, h4, h5, h6, h7, h8⟩ := pnt_unit s r u us ds hu hs
    have ih := rrun_rounds1 s r hsl hr k us (ds ++ [u]) m (by simpa using hu) (by simpa using hs) (by simpa using hl) (by simp) (by simp at hm; omega)
    have hll : ds.length + (us.length + 1) ≤ s.length := by simpa using hl
    have hRl := runesR_length ds 0
    refine (rrun_body1 m s _ _ (runesR 0 ds) k).trans ?_
    rw [selK_pos (by rw [ltI_iff]; omega), selK_pos (by rw [cd_iff]; omega), hid_eq, hid_eq, h2, h3, selK_neg (by rw [eqI_iff0]; omega), selK_neg (by rw [eqI_iff0]; omega), selK_pos (by simp only [Bool.true_and, Bool.and_true, Bool.and_eq_true, decide_eq_true_eq, capOk_iff]; omega), w64 _ (by omega) (by omega), wi32 _ (by omega) (by omega), List.drop_zero, List.take_of_length_le (Nat.le_refl _)]
    rw [← h7, Int.natCast_add, runesR_app, Nat.zero_add, List.append_assoc] at ih
    simp only [runesR, List.length_append, List.length_cons, List.length_nil] at ih
    exact ih

theorem rrun_rounds0 (s r : List UInt8) (hsl : s.length ≤ 1000000) (hr : Stop r) (k : KCont β) (us : List (List UInt8 × Nat)) (m : Nat) (hu : Units us) (hs : s = joined us ++ r) (hl : us.length ≤ s.length) (hm : us.length < m) :
    rrun_bodyK m (f51_S0 (.str s) .nilslice (.int .i64 0)) [] k = rrunEnd s (runesR 0 us) k := by
  obtain ⟨m, rfl⟩ : ∃ q, m = q + 1 := ⟨m - 1, by omega⟩
  rw [rrun_body0]
  cases us with
  | nil =>
    obtain ⟨hp, hrs⟩ := pts_of [] r hu hr
    rw [← hs] at hp hrs
    unfold rrunEnd
    by_cases hne : r = []
    · have hl : s.length = 0 := by rw [hs, hne]; rfl
      rw [selK_pos (c := eqI (bad s) (-1)) (by rw [eqI_iff, bad_neg, hrs, hne]), selK_neg (by rw [ltI_iff0]; omega)]
      rfl
    · obtain ⟨h1, h2⟩ := pnt_stop s r [] hr hne hs
      simp only [joined_nil, List.length_nil] at h1 h2
      have hb : bad s = 0 := by unfold bad; rw [hrs, if_neg hne, hp]; rfl
      rw [selK_neg (c := eqI (bad s) (-1)) (by rw [eqI_iff0, hb]; omega), selK_pos (by rw [ltI_iff]; omega), selK_pos (by rw [cd_iff]; omega), hid_eq, hid_eq]
      by_cases hz : pntZ s 0 = 0
      · rw [selK_pos (by rw [eqI_iff]; exact hz)]; rfl
      · rw [selK_neg (by rw [eqI_iff0]; exact hz), selK_pos (by rw [eqI_iff]; exact h2.resolve_right hz)]; rfl
  | cons u us =>
    obtain ⟨h1, h2, h3, h4, h5, h6, h7, h8⟩ := pnt_unit s r u us [] hu hs
    simp only [joined_nil, List.length_nil, List.nil_append, Nat.zero_add] at h1 h2 h3 h7 h8
    have ih := rrun_rounds1 s r hsl hr k us [u] m hu hs (by simpa using hl) (by simp) (by simp at hm; omega)
    rw [selK_pos (by rw [ltI_iff]; omega), selK_pos (by rw [cd_iff]; omega), hid_eq, hid_eq, show pntN s 0 = _ from h2, show pntZ s 0 = _ from h3, selK_neg (by rw [eqI_iff0]; omega), selK_neg (by rw [eqI_iff0]; omega), w64 _ (by omega) (by omega), wi32 _ (by omega) (by omega), Int.zero_add]
    rw [← h7] at ih
    exact ih

theorem rrunLoop_ok : LoopsOk (β := β) (aFn F (KT.tab TPnt) RR DD) RR 0 rrunLT f51.code := by
  refine LoopsOk.one 0 f51_M0 f51_O0 f51_L0 rfl rfl ?_
  intro fr h k r e0
  obtain ⟨x0, x3, x4, hm, e⟩ := f51_D0_inv e0
  split at e
  · rename_i s p
    obtain ⟨hc, e2⟩ := selK_t e
    rw [cd_iff] at hc
    obtain ⟨rfl, hsl⟩ := hc
    rw [kLoop_M, hm]
    refine (?_ : _ = _).trans e2
    obtain ⟨hu, hst, hj⟩ := pts_spec s
    have hlen := pts_len (pts s) hu
    have hl2 : (joined (pts s)).length ≤ s.length := by
      have := congrArg List.length hj
      rw [List.length_append] at this
      omega
    exact rrun_rounds0 s (rst s) hsl hst k (pts s) RR hu hj (by omega) (by show _ < 18446744073709551616; omega)
  · cases e
end

/-! ### Same -/

noncomputable def sameLoop {β : Type} : KLoop β := fun fr h k => f43_D0 fr none fun x0 x1 x5 => match x0, x1, x5, h with
  | .rslice 0 0 n 2, .rslice 1 0 l 2, .int .i64 i, [.recs true [.int .i64, .int .i32] a, .recs true [.int .i64, .int .i32] b] => selK (cd (i = 0 ∧ n = a.length ∧ l = b.length ∧ a.length = b.length ∧ a.length ≤ 1000000000)) (selK (cd (a = b)) (k (.exit 0) (f43_E0 .junk) [.recs true RK a, .recs true RK b]) (k .ret (f43_E0 (.bool false)) [.recs true RK a, .recs true RK b])) none
  | _, _, _, _ => none
noncomputable def sameLT {β : Type} : Nat → Option (KLoop β)
  | 0 => some sameLoop
  | _ => none

section
variable {β : Type}
theorem same_rounds (a b : List (Row RK)) (hab : a.length = b.length) (hal : a.length ≤ 1000000000) (k : KCont β) : ∀ (d i m : Nat), i + d = a.length → d < m → a.take i = b.take i →
    same_bodyK m (f43_S0 (.rslice 0 0 a.length 2) (.rslice 1 0 b.length 2) (.int .i64 (i : Nat))) [.recs true RK a, .recs true RK b] k =
    selK (cd (a = b)) (k (.exit 0) (f43_E0 .junk) [.recs true RK a, .recs true RK b]) (k .ret (f43_E0 (.bool false)) [.recs true RK a, .recs true RK b])
  | 0, i, m, hi, hm, he => by
    obtain ⟨m, rfl⟩ : ∃ q, m = q + 1 := ⟨m - 1, by omega⟩
    have : a = b := by rw [List.take_of_length_le (by omega), List.take_of_length_le (by omega)] at he; exact he
    refine (same_body m a b _ _ _ k).trans ?_
    rw [selK_neg (by rw [ltI_iff0]; omega), selK_pos (c := cd (a = b)) (by rw [cd_iff]; exact this)]
  | d + 1, i, m, hi, hm, he => by
    obtain ⟨m, rfl⟩ : ∃ q, m = q + 1 := ⟨m - 1, by omega⟩
    have ha : a[i]? = some a[i] := List.getElem?_eq_getElem (by omega)
    have hb : b[i]? = some b[i] := List.getElem?_eq_getElem (by omega)
    refine (same_body m a b _ _ _ k).trans ?_
    rw [Int.toNat_natCast, Nat.zero_add, selK_pos (by rw [ltI_iff]; omega), selK_pos (by rw [Bool.and_true, inR_iff]; omega), optK_of ha, selK_pos (by rw [Bool.and_true, inR_iff]; omega), optK_of hb]
    by_cases hx : a[i] = b[i]
    · have ih := same_rounds a b hab hal k d (i + 1) m (by omega) (by omega) (by rw [List.take_add_one, List.take_add_one, he, ha, hb, hx])
      rw [selK_neg (by rw [hx]; simp [eqI]), w64 _ (by omega) (by omega)]
      rw [Int.natCast_add] at ih
      exact ih
    · rw [selK_pos (by
        rw [Bool.not_eq_true', ← Bool.not_eq_true]
        simp only [Bool.and_eq_true, eqI_iff, Bool.and_true]
        intro hh
        exact hx (Prod.ext hh.1 (Prod.ext hh.2 rfl))), selK_neg (c := cd (a = b)) (by rw [cd_iff0]; intro hh; exact hx (by subst hh; rfl))]

theorem sameLoop_ok : LoopsOk (β := β) (aFn F (KT.tab fun _ => none) RR DD) RR 2 sameLT f43.code := by
  refine LoopsOk.one 0 f43_M0 f43_O0 f43_L0 rfl rfl ?_
  intro fr h k r e0
  obtain ⟨x0, x1, x5, hm, e⟩ := f43_D0_inv e0
  split at e
  · rename_i n l i a b
    obtain ⟨hc, e2⟩ := selK_t e
    rw [cd_iff] at hc
    obtain ⟨rfl, rfl, rfl, hab, hal⟩ := hc
    rw [kLoop_M, hm]
    refine (?_ : _ = _).trans e2
    exact same_rounds a b hab hal k a.length 0 RR (by omega) (by show _ < 18446744073709551616; omega) rfl
  · cases e
end

end Go.Proofs.Ytidlbhppbopjjaa.Ax

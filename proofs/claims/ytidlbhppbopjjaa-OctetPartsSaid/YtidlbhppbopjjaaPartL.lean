/-
The law OctetParts: its loop.
-/
import Derived.Test.YtidlbhppbopjjaaPartB
import Derived.Test.YtidlbhppbopjjaaKxD
namespace Go.Proofs.Ytidlbhppbopjjaa.Ax
open Go.Ax
set_option linter.unusedVariables false
set_option linter.unusedSimpArgs false
set_option maxRecDepth 100000

/-- Where the cursor stands, and its error, when so many bytes have been taken, one after the other. -/
def partF (s : List UInt8) : List Int → Nat → Int → Nat × Int
  | [], a, e => (a, e)
  | n :: l, a, e => if e = 0 ∧ 0 ≤ n ∧ n ≤ (s.length : Int) - a then partF s l (a + n.toNat) 0 else partF s l a 3

theorem partF_le (s : List UInt8) : ∀ (l : List Int) (a : Nat) (e : Int), a ≤ s.length → (partF s l a e).1 ≤ s.length
  | [], a, e, h => h
  | n :: l, a, e, h => by
    unfold partF
    split
    · exact partF_le s l _ _ (by omega)
    · exact partF_le s l _ _ h

theorem partF3 (s : List UInt8) : ∀ (l : List Int) (a : Nat), partF s l a 3 = (a, 3)
  | [], a => rfl
  | n :: l, a => by
    unfold partF
    rw [if_neg (by omega)]
    exact partF3 s l a

section
variable {β : Type}
abbrev IntR : List CK := [.int .i64]
def vals (l : List (Row IntR)) : List Int := l.map fun r => r.1

theorem part3_rounds (s : List UInt8) (hs : s.length ≤ 200) (l : List (Row IntR)) (hl : l.length ≤ 60) (a : Nat) (ha : a ≤ s.length) (k : KCont β) : ∀ (d i m : Nat), i + d = l.length → d < m →
    part3K m (f6_S0 (.str s) (.rslice 0 0 l.length 1) (.ptr 1 0) (.str (s.take a)) (.int .i64 i)) [.recs true IntR l, .cells [.str s, .int .i64 a, .int .i64 3]] k =
      k (.exit 0) (f6_E0 (.str s) .junk (.ptr 1 0) (.str (s.take a))) [.recs true IntR l, .cells [.str s, .int .i64 a, .int .i64 3]] := by
  intro d
  induction d with
  | zero =>
    intro i m hi hm
    obtain ⟨m, rfl⟩ : ∃ q, m = q + 1 := ⟨m - 1, by omega⟩
    obtain rfl : i = l.length := by omega
    rw [part3, selK_neg (by rw [ltI_iff0]; omega)]
  | succ d ih =>
    intro i m hi hm
    obtain ⟨m, rfl⟩ : ∃ q, m = q + 1 := ⟨m - 1, by omega⟩
    rw [part3]
    have hg : l[0 + ((i : Int)).toNat]? = some l[i] := by
      rw [Int.toNat_natCast, Nat.zero_add]; exact List.getElem?_eq_getElem (by omega)
    generalize l[i] = r at hg
    have e1 : subS s ((a : Int)).toNat s.length = s.drop a := by
      rw [Int.toNat_natCast]; unfold subS; exact List.take_of_length_le (by simp)
    have e2 : ((s.drop a).length : Int) = s.length - a := by rw [List.length_drop]; omega
    have e3 : wr .i64 ((s.length : Int) - a - 0) = s.length - a := by rw [w64 _ (by omega) (by omega)]; omega
    have e4 : wr .i64 ((i : Int) + 1) = ((i + 1 : Nat) : Int) := by rw [w64 _ (by omega) (by omega)]; omega
    have e5 : s.take a ++ [] = s.take a := List.append_nil _
    have e6 : fitS (s.take a) [] = true := by rw [fitS_iff, List.length_take, List.length_nil]; omega
    simp only [e1, e2, e3, e4, e5]
    have ih' := ih (i + 1) m (by omega) (by omega)
    repeat first | (refine selK_posx ?_ ?_; · first | assumption | with_reducible rfl | (simp only [hid_eq, ltI_iff, leI_iff, eqI_iff, eqS_iff, eqB_iff, inR_iff, inB_iff, cd_iff, fitS_iff, capOk_iff, nz_iff, blt_iff, not_t, Bool.and_eq_true, Bool.or_eq_true, decide_eq_true_eq, ltI_iff0, leI_iff0, eqI_iff0, eqS_iff0, eqB_iff0, inR_iff0, inB_iff0, cd_iff0, nz_iff0, blt_iff0, not_f, and_f, or_f, dec_f, List.length_append, true_and, and_true, Bool.true_eq_false, Bool.false_eq_true, false_or, or_false] <;> first | assumption | omega)) | (refine selK_negx ?_ ?_; · first | assumption | with_reducible rfl | (simp only [hid_eq, ltI_iff, leI_iff, eqI_iff, eqS_iff, eqB_iff, inR_iff, inB_iff, cd_iff, fitS_iff, capOk_iff, nz_iff, blt_iff, not_t, Bool.and_eq_true, Bool.or_eq_true, decide_eq_true_eq, ltI_iff0, leI_iff0, eqI_iff0, eqS_iff0, eqB_iff0, inR_iff0, inB_iff0, cd_iff0, nz_iff0, blt_iff0, not_f, and_f, or_f, dec_f, List.length_append, true_and, and_true, Bool.true_eq_false, Bool.false_eq_true, false_or, or_false] <;> first | assumption | omega)) | refine optK_posx (by assumption) ?_
    exact ih'

theorem part0_rounds (s : List UInt8) (hs : s.length ≤ 200) (l : List (Row IntR)) (hl : l.length ≤ 60) (k : KCont β) : ∀ (d i m a : Nat), i + d = l.length → d < m → a ≤ s.length →
    part0K m (f6_S0 (.str s) (.rslice 0 0 l.length 1) (.ptr 1 0) (.str (s.take a)) (.int .i64 i)) [.recs true IntR l, .cells [.str s, .int .i64 a, .int .i64 0]] k =
      k (.exit 0) (f6_E0 (.str s) .junk (.ptr 1 0) (.str (s.take (partF s (vals (l.drop i)) a 0).1))) [.recs true IntR l, .cells [.str s, .int .i64 (partF s (vals (l.drop i)) a 0).1, .int .i64 (partF s (vals (l.drop i)) a 0).2]] := by
  intro d
  induction d with
  | zero =>
    intro i m a hi hm ha
    obtain ⟨m, rfl⟩ : ∃ q, m = q + 1 := ⟨m - 1, by omega⟩
    obtain rfl : i = l.length := by omega
    rw [part0, selK_neg (by rw [ltI_iff0]; omega), List.drop_length]
    rfl
  | succ d ih =>
    intro i m a hi hm ha
    obtain ⟨m, rfl⟩ : ∃ q, m = q + 1 := ⟨m - 1, by omega⟩
    have hil : i < l.length := by omega
    have hdr : l.drop i = l[i] :: l.drop (i + 1) := List.drop_eq_getElem_cons hil
    have hg : l[0 + ((i : Int)).toNat]? = some l[i] := by
      rw [Int.toNat_natCast, Nat.zero_add]; exact List.getElem?_eq_getElem (by omega)
    rw [hdr]
    generalize l[i] = r at hg
    obtain ⟨n, u⟩ := r
    have hv : vals ((n, u) :: l.drop (i + 1)) = n :: vals (l.drop (i + 1)) := rfl
    rw [hv]
    have e4 : wr .i64 ((i : Int) + 1) = ((i + 1 : Nat) : Int) := by rw [w64 _ (by omega) (by omega)]; omega
    have e1 : subS s ((a : Int)).toNat s.length = s.drop a := by
      rw [Int.toNat_natCast]; unfold subS; exact List.take_of_length_le (by simp)
    have e2 : ((s.drop a).length : Int) = s.length - a := by rw [List.length_drop]; omega
    have e2n : (s.drop a).length = s.length - a := List.length_drop
    have e7 : wr .i64 ((s.length : Int) - a) = s.length - a := w64 _ (by omega) (by omega)
    rw [part0]
    by_cases hfit : 0 ≤ n ∧ n ≤ (s.length : Int) - a
    · obtain ⟨q, rfl⟩ : ∃ q : Nat, n = q := ⟨n.toNat, by omega⟩
      have hq : a + q ≤ s.length := by omega
      have hF : partF s ((q : Int) :: vals (l.drop (i + 1))) a 0 = partF s (vals (l.drop (i + 1))) (a + q) 0 := by
        conv => lhs; unfold partF
        rw [if_pos ⟨rfl, hfit⟩, Int.toNat_natCast]
      rw [hF]
      have ih' := ih (i + 1) m (a + q) (by omega) (by omega) hq
      have w1 : wr .i64 ((a : Int) + q) = ((a + q : Nat) : Int) := by rw [w64 _ (by omega) (by omega)]; omega
      have e8 : subS s ((a : Int)).toNat (((a + q : Nat) : Int)).toNat = (s.drop a).take q := by
        rw [Int.toNat_natCast, Int.toNat_natCast]; unfold subS; rw [show a + q - a = q by omega]
      have e9 : subS (s.drop a) 0 ((q : Int)).toNat = (s.drop a).take q := by
        rw [Int.toNat_natCast]; unfold subS; rfl
      have e10 : s.take a ++ (s.drop a).take q = s.take (a + q) := List.take_add.symm
      have e11 : fitS (s.take a) ((s.drop a).take q) = true := by rw [fitS_iff, List.length_take, List.length_take, List.length_drop]; omega
      have e12 : subS s (((a + q : Nat) : Int)).toNat s.length = s.drop (a + q) := by
        rw [Int.toNat_natCast]; unfold subS; exact List.take_of_length_le (by simp)
      have e13 : ((s.drop (a + q)).length : Int) = s.length - a - q := by rw [List.length_drop]; omega
      have e14 : (((s.drop a).take q).length : Int) = q := by rw [List.length_take, List.length_drop]; omega
      have e15 : wr .i64 ((s.length : Int) - a - q) = s.length - a - q := w64 _ (by omega) (by omega)
      simp only [e1, e2, w1, e4, e7, e8, e9, e10, e12, e13, e14, e15]
      repeat first | (refine selK_posx ?_ ?_; · first | assumption | with_reducible rfl | (simp only [hid_eq, ltI_iff, leI_iff, eqI_iff, eqS_iff, eqB_iff, inR_iff, inB_iff, cd_iff, fitS_iff, capOk_iff, nz_iff, blt_iff, not_t, Bool.and_eq_true, Bool.or_eq_true, decide_eq_true_eq, ltI_iff0, leI_iff0, eqI_iff0, eqS_iff0, eqB_iff0, inR_iff0, inB_iff0, cd_iff0, nz_iff0, blt_iff0, not_f, and_f, or_f, dec_f, List.length_append, true_and, and_true, Bool.true_eq_false, Bool.false_eq_true, false_or, or_false] <;> first | assumption | omega)) | (refine selK_negx ?_ ?_; · first | assumption | with_reducible rfl | (simp only [hid_eq, ltI_iff, leI_iff, eqI_iff, eqS_iff, eqB_iff, inR_iff, inB_iff, cd_iff, fitS_iff, capOk_iff, nz_iff, blt_iff, not_t, Bool.and_eq_true, Bool.or_eq_true, decide_eq_true_eq, ltI_iff0, leI_iff0, eqI_iff0, eqS_iff0, eqB_iff0, inR_iff0, inB_iff0, cd_iff0, nz_iff0, blt_iff0, not_f, and_f, or_f, dec_f, List.length_append, true_and, and_true, Bool.true_eq_false, Bool.false_eq_true, false_or, or_false] <;> first | assumption | omega)) | refine optK_posx (by assumption) ?_
      simp only [w1, e8, e9, e10, e12, e13, e14, e15]
      repeat first | (refine selK_posx ?_ ?_; · first | assumption | with_reducible rfl | (simp only [hid_eq, ltI_iff, leI_iff, eqI_iff, eqS_iff, eqB_iff, inR_iff, inB_iff, cd_iff, fitS_iff, capOk_iff, nz_iff, blt_iff, not_t, Bool.and_eq_true, Bool.or_eq_true, decide_eq_true_eq, ltI_iff0, leI_iff0, eqI_iff0, eqS_iff0, eqB_iff0, inR_iff0, inB_iff0, cd_iff0, nz_iff0, blt_iff0, not_f, and_f, or_f, dec_f, List.length_append, true_and, and_true, Bool.true_eq_false, Bool.false_eq_true, false_or, or_false] <;> first | assumption | omega)) | (refine selK_negx ?_ ?_; · first | assumption | with_reducible rfl | (simp only [hid_eq, ltI_iff, leI_iff, eqI_iff, eqS_iff, eqB_iff, inR_iff, inB_iff, cd_iff, fitS_iff, capOk_iff, nz_iff, blt_iff, not_t, Bool.and_eq_true, Bool.or_eq_true, decide_eq_true_eq, ltI_iff0, leI_iff0, eqI_iff0, eqS_iff0, eqB_iff0, inR_iff0, inB_iff0, cd_iff0, nz_iff0, blt_iff0, not_f, and_f, or_f, dec_f, List.length_append, true_and, and_true, Bool.true_eq_false, Bool.false_eq_true, false_or, or_false] <;> first | assumption | omega)) | refine optK_posx (by assumption) ?_
      exact ih'
    · have hF : partF s (n :: vals (l.drop (i + 1))) a 0 = (a, 3) := by
        unfold partF
        rw [if_neg (fun h => hfit h.2)]
        exact partF3 s _ a
      rw [hF]
      have ih' := part3_rounds s hs l hl a ha k d (i + 1) m (by omega) (by omega)
      have e5 : s.take a ++ [] = s.take a := List.append_nil _
      have e6 : fitS (s.take a) [] = true := by rw [fitS_iff, List.length_take, List.length_nil]; omega
      have h1 : (((subS s ((a : Int)).toNat s.length).length : Nat) : Int) = s.length - a := by rw [e1, e2]
      have h2 : wr .i64 ((((subS s ((a : Int)).toNat s.length).length : Nat) : Int) - 0) = s.length - a := by rw [h1, w64 _ (by omega) (by omega)]; omega
      by_cases hn : 0 ≤ n
      · have hn2 : ¬ n ≤ (s.length : Int) - a := fun h => hfit ⟨hn, h⟩
        repeat first | (refine selK_posx ?_ ?_; · first | assumption | with_reducible rfl | (simp only [hid_eq, ltI_iff, leI_iff, eqI_iff, eqS_iff, eqB_iff, inR_iff, inB_iff, cd_iff, fitS_iff, capOk_iff, nz_iff, blt_iff, not_t, Bool.and_eq_true, Bool.or_eq_true, decide_eq_true_eq, ltI_iff0, leI_iff0, eqI_iff0, eqS_iff0, eqB_iff0, inR_iff0, inB_iff0, cd_iff0, nz_iff0, blt_iff0, not_f, and_f, or_f, dec_f, List.length_append, true_and, and_true, Bool.true_eq_false, Bool.false_eq_true, false_or, or_false] <;> first | assumption | omega)) | (refine selK_negx ?_ ?_; · first | assumption | with_reducible rfl | (simp only [hid_eq, ltI_iff, leI_iff, eqI_iff, eqS_iff, eqB_iff, inR_iff, inB_iff, cd_iff, fitS_iff, capOk_iff, nz_iff, blt_iff, not_t, Bool.and_eq_true, Bool.or_eq_true, decide_eq_true_eq, ltI_iff0, leI_iff0, eqI_iff0, eqS_iff0, eqB_iff0, inR_iff0, inB_iff0, cd_iff0, nz_iff0, blt_iff0, not_f, and_f, or_f, dec_f, List.length_append, true_and, and_true, Bool.true_eq_false, Bool.false_eq_true, false_or, or_false] <;> first | assumption | omega)) | refine optK_posx (by assumption) ?_
        rw [e4, e5]
        exact ih'
      · repeat first | (refine selK_posx ?_ ?_; · first | assumption | with_reducible rfl | (simp only [hid_eq, ltI_iff, leI_iff, eqI_iff, eqS_iff, eqB_iff, inR_iff, inB_iff, cd_iff, fitS_iff, capOk_iff, nz_iff, blt_iff, not_t, Bool.and_eq_true, Bool.or_eq_true, decide_eq_true_eq, ltI_iff0, leI_iff0, eqI_iff0, eqS_iff0, eqB_iff0, inR_iff0, inB_iff0, cd_iff0, nz_iff0, blt_iff0, not_f, and_f, or_f, dec_f, List.length_append, true_and, and_true, Bool.true_eq_false, Bool.false_eq_true, false_or, or_false] <;> first | assumption | omega)) | (refine selK_negx ?_ ?_; · first | assumption | with_reducible rfl | (simp only [hid_eq, ltI_iff, leI_iff, eqI_iff, eqS_iff, eqB_iff, inR_iff, inB_iff, cd_iff, fitS_iff, capOk_iff, nz_iff, blt_iff, not_t, Bool.and_eq_true, Bool.or_eq_true, decide_eq_true_eq, ltI_iff0, leI_iff0, eqI_iff0, eqS_iff0, eqB_iff0, inR_iff0, inB_iff0, cd_iff0, nz_iff0, blt_iff0, not_f, and_f, or_f, dec_f, List.length_append, true_and, and_true, Bool.true_eq_false, Bool.false_eq_true, false_or, or_false] <;> first | assumption | omega)) | refine optK_posx (by assumption) ?_
        rw [e4, e5]
        exact ih'

def partOk (s s' : List UInt8) (n : Nat) (all : List UInt8) (i a e : Int) (l : List (Row IntR)) : Prop := s.length ≤ 200 ∧ l.length ≤ 60 ∧ s = s' ∧ n = l.length ∧ all = [] ∧ i = 0 ∧ a = 0 ∧ e = 0
noncomputable def partLoop : KLoop β := fun fr h k => f6_D0 fr none fun x0 x1 x5 x6 x7 => match x0, x1, x5, x6, x7, h with
  | .str s, .rslice 0 0 n 1, .ptr 1 0, .str all, .int .i64 i, [.recs true [.int .i64] l, .cells [.str s', .int .i64 a, .int .i64 e]] =>
    selK (cd (partOk s s' n all i a e l)) (k (.exit 0) (f6_E0 (.str s) .junk (.ptr 1 0) (.str (s.take (hid partF s (vals l) 0 0).1))) [.recs true IntR l, .cells [.str s, .int .i64 (hid partF s (vals l) 0 0).1, .int .i64 (hid partF s (vals l) 0 0).2]]) none
  | _, _, _, _, _, _ => none
noncomputable def partLT : Nat → Option (KLoop β)
  | 0 => some partLoop
  | _ => none

theorem partLoop_ok : LoopsOk (β := β) (aFn F (KT.tab TPar) RR DD) RR 1 partLT f6.code := by
  refine LoopsOk.one 0 f6_M0 f6_O0 f6_L0 rfl rfl ?_
  intro fr h k r e0
  obtain ⟨x0, x1, x5, x6, x7, hm, e⟩ := f6_D0_inv e0
  split at e
  · rename_i s n all i l s' a e'
    obtain ⟨hc, e2⟩ := selK_t e
    rw [cd_iff] at hc
    obtain ⟨hs, hl, rfl, rfl, rfl, rfl, rfl, rfl⟩ := hc
    rw [kLoop_M, hm]
    refine (?_ : _ = _).trans e2
    rw [hid_eq]
    exact part0_rounds s hs l hl k l.length 0 RR 0 (by omega) (by show l.length < 18446744073709551616; omega) (Nat.zero_le _)
  · cases e
end
end Go.Proofs.Ytidlbhppbopjjaa.Ax

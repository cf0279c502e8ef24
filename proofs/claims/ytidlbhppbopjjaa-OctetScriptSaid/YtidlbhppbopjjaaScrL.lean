/-
The law OctetScript: its loop.
-/
import Derived.Test.YtidlbhppbopjjaaScrB
import Derived.Test.YtidlbhppbopjjaaKxD
namespace Go.Proofs.Ytidlbhppbopjjaa.Ax
open Go.Ax
set_option linter.unusedVariables false
set_option linter.unusedSimpArgs false
set_option maxRecDepth 100000

/-- Where a cursor stands, and its error, behind a call. -/
def actF (s : List UInt8) (p n : Int) (a : Nat) (e : Int) : Nat × Int :=
  if e ≠ 0 then (a, e) else
  if p = 0 ∨ p = 1 then (if 0 ≤ n ∧ n ≤ (s.length : Int) - a then (a + n.toNat, 0) else (a, 3)) else
  if p = 2 then (a, 0) else (a, n)
def scrF (s : List UInt8) : List (Int × Int × Unit) → Nat → Int → Nat × Int
  | [], a, e => (a, e)
  | r :: l, a, e => scrF s l (actF s (pickL r.1 4) r.2.1 a e).1 (actF s (pickL r.1 4) r.2.1 a e).2

section
variable {β : Type}
abbrev ActR : List CK := [.int .i64, .int .i64]

set_option maxHeartbeats 20000000 in
theorem scr_rounds (s : List UInt8) (hs : s.length ≤ 200) (l : List (Row ActR)) (hw : ∀ r ∈ l, RowWf ActR r) (hl : l.length ≤ 60) (k : KCont β) : ∀ (d i m a : Nat) (e : Int), i + d = l.length → d < m → a ≤ s.length →
    scrK m (f8_S0 (.rslice 0 0 l.length 2) (.ptr 1 0) (.ptr 2 0) (.int .i64 i)) [.recs true ActR l, .cells [.str s, .int .i64 a, .int .i64 e], .cells [.str s, .int .i64 a, .int .i64 e]] k =
      k (.exit 0) (f8_E0 .junk) [.recs true ActR l, .cells [.str s, .int .i64 (scrF s (l.drop i) a e).1, .int .i64 (scrF s (l.drop i) a e).2], .cells [.str s, .int .i64 (scrF s (l.drop i) a e).1, .int .i64 (scrF s (l.drop i) a e).2]] := by
  intro d
  induction d with
  | zero =>
    intro i m a e hi hm ha
    obtain ⟨m, rfl⟩ : ∃ q, m = q + 1 := ⟨m - 1, by omega⟩
    obtain rfl : i = l.length := by omega
    rw [scr, selK_neg (by rw [ltI_iff0]; omega), List.drop_length]
    rfl
  | succ d ih =>
    intro i m a e hi hm ha
    obtain ⟨m, rfl⟩ : ∃ q, m = q + 1 := ⟨m - 1, by omega⟩
    have hil : i < l.length := by omega
    have hdr : l.drop i = l[i] :: l.drop (i + 1) := List.drop_eq_getElem_cons hil
    have hg : l[0 + ((i : Int)).toNat]? = some l[i] := by
      rw [Int.toNat_natCast, Nat.zero_add]; exact List.getElem?_eq_getElem (by omega)
    have hwf := hw l[i] (List.getElem_mem hil)
    rw [hdr]
    generalize l[i] = r at hg hwf
    obtain ⟨p, n, u⟩ := r
    obtain ⟨⟨hp1, hp2⟩, ⟨hn1, hn2⟩, _⟩ := hwf
    have mn : IntKind.i64.min = -9223372036854775808 := by decide
    have mx : IntKind.i64.max = 9223372036854775807 := by decide
    simp only at hp1 hp2 hn1 hn2
    rw [mn] at hp1 hn1
    rw [mx] at hp2 hn2
    have hb1 := Int.lt_tmod_of_pos p (show (0 : Int) < 4 by omega)
    have hb2 := Int.tmod_lt_of_pos p (show (0 : Int) < 4 by omega)
    have ih' := fun (a' : Nat) (e' : Int) (h : a' ≤ s.length) => ih (i + 1) m a' e' (by omega) (by omega) h
    have e4 : wr .i64 ((i : Int) + 1) = ((i + 1 : Nat) : Int) := by rw [w64 _ (by omega) (by omega)]; omega
    have w7 : wr .i64 ((s.length : Int) - a) = s.length - a := w64 _ (by omega) (by omega)
    have w0 : wr .i64 ((a : Int) + 0) = a := by rw [w64 _ (by omega) (by omega)]; omega
    have w00 : wr .i64 ((s.length : Int) - wr .i64 ((a : Int) + 0)) = s.length - a := by rw [w0, w7]
    have heq0 : subS s ((a : Int)).toNat s.length = subS s (wr .i64 ((a : Int) + 0)).toNat s.length := by rw [w0]
    have hF : scrF s ((p, n, u) :: l.drop (i + 1)) a e = scrF s (l.drop (i + 1)) (actF s (pickL p 4) n a e).1 (actF s (pickL p 4) n a e).2 := rfl
    rw [hF]
    rw [scr]
    have hpk : pickL p 4 = if p.tmod 4 < 0 then p.tmod 4 + 4 else p.tmod 4 := by unfold pickL; rw [if_neg (by omega)]
    have hr : remI p 4 = p.tmod 4 := rfl
    generalize p.tmod 4 = q at *
    have w8 : wr .i64 (q + 4) = q + 4 := w64 _ (by omega) (by omega)
    have w8' : wr .i64 (remI p 4 + 4) = q + 4 := by rw [hr]; exact w8
    have hq : q = -3 ∨ q = -2 ∨ q = -1 ∨ q = 0 ∨ q = 1 ∨ q = 2 ∨ q = 3 := by omega
    have hP : pickL p 4 = q ∨ pickL p 4 = q + 4 := by rw [hpk]; split <;> simp
    have hP2 : 0 ≤ pickL p 4 ∧ pickL p 4 < 4 := by rw [hpk]; split <;> omega
    by_cases he : e = 0
    · subst he
      by_cases hfit : 0 ≤ n ∧ n ≤ (s.length : Int) - a
      · obtain ⟨n', rfl⟩ : ∃ n' : Nat, n = n' := ⟨n.toNat, by omega⟩
        have hq2 : a + n' ≤ s.length := by omega
        have w1 : wr .i64 ((a : Int) + n') = ((a + n' : Nat) : Int) := by rw [w64 _ (by omega) (by omega)]; omega
        have hE : subS s ((a : Int)).toNat (wr .i64 ((a : Int) + n')).toNat = (s.drop a).take n' := by
          rw [w1, Int.toNat_natCast, Int.toNat_natCast]; unfold subS; rw [show a + n' - a = n' by omega]
        have hR1 : ((subS s ((a : Int)).toNat (wr .i64 ((a : Int) + n')).toNat).length : Int) = n' := by
          rw [hE, List.length_take, List.length_drop]; omega
        have hR2 : wr .i64 ((a : Int) + (((subS s ((a : Int)).toNat (wr .i64 ((a : Int) + n')).toNat).length : Nat) : Int)) = ((a + n' : Nat) : Int) := by rw [hR1, w1]
        have hR3 : ((subS s (wr .i64 ((a : Int) + n')).toNat s.length).length : Int) = s.length - a - n' := by
          rw [w1, Int.toNat_natCast]; unfold subS; rw [List.length_take, List.length_drop]; omega
        have hR4 : wr .i64 ((s.length : Int) - wr .i64 ((a : Int) + (((subS s ((a : Int)).toNat (wr .i64 ((a : Int) + n')).toNat).length : Nat) : Int))) = s.length - a - n' := by rw [hR2, w64 _ (by omega) (by omega)]; omega
        have hR5 : subS s (wr .i64 ((a : Int) + n')).toNat s.length = subS s (wr .i64 ((a : Int) + (((subS s ((a : Int)).toNat (wr .i64 ((a : Int) + n')).toNat).length : Nat) : Int))).toNat s.length := by rw [hR2, w1]
        have e0 : ((subS s ((a : Int)).toNat s.length).length : Int) = s.length - a := by
          rw [Int.toNat_natCast]; unfold subS; rw [List.length_take, List.length_drop]; omega
        have hR6 : subS (subS s ((a : Int)).toNat s.length) 0 ((n' : Int)).toNat = subS s ((a : Int)).toNat (wr .i64 ((a : Int) + n')).toNat := by
          rw [hE, Int.toNat_natCast, Int.toNat_natCast]; unfold subS; rw [List.drop_zero, Nat.sub_zero, List.take_take, Nat.min_eq_left (by omega)]
        rcases hq with hq | hq | hq | hq | hq | hq | hq
        · have hA : actF s (pickL p 4) n' a 0 = (a + n', 0) := by unfold actF; rw [if_neg (by simp), if_pos (by omega), if_pos hfit, Int.toNat_natCast]
          rw [hA]
          repeat first | (refine selK_posx ?_ ?_; · first | assumption | with_reducible rfl | (simp only [hid_eq, ltI_iff, leI_iff, eqI_iff, eqS_iff, eqB_iff, inR_iff, inB_iff, cd_iff, fitS_iff, capOk_iff, nz_iff, blt_iff, not_t, Bool.and_eq_true, Bool.or_eq_true, decide_eq_true_eq, ltI_iff0, leI_iff0, eqI_iff0, eqS_iff0, eqB_iff0, inR_iff0, inB_iff0, cd_iff0, nz_iff0, blt_iff0, not_f, and_f, or_f, dec_f, List.length_append, List.length_nil, true_and, and_true, Bool.true_eq_false, Bool.false_eq_true, false_or, or_false] <;> first | assumption | omega)) | (refine selK_negx ?_ ?_; · first | assumption | with_reducible rfl | (simp only [hid_eq, ltI_iff, leI_iff, eqI_iff, eqS_iff, eqB_iff, inR_iff, inB_iff, cd_iff, fitS_iff, capOk_iff, nz_iff, blt_iff, not_t, Bool.and_eq_true, Bool.or_eq_true, decide_eq_true_eq, ltI_iff0, leI_iff0, eqI_iff0, eqS_iff0, eqB_iff0, inR_iff0, inB_iff0, cd_iff0, nz_iff0, blt_iff0, not_f, and_f, or_f, dec_f, List.length_append, List.length_nil, true_and, and_true, Bool.true_eq_false, Bool.false_eq_true, false_or, or_false] <;> first | assumption | omega)) | refine optK_posx (by assumption) ?_
          rw [e4, hR2, w1]
          exact ih' _ _ hq2
        · have hA : actF s (pickL p 4) n' a 0 = (a, 0) := by unfold actF; rw [if_neg (by simp), if_neg (by omega), if_pos (by omega)]
          rw [hA]
          repeat first | (refine selK_posx ?_ ?_; · first | assumption | with_reducible rfl | (simp only [hid_eq, ltI_iff, leI_iff, eqI_iff, eqS_iff, eqB_iff, inR_iff, inB_iff, cd_iff, fitS_iff, capOk_iff, nz_iff, blt_iff, not_t, Bool.and_eq_true, Bool.or_eq_true, decide_eq_true_eq, ltI_iff0, leI_iff0, eqI_iff0, eqS_iff0, eqB_iff0, inR_iff0, inB_iff0, cd_iff0, nz_iff0, blt_iff0, not_f, and_f, or_f, dec_f, List.length_append, List.length_nil, true_and, and_true, Bool.true_eq_false, Bool.false_eq_true, false_or, or_false] <;> first | assumption | omega)) | (refine selK_negx ?_ ?_; · first | assumption | with_reducible rfl | (simp only [hid_eq, ltI_iff, leI_iff, eqI_iff, eqS_iff, eqB_iff, inR_iff, inB_iff, cd_iff, fitS_iff, capOk_iff, nz_iff, blt_iff, not_t, Bool.and_eq_true, Bool.or_eq_true, decide_eq_true_eq, ltI_iff0, leI_iff0, eqI_iff0, eqS_iff0, eqB_iff0, inR_iff0, inB_iff0, cd_iff0, nz_iff0, blt_iff0, not_f, and_f, or_f, dec_f, List.length_append, List.length_nil, true_and, and_true, Bool.true_eq_false, Bool.false_eq_true, false_or, or_false] <;> first | assumption | omega)) | refine optK_posx (by assumption) ?_
          rw [e4]
          exact ih' _ _ ha
        · have hA : actF s (pickL p 4) n' a 0 = (a, (n' : Int)) := by unfold actF; rw [if_neg (by simp), if_neg (by omega), if_neg (by omega)]
          rw [hA]
          repeat first | (refine selK_posx ?_ ?_; · first | assumption | with_reducible rfl | (simp only [hid_eq, ltI_iff, leI_iff, eqI_iff, eqS_iff, eqB_iff, inR_iff, inB_iff, cd_iff, fitS_iff, capOk_iff, nz_iff, blt_iff, not_t, Bool.and_eq_true, Bool.or_eq_true, decide_eq_true_eq, ltI_iff0, leI_iff0, eqI_iff0, eqS_iff0, eqB_iff0, inR_iff0, inB_iff0, cd_iff0, nz_iff0, blt_iff0, not_f, and_f, or_f, dec_f, List.length_append, List.length_nil, true_and, and_true, Bool.true_eq_false, Bool.false_eq_true, false_or, or_false] <;> first | assumption | omega)) | (refine selK_negx ?_ ?_; · first | assumption | with_reducible rfl | (simp only [hid_eq, ltI_iff, leI_iff, eqI_iff, eqS_iff, eqB_iff, inR_iff, inB_iff, cd_iff, fitS_iff, capOk_iff, nz_iff, blt_iff, not_t, Bool.and_eq_true, Bool.or_eq_true, decide_eq_true_eq, ltI_iff0, leI_iff0, eqI_iff0, eqS_iff0, eqB_iff0, inR_iff0, inB_iff0, cd_iff0, nz_iff0, blt_iff0, not_f, and_f, or_f, dec_f, List.length_append, List.length_nil, true_and, and_true, Bool.true_eq_false, Bool.false_eq_true, false_or, or_false] <;> first | assumption | omega)) | refine optK_posx (by assumption) ?_
          rw [e4]
          exact ih' _ _ ha
        · have hA : actF s (pickL p 4) n' a 0 = (a + n', 0) := by unfold actF; rw [if_neg (by simp), if_pos (by omega), if_pos hfit, Int.toNat_natCast]
          rw [hA]
          repeat first | (refine selK_posx ?_ ?_; · first | assumption | with_reducible rfl | (simp only [hid_eq, ltI_iff, leI_iff, eqI_iff, eqS_iff, eqB_iff, inR_iff, inB_iff, cd_iff, fitS_iff, capOk_iff, nz_iff, blt_iff, not_t, Bool.and_eq_true, Bool.or_eq_true, decide_eq_true_eq, ltI_iff0, leI_iff0, eqI_iff0, eqS_iff0, eqB_iff0, inR_iff0, inB_iff0, cd_iff0, nz_iff0, blt_iff0, not_f, and_f, or_f, dec_f, List.length_append, List.length_nil, true_and, and_true, Bool.true_eq_false, Bool.false_eq_true, false_or, or_false] <;> first | assumption | omega)) | (refine selK_negx ?_ ?_; · first | assumption | with_reducible rfl | (simp only [hid_eq, ltI_iff, leI_iff, eqI_iff, eqS_iff, eqB_iff, inR_iff, inB_iff, cd_iff, fitS_iff, capOk_iff, nz_iff, blt_iff, not_t, Bool.and_eq_true, Bool.or_eq_true, decide_eq_true_eq, ltI_iff0, leI_iff0, eqI_iff0, eqS_iff0, eqB_iff0, inR_iff0, inB_iff0, cd_iff0, nz_iff0, blt_iff0, not_f, and_f, or_f, dec_f, List.length_append, List.length_nil, true_and, and_true, Bool.true_eq_false, Bool.false_eq_true, false_or, or_false] <;> first | assumption | omega)) | refine optK_posx (by assumption) ?_
          rw [e4, hR2, w1]
          exact ih' _ _ hq2
        · have hA : actF s (pickL p 4) n' a 0 = (a + n', 0) := by unfold actF; rw [if_neg (by simp), if_pos (by omega), if_pos hfit, Int.toNat_natCast]
          rw [hA]
          repeat first | (refine selK_posx ?_ ?_; · first | assumption | with_reducible rfl | (simp only [hid_eq, ltI_iff, leI_iff, eqI_iff, eqS_iff, eqB_iff, inR_iff, inB_iff, cd_iff, fitS_iff, capOk_iff, nz_iff, blt_iff, not_t, Bool.and_eq_true, Bool.or_eq_true, decide_eq_true_eq, ltI_iff0, leI_iff0, eqI_iff0, eqS_iff0, eqB_iff0, inR_iff0, inB_iff0, cd_iff0, nz_iff0, blt_iff0, not_f, and_f, or_f, dec_f, List.length_append, List.length_nil, true_and, and_true, Bool.true_eq_false, Bool.false_eq_true, false_or, or_false] <;> first | assumption | omega)) | (refine selK_negx ?_ ?_; · first | assumption | with_reducible rfl | (simp only [hid_eq, ltI_iff, leI_iff, eqI_iff, eqS_iff, eqB_iff, inR_iff, inB_iff, cd_iff, fitS_iff, capOk_iff, nz_iff, blt_iff, not_t, Bool.and_eq_true, Bool.or_eq_true, decide_eq_true_eq, ltI_iff0, leI_iff0, eqI_iff0, eqS_iff0, eqB_iff0, inR_iff0, inB_iff0, cd_iff0, nz_iff0, blt_iff0, not_f, and_f, or_f, dec_f, List.length_append, List.length_nil, true_and, and_true, Bool.true_eq_false, Bool.false_eq_true, false_or, or_false] <;> first | assumption | omega)) | refine optK_posx (by assumption) ?_
          rw [e4, hR2, w1]
          exact ih' _ _ hq2
        · have hA : actF s (pickL p 4) n' a 0 = (a, 0) := by unfold actF; rw [if_neg (by simp), if_neg (by omega), if_pos (by omega)]
          rw [hA]
          repeat first | (refine selK_posx ?_ ?_; · first | assumption | with_reducible rfl | (simp only [hid_eq, ltI_iff, leI_iff, eqI_iff, eqS_iff, eqB_iff, inR_iff, inB_iff, cd_iff, fitS_iff, capOk_iff, nz_iff, blt_iff, not_t, Bool.and_eq_true, Bool.or_eq_true, decide_eq_true_eq, ltI_iff0, leI_iff0, eqI_iff0, eqS_iff0, eqB_iff0, inR_iff0, inB_iff0, cd_iff0, nz_iff0, blt_iff0, not_f, and_f, or_f, dec_f, List.length_append, List.length_nil, true_and, and_true, Bool.true_eq_false, Bool.false_eq_true, false_or, or_false] <;> first | assumption | omega)) | (refine selK_negx ?_ ?_; · first | assumption | with_reducible rfl | (simp only [hid_eq, ltI_iff, leI_iff, eqI_iff, eqS_iff, eqB_iff, inR_iff, inB_iff, cd_iff, fitS_iff, capOk_iff, nz_iff, blt_iff, not_t, Bool.and_eq_true, Bool.or_eq_true, decide_eq_true_eq, ltI_iff0, leI_iff0, eqI_iff0, eqS_iff0, eqB_iff0, inR_iff0, inB_iff0, cd_iff0, nz_iff0, blt_iff0, not_f, and_f, or_f, dec_f, List.length_append, List.length_nil, true_and, and_true, Bool.true_eq_false, Bool.false_eq_true, false_or, or_false] <;> first | assumption | omega)) | refine optK_posx (by assumption) ?_
          rw [e4]
          exact ih' _ _ ha
        · have hA : actF s (pickL p 4) n' a 0 = (a, (n' : Int)) := by unfold actF; rw [if_neg (by simp), if_neg (by omega), if_neg (by omega)]
          rw [hA]
          repeat first | (refine selK_posx ?_ ?_; · first | assumption | with_reducible rfl | (simp only [hid_eq, ltI_iff, leI_iff, eqI_iff, eqS_iff, eqB_iff, inR_iff, inB_iff, cd_iff, fitS_iff, capOk_iff, nz_iff, blt_iff, not_t, Bool.and_eq_true, Bool.or_eq_true, decide_eq_true_eq, ltI_iff0, leI_iff0, eqI_iff0, eqS_iff0, eqB_iff0, inR_iff0, inB_iff0, cd_iff0, nz_iff0, blt_iff0, not_f, and_f, or_f, dec_f, List.length_append, List.length_nil, true_and, and_true, Bool.true_eq_false, Bool.false_eq_true, false_or, or_false] <;> first | assumption | omega)) | (refine selK_negx ?_ ?_; · first | assumption | with_reducible rfl | (simp only [hid_eq, ltI_iff, leI_iff, eqI_iff, eqS_iff, eqB_iff, inR_iff, inB_iff, cd_iff, fitS_iff, capOk_iff, nz_iff, blt_iff, not_t, Bool.and_eq_true, Bool.or_eq_true, decide_eq_true_eq, ltI_iff0, leI_iff0, eqI_iff0, eqS_iff0, eqB_iff0, inR_iff0, inB_iff0, cd_iff0, nz_iff0, blt_iff0, not_f, and_f, or_f, dec_f, List.length_append, List.length_nil, true_and, and_true, Bool.true_eq_false, Bool.false_eq_true, false_or, or_false] <;> first | assumption | omega)) | refine optK_posx (by assumption) ?_
          rw [e4]
          exact ih' _ _ ha
      · have e0 : ((subS s ((a : Int)).toNat s.length).length : Int) = s.length - a := by
          rw [Int.toNat_natCast]; unfold subS; rw [List.length_take, List.length_drop]; omega
        have hg0 : getL [] = 0 := rfl
        have hn : n < 0 ∨ (0 ≤ n ∧ (s.length : Int) - a < n) := by omega
        rcases hn with hn | hn <;> rcases hq with hq | hq | hq | hq | hq | hq | hq
        all_goals first
          | (have hA : actF s (pickL p 4) n a 0 = (a, 3) := by unfold actF; rw [if_neg (by simp), if_pos (by omega), if_neg hfit]
             rw [hA]
             repeat first | (refine selK_posx ?_ ?_; · first | assumption | with_reducible rfl | (simp only [hid_eq, ltI_iff, leI_iff, eqI_iff, eqS_iff, eqB_iff, inR_iff, inB_iff, cd_iff, fitS_iff, capOk_iff, nz_iff, blt_iff, not_t, Bool.and_eq_true, Bool.or_eq_true, decide_eq_true_eq, ltI_iff0, leI_iff0, eqI_iff0, eqS_iff0, eqB_iff0, inR_iff0, inB_iff0, cd_iff0, nz_iff0, blt_iff0, not_f, and_f, or_f, dec_f, List.length_append, List.length_nil, true_and, and_true, Bool.true_eq_false, Bool.false_eq_true, false_or, or_false] <;> first | assumption | omega)) | (refine selK_negx ?_ ?_; · first | assumption | with_reducible rfl | (simp only [hid_eq, ltI_iff, leI_iff, eqI_iff, eqS_iff, eqB_iff, inR_iff, inB_iff, cd_iff, fitS_iff, capOk_iff, nz_iff, blt_iff, not_t, Bool.and_eq_true, Bool.or_eq_true, decide_eq_true_eq, ltI_iff0, leI_iff0, eqI_iff0, eqS_iff0, eqB_iff0, inR_iff0, inB_iff0, cd_iff0, nz_iff0, blt_iff0, not_f, and_f, or_f, dec_f, List.length_append, List.length_nil, true_and, and_true, Bool.true_eq_false, Bool.false_eq_true, false_or, or_false] <;> first | assumption | omega)) | refine optK_posx (by assumption) ?_
             rw [e4, w0]
             exact ih' _ _ ha)
          | (have hA : actF s (pickL p 4) n a 0 = (a, 0) := by unfold actF; rw [if_neg (by simp), if_neg (by omega), if_pos (by omega)]
             rw [hA]
             repeat first | (refine selK_posx ?_ ?_; · first | assumption | with_reducible rfl | (simp only [hid_eq, ltI_iff, leI_iff, eqI_iff, eqS_iff, eqB_iff, inR_iff, inB_iff, cd_iff, fitS_iff, capOk_iff, nz_iff, blt_iff, not_t, Bool.and_eq_true, Bool.or_eq_true, decide_eq_true_eq, ltI_iff0, leI_iff0, eqI_iff0, eqS_iff0, eqB_iff0, inR_iff0, inB_iff0, cd_iff0, nz_iff0, blt_iff0, not_f, and_f, or_f, dec_f, List.length_append, List.length_nil, true_and, and_true, Bool.true_eq_false, Bool.false_eq_true, false_or, or_false] <;> first | assumption | omega)) | (refine selK_negx ?_ ?_; · first | assumption | with_reducible rfl | (simp only [hid_eq, ltI_iff, leI_iff, eqI_iff, eqS_iff, eqB_iff, inR_iff, inB_iff, cd_iff, fitS_iff, capOk_iff, nz_iff, blt_iff, not_t, Bool.and_eq_true, Bool.or_eq_true, decide_eq_true_eq, ltI_iff0, leI_iff0, eqI_iff0, eqS_iff0, eqB_iff0, inR_iff0, inB_iff0, cd_iff0, nz_iff0, blt_iff0, not_f, and_f, or_f, dec_f, List.length_append, List.length_nil, true_and, and_true, Bool.true_eq_false, Bool.false_eq_true, false_or, or_false] <;> first | assumption | omega)) | refine optK_posx (by assumption) ?_
             rw [e4]
             exact ih' _ _ ha)
          | (have hA : actF s (pickL p 4) n a 0 = (a, n) := by unfold actF; rw [if_neg (by simp), if_neg (by omega), if_neg (by omega)]
             rw [hA]
             repeat first | (refine selK_posx ?_ ?_; · first | assumption | with_reducible rfl | (simp only [hid_eq, ltI_iff, leI_iff, eqI_iff, eqS_iff, eqB_iff, inR_iff, inB_iff, cd_iff, fitS_iff, capOk_iff, nz_iff, blt_iff, not_t, Bool.and_eq_true, Bool.or_eq_true, decide_eq_true_eq, ltI_iff0, leI_iff0, eqI_iff0, eqS_iff0, eqB_iff0, inR_iff0, inB_iff0, cd_iff0, nz_iff0, blt_iff0, not_f, and_f, or_f, dec_f, List.length_append, List.length_nil, true_and, and_true, Bool.true_eq_false, Bool.false_eq_true, false_or, or_false] <;> first | assumption | omega)) | (refine selK_negx ?_ ?_; · first | assumption | with_reducible rfl | (simp only [hid_eq, ltI_iff, leI_iff, eqI_iff, eqS_iff, eqB_iff, inR_iff, inB_iff, cd_iff, fitS_iff, capOk_iff, nz_iff, blt_iff, not_t, Bool.and_eq_true, Bool.or_eq_true, decide_eq_true_eq, ltI_iff0, leI_iff0, eqI_iff0, eqS_iff0, eqB_iff0, inR_iff0, inB_iff0, cd_iff0, nz_iff0, blt_iff0, not_f, and_f, or_f, dec_f, List.length_append, List.length_nil, true_and, and_true, Bool.true_eq_false, Bool.false_eq_true, false_or, or_false] <;> first | assumption | omega)) | refine optK_posx (by assumption) ?_
             rw [e4]
             exact ih' _ _ ha)
    · have hA : actF s (pickL p 4) n a e = (a, e) := by unfold actF; rw [if_pos he]
      rw [hA]
      have e0 : ((subS s ((a : Int)).toNat s.length).length : Int) = s.length - a := by
          rw [Int.toNat_natCast]; unfold subS; rw [List.length_take, List.length_drop]; omega
      rcases hq with hq | hq | hq | hq | hq | hq | hq
      all_goals first
        | (repeat first | (refine selK_posx ?_ ?_; · first | assumption | with_reducible rfl | (simp only [hid_eq, ltI_iff, leI_iff, eqI_iff, eqS_iff, eqB_iff, inR_iff, inB_iff, cd_iff, fitS_iff, capOk_iff, nz_iff, blt_iff, not_t, Bool.and_eq_true, Bool.or_eq_true, decide_eq_true_eq, ltI_iff0, leI_iff0, eqI_iff0, eqS_iff0, eqB_iff0, inR_iff0, inB_iff0, cd_iff0, nz_iff0, blt_iff0, not_f, and_f, or_f, dec_f, List.length_append, List.length_nil, true_and, and_true, Bool.true_eq_false, Bool.false_eq_true, false_or, or_false] <;> first | assumption | omega)) | (refine selK_negx ?_ ?_; · first | assumption | with_reducible rfl | (simp only [hid_eq, ltI_iff, leI_iff, eqI_iff, eqS_iff, eqB_iff, inR_iff, inB_iff, cd_iff, fitS_iff, capOk_iff, nz_iff, blt_iff, not_t, Bool.and_eq_true, Bool.or_eq_true, decide_eq_true_eq, ltI_iff0, leI_iff0, eqI_iff0, eqS_iff0, eqB_iff0, inR_iff0, inB_iff0, cd_iff0, nz_iff0, blt_iff0, not_f, and_f, or_f, dec_f, List.length_append, List.length_nil, true_and, and_true, Bool.true_eq_false, Bool.false_eq_true, false_or, or_false] <;> first | assumption | omega)) | refine optK_posx (by assumption) ?_
           rw [e4, w0]
           exact ih' _ _ ha)
        | (repeat first | (refine selK_posx ?_ ?_; · first | assumption | with_reducible rfl | (simp only [hid_eq, ltI_iff, leI_iff, eqI_iff, eqS_iff, eqB_iff, inR_iff, inB_iff, cd_iff, fitS_iff, capOk_iff, nz_iff, blt_iff, not_t, Bool.and_eq_true, Bool.or_eq_true, decide_eq_true_eq, ltI_iff0, leI_iff0, eqI_iff0, eqS_iff0, eqB_iff0, inR_iff0, inB_iff0, cd_iff0, nz_iff0, blt_iff0, not_f, and_f, or_f, dec_f, List.length_append, List.length_nil, true_and, and_true, Bool.true_eq_false, Bool.false_eq_true, false_or, or_false] <;> first | assumption | omega)) | (refine selK_negx ?_ ?_; · first | assumption | with_reducible rfl | (simp only [hid_eq, ltI_iff, leI_iff, eqI_iff, eqS_iff, eqB_iff, inR_iff, inB_iff, cd_iff, fitS_iff, capOk_iff, nz_iff, blt_iff, not_t, Bool.and_eq_true, Bool.or_eq_true, decide_eq_true_eq, ltI_iff0, leI_iff0, eqI_iff0, eqS_iff0, eqB_iff0, inR_iff0, inB_iff0, cd_iff0, nz_iff0, blt_iff0, not_f, and_f, or_f, dec_f, List.length_append, List.length_nil, true_and, and_true, Bool.true_eq_false, Bool.false_eq_true, false_or, or_false] <;> first | assumption | omega)) | refine optK_posx (by assumption) ?_
           rw [e4]
           exact ih' _ _ ha)
end
end Go.Proofs.Ytidlbhppbopjjaa.Ax

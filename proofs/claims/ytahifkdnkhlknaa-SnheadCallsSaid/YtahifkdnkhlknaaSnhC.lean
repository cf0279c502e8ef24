/-
Chapter 21: contracts of Bytes, Read, Flag, ReadFlag, Uses.
-/
import Derived.Test.YtahifkdnkhlknaaSnhT
namespace Go.Proofs.Ytahifkdnkhlknaa.Ax
open Go.Ax
set_option linter.unusedVariables false
set_option linter.unusedSimpArgs false
set_option maxRecDepth 100000

section
variable {β : Type} (kk : KV → KHeap → Option β)

theorem putL_nat (n : Int) (k : Nat) (h : 0 ≤ n) : putL n k = putN n.toNat k := by
  have := putL_putN n.toNat k
  rwa [show ((n.toNat : Nat) : Int) = n by omega] at this

theorem bytes_run (k r : Int) (hr : -9223372036854775808 ≤ r ∧ r ≤ 9223372036854775807) : kBody (kFn F TKno RR DD) (fun _ => none) RR f8 [.int .i64 k, .int .i64 r] [] kk = kk (.tuple [.str (bytesS k r), .int .i64 (bytesE k r)]) [] := by
  rw [bytes_tree]
  simp only [hid_eq]
  have m1 : (min (1 : Int) 16).toNat = 1 := by decide
  have m2 : (min (2 : Int) 16).toNat = 2 := by decide
  cases hk : known k with
  | false => simp [selK, bytesS, bytesE, hk]
  | true =>
    have hkr := known_range hk
    rw [selK_true]
    by_cases h0 : r < 0
    · rw [selK_pos (by rw [ltI_iff]; exact h0)]
      simp [bytesS, bytesE, hk, h0]
    by_cases h1 : 65531 < r
    · rw [selK_neg (by rw [← Bool.not_eq_true, ltI_iff]; exact h0), selK_pos (by rw [ltI_iff]; exact h1)]
      simp [bytesS, bytesE, hk, h0, h1]
    have e : bytesE k r = 0 := by simp [bytesE, hk, h0, h1]
    rw [selK_neg (by rw [← Bool.not_eq_true, ltI_iff]; exact h0), selK_neg (by rw [← Bool.not_eq_true, ltI_iff]; exact h1), m1, m2]
    rw [wu64 k (by omega) (by omega), w64 (r + 2) (by omega) (by omega), w64 (r + 4) (by omega) (by omega), wu64 (r + 2) (by omega) (by omega), wu64 (r + 4) (by omega) (by omega), putL_nat k 1 (by omega), putL_nat (r + 2) 1 (by omega), putL_nat (r + 4) 2 (by omega), putL_nat 1 1 (by omega)]
    by_cases h2 : r ≤ 253
    · rw [selK_pos (by rw [leI_iff]; omega), selK_pos (by rw [cd_iff]; omega), selK_pos (by rw [cd_iff]; omega), selK_pos (by rw [fitS_iff, putN_length, putN_length]; omega), e]
      simp [bytesS, e, h2]
    · rw [selK_neg (by rw [← Bool.not_eq_true, leI_iff]; omega), selK_pos (by rw [cd_iff]; omega), selK_pos (by rw [cd_iff]; omega), selK_pos (by rw [fitS_iff, putN_length, putN_length]; omega), selK_pos (by rw [cd_iff]; omega),
        selK_pos (by rw [fitS_iff, List.length_append, putN_length, putN_length, putN_length]; omega), e]
      simp [bytesS, e, h2]

theorem read_run (s : List UInt8) (hs : s.length ≤ 4611686018427387904) : kBody (kFn F TKno RR DD) (fun _ => none) RR f10 [.str s] [] kk = kk (.tuple [.int .i64 (readS s).1, .int .i64 (readS s).2.1, .int .i64 (readS s).2.2.1, .int .i64 (readS s).2.2.2]) [] := by
  rw [read_tree]
  simp only [hid_eq]
  have a0 : subS s 0 1 = s.take 1 := rfl
  have a1 : subS s 1 2 = (s.drop 1).take 1 := rfl
  have a2 : subS s 1 3 = (s.drop 1).take 2 := rfl
  have a3 : subS s 3 4 = (s.drop 3).take 1 := rfl
  have b1 := getL_lt (s.take 1) 1 (by simp; omega) (by omega)
  have b2 := getL_lt ((s.drop 1).take 1) 1 (by simp; omega) (by omega)
  have b3 := getL_lt ((s.drop 1).take 2) 2 (by simp; omega) (by omega)
  have b4 := getL_lt ((s.drop 3).take 1) 1 (by simp; omega) (by omega)
  have l1 : (s.take 1).length ≤ 1 := by simp; omega
  have l2 : ((s.drop 1).take 1).length ≤ 1 := by simp; omega
  have l3 : ((s.drop 1).take 2).length ≤ 2 := by simp; omega
  have l4 : ((s.drop 3).take 1).length ≤ 1 := by simp; omega
  have g0 : getL ([] : List UInt8) = 0 := rfl
  rw [a0, a1, a2, a3]
  unfold readS
  generalize getL (s.take 1) = x1 at *
  generalize getL ((s.drop 1).take 1) = x2 at *
  generalize getL ((s.drop 1).take 2) = x3 at *
  generalize getL ((s.drop 3).take 1) = x4 at *
  have w0 : wr .i64 (((s.length : Nat) : Int) - 0) = s.length := by rw [w64 _ (by omega) (by omega)]; omega
  have w1 : wr .i64 (((s.length : Nat) : Int) - 1) = s.length - 1 := w64 _ (by omega) (by omega)
  have w3 : wr .i64 (((s.length : Nat) : Int) - 3) = s.length - 3 := w64 _ (by omega) (by omega)
  have v1 : wr .i64 (x1 : Int) = x1 := w64 _ (by omega) (by omega)
  have v2 : wr .i64 (x2 : Int) = x2 := w64 _ (by omega) (by omega)
  have v3 : wr .i64 (x3 : Int) = x3 := w64 _ (by omega) (by omega)
  have v4 : wr .i64 (x4 : Int) = x4 := w64 _ (by omega) (by omega)
  have v0 : wr .i64 ((0 : Nat) : Int) = 0 := rfl
  have z0 : cd (([] : List UInt8).length ≤ 4611686018427387904) = true := by rw [cd_iff]; simp
  have z1 : cd ((s.take 1).length ≤ 4611686018427387904) = true := by rw [cd_iff]; omega
  have z2 : cd (((s.drop 1).take 1).length ≤ 4611686018427387904) = true := by rw [cd_iff]; omega
  have z3 : cd (((s.drop 1).take 2).length ≤ 4611686018427387904) = true := by rw [cd_iff]; omega
  have z4 : cd (((s.drop 3).take 1).length ≤ 4611686018427387904) = true := by rw [cd_iff]; omega
  have y0 : eqI 0 1 = false := rfl
  rw [w0, w1, w3, v1, v2, v3, v4, z0, z1, z2, z3, z4, g0, v0, y0]
  clear w0 w1 w3 v0 v1 v2 v3 v4 z0 z1 z2 z3 z4 y0 g0 l1 l2 l3 l4
  simp only [selK_true, selK_false]
  by_cases h2 : s.length < 2
  · rw [if_pos h2]
    by_cases hs0 : (s.length : Int) < 1
    · repeat first | (refine selK_posx ?_ ?_; · first | assumption | with_reducible rfl | (simp only [hid_eq, ltI_iff, leI_iff, eqI_iff, eqS_iff, eqB_iff, inR_iff, inB_iff, cd_iff, fitS_iff, capOk_iff, nz_iff, blt_iff, not_t, Bool.and_eq_true, Bool.or_eq_true, decide_eq_true_eq, ltI_iff0, leI_iff0, eqI_iff0, eqS_iff0, eqB_iff0, inR_iff0, inB_iff0, cd_iff0, nz_iff0, blt_iff0, not_f, and_f, or_f, dec_f, List.length_append, List.length_nil, true_and, and_true, Bool.true_eq_false, Bool.false_eq_true, false_or, or_false] <;> first | assumption | omega)) | (refine selK_negx ?_ ?_; · first | assumption | with_reducible rfl | (simp only [hid_eq, ltI_iff, leI_iff, eqI_iff, eqS_iff, eqB_iff, inR_iff, inB_iff, cd_iff, fitS_iff, capOk_iff, nz_iff, blt_iff, not_t, Bool.and_eq_true, Bool.or_eq_true, decide_eq_true_eq, ltI_iff0, leI_iff0, eqI_iff0, eqS_iff0, eqB_iff0, inR_iff0, inB_iff0, cd_iff0, nz_iff0, blt_iff0, not_f, and_f, or_f, dec_f, List.length_append, List.length_nil, true_and, and_true, Bool.true_eq_false, Bool.false_eq_true, false_or, or_false] <;> first | assumption | omega))
      rfl
    by_cases h1 : (x1 : Int) = 1
    · repeat first | (refine selK_posx ?_ ?_; · first | assumption | with_reducible rfl | (simp only [hid_eq, ltI_iff, leI_iff, eqI_iff, eqS_iff, eqB_iff, inR_iff, inB_iff, cd_iff, fitS_iff, capOk_iff, nz_iff, blt_iff, not_t, Bool.and_eq_true, Bool.or_eq_true, decide_eq_true_eq, ltI_iff0, leI_iff0, eqI_iff0, eqS_iff0, eqB_iff0, inR_iff0, inB_iff0, cd_iff0, nz_iff0, blt_iff0, not_f, and_f, or_f, dec_f, List.length_append, List.length_nil, true_and, and_true, Bool.true_eq_false, Bool.false_eq_true, false_or, or_false] <;> first | assumption | omega)) | (refine selK_negx ?_ ?_; · first | assumption | with_reducible rfl | (simp only [hid_eq, ltI_iff, leI_iff, eqI_iff, eqS_iff, eqB_iff, inR_iff, inB_iff, cd_iff, fitS_iff, capOk_iff, nz_iff, blt_iff, not_t, Bool.and_eq_true, Bool.or_eq_true, decide_eq_true_eq, ltI_iff0, leI_iff0, eqI_iff0, eqS_iff0, eqB_iff0, inR_iff0, inB_iff0, cd_iff0, nz_iff0, blt_iff0, not_f, and_f, or_f, dec_f, List.length_append, List.length_nil, true_and, and_true, Bool.true_eq_false, Bool.false_eq_true, false_or, or_false] <;> first | assumption | omega))
      rfl
    · repeat first | (refine selK_posx ?_ ?_; · first | assumption | with_reducible rfl | (simp only [hid_eq, ltI_iff, leI_iff, eqI_iff, eqS_iff, eqB_iff, inR_iff, inB_iff, cd_iff, fitS_iff, capOk_iff, nz_iff, blt_iff, not_t, Bool.and_eq_true, Bool.or_eq_true, decide_eq_true_eq, ltI_iff0, leI_iff0, eqI_iff0, eqS_iff0, eqB_iff0, inR_iff0, inB_iff0, cd_iff0, nz_iff0, blt_iff0, not_f, and_f, or_f, dec_f, List.length_append, List.length_nil, true_and, and_true, Bool.true_eq_false, Bool.false_eq_true, false_or, or_false] <;> first | assumption | omega)) | (refine selK_negx ?_ ?_; · first | assumption | with_reducible rfl | (simp only [hid_eq, ltI_iff, leI_iff, eqI_iff, eqS_iff, eqB_iff, inR_iff, inB_iff, cd_iff, fitS_iff, capOk_iff, nz_iff, blt_iff, not_t, Bool.and_eq_true, Bool.or_eq_true, decide_eq_true_eq, ltI_iff0, leI_iff0, eqI_iff0, eqS_iff0, eqB_iff0, inR_iff0, inB_iff0, cd_iff0, nz_iff0, blt_iff0, not_f, and_f, or_f, dec_f, List.length_append, List.length_nil, true_and, and_true, Bool.true_eq_false, Bool.false_eq_true, false_or, or_false] <;> first | assumption | omega))
      rfl
  rw [if_neg h2]
  by_cases h1 : x1 = 1
  · rw [if_pos h1]
    by_cases h4 : s.length < 4
    · rw [if_pos h4]
      by_cases h3 : s.length < 3
      · repeat first | (refine selK_posx ?_ ?_; · first | assumption | with_reducible rfl | (simp only [hid_eq, ltI_iff, leI_iff, eqI_iff, eqS_iff, eqB_iff, inR_iff, inB_iff, cd_iff, fitS_iff, capOk_iff, nz_iff, blt_iff, not_t, Bool.and_eq_true, Bool.or_eq_true, decide_eq_true_eq, ltI_iff0, leI_iff0, eqI_iff0, eqS_iff0, eqB_iff0, inR_iff0, inB_iff0, cd_iff0, nz_iff0, blt_iff0, not_f, and_f, or_f, dec_f, List.length_append, List.length_nil, true_and, and_true, Bool.true_eq_false, Bool.false_eq_true, false_or, or_false] <;> first | assumption | omega)) | (refine selK_negx ?_ ?_; · first | assumption | with_reducible rfl | (simp only [hid_eq, ltI_iff, leI_iff, eqI_iff, eqS_iff, eqB_iff, inR_iff, inB_iff, cd_iff, fitS_iff, capOk_iff, nz_iff, blt_iff, not_t, Bool.and_eq_true, Bool.or_eq_true, decide_eq_true_eq, ltI_iff0, leI_iff0, eqI_iff0, eqS_iff0, eqB_iff0, inR_iff0, inB_iff0, cd_iff0, nz_iff0, blt_iff0, not_f, and_f, or_f, dec_f, List.length_append, List.length_nil, true_and, and_true, Bool.true_eq_false, Bool.false_eq_true, false_or, or_false] <;> first | assumption | omega))
        rfl
      · repeat first | (refine selK_posx ?_ ?_; · first | assumption | with_reducible rfl | (simp only [hid_eq, ltI_iff, leI_iff, eqI_iff, eqS_iff, eqB_iff, inR_iff, inB_iff, cd_iff, fitS_iff, capOk_iff, nz_iff, blt_iff, not_t, Bool.and_eq_true, Bool.or_eq_true, decide_eq_true_eq, ltI_iff0, leI_iff0, eqI_iff0, eqS_iff0, eqB_iff0, inR_iff0, inB_iff0, cd_iff0, nz_iff0, blt_iff0, not_f, and_f, or_f, dec_f, List.length_append, List.length_nil, true_and, and_true, Bool.true_eq_false, Bool.false_eq_true, false_or, or_false] <;> first | assumption | omega)) | (refine selK_negx ?_ ?_; · first | assumption | with_reducible rfl | (simp only [hid_eq, ltI_iff, leI_iff, eqI_iff, eqS_iff, eqB_iff, inR_iff, inB_iff, cd_iff, fitS_iff, capOk_iff, nz_iff, blt_iff, not_t, Bool.and_eq_true, Bool.or_eq_true, decide_eq_true_eq, ltI_iff0, leI_iff0, eqI_iff0, eqS_iff0, eqB_iff0, inR_iff0, inB_iff0, cd_iff0, nz_iff0, blt_iff0, not_f, and_f, or_f, dec_f, List.length_append, List.length_nil, true_and, and_true, Bool.true_eq_false, Bool.false_eq_true, false_or, or_false] <;> first | assumption | omega))
        rfl
    rw [if_neg h4]
    by_cases h5 : x3 < 258
    · rw [if_pos h5]
      by_cases h6 : x3 < 4
      · repeat first | (refine selK_posx ?_ ?_; · first | assumption | with_reducible rfl | (simp only [hid_eq, ltI_iff, leI_iff, eqI_iff, eqS_iff, eqB_iff, inR_iff, inB_iff, cd_iff, fitS_iff, capOk_iff, nz_iff, blt_iff, not_t, Bool.and_eq_true, Bool.or_eq_true, decide_eq_true_eq, ltI_iff0, leI_iff0, eqI_iff0, eqS_iff0, eqB_iff0, inR_iff0, inB_iff0, cd_iff0, nz_iff0, blt_iff0, not_f, and_f, or_f, dec_f, List.length_append, List.length_nil, true_and, and_true, Bool.true_eq_false, Bool.false_eq_true, false_or, or_false] <;> first | assumption | omega)) | (refine selK_negx ?_ ?_; · first | assumption | with_reducible rfl | (simp only [hid_eq, ltI_iff, leI_iff, eqI_iff, eqS_iff, eqB_iff, inR_iff, inB_iff, cd_iff, fitS_iff, capOk_iff, nz_iff, blt_iff, not_t, Bool.and_eq_true, Bool.or_eq_true, decide_eq_true_eq, ltI_iff0, leI_iff0, eqI_iff0, eqS_iff0, eqB_iff0, inR_iff0, inB_iff0, cd_iff0, nz_iff0, blt_iff0, not_f, and_f, or_f, dec_f, List.length_append, List.length_nil, true_and, and_true, Bool.true_eq_false, Bool.false_eq_true, false_or, or_false] <;> first | assumption | omega))
        rfl
      · repeat first | (refine selK_posx ?_ ?_; · first | assumption | with_reducible rfl | (simp only [hid_eq, ltI_iff, leI_iff, eqI_iff, eqS_iff, eqB_iff, inR_iff, inB_iff, cd_iff, fitS_iff, capOk_iff, nz_iff, blt_iff, not_t, Bool.and_eq_true, Bool.or_eq_true, decide_eq_true_eq, ltI_iff0, leI_iff0, eqI_iff0, eqS_iff0, eqB_iff0, inR_iff0, inB_iff0, cd_iff0, nz_iff0, blt_iff0, not_f, and_f, or_f, dec_f, List.length_append, List.length_nil, true_and, and_true, Bool.true_eq_false, Bool.false_eq_true, false_or, or_false] <;> first | assumption | omega)) | (refine selK_negx ?_ ?_; · first | assumption | with_reducible rfl | (simp only [hid_eq, ltI_iff, leI_iff, eqI_iff, eqS_iff, eqB_iff, inR_iff, inB_iff, cd_iff, fitS_iff, capOk_iff, nz_iff, blt_iff, not_t, Bool.and_eq_true, Bool.or_eq_true, decide_eq_true_eq, ltI_iff0, leI_iff0, eqI_iff0, eqS_iff0, eqB_iff0, inR_iff0, inB_iff0, cd_iff0, nz_iff0, blt_iff0, not_f, and_f, or_f, dec_f, List.length_append, List.length_nil, true_and, and_true, Bool.true_eq_false, Bool.false_eq_true, false_or, or_false] <;> first | assumption | omega))
        rfl
    rw [if_neg h5]
    cases hk : known x4
    · repeat first | (refine selK_posx ?_ ?_; · first | assumption | with_reducible rfl | (simp only [hid_eq, ltI_iff, leI_iff, eqI_iff, eqS_iff, eqB_iff, inR_iff, inB_iff, cd_iff, fitS_iff, capOk_iff, nz_iff, blt_iff, not_t, Bool.and_eq_true, Bool.or_eq_true, decide_eq_true_eq, ltI_iff0, leI_iff0, eqI_iff0, eqS_iff0, eqB_iff0, inR_iff0, inB_iff0, cd_iff0, nz_iff0, blt_iff0, not_f, and_f, or_f, dec_f, List.length_append, List.length_nil, true_and, and_true, Bool.true_eq_false, Bool.false_eq_true, false_or, or_false] <;> first | assumption | omega)) | (refine selK_negx ?_ ?_; · first | assumption | with_reducible rfl | (simp only [hid_eq, ltI_iff, leI_iff, eqI_iff, eqS_iff, eqB_iff, inR_iff, inB_iff, cd_iff, fitS_iff, capOk_iff, nz_iff, blt_iff, not_t, Bool.and_eq_true, Bool.or_eq_true, decide_eq_true_eq, ltI_iff0, leI_iff0, eqI_iff0, eqS_iff0, eqB_iff0, inR_iff0, inB_iff0, cd_iff0, nz_iff0, blt_iff0, not_f, and_f, or_f, dec_f, List.length_append, List.length_nil, true_and, and_true, Bool.true_eq_false, Bool.false_eq_true, false_or, or_false] <;> first | assumption | omega))
      rfl
    · repeat first | (refine selK_posx ?_ ?_; · first | assumption | with_reducible rfl | (simp only [hid_eq, ltI_iff, leI_iff, eqI_iff, eqS_iff, eqB_iff, inR_iff, inB_iff, cd_iff, fitS_iff, capOk_iff, nz_iff, blt_iff, not_t, Bool.and_eq_true, Bool.or_eq_true, decide_eq_true_eq, ltI_iff0, leI_iff0, eqI_iff0, eqS_iff0, eqB_iff0, inR_iff0, inB_iff0, cd_iff0, nz_iff0, blt_iff0, not_f, and_f, or_f, dec_f, List.length_append, List.length_nil, true_and, and_true, Bool.true_eq_false, Bool.false_eq_true, false_or, or_false] <;> first | assumption | omega)) | (refine selK_negx ?_ ?_; · first | assumption | with_reducible rfl | (simp only [hid_eq, ltI_iff, leI_iff, eqI_iff, eqS_iff, eqB_iff, inR_iff, inB_iff, cd_iff, fitS_iff, capOk_iff, nz_iff, blt_iff, not_t, Bool.and_eq_true, Bool.or_eq_true, decide_eq_true_eq, ltI_iff0, leI_iff0, eqI_iff0, eqS_iff0, eqB_iff0, inR_iff0, inB_iff0, cd_iff0, nz_iff0, blt_iff0, not_f, and_f, or_f, dec_f, List.length_append, List.length_nil, true_and, and_true, Bool.true_eq_false, Bool.false_eq_true, false_or, or_false] <;> first | assumption | omega))
      rfl
  · rw [if_neg h1]
    by_cases h5 : x1 < 2
    · rw [if_pos h5]
      repeat first | (refine selK_posx ?_ ?_; · first | assumption | with_reducible rfl | (simp only [hid_eq, ltI_iff, leI_iff, eqI_iff, eqS_iff, eqB_iff, inR_iff, inB_iff, cd_iff, fitS_iff, capOk_iff, nz_iff, blt_iff, not_t, Bool.and_eq_true, Bool.or_eq_true, decide_eq_true_eq, ltI_iff0, leI_iff0, eqI_iff0, eqS_iff0, eqB_iff0, inR_iff0, inB_iff0, cd_iff0, nz_iff0, blt_iff0, not_f, and_f, or_f, dec_f, List.length_append, List.length_nil, true_and, and_true, Bool.true_eq_false, Bool.false_eq_true, false_or, or_false] <;> first | assumption | omega)) | (refine selK_negx ?_ ?_; · first | assumption | with_reducible rfl | (simp only [hid_eq, ltI_iff, leI_iff, eqI_iff, eqS_iff, eqB_iff, inR_iff, inB_iff, cd_iff, fitS_iff, capOk_iff, nz_iff, blt_iff, not_t, Bool.and_eq_true, Bool.or_eq_true, decide_eq_true_eq, ltI_iff0, leI_iff0, eqI_iff0, eqS_iff0, eqB_iff0, inR_iff0, inB_iff0, cd_iff0, nz_iff0, blt_iff0, not_f, and_f, or_f, dec_f, List.length_append, List.length_nil, true_and, and_true, Bool.true_eq_false, Bool.false_eq_true, false_or, or_false] <;> first | assumption | omega))
      rfl
    rw [if_neg h5]
    cases hk : known x2
    · repeat first | (refine selK_posx ?_ ?_; · first | assumption | with_reducible rfl | (simp only [hid_eq, ltI_iff, leI_iff, eqI_iff, eqS_iff, eqB_iff, inR_iff, inB_iff, cd_iff, fitS_iff, capOk_iff, nz_iff, blt_iff, not_t, Bool.and_eq_true, Bool.or_eq_true, decide_eq_true_eq, ltI_iff0, leI_iff0, eqI_iff0, eqS_iff0, eqB_iff0, inR_iff0, inB_iff0, cd_iff0, nz_iff0, blt_iff0, not_f, and_f, or_f, dec_f, List.length_append, List.length_nil, true_and, and_true, Bool.true_eq_false, Bool.false_eq_true, false_or, or_false] <;> first | assumption | omega)) | (refine selK_negx ?_ ?_; · first | assumption | with_reducible rfl | (simp only [hid_eq, ltI_iff, leI_iff, eqI_iff, eqS_iff, eqB_iff, inR_iff, inB_iff, cd_iff, fitS_iff, capOk_iff, nz_iff, blt_iff, not_t, Bool.and_eq_true, Bool.or_eq_true, decide_eq_true_eq, ltI_iff0, leI_iff0, eqI_iff0, eqS_iff0, eqB_iff0, inR_iff0, inB_iff0, cd_iff0, nz_iff0, blt_iff0, not_f, and_f, or_f, dec_f, List.length_append, List.length_nil, true_and, and_true, Bool.true_eq_false, Bool.false_eq_true, false_or, or_false] <;> first | assumption | omega))
      rfl
    · repeat first | (refine selK_posx ?_ ?_; · first | assumption | with_reducible rfl | (simp only [hid_eq, ltI_iff, leI_iff, eqI_iff, eqS_iff, eqB_iff, inR_iff, inB_iff, cd_iff, fitS_iff, capOk_iff, nz_iff, blt_iff, not_t, Bool.and_eq_true, Bool.or_eq_true, decide_eq_true_eq, ltI_iff0, leI_iff0, eqI_iff0, eqS_iff0, eqB_iff0, inR_iff0, inB_iff0, cd_iff0, nz_iff0, blt_iff0, not_f, and_f, or_f, dec_f, List.length_append, List.length_nil, true_and, and_true, Bool.true_eq_false, Bool.false_eq_true, false_or, or_false] <;> first | assumption | omega)) | (refine selK_negx ?_ ?_; · first | assumption | with_reducible rfl | (simp only [hid_eq, ltI_iff, leI_iff, eqI_iff, eqS_iff, eqB_iff, inR_iff, inB_iff, cd_iff, fitS_iff, capOk_iff, nz_iff, blt_iff, not_t, Bool.and_eq_true, Bool.or_eq_true, decide_eq_true_eq, ltI_iff0, leI_iff0, eqI_iff0, eqS_iff0, eqB_iff0, inR_iff0, inB_iff0, cd_iff0, nz_iff0, blt_iff0, not_f, and_f, or_f, dec_f, List.length_append, List.length_nil, true_and, and_true, Bool.true_eq_false, Bool.false_eq_true, false_or, or_false] <;> first | assumption | omega))
      rfl

theorem flag_run (f : Fl) : kBody (kFn F (fun _ => none) RR DD) (fun _ => none) RR f11 [.agg [.bool f.dup, .int .i64 f.qos, .bool f.ret, .bool f.will, .bool f.clean, .int .i64 f.typ]] [] kk = kk (.tuple [.int .i64 (flagN f), .int .i64 (flagE f)]) [] := by
  obtain ⟨d, q, r, w, c, t⟩ := f
  rw [flag_tree]
  have hE : ∀ h : (q < -1 ∨ 2 < q ∨ t < 0 ∨ 2 < t), flagE ⟨d, q, r, w, c, t⟩ = 7 := fun h => if_pos h
  have hN : ∀ h : (q < -1 ∨ 2 < q ∨ t < 0 ∨ 2 < t), flagN ⟨d, q, r, w, c, t⟩ = 0 := fun h => by unfold flagN; rw [hE h]; rfl
  by_cases h1 : q < -1
  · rw [selK_pos (by rw [ltI_iff]; exact h1), hE (.inl h1), hN (.inl h1)]
  by_cases h2 : 2 < q
  · rw [selK_neg (by rw [← Bool.not_eq_true, ltI_iff]; exact h1), selK_pos (by rw [ltI_iff]; exact h2), hE (by omega), hN (by omega)]
  by_cases h3 : t < 0
  · rw [selK_neg (by rw [← Bool.not_eq_true, ltI_iff]; exact h1), selK_neg (by rw [← Bool.not_eq_true, ltI_iff]; exact h2), selK_pos (by rw [ltI_iff]; exact h3), hE (by omega), hN (by omega)]
  by_cases h4 : 2 < t
  · rw [selK_neg (by rw [← Bool.not_eq_true, ltI_iff]; exact h1), selK_neg (by rw [← Bool.not_eq_true, ltI_iff]; exact h2), selK_neg (by rw [← Bool.not_eq_true, ltI_iff]; exact h3), selK_pos (by rw [ltI_iff]; exact h4), hE (by omega), hN (by omega)]
  have hq : q = -1 ∨ q = 0 ∨ q = 1 ∨ q = 2 := by omega
  have ht : t = 0 ∨ t = 1 ∨ t = 2 := by omega
  clear hE hN h1 h2 h3 h4
  rcases hq with rfl | rfl | rfl | rfl <;> rcases ht with rfl | rfl | rfl <;> cases d <;> cases r <;> cases w <;> cases c <;> rfl

theorem bits_byte : ∀ m : Nat, m < 256 → bitsA .and .i64 (m : Int) 3 = (m : Int) % 4 ∧ bitsA .and .i64 (wr .i64 (quoI (m : Int) 32)) 3 = (m : Int) / 32 % 4 ∧ (!eqI (bitsA .and .i64 (m : Int) 128) 0) = decide (128 ≤ (m : Int)) ∧
    (!eqI (bitsA .and .i64 (m : Int) 16) 0) = decide ((m : Int) / 16 % 2 = 1) ∧ (!eqI (bitsA .and .i64 (m : Int) 8) 0) = decide ((m : Int) / 8 % 2 = 1) ∧ (!eqI (bitsA .and .i64 (m : Int) 4) 0) = decide ((m : Int) / 4 % 2 = 1) := by decide +kernel

theorem readFlag_run (n : Int) : kBody (kFn F (fun _ => none) RR DD) (fun _ => none) RR f12 [.int .i64 n] [] kk =
    kk (.tuple [.agg [.bool (readFlag n).dup, .int .i64 (readFlag n).qos, .bool (readFlag n).ret, .bool (readFlag n).will, .bool (readFlag n).clean, .int .i64 (readFlag n).typ], .int .i64 (readFlagE n)]) [] := by
  rw [readFlag_tree]
  by_cases h1 : n < 0
  · have e : readFlagE n = 7 := if_pos (.inl h1)
    have e2 : readFlag n = .zero := by unfold readFlag; rw [e]; rfl
    rw [selK_pos (by rw [ltI_iff]; exact h1), e, e2]; rfl
  by_cases h2 : 255 < n
  · have e : readFlagE n = 7 := if_pos (.inr (.inl h2))
    have e2 : readFlag n = .zero := by unfold readFlag; rw [e]; rfl
    rw [selK_neg (by rw [← Bool.not_eq_true, ltI_iff]; exact h1), selK_pos (by rw [ltI_iff]; exact h2), e, e2]; rfl
  obtain ⟨m, rfl⟩ : ∃ m : Nat, n = m := ⟨n.toNat, by omega⟩
  obtain ⟨b1, b2, b3, b4, b5, b6⟩ := bits_byte m (by omega)
  rw [selK_neg (by rw [← Bool.not_eq_true, ltI_iff]; exact h1), selK_neg (by rw [← Bool.not_eq_true, ltI_iff]; exact h2), b1, b2, b3, b4, b5, b6]
  by_cases h3 : (m : Int) % 4 = 3
  · have e : readFlagE m = 7 := if_pos (.inr (.inr h3))
    have e2 : readFlag m = .zero := by unfold readFlag; rw [e]; rfl
    rw [selK_pos (by rw [eqI_iff]; exact h3), e, e2]; rfl
  · have e : readFlagE m = 0 := if_neg (by omega)
    have e2 : readFlag m = ⟨decide (128 ≤ (m : Int)), if (m : Int) / 32 % 4 = 3 then -1 else (m : Int) / 32 % 4, decide ((m : Int) / 16 % 2 = 1), decide ((m : Int) / 8 % 2 = 1), decide ((m : Int) / 4 % 2 = 1), (m : Int) % 4⟩ := by unfold readFlag; rw [e]; rfl
    rw [selK_neg (by rw [← Bool.not_eq_true, eqI_iff]; exact h3), e, e2]
    by_cases h5 : (m : Int) / 32 % 4 = 3
    · rw [selK_pos (by rw [eqI_iff]; exact h5), if_pos h5]
      cases decide (128 ≤ (m : Int)) <;> cases decide ((m : Int) / 16 % 2 = 1) <;> cases decide ((m : Int) / 8 % 2 = 1) <;> cases decide ((m : Int) / 4 % 2 = 1) <;> rfl
    · rw [selK_neg (by rw [eqI_iff0]; exact h5), if_neg h5]
      cases decide (128 ≤ (m : Int)) <;> cases decide ((m : Int) / 16 % 2 = 1) <;> cases decide ((m : Int) / 8 % 2 = 1) <;> cases decide ((m : Int) / 4 % 2 = 1) <;> rfl

theorem uses_run (k : Int) : kBody (kFn F (fun _ => none) RR DD) (fun _ => none) RR f13 [.int .i64 k] [] kk =
    kk (.agg [.bool (uses k).dup, .int .i64 (uses k).qos, .bool (uses k).ret, .bool (uses k).will, .bool (uses k).clean, .int .i64 (uses k).typ]) [] := by
  rw [uses_tree]
  unfold uses
  by_cases h1 : k = 4
  · subst h1; rfl
  by_cases h2 : k = 7
  · subst h2; rfl
  by_cases h3 : k = 26
  · subst h3; rfl
  by_cases h4 : k = 12
  · subst h4; rfl
  by_cases h5 : k = 18
  · subst h5; rfl
  by_cases h6 : k = 20
  · subst h6; rfl
  by_cases h7 : k = 19
  · subst h7; rfl
  rw [if_neg h1, if_neg (by omega), if_neg h4, if_neg h5, if_neg h6, if_neg h7]
  repeat first | (refine selK_posx ?_ ?_; · first | assumption | with_reducible rfl | (simp only [hid_eq, ltI_iff, leI_iff, eqI_iff, eqS_iff, eqB_iff, inR_iff, inB_iff, cd_iff, fitS_iff, capOk_iff, nz_iff, blt_iff, not_t, Bool.and_eq_true, Bool.or_eq_true, decide_eq_true_eq, ltI_iff0, leI_iff0, eqI_iff0, eqS_iff0, eqB_iff0, inR_iff0, inB_iff0, cd_iff0, nz_iff0, blt_iff0, not_f, and_f, or_f, dec_f, List.length_append, List.length_nil, true_and, and_true, Bool.true_eq_false, Bool.false_eq_true, false_or, or_false] <;> first | assumption | omega)) | (refine selK_negx ?_ ?_; · first | assumption | with_reducible rfl | (simp only [hid_eq, ltI_iff, leI_iff, eqI_iff, eqS_iff, eqB_iff, inR_iff, inB_iff, cd_iff, fitS_iff, capOk_iff, nz_iff, blt_iff, not_t, Bool.and_eq_true, Bool.or_eq_true, decide_eq_true_eq, ltI_iff0, leI_iff0, eqI_iff0, eqS_iff0, eqB_iff0, inR_iff0, inB_iff0, cd_iff0, nz_iff0, blt_iff0, not_f, and_f, or_f, dec_f, List.length_append, List.length_nil, true_and, and_true, Bool.true_eq_false, Bool.false_eq_true, false_or, or_false] <;> first | assumption | omega))
  rfl
end

noncomputable def cSnBytes : List AV → Bool
  | [.int .i64 k, .int .i64 r] => cd (-9223372036854775808 ≤ r ∧ r ≤ 9223372036854775807)
  | _ => false
noncomputable def gSnBytes : List AV → Option AV
  | [.int .i64 k, .int .i64 r] => some (.tuple [.str (hid bytesS k r), .int .i64 (hid bytesE k r)])
  | _ => none
noncomputable def kSnBytes : KT := KT.pure cSnBytes gSnBytes
theorem kSnBytes_ok : ContractOk Try.prog 8 kSnBytes.a := by
  refine KT.pure_run (Checked.mixed Try.checked) F_ok TKno_ok rfl (fn := f8) rfl (L := (fun _ => none)) LoopsOk.none fun args v hc hg => ?_
  unfold gSnBytes at hg
  split at hg
  · cases hg
    rename_i k r
    have hc : -9223372036854775808 ≤ r ∧ r ≤ 9223372036854775807 := Eq.mp cd_iff hc
    exact ⟨rfl, rfl, _, (by first | exact bytes_run _ k r hc | (simp only [hid_eq]; exact bytes_run _ k r hc))⟩
  · cases hg
noncomputable def cSnRead : List AV → Bool
  | [.str s] => cd (s.length ≤ 4611686018427387904)
  | _ => false
noncomputable def gSnRead : List AV → Option AV
  | [.str s] => some (.tuple [.int .i64 (hid readS s).1, .int .i64 (hid readS s).2.1, .int .i64 (hid readS s).2.2.1, .int .i64 (hid readS s).2.2.2])
  | _ => none
noncomputable def kSnRead : KT := KT.pure cSnRead gSnRead
theorem kSnRead_ok : ContractOk Try.prog 10 kSnRead.a := by
  refine KT.pure_run (Checked.mixed Try.checked) F_ok TKno_ok rfl (fn := f10) rfl (L := (fun _ => none)) LoopsOk.none fun args v hc hg => ?_
  unfold gSnRead at hg
  split at hg
  · cases hg
    rename_i s
    have hc : s.length ≤ 4611686018427387904 := Eq.mp cd_iff hc
    exact ⟨rfl, rfl, _, (by first | exact read_run _ s hc | (simp only [hid_eq]; exact read_run _ s hc))⟩
  · cases hg
noncomputable def cFlag : List AV → Bool
  | _ => true
noncomputable def gFlag : List AV → Option AV
  | [.agg [.bool d, .int .i64 q, .bool r, .bool w, .bool c, .int .i64 t]] => some (.tuple [.int .i64 (hid flagN ⟨d, q, r, w, c, t⟩), .int .i64 (hid flagE ⟨d, q, r, w, c, t⟩)])
  | _ => none
noncomputable def kFlag : KT := KT.pure cFlag gFlag
theorem kFlag_ok : ContractOk Try.prog 11 kFlag.a := by
  refine KT.pure_run (Checked.mixed Try.checked) F_ok KTOk.none rfl (fn := f11) rfl (L := (fun _ => none)) LoopsOk.none fun args v hc hg => ?_
  unfold gFlag at hg
  split at hg
  · cases hg
    rename_i d q r w c t
    exact ⟨rfl, rfl, _, (by first | exact flag_run _ ⟨d, q, r, w, c, t⟩ | (simp only [hid_eq]; exact flag_run _ ⟨d, q, r, w, c, t⟩))⟩
  · cases hg
noncomputable def cReadFlag : List AV → Bool
  | _ => true
noncomputable def gReadFlag : List AV → Option AV
  | [.int .i64 n] => some (.tuple [.agg [.bool (hid readFlag n).dup, .int .i64 (hid readFlag n).qos, .bool (hid readFlag n).ret, .bool (hid readFlag n).will, .bool (hid readFlag n).clean, .int .i64 (hid readFlag n).typ], .int .i64 (hid readFlagE n)])
  | _ => none
noncomputable def kReadFlag : KT := KT.pure cReadFlag gReadFlag
theorem kReadFlag_ok : ContractOk Try.prog 12 kReadFlag.a := by
  refine KT.pure_run (Checked.mixed Try.checked) F_ok KTOk.none rfl (fn := f12) rfl (L := (fun _ => none)) LoopsOk.none fun args v hc hg => ?_
  unfold gReadFlag at hg
  split at hg
  · cases hg
    rename_i n
    exact ⟨rfl, rfl, _, (by first | exact readFlag_run _ n | (simp only [hid_eq]; exact readFlag_run _ n))⟩
  · cases hg
noncomputable def cUses : List AV → Bool
  | _ => true
noncomputable def gUses : List AV → Option AV
  | [.int .i64 k] => some (.agg [.bool (hid uses k).dup, .int .i64 (hid uses k).qos, .bool (hid uses k).ret, .bool (hid uses k).will, .bool (hid uses k).clean, .int .i64 (hid uses k).typ])
  | _ => none
noncomputable def kUses : KT := KT.pure cUses gUses
theorem kUses_ok : ContractOk Try.prog 13 kUses.a := by
  refine KT.pure_run (Checked.mixed Try.checked) F_ok KTOk.none rfl (fn := f13) rfl (L := (fun _ => none)) LoopsOk.none fun args v hc hg => ?_
  unfold gUses at hg
  split at hg
  · cases hg
    rename_i k
    exact ⟨rfl, rfl, _, (by first | exact uses_run _ k | (simp only [hid_eq]; exact uses_run _ k))⟩
  · cases hg
noncomputable def TFla : FuncId → Option KT
  | 11 => some kFlag
  | 13 => some kUses
  | _ => none
theorem TFla_ok : KTOk Try.prog TFla := by
  intro f t h
  unfold TFla at h
  split at h
  · cases h; exact kFlag_ok
  · cases h; exact kUses_ok
  · cases h

end Go.Proofs.Ytahifkdnkhlknaa.Ax

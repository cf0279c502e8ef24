/-
The law SnheadLengths, run for any two numbers.
-/
import Derived.Test.YtahifkdnkhlknaaSnhT3
import Derived.WalkKit
namespace Go.Proofs.Ytahifkdnkhlknaa.Ax
open Go.Ax
set_option linter.unusedVariables false
set_option linter.unusedSimpArgs false
set_option maxRecDepth 100000

theorem SnheadLengths_run {β : Type} (k r0 : Int) (kk : KV → KHeap → Option β) : kBody (kFn F TSnh RR DD) (fun _ => none) RR f3 [.int .i64 k, .int .i64 r0] [] kk = kk (.bool true) [] := by
  rw [lengths_tree]
  simp only [hid_eq]
  obtain ⟨r, hm⟩ : ∃ r, remI r0 66000 = r := ⟨_, rfl⟩
  have b1 : -66000 < r := by rw [← hm]; exact Int.lt_tmod_of_pos r0 (by omega)
  have b2 : r < 66000 := by rw [← hm]; exact Int.tmod_lt_of_pos r0 (by omega)
  rw [hm, w64 (r + 1) (by omega) (by omega)]
  cases hk : known k with
  | false =>
    have e : bytesE k r = 8 := if_pos hk
    have e2 : bytesS k r = [] := by unfold bytesS; rw [e]; rfl
    rw [e, e2]
    repeat first | (refine selK_posx ?_ ?_; · first | assumption | with_reducible rfl | (simp only [ltI_iff, leI_iff, eqI_iff, eqS_iff, eqB_iff, inR_iff, inB_iff, cd_iff, fitS_iff, capOk_iff, nz_iff, blt_iff, not_t, Bool.and_eq_true, Bool.or_eq_true, decide_eq_true_eq, ltI_iff0, leI_iff0, eqI_iff0, eqS_iff0, eqB_iff0, inR_iff0, inB_iff0, cd_iff0, nz_iff0, blt_iff0, not_f, and_f, or_f, dec_f, List.length_append, true_and, and_true, Bool.true_eq_false, Bool.false_eq_true, false_or, or_false] <;> omega)) | (refine selK_negx ?_ ?_; · first | assumption | with_reducible rfl | (simp only [ltI_iff, leI_iff, eqI_iff, eqS_iff, eqB_iff, inR_iff, inB_iff, cd_iff, fitS_iff, capOk_iff, nz_iff, blt_iff, not_t, Bool.and_eq_true, Bool.or_eq_true, decide_eq_true_eq, ltI_iff0, leI_iff0, eqI_iff0, eqS_iff0, eqB_iff0, inR_iff0, inB_iff0, cd_iff0, nz_iff0, blt_iff0, not_f, and_f, or_f, dec_f, List.length_append, true_and, and_true, Bool.true_eq_false, Bool.false_eq_true, false_or, or_false] <;> omega))
    rfl
  | true =>
    have hk' : ¬ known k = false := by rw [hk]; simp
    by_cases h0 : r < 0
    · have e : bytesE k r = 2 := by unfold bytesE; rw [if_neg hk', if_pos h0]
      have e2 : bytesS k r = [] := by unfold bytesS; rw [e]; rfl
      rw [e, e2]
      repeat first | (refine selK_posx ?_ ?_; · first | assumption | with_reducible rfl | (simp only [ltI_iff, leI_iff, eqI_iff, eqS_iff, eqB_iff, inR_iff, inB_iff, cd_iff, fitS_iff, capOk_iff, nz_iff, blt_iff, not_t, Bool.and_eq_true, Bool.or_eq_true, decide_eq_true_eq, ltI_iff0, leI_iff0, eqI_iff0, eqS_iff0, eqB_iff0, inR_iff0, inB_iff0, cd_iff0, nz_iff0, blt_iff0, not_f, and_f, or_f, dec_f, List.length_append, true_and, and_true, Bool.true_eq_false, Bool.false_eq_true, false_or, or_false] <;> omega)) | (refine selK_negx ?_ ?_; · first | assumption | with_reducible rfl | (simp only [ltI_iff, leI_iff, eqI_iff, eqS_iff, eqB_iff, inR_iff, inB_iff, cd_iff, fitS_iff, capOk_iff, nz_iff, blt_iff, not_t, Bool.and_eq_true, Bool.or_eq_true, decide_eq_true_eq, ltI_iff0, leI_iff0, eqI_iff0, eqS_iff0, eqB_iff0, inR_iff0, inB_iff0, cd_iff0, nz_iff0, blt_iff0, not_f, and_f, or_f, dec_f, List.length_append, true_and, and_true, Bool.true_eq_false, Bool.false_eq_true, false_or, or_false] <;> omega))
      rfl
    by_cases h1 : 65531 < r
    · have e : bytesE k r = 4 := by unfold bytesE; rw [if_neg hk', if_neg h0, if_pos h1]
      have e2 : bytesS k r = [] := by unfold bytesS; rw [e]; rfl
      rw [e, e2]
      repeat first | (refine selK_posx ?_ ?_; · first | assumption | with_reducible rfl | (simp only [ltI_iff, leI_iff, eqI_iff, eqS_iff, eqB_iff, inR_iff, inB_iff, cd_iff, fitS_iff, capOk_iff, nz_iff, blt_iff, not_t, Bool.and_eq_true, Bool.or_eq_true, decide_eq_true_eq, ltI_iff0, leI_iff0, eqI_iff0, eqS_iff0, eqB_iff0, inR_iff0, inB_iff0, cd_iff0, nz_iff0, blt_iff0, not_f, and_f, or_f, dec_f, List.length_append, true_and, and_true, Bool.true_eq_false, Bool.false_eq_true, false_or, or_false] <;> omega)) | (refine selK_negx ?_ ?_; · first | assumption | with_reducible rfl | (simp only [ltI_iff, leI_iff, eqI_iff, eqS_iff, eqB_iff, inR_iff, inB_iff, cd_iff, fitS_iff, capOk_iff, nz_iff, blt_iff, not_t, Bool.and_eq_true, Bool.or_eq_true, decide_eq_true_eq, ltI_iff0, leI_iff0, eqI_iff0, eqS_iff0, eqB_iff0, inR_iff0, inB_iff0, cd_iff0, nz_iff0, blt_iff0, not_f, and_f, or_f, dec_f, List.length_append, true_and, and_true, Bool.true_eq_false, Bool.false_eq_true, false_or, or_false] <;> omega))
      rfl
    have e : bytesE k r = 0 := by unfold bytesE; rw [if_neg hk', if_neg h0, if_neg h1]
    have hr := read_bytes e []
    rw [List.append_nil] at hr
    have hl := bytesS_length e
    rw [hr]
    simp only
    by_cases h2 : r = 65531
    · have e' : bytesE k (r + 1) = 4 := by unfold bytesE; rw [if_neg hk', if_neg (by omega), if_pos (by omega)]
      rw [if_neg (by omega)] at hl
      rw [hl, e, e', w64 (r + ((4 : Nat) : Int)) (by omega) (by omega)]
      repeat first | (refine selK_posx ?_ ?_; · first | assumption | with_reducible rfl | (simp only [ltI_iff, leI_iff, eqI_iff, eqS_iff, eqB_iff, inR_iff, inB_iff, cd_iff, fitS_iff, capOk_iff, nz_iff, blt_iff, not_t, Bool.and_eq_true, Bool.or_eq_true, decide_eq_true_eq, ltI_iff0, leI_iff0, eqI_iff0, eqS_iff0, eqB_iff0, inR_iff0, inB_iff0, cd_iff0, nz_iff0, blt_iff0, not_f, and_f, or_f, dec_f, List.length_append, true_and, and_true, Bool.true_eq_false, Bool.false_eq_true, false_or, or_false] <;> omega)) | (refine selK_negx ?_ ?_; · first | assumption | with_reducible rfl | (simp only [ltI_iff, leI_iff, eqI_iff, eqS_iff, eqB_iff, inR_iff, inB_iff, cd_iff, fitS_iff, capOk_iff, nz_iff, blt_iff, not_t, Bool.and_eq_true, Bool.or_eq_true, decide_eq_true_eq, ltI_iff0, leI_iff0, eqI_iff0, eqS_iff0, eqB_iff0, inR_iff0, inB_iff0, cd_iff0, nz_iff0, blt_iff0, not_f, and_f, or_f, dec_f, List.length_append, true_and, and_true, Bool.true_eq_false, Bool.false_eq_true, false_or, or_false] <;> omega))
      rfl
    · have e' : bytesE k (r + 1) = 0 := by unfold bytesE; rw [if_neg hk', if_neg (by omega), if_neg (by omega)]
      have hr' := read_bytes e' []
      rw [List.append_nil] at hr'
      have hl' := bytesS_length e'
      rw [hr', e', e]
      simp only
      by_cases h3 : r ≤ 253
      · rw [if_pos h3] at hl
        by_cases h4 : r + 1 ≤ 253
        · rw [if_pos h4] at hl'
          rw [hl, hl', w64 (r + ((2 : Nat) : Int)) (by omega) (by omega), w64 (1 + ((2 : Nat) : Int)) (by omega) (by omega), w64 (_ - _) (by omega) (by omega), w64 (_ - _) (by omega) (by omega)]
          repeat first | (refine selK_posx ?_ ?_; · first | assumption | with_reducible rfl | (simp only [ltI_iff, leI_iff, eqI_iff, eqS_iff, eqB_iff, inR_iff, inB_iff, cd_iff, fitS_iff, capOk_iff, nz_iff, blt_iff, not_t, Bool.and_eq_true, Bool.or_eq_true, decide_eq_true_eq, ltI_iff0, leI_iff0, eqI_iff0, eqS_iff0, eqB_iff0, inR_iff0, inB_iff0, cd_iff0, nz_iff0, blt_iff0, not_f, and_f, or_f, dec_f, List.length_append, true_and, and_true, Bool.true_eq_false, Bool.false_eq_true, false_or, or_false] <;> omega)) | (refine selK_negx ?_ ?_; · first | assumption | with_reducible rfl | (simp only [ltI_iff, leI_iff, eqI_iff, eqS_iff, eqB_iff, inR_iff, inB_iff, cd_iff, fitS_iff, capOk_iff, nz_iff, blt_iff, not_t, Bool.and_eq_true, Bool.or_eq_true, decide_eq_true_eq, ltI_iff0, leI_iff0, eqI_iff0, eqS_iff0, eqB_iff0, inR_iff0, inB_iff0, cd_iff0, nz_iff0, blt_iff0, not_f, and_f, or_f, dec_f, List.length_append, true_and, and_true, Bool.true_eq_false, Bool.false_eq_true, false_or, or_false] <;> omega))
          rfl
        · rw [if_neg h4] at hl'
          rw [hl, hl', w64 (r + ((2 : Nat) : Int)) (by omega) (by omega), w64 (1 + ((4 : Nat) : Int)) (by omega) (by omega), w64 (_ - _) (by omega) (by omega), w64 (_ - _) (by omega) (by omega)]
          repeat first | (refine selK_posx ?_ ?_; · first | assumption | with_reducible rfl | (simp only [ltI_iff, leI_iff, eqI_iff, eqS_iff, eqB_iff, inR_iff, inB_iff, cd_iff, fitS_iff, capOk_iff, nz_iff, blt_iff, not_t, Bool.and_eq_true, Bool.or_eq_true, decide_eq_true_eq, ltI_iff0, leI_iff0, eqI_iff0, eqS_iff0, eqB_iff0, inR_iff0, inB_iff0, cd_iff0, nz_iff0, blt_iff0, not_f, and_f, or_f, dec_f, List.length_append, true_and, and_true, Bool.true_eq_false, Bool.false_eq_true, false_or, or_false] <;> omega)) | (refine selK_negx ?_ ?_; · first | assumption | with_reducible rfl | (simp only [ltI_iff, leI_iff, eqI_iff, eqS_iff, eqB_iff, inR_iff, inB_iff, cd_iff, fitS_iff, capOk_iff, nz_iff, blt_iff, not_t, Bool.and_eq_true, Bool.or_eq_true, decide_eq_true_eq, ltI_iff0, leI_iff0, eqI_iff0, eqS_iff0, eqB_iff0, inR_iff0, inB_iff0, cd_iff0, nz_iff0, blt_iff0, not_f, and_f, or_f, dec_f, List.length_append, true_and, and_true, Bool.true_eq_false, Bool.false_eq_true, false_or, or_false] <;> omega))
          rfl
      · rw [if_neg h3] at hl
        rw [if_neg (by omega)] at hl'
        rw [hl, hl', w64 (r + ((4 : Nat) : Int)) (by omega) (by omega), w64 (1 + ((4 : Nat) : Int)) (by omega) (by omega), w64 (_ - _) (by omega) (by omega), w64 (_ - _) (by omega) (by omega)]
        repeat first | (refine selK_posx ?_ ?_; · first | assumption | with_reducible rfl | (simp only [ltI_iff, leI_iff, eqI_iff, eqS_iff, eqB_iff, inR_iff, inB_iff, cd_iff, fitS_iff, capOk_iff, nz_iff, blt_iff, not_t, Bool.and_eq_true, Bool.or_eq_true, decide_eq_true_eq, ltI_iff0, leI_iff0, eqI_iff0, eqS_iff0, eqB_iff0, inR_iff0, inB_iff0, cd_iff0, nz_iff0, blt_iff0, not_f, and_f, or_f, dec_f, List.length_append, true_and, and_true, Bool.true_eq_false, Bool.false_eq_true, false_or, or_false] <;> omega)) | (refine selK_negx ?_ ?_; · first | assumption | with_reducible rfl | (simp only [ltI_iff, leI_iff, eqI_iff, eqS_iff, eqB_iff, inR_iff, inB_iff, cd_iff, fitS_iff, capOk_iff, nz_iff, blt_iff, not_t, Bool.and_eq_true, Bool.or_eq_true, decide_eq_true_eq, ltI_iff0, leI_iff0, eqI_iff0, eqS_iff0, eqB_iff0, inR_iff0, inB_iff0, cd_iff0, nz_iff0, blt_iff0, not_f, and_f, or_f, dec_f, List.length_append, true_and, and_true, Bool.true_eq_false, Bool.false_eq_true, false_or, or_false] <;> omega))
        rfl

theorem SnheadLengths_walk (a0 : Int) (w0 : (Lit.int .i64 a0).wf = true) (a1 : Int) (w1 : (Lit.int .i64 a1).wf = true) (W : World) :
    Calls Try.prog 3 #[.int .i64 a0, .int .i64 a1] W fun e W' => e = .returned (.bool true) ∧ Go.RowKit.Below W.heap.size W W' := by
  exact walk_run (Checked.mixed Try.checked) F_ok TSnh_ok (fn := f3) rfl rfl (L := fun _ => none) (h := []) (args := [.int .i64 a0, .int .i64 a1]) LoopsOk.none (SnheadLengths_run a0 a1 _) (ι := [])
    (.cons (by simp [erv, VRel]) (.cons (by simp [erv, VRel]) .nil)) (HRel.nil W) (fun _ => Own.nil)

end Go.Proofs.Ytahifkdnkhlknaa.Ax

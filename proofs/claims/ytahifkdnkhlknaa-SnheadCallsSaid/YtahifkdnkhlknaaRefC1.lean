/-
Chapter 21: the reference's Read and May.
-/
import Derived.Test.YtahifkdnkhlknaaRefT1
namespace Go.Proofs.Ytahifkdnkhlknaa.Ax
open Go.Ax
set_option linter.unusedVariables false
set_option linter.unusedSimpArgs false
set_option maxRecDepth 100000

section
variable {β : Type} (kk : KV → KHeap → Option β)
theorem or1 (c u b : Bool) : selK c (kk (.bool b) []) (selK u (kk (.bool b) []) (kk (.bool false) [])) = kk (.bool ((c || u) && b)) [] := by cases c <;> cases u <;> cases b <;> rfl
theorem or2 (c u b : Bool) : selK u (kk (.bool b) []) (selK c (kk (.bool false) []) (kk (.bool b) [])) = kk (.bool ((u || !c) && b)) [] := by cases c <;> cases u <;> cases b <;> rfl
theorem leI_not (a b : Int) : leI a b = !ltI b a := by
  cases h : ltI b a
  · rw [ltI_iff0] at h
    have : leI a b = true := by rw [leI_iff]; exact h
    rw [this]; rfl
  · rw [ltI_iff] at h
    have : leI a b = false := by rw [leI_iff0]; exact h
    rw [this]; rfl

theorem rmay_run (k : Int) (f : Fl) : kBody (kFn F TRef RR DD) (fun _ => none) RR f21 [.int .i64 k, .agg [.bool f.dup, .int .i64 f.qos, .bool f.ret, .bool f.will, .bool f.clean, .int .i64 f.typ]] [] kk = kk (.bool (may k f)) [] := by
  rw [rmay_tree]
  have s0 : rmay_tree_s0 k f kk = kk (.bool ((leI 0 f.qos || eqI k 12) && true)) [] := or1 kk _ _ _
  have s1 : rmay_tree_s1 k f kk = kk (.bool ((eqI (hid uses k).typ 1 || eqI f.typ 0) && ((leI 0 f.qos || eqI k 12) && true))) [] := by unfold rmay_tree_s1; rw [s0]; exact or1 kk _ _ _
  have s2 : rmay_tree_s2 k f kk = kk (.bool (((hid uses k).clean || !f.clean) && ((eqI (hid uses k).typ 1 || eqI f.typ 0) && ((leI 0 f.qos || eqI k 12) && true)))) [] := by unfold rmay_tree_s2; rw [s1]; exact or2 kk _ _ _
  have s3 : rmay_tree_s3 k f kk = kk (.bool (((hid uses k).will || !f.will) && (((hid uses k).clean || !f.clean) && ((eqI (hid uses k).typ 1 || eqI f.typ 0) && ((leI 0 f.qos || eqI k 12) && true))))) [] := by unfold rmay_tree_s3; rw [s2]; exact or2 kk _ _ _
  have s4 : rmay_tree_s4 k f kk = kk (.bool (((hid uses k).ret || !f.ret) && (((hid uses k).will || !f.will) && (((hid uses k).clean || !f.clean) && ((eqI (hid uses k).typ 1 || eqI f.typ 0) && ((leI 0 f.qos || eqI k 12) && true)))))) [] := by unfold rmay_tree_s4; rw [s3]; exact or2 kk _ _ _
  have s5 : rmay_tree_s5 k f kk = kk (.bool ((eqI (hid uses k).qos 1 || eqI f.qos 0) && (((hid uses k).ret || !f.ret) && (((hid uses k).will || !f.will) && (((hid uses k).clean || !f.clean) && ((eqI (hid uses k).typ 1 || eqI f.typ 0) && ((leI 0 f.qos || eqI k 12) && true))))))) [] := by unfold rmay_tree_s5; rw [s4]; exact or1 kk _ _ _
  rw [s5, or2]
  have hfe : Fl.mk f.dup f.qos f.ret f.will f.clean f.typ = f := rfl
  rw [hfe]
  simp only [hid_eq, leI_not]
  have last : ∀ c b : Bool, selK c (kk (.bool b) []) (kk (.bool false) []) = kk (.bool (c && b)) [] := fun c b => by cases c <;> rfl
  rw [last]
  congr 2
  unfold may
  simp only [Bool.and_assoc, Bool.and_comm, Bool.and_left_comm, Bool.and_true, Bool.true_and]

theorem getL_one (s : List UInt8) (i : Nat) (b : UInt8) (h : s[i]? = some b) : getL ((s.drop i).take 1) = b.toNat := by
  have hi : i < s.length := by
    rcases Nat.lt_or_ge i s.length with h' | h'
    · exact h'
    · rw [List.getElem?_eq_none h'] at h; cases h
  rw [List.drop_eq_getElem_cons hi, List.take_succ_cons, List.take_zero]
  rw [List.getElem?_eq_getElem hi] at h
  cases h
  simp [getL, getN]

theorem rread_run (s : List UInt8) (hs : s.length ≤ 4611686018427387904) : kBody (kFn F TRef RR DD) (fun _ => none) RR f16 [.str s] [] kk = kk (.tuple [.int .i64 (readS s).1, .int .i64 (readS s).2.1, .int .i64 (readS s).2.2.1, .int .i64 (readS s).2.2.2]) [] := by
  rw [rread_tree]
  simp only [hid_eq]
  have a2 : subS s 1 3 = (s.drop 1).take 2 := rfl
  have b3 := getL_lt ((s.drop 1).take 2) 2 (by simp; omega) (by omega)
  have l3 : ((s.drop 1).take 2).length ≤ 2 := by simp; omega
  have z3 : cd (((s.drop 1).take 2).length ≤ 8) = true := by rw [cd_iff]; omega
  have v3 : wr .i64 (getL ((s.drop 1).take 2) : Int) = (getL ((s.drop 1).take 2) : Int) := w64 _ (by omega) (by omega)
  rw [a2, z3, v3]
  have vb : ∀ b : UInt8, wr .i64 (b.toNat : Int) = (b.toNat : Int) := fun b => w64 _ (by omega) (by have := b.toNat_lt; omega)
  unfold readS
  by_cases h0 : s = []
  · subst h0; rfl
  have hlen : 0 < s.length := List.length_pos_iff.2 h0
  rw [selK_neg (by rw [eqS_iff0]; exact h0)]
  obtain ⟨x0, hx0⟩ : ∃ x, s[0]? = some x := ⟨_, List.getElem?_eq_getElem hlen⟩
  have g0 := getL_one s 0 x0 hx0
  rw [List.drop_zero] at g0
  rw [optK_of hx0, vb, g0]
  by_cases h2 : s.length < 2
  · rw [if_pos h2]
    by_cases h1 : (x0.toNat : Int) = 1
    · repeat first | (refine selK_posx ?_ ?_; · first | assumption | with_reducible rfl | (simp only [hid_eq, ltI_iff, leI_iff, eqI_iff, eqS_iff, eqB_iff, inR_iff, inB_iff, cd_iff, fitS_iff, capOk_iff, nz_iff, blt_iff, not_t, Bool.and_eq_true, Bool.or_eq_true, decide_eq_true_eq, ltI_iff0, leI_iff0, eqI_iff0, eqS_iff0, eqB_iff0, inR_iff0, inB_iff0, cd_iff0, nz_iff0, blt_iff0, not_f, and_f, or_f, dec_f, List.length_append, List.length_nil, true_and, and_true, Bool.true_eq_false, Bool.false_eq_true, false_or, or_false] <;> first | assumption | omega)) | (refine selK_negx ?_ ?_; · first | assumption | with_reducible rfl | (simp only [hid_eq, ltI_iff, leI_iff, eqI_iff, eqS_iff, eqB_iff, inR_iff, inB_iff, cd_iff, fitS_iff, capOk_iff, nz_iff, blt_iff, not_t, Bool.and_eq_true, Bool.or_eq_true, decide_eq_true_eq, ltI_iff0, leI_iff0, eqI_iff0, eqS_iff0, eqB_iff0, inR_iff0, inB_iff0, cd_iff0, nz_iff0, blt_iff0, not_f, and_f, or_f, dec_f, List.length_append, List.length_nil, true_and, and_true, Bool.true_eq_false, Bool.false_eq_true, false_or, or_false] <;> first | assumption | omega))
      rfl
    · repeat first | (refine selK_posx ?_ ?_; · first | assumption | with_reducible rfl | (simp only [hid_eq, ltI_iff, leI_iff, eqI_iff, eqS_iff, eqB_iff, inR_iff, inB_iff, cd_iff, fitS_iff, capOk_iff, nz_iff, blt_iff, not_t, Bool.and_eq_true, Bool.or_eq_true, decide_eq_true_eq, ltI_iff0, leI_iff0, eqI_iff0, eqS_iff0, eqB_iff0, inR_iff0, inB_iff0, cd_iff0, nz_iff0, blt_iff0, not_f, and_f, or_f, dec_f, List.length_append, List.length_nil, true_and, and_true, Bool.true_eq_false, Bool.false_eq_true, false_or, or_false] <;> first | assumption | omega)) | (refine selK_negx ?_ ?_; · first | assumption | with_reducible rfl | (simp only [hid_eq, ltI_iff, leI_iff, eqI_iff, eqS_iff, eqB_iff, inR_iff, inB_iff, cd_iff, fitS_iff, capOk_iff, nz_iff, blt_iff, not_t, Bool.and_eq_true, Bool.or_eq_true, decide_eq_true_eq, ltI_iff0, leI_iff0, eqI_iff0, eqS_iff0, eqB_iff0, inR_iff0, inB_iff0, cd_iff0, nz_iff0, blt_iff0, not_f, and_f, or_f, dec_f, List.length_append, List.length_nil, true_and, and_true, Bool.true_eq_false, Bool.false_eq_true, false_or, or_false] <;> first | assumption | omega))
      rfl
  rw [if_neg h2]
  by_cases h1 : x0.toNat = 1
  · rw [if_pos h1]
    by_cases h4 : s.length < 4
    · rw [if_pos h4]
      repeat first | (refine selK_posx ?_ ?_; · first | assumption | with_reducible rfl | (simp only [hid_eq, ltI_iff, leI_iff, eqI_iff, eqS_iff, eqB_iff, inR_iff, inB_iff, cd_iff, fitS_iff, capOk_iff, nz_iff, blt_iff, not_t, Bool.and_eq_true, Bool.or_eq_true, decide_eq_true_eq, ltI_iff0, leI_iff0, eqI_iff0, eqS_iff0, eqB_iff0, inR_iff0, inB_iff0, cd_iff0, nz_iff0, blt_iff0, not_f, and_f, or_f, dec_f, List.length_append, List.length_nil, true_and, and_true, Bool.true_eq_false, Bool.false_eq_true, false_or, or_false] <;> first | assumption | omega)) | (refine selK_negx ?_ ?_; · first | assumption | with_reducible rfl | (simp only [hid_eq, ltI_iff, leI_iff, eqI_iff, eqS_iff, eqB_iff, inR_iff, inB_iff, cd_iff, fitS_iff, capOk_iff, nz_iff, blt_iff, not_t, Bool.and_eq_true, Bool.or_eq_true, decide_eq_true_eq, ltI_iff0, leI_iff0, eqI_iff0, eqS_iff0, eqB_iff0, inR_iff0, inB_iff0, cd_iff0, nz_iff0, blt_iff0, not_f, and_f, or_f, dec_f, List.length_append, List.length_nil, true_and, and_true, Bool.true_eq_false, Bool.false_eq_true, false_or, or_false] <;> first | assumption | omega))
      rfl
    rw [if_neg h4]
    obtain ⟨x3, hx3⟩ : ∃ x, s[3]? = some x := ⟨_, List.getElem?_eq_getElem (by omega)⟩
    rw [optK_of hx3, vb, getL_one s 3 x3 hx3]
    by_cases h5 : getL ((s.drop 1).take 2) < 258
    · rw [if_pos h5]
      by_cases h6 : getL ((s.drop 1).take 2) < 4
      · repeat first | (refine selK_posx ?_ ?_; · first | assumption | with_reducible rfl | (simp only [hid_eq, ltI_iff, leI_iff, eqI_iff, eqS_iff, eqB_iff, inR_iff, inB_iff, cd_iff, fitS_iff, capOk_iff, nz_iff, blt_iff, not_t, Bool.and_eq_true, Bool.or_eq_true, decide_eq_true_eq, ltI_iff0, leI_iff0, eqI_iff0, eqS_iff0, eqB_iff0, inR_iff0, inB_iff0, cd_iff0, nz_iff0, blt_iff0, not_f, and_f, or_f, dec_f, List.length_append, List.length_nil, true_and, and_true, Bool.true_eq_false, Bool.false_eq_true, false_or, or_false] <;> first | assumption | omega)) | (refine selK_negx ?_ ?_; · first | assumption | with_reducible rfl | (simp only [hid_eq, ltI_iff, leI_iff, eqI_iff, eqS_iff, eqB_iff, inR_iff, inB_iff, cd_iff, fitS_iff, capOk_iff, nz_iff, blt_iff, not_t, Bool.and_eq_true, Bool.or_eq_true, decide_eq_true_eq, ltI_iff0, leI_iff0, eqI_iff0, eqS_iff0, eqB_iff0, inR_iff0, inB_iff0, cd_iff0, nz_iff0, blt_iff0, not_f, and_f, or_f, dec_f, List.length_append, List.length_nil, true_and, and_true, Bool.true_eq_false, Bool.false_eq_true, false_or, or_false] <;> first | assumption | omega))
        rfl
      · repeat first | (refine selK_posx ?_ ?_; · first | assumption | with_reducible rfl | (simp only [hid_eq, ltI_iff, leI_iff, eqI_iff, eqS_iff, eqB_iff, inR_iff, inB_iff, cd_iff, fitS_iff, capOk_iff, nz_iff, blt_iff, not_t, Bool.and_eq_true, Bool.or_eq_true, decide_eq_true_eq, ltI_iff0, leI_iff0, eqI_iff0, eqS_iff0, eqB_iff0, inR_iff0, inB_iff0, cd_iff0, nz_iff0, blt_iff0, not_f, and_f, or_f, dec_f, List.length_append, List.length_nil, true_and, and_true, Bool.true_eq_false, Bool.false_eq_true, false_or, or_false] <;> first | assumption | omega)) | (refine selK_negx ?_ ?_; · first | assumption | with_reducible rfl | (simp only [hid_eq, ltI_iff, leI_iff, eqI_iff, eqS_iff, eqB_iff, inR_iff, inB_iff, cd_iff, fitS_iff, capOk_iff, nz_iff, blt_iff, not_t, Bool.and_eq_true, Bool.or_eq_true, decide_eq_true_eq, ltI_iff0, leI_iff0, eqI_iff0, eqS_iff0, eqB_iff0, inR_iff0, inB_iff0, cd_iff0, nz_iff0, blt_iff0, not_f, and_f, or_f, dec_f, List.length_append, List.length_nil, true_and, and_true, Bool.true_eq_false, Bool.false_eq_true, false_or, or_false] <;> first | assumption | omega))
        rfl
    rw [if_neg h5]
    cases hk : known (x3.toNat : Int)
    · repeat first | (refine selK_posx ?_ ?_; · first | assumption | with_reducible rfl | (simp only [hid_eq, ltI_iff, leI_iff, eqI_iff, eqS_iff, eqB_iff, inR_iff, inB_iff, cd_iff, fitS_iff, capOk_iff, nz_iff, blt_iff, not_t, Bool.and_eq_true, Bool.or_eq_true, decide_eq_true_eq, ltI_iff0, leI_iff0, eqI_iff0, eqS_iff0, eqB_iff0, inR_iff0, inB_iff0, cd_iff0, nz_iff0, blt_iff0, not_f, and_f, or_f, dec_f, List.length_append, List.length_nil, true_and, and_true, Bool.true_eq_false, Bool.false_eq_true, false_or, or_false] <;> first | assumption | omega)) | (refine selK_negx ?_ ?_; · first | assumption | with_reducible rfl | (simp only [hid_eq, ltI_iff, leI_iff, eqI_iff, eqS_iff, eqB_iff, inR_iff, inB_iff, cd_iff, fitS_iff, capOk_iff, nz_iff, blt_iff, not_t, Bool.and_eq_true, Bool.or_eq_true, decide_eq_true_eq, ltI_iff0, leI_iff0, eqI_iff0, eqS_iff0, eqB_iff0, inR_iff0, inB_iff0, cd_iff0, nz_iff0, blt_iff0, not_f, and_f, or_f, dec_f, List.length_append, List.length_nil, true_and, and_true, Bool.true_eq_false, Bool.false_eq_true, false_or, or_false] <;> first | assumption | omega))
      rfl
    · repeat first | (refine selK_posx ?_ ?_; · first | assumption | with_reducible rfl | (simp only [hid_eq, ltI_iff, leI_iff, eqI_iff, eqS_iff, eqB_iff, inR_iff, inB_iff, cd_iff, fitS_iff, capOk_iff, nz_iff, blt_iff, not_t, Bool.and_eq_true, Bool.or_eq_true, decide_eq_true_eq, ltI_iff0, leI_iff0, eqI_iff0, eqS_iff0, eqB_iff0, inR_iff0, inB_iff0, cd_iff0, nz_iff0, blt_iff0, not_f, and_f, or_f, dec_f, List.length_append, List.length_nil, true_and, and_true, Bool.true_eq_false, Bool.false_eq_true, false_or, or_false] <;> first | assumption | omega)) | (refine selK_negx ?_ ?_; · first | assumption | with_reducible rfl | (simp only [hid_eq, ltI_iff, leI_iff, eqI_iff, eqS_iff, eqB_iff, inR_iff, inB_iff, cd_iff, fitS_iff, capOk_iff, nz_iff, blt_iff, not_t, Bool.and_eq_true, Bool.or_eq_true, decide_eq_true_eq, ltI_iff0, leI_iff0, eqI_iff0, eqS_iff0, eqB_iff0, inR_iff0, inB_iff0, cd_iff0, nz_iff0, blt_iff0, not_f, and_f, or_f, dec_f, List.length_append, List.length_nil, true_and, and_true, Bool.true_eq_false, Bool.false_eq_true, false_or, or_false] <;> first | assumption | omega))
      rfl
  · rw [if_neg h1]
    obtain ⟨x1, hx1⟩ : ∃ x, s[1]? = some x := ⟨_, List.getElem?_eq_getElem (by omega)⟩
    rw [optK_of hx1, vb, getL_one s 1 x1 hx1]
    by_cases h5 : x0.toNat < 2
    · rw [if_pos h5]
      repeat first | (refine selK_posx ?_ ?_; · first | assumption | with_reducible rfl | (simp only [hid_eq, ltI_iff, leI_iff, eqI_iff, eqS_iff, eqB_iff, inR_iff, inB_iff, cd_iff, fitS_iff, capOk_iff, nz_iff, blt_iff, not_t, Bool.and_eq_true, Bool.or_eq_true, decide_eq_true_eq, ltI_iff0, leI_iff0, eqI_iff0, eqS_iff0, eqB_iff0, inR_iff0, inB_iff0, cd_iff0, nz_iff0, blt_iff0, not_f, and_f, or_f, dec_f, List.length_append, List.length_nil, true_and, and_true, Bool.true_eq_false, Bool.false_eq_true, false_or, or_false] <;> first | assumption | omega)) | (refine selK_negx ?_ ?_; · first | assumption | with_reducible rfl | (simp only [hid_eq, ltI_iff, leI_iff, eqI_iff, eqS_iff, eqB_iff, inR_iff, inB_iff, cd_iff, fitS_iff, capOk_iff, nz_iff, blt_iff, not_t, Bool.and_eq_true, Bool.or_eq_true, decide_eq_true_eq, ltI_iff0, leI_iff0, eqI_iff0, eqS_iff0, eqB_iff0, inR_iff0, inB_iff0, cd_iff0, nz_iff0, blt_iff0, not_f, and_f, or_f, dec_f, List.length_append, List.length_nil, true_and, and_true, Bool.true_eq_false, Bool.false_eq_true, false_or, or_false] <;> first | assumption | omega))
      rfl
    rw [if_neg h5]
    cases hk : known (x1.toNat : Int)
    · repeat first | (refine selK_posx ?_ ?_; · first | assumption | with_reducible rfl | (simp only [hid_eq, ltI_iff, leI_iff, eqI_iff, eqS_iff, eqB_iff, inR_iff, inB_iff, cd_iff, fitS_iff, capOk_iff, nz_iff, blt_iff, not_t, Bool.and_eq_true, Bool.or_eq_true, decide_eq_true_eq, ltI_iff0, leI_iff0, eqI_iff0, eqS_iff0, eqB_iff0, inR_iff0, inB_iff0, cd_iff0, nz_iff0, blt_iff0, not_f, and_f, or_f, dec_f, List.length_append, List.length_nil, true_and, and_true, Bool.true_eq_false, Bool.false_eq_true, false_or, or_false] <;> first | assumption | omega)) | (refine selK_negx ?_ ?_; · first | assumption | with_reducible rfl | (simp only [hid_eq, ltI_iff, leI_iff, eqI_iff, eqS_iff, eqB_iff, inR_iff, inB_iff, cd_iff, fitS_iff, capOk_iff, nz_iff, blt_iff, not_t, Bool.and_eq_true, Bool.or_eq_true, decide_eq_true_eq, ltI_iff0, leI_iff0, eqI_iff0, eqS_iff0, eqB_iff0, inR_iff0, inB_iff0, cd_iff0, nz_iff0, blt_iff0, not_f, and_f, or_f, dec_f, List.length_append, List.length_nil, true_and, and_true, Bool.true_eq_false, Bool.false_eq_true, false_or, or_false] <;> first | assumption | omega))
      rfl
    · repeat first | (refine selK_posx ?_ ?_; · first | assumption | with_reducible rfl | (simp only [hid_eq, ltI_iff, leI_iff, eqI_iff, eqS_iff, eqB_iff, inR_iff, inB_iff, cd_iff, fitS_iff, capOk_iff, nz_iff, blt_iff, not_t, Bool.and_eq_true, Bool.or_eq_true, decide_eq_true_eq, ltI_iff0, leI_iff0, eqI_iff0, eqS_iff0, eqB_iff0, inR_iff0, inB_iff0, cd_iff0, nz_iff0, blt_iff0, not_f, and_f, or_f, dec_f, List.length_append, List.length_nil, true_and, and_true, Bool.true_eq_false, Bool.false_eq_true, false_or, or_false] <;> first | assumption | omega)) | (refine selK_negx ?_ ?_; · first | assumption | with_reducible rfl | (simp only [hid_eq, ltI_iff, leI_iff, eqI_iff, eqS_iff, eqB_iff, inR_iff, inB_iff, cd_iff, fitS_iff, capOk_iff, nz_iff, blt_iff, not_t, Bool.and_eq_true, Bool.or_eq_true, decide_eq_true_eq, ltI_iff0, leI_iff0, eqI_iff0, eqS_iff0, eqB_iff0, inR_iff0, inB_iff0, cd_iff0, nz_iff0, blt_iff0, not_f, and_f, or_f, dec_f, List.length_append, List.length_nil, true_and, and_true, Bool.true_eq_false, Bool.false_eq_true, false_or, or_false] <;> first | assumption | omega))
      rfl
end

noncomputable def cRMay : List AV → Bool
  | _ => true
noncomputable def gRMay : List AV → Option AV
  | [.int .i64 k, .agg [.bool d, .int .i64 q, .bool r, .bool w, .bool c, .int .i64 t]] => some (.bool (hid may k ⟨d, q, r, w, c, t⟩))
  | _ => none
noncomputable def kRMay : KT := KT.pure cRMay gRMay
theorem kRMay_ok : ContractOk Try.prog 21 kRMay.a := by
  refine KT.pure_run (Checked.mixed Try.checked) F_ok TRef_ok rfl (fn := f21) rfl (L := (fun _ => none)) LoopsOk.none fun args v hc hg => ?_
  unfold gRMay at hg
  split at hg
  · cases hg
    rename_i k d q r w c t
    exact ⟨rfl, rfl, _, (by first | exact rmay_run _ k ⟨d, q, r, w, c, t⟩ | (simp only [hid_eq]; exact rmay_run _ k ⟨d, q, r, w, c, t⟩))⟩
  · cases hg
noncomputable def cRRead : List AV → Bool
  | [.str s] => cd (s.length ≤ 4611686018427387904)
  | _ => false
noncomputable def gRRead : List AV → Option AV
  | [.str s] => some (.tuple [.int .i64 (hid readS s).1, .int .i64 (hid readS s).2.1, .int .i64 (hid readS s).2.2.1, .int .i64 (hid readS s).2.2.2])
  | _ => none
noncomputable def kRRead : KT := KT.pure cRRead gRRead
theorem kRRead_ok : ContractOk Try.prog 16 kRRead.a := by
  refine KT.pure_run (Checked.mixed Try.checked) F_ok TRef_ok rfl (fn := f16) rfl (L := (fun _ => none)) LoopsOk.none fun args v hc hg => ?_
  unfold gRRead at hg
  split at hg
  · cases hg
    rename_i s
    have hc : s.length ≤ 4611686018427387904 := Eq.mp cd_iff hc
    exact ⟨rfl, rfl, _, (by first | exact rread_run _ s hc | (simp only [hid_eq]; exact rread_run _ s hc))⟩
  · cases hg

end Go.Proofs.Ytahifkdnkhlknaa.Ax

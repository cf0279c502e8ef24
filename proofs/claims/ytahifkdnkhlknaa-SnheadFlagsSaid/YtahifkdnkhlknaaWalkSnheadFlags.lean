/-
The law SnheadFlags, run for any flags and any two numbers.
-/
import Derived.Test.YtahifkdnkhlknaaSnhT4
import Derived.Test.YtahifkdnkhlknaaKxD
namespace Go.Proofs.Ytahifkdnkhlknaa.Ax
open Go.Ax
set_option linter.unusedVariables false
set_option linter.unusedSimpArgs false
set_option maxRecDepth 100000

section
variable {β : Type}
theorem imp_pass {c u : Bool} {a b : Option β} (h : c = true → u = true) : selK c (selK u a b) a = a := by
  cases c with
  | false => rfl
  | true => rw [h rfl]; rfl
theorem or_pass {c u : Bool} {a b : Option β} (h : c = true ∨ u = true) : selK c a (selK u a b) = a := by
  rcases h with h | h
  · rw [h]; rfl
  · rw [h]; cases c <;> rfl

/-- What the flags of a type may be. -/
structure Tail (k : Int) (f : Fl) : Prop where
  dup : f.dup = true → (hid uses k).dup = true
  qos : eqI f.qos 0 = true ∨ eqI (hid uses k).qos 1 = true
  ret : f.ret = true → (hid uses k).ret = true
  will : f.will = true → (hid uses k).will = true
  clean : f.clean = true → (hid uses k).clean = true
  typ : eqI f.typ 0 = true ∨ eqI (hid uses k).typ 1 = true

theorem tail_of {k : Int} {f : Fl} (h : may k f = true) : flagE f = 0 ∧ Tail k f := by
  unfold may at h
  simp only [Bool.and_eq_true, Bool.or_eq_true, Bool.not_eq_true', eqI_iff] at h
  obtain ⟨⟨⟨⟨⟨⟨⟨h1, h2⟩, h3⟩, h4⟩, h5⟩, h6⟩, h7⟩, h8⟩ := h
  refine ⟨h1, ⟨?_, ?_, ?_, ?_, ?_, ?_⟩⟩ <;> rw [hid_eq]
  · exact fun hf => h3.resolve_right (by rw [hf]; simp)
  · rw [eqI_iff, eqI_iff]; exact h4.symm
  · exact fun hf => h5.resolve_right (by rw [hf]; simp)
  · exact fun hf => h6.resolve_right (by rw [hf]; simp)
  · exact fun hf => h7.resolve_right (by rw [hf]; simp)
  · rw [eqI_iff, eqI_iff]; exact h8.symm

theorem tailA (kk : KV → KHeap → Option β) (f : Fl) (n k : Int) (h : Tail k f) : flags_tree_s4 f n k kk = kk (.bool true) [] := by
  have s0 : flags_tree_s0 f n k kk = kk (.bool true) [] := or_pass h.typ
  have s1 : flags_tree_s1 f n k kk = flags_tree_s0 f n k kk := imp_pass h.clean
  have s2 : flags_tree_s2 f n k kk = flags_tree_s1 f n k kk := imp_pass h.will
  have s3 : flags_tree_s3 f n k kk = flags_tree_s2 f n k kk := imp_pass h.ret
  have s4 : flags_tree_s4 f n k kk = flags_tree_s3 f n k kk := or_pass h.qos
  exact s4.trans (s3.trans (s2.trans (s1.trans s0)))
theorem tailB (kk : KV → KHeap → Option β) (f : Fl) (n k : Int) (h : Tail k f) : flags_tree_s11 f n k kk = kk (.bool true) [] := by
  have s0 : flags_tree_s7 f n k kk = kk (.bool true) [] := or_pass h.typ
  have s1 : flags_tree_s8 f n k kk = flags_tree_s7 f n k kk := imp_pass h.clean
  have s2 : flags_tree_s9 f n k kk = flags_tree_s8 f n k kk := imp_pass h.will
  have s3 : flags_tree_s10 f n k kk = flags_tree_s9 f n k kk := imp_pass h.ret
  have s4 : flags_tree_s11 f n k kk = flags_tree_s10 f n k kk := or_pass h.qos
  exact s4.trans (s3.trans (s2.trans (s1.trans s0)))
theorem tailC (kk : KV → KHeap → Option β) (f : Fl) (n k : Int) (h : Tail k f) : flags_tree_s24 f n k kk = kk (.bool true) [] := by
  have s0 : flags_tree_s20 f n k kk = kk (.bool true) [] := or_pass h.typ
  have s1 : flags_tree_s21 f n k kk = flags_tree_s20 f n k kk := imp_pass h.clean
  have s2 : flags_tree_s22 f n k kk = flags_tree_s21 f n k kk := imp_pass h.will
  have s3 : flags_tree_s23 f n k kk = flags_tree_s22 f n k kk := imp_pass h.ret
  have s4 : flags_tree_s24 f n k kk = flags_tree_s23 f n k kk := or_pass h.qos
  exact s4.trans (s3.trans (s2.trans (s1.trans s0)))
theorem tailD (kk : KV → KHeap → Option β) (f : Fl) (n k : Int) (h : Tail k f) : flags_tree_s31 f n k kk = kk (.bool true) [] := by
  have s0 : flags_tree_s27 f n k kk = kk (.bool true) [] := or_pass h.typ
  have s1 : flags_tree_s28 f n k kk = flags_tree_s27 f n k kk := imp_pass h.clean
  have s2 : flags_tree_s29 f n k kk = flags_tree_s28 f n k kk := imp_pass h.will
  have s3 : flags_tree_s30 f n k kk = flags_tree_s29 f n k kk := imp_pass h.ret
  have s4 : flags_tree_s31 f n k kk = flags_tree_s30 f n k kk := or_pass h.qos
  exact s4.trans (s3.trans (s2.trans (s1.trans s0)))

theorem SnheadFlags_run (f : Fl) (n k : Int) (kk : KV → KHeap → Option β) :
    kBody (kFn F TSnh RR DD) (fun _ => none) RR f4 [.agg [.bool f.dup, .int .i64 f.qos, .bool f.ret, .bool f.will, .bool f.clean, .int .i64 f.typ], .int .i64 n, .int .i64 k] [] kk = kk (.bool true) [] := by
  rw [flags_tree]
  have hfe : ∀ f : Fl, Fl.mk f.dup f.qos f.ret f.will f.clean f.typ = f := fun _ => rfl
  have hE7 : ∀ n, readFlagE n = 0 ∨ readFlagE n = 7 := fun n => by unfold readFlagE; split <;> simp
  have hF7 : flagE f = 0 ∨ flagE f = 7 := by unfold flagE; split <;> simp
  have hrem : 0 ≤ n → remI n 4 = n % 4 := fun h => Int.tmod_eq_emod_of_nonneg h
  have hM : hid may k f = may k f := by rw [hid_eq]
  -- behind the byte's reading
  have eqs : ∀ g : Fl, (eqB g.dup g.dup && (eqI g.qos g.qos && (eqB g.ret g.ret && (eqB g.will g.will && (eqB g.clean g.clean && (eqI g.typ g.typ && true)))))) = true := fun g => by simp [eqB, eqI]
  have restA : flagE f = 0 → flags_tree_s13 f n k kk = kk (.bool true) [] := fun h0 => by
    unfold flags_tree_s13
    simp only [hfe, hid_eq]
    rcases hE7 n with hR | hR
    · obtain ⟨r1, r2⟩ := readFlag_back n hR
      rw [hR, r1, r2, h0]
      cases hm : may k f with
      | false =>
        repeat first | (refine selK_posx ?_ ?_; · first | assumption | with_reducible rfl | (simp only [hid_eq, ltI_iff, leI_iff, eqI_iff, eqS_iff, eqB_iff, inR_iff, inB_iff, cd_iff, fitS_iff, capOk_iff, nz_iff, blt_iff, not_t, Bool.and_eq_true, Bool.or_eq_true, decide_eq_true_eq, ltI_iff0, leI_iff0, eqI_iff0, eqS_iff0, eqB_iff0, inR_iff0, inB_iff0, cd_iff0, nz_iff0, blt_iff0, not_f, and_f, or_f, dec_f, List.length_append, true_and, and_true, Bool.true_eq_false, Bool.false_eq_true, false_or, or_false] <;> omega)) | (refine selK_negx ?_ ?_; · first | assumption | with_reducible rfl | (simp only [hid_eq, ltI_iff, leI_iff, eqI_iff, eqS_iff, eqB_iff, inR_iff, inB_iff, cd_iff, fitS_iff, capOk_iff, nz_iff, blt_iff, not_t, Bool.and_eq_true, Bool.or_eq_true, decide_eq_true_eq, ltI_iff0, leI_iff0, eqI_iff0, eqS_iff0, eqB_iff0, inR_iff0, inB_iff0, cd_iff0, nz_iff0, blt_iff0, not_f, and_f, or_f, dec_f, List.length_append, true_and, and_true, Bool.true_eq_false, Bool.false_eq_true, false_or, or_false] <;> omega))
        rfl
      | true =>
        have ht := (tail_of hm).2
        have e := imp_pass (a := flags_tree_s4 f n k kk) (b := kk (.bool false) []) (by have := ht.dup; rw [hid_eq] at this; exact this)
        rw [e, tailA kk f n k ht]
        repeat first | (refine selK_posx ?_ ?_; · first | assumption | with_reducible rfl | (simp only [hid_eq, ltI_iff, leI_iff, eqI_iff, eqS_iff, eqB_iff, inR_iff, inB_iff, cd_iff, fitS_iff, capOk_iff, nz_iff, blt_iff, not_t, Bool.and_eq_true, Bool.or_eq_true, decide_eq_true_eq, ltI_iff0, leI_iff0, eqI_iff0, eqS_iff0, eqB_iff0, inR_iff0, inB_iff0, cd_iff0, nz_iff0, blt_iff0, not_f, and_f, or_f, dec_f, List.length_append, true_and, and_true, Bool.true_eq_false, Bool.false_eq_true, false_or, or_false] <;> omega)) | (refine selK_negx ?_ ?_; · first | assumption | with_reducible rfl | (simp only [hid_eq, ltI_iff, leI_iff, eqI_iff, eqS_iff, eqB_iff, inR_iff, inB_iff, cd_iff, fitS_iff, capOk_iff, nz_iff, blt_iff, not_t, Bool.and_eq_true, Bool.or_eq_true, decide_eq_true_eq, ltI_iff0, leI_iff0, eqI_iff0, eqS_iff0, eqB_iff0, inR_iff0, inB_iff0, cd_iff0, nz_iff0, blt_iff0, not_f, and_f, or_f, dec_f, List.length_append, true_and, and_true, Bool.true_eq_false, Bool.false_eq_true, false_or, or_false] <;> omega))
        rfl
    · rw [hR, h0]
      cases hm : may k f with
      | false =>
        repeat first | (refine selK_posx ?_ ?_; · first | assumption | with_reducible rfl | (simp only [hid_eq, ltI_iff, leI_iff, eqI_iff, eqS_iff, eqB_iff, inR_iff, inB_iff, cd_iff, fitS_iff, capOk_iff, nz_iff, blt_iff, not_t, Bool.and_eq_true, Bool.or_eq_true, decide_eq_true_eq, ltI_iff0, leI_iff0, eqI_iff0, eqS_iff0, eqB_iff0, inR_iff0, inB_iff0, cd_iff0, nz_iff0, blt_iff0, not_f, and_f, or_f, dec_f, List.length_append, true_and, and_true, Bool.true_eq_false, Bool.false_eq_true, false_or, or_false] <;> omega)) | (refine selK_negx ?_ ?_; · first | assumption | with_reducible rfl | (simp only [hid_eq, ltI_iff, leI_iff, eqI_iff, eqS_iff, eqB_iff, inR_iff, inB_iff, cd_iff, fitS_iff, capOk_iff, nz_iff, blt_iff, not_t, Bool.and_eq_true, Bool.or_eq_true, decide_eq_true_eq, ltI_iff0, leI_iff0, eqI_iff0, eqS_iff0, eqB_iff0, inR_iff0, inB_iff0, cd_iff0, nz_iff0, blt_iff0, not_f, and_f, or_f, dec_f, List.length_append, true_and, and_true, Bool.true_eq_false, Bool.false_eq_true, false_or, or_false] <;> omega))
        rfl
      | true =>
        have ht := (tail_of hm).2
        have e := imp_pass (a := flags_tree_s11 f n k kk) (b := kk (.bool false) []) (by have := ht.dup; rw [hid_eq] at this; exact this)
        rw [e, tailB kk f n k ht]
        repeat first | (refine selK_posx ?_ ?_; · first | assumption | with_reducible rfl | (simp only [hid_eq, ltI_iff, leI_iff, eqI_iff, eqS_iff, eqB_iff, inR_iff, inB_iff, cd_iff, fitS_iff, capOk_iff, nz_iff, blt_iff, not_t, Bool.and_eq_true, Bool.or_eq_true, decide_eq_true_eq, ltI_iff0, leI_iff0, eqI_iff0, eqS_iff0, eqB_iff0, inR_iff0, inB_iff0, cd_iff0, nz_iff0, blt_iff0, not_f, and_f, or_f, dec_f, List.length_append, true_and, and_true, Bool.true_eq_false, Bool.false_eq_true, false_or, or_false] <;> omega)) | (refine selK_negx ?_ ?_; · first | assumption | with_reducible rfl | (simp only [hid_eq, ltI_iff, leI_iff, eqI_iff, eqS_iff, eqB_iff, inR_iff, inB_iff, cd_iff, fitS_iff, capOk_iff, nz_iff, blt_iff, not_t, Bool.and_eq_true, Bool.or_eq_true, decide_eq_true_eq, ltI_iff0, leI_iff0, eqI_iff0, eqS_iff0, eqB_iff0, inR_iff0, inB_iff0, cd_iff0, nz_iff0, blt_iff0, not_f, and_f, or_f, dec_f, List.length_append, true_and, and_true, Bool.true_eq_false, Bool.false_eq_true, false_or, or_false] <;> omega))
        rfl
  have restB : flagE f = 7 → flags_tree_s33 f n k kk = kk (.bool true) [] := fun h0 => by
    have hm : may k f = false := by
      cases hm : may k f with
      | false => rfl
      | true => have := (tail_of hm).1; omega
    unfold flags_tree_s33
    simp only [hfe, hid_eq]
    rcases hE7 n with hR | hR
    · obtain ⟨r1, r2⟩ := readFlag_back n hR
      rw [hR, r1, r2, h0]
      repeat first | (refine selK_posx ?_ ?_; · first | assumption | with_reducible rfl | (simp only [hid_eq, ltI_iff, leI_iff, eqI_iff, eqS_iff, eqB_iff, inR_iff, inB_iff, cd_iff, fitS_iff, capOk_iff, nz_iff, blt_iff, not_t, Bool.and_eq_true, Bool.or_eq_true, decide_eq_true_eq, ltI_iff0, leI_iff0, eqI_iff0, eqS_iff0, eqB_iff0, inR_iff0, inB_iff0, cd_iff0, nz_iff0, blt_iff0, not_f, and_f, or_f, dec_f, List.length_append, true_and, and_true, Bool.true_eq_false, Bool.false_eq_true, false_or, or_false] <;> omega)) | (refine selK_negx ?_ ?_; · first | assumption | with_reducible rfl | (simp only [hid_eq, ltI_iff, leI_iff, eqI_iff, eqS_iff, eqB_iff, inR_iff, inB_iff, cd_iff, fitS_iff, capOk_iff, nz_iff, blt_iff, not_t, Bool.and_eq_true, Bool.or_eq_true, decide_eq_true_eq, ltI_iff0, leI_iff0, eqI_iff0, eqS_iff0, eqB_iff0, inR_iff0, inB_iff0, cd_iff0, nz_iff0, blt_iff0, not_f, and_f, or_f, dec_f, List.length_append, true_and, and_true, Bool.true_eq_false, Bool.false_eq_true, false_or, or_false] <;> omega))
      rfl
    · rw [hR, h0]
      repeat first | (refine selK_posx ?_ ?_; · first | assumption | with_reducible rfl | (simp only [hid_eq, ltI_iff, leI_iff, eqI_iff, eqS_iff, eqB_iff, inR_iff, inB_iff, cd_iff, fitS_iff, capOk_iff, nz_iff, blt_iff, not_t, Bool.and_eq_true, Bool.or_eq_true, decide_eq_true_eq, ltI_iff0, leI_iff0, eqI_iff0, eqS_iff0, eqB_iff0, inR_iff0, inB_iff0, cd_iff0, nz_iff0, blt_iff0, not_f, and_f, or_f, dec_f, List.length_append, true_and, and_true, Bool.true_eq_false, Bool.false_eq_true, false_or, or_false] <;> omega)) | (refine selK_negx ?_ ?_; · first | assumption | with_reducible rfl | (simp only [hid_eq, ltI_iff, leI_iff, eqI_iff, eqS_iff, eqB_iff, inR_iff, inB_iff, cd_iff, fitS_iff, capOk_iff, nz_iff, blt_iff, not_t, Bool.and_eq_true, Bool.or_eq_true, decide_eq_true_eq, ltI_iff0, leI_iff0, eqI_iff0, eqS_iff0, eqB_iff0, inR_iff0, inB_iff0, cd_iff0, nz_iff0, blt_iff0, not_f, and_f, or_f, dec_f, List.length_append, true_and, and_true, Bool.true_eq_false, Bool.false_eq_true, false_or, or_false] <;> omega))
      rfl
  simp only [hfe, hid_eq]
  have hRn : ∀ e, readFlagE n = e → (e = 0 ↔ (0 ≤ n ∧ n < 256 ∧ n % 4 ≠ 3)) := fun e he => by
    subst he
    unfold readFlagE
    split <;> omega
  have h4 := hRn _ rfl
  rcases hF7 with h0 | h0
  · obtain ⟨b1, b2, b3, b4⟩ := flag_back h0
    rw [b4, eqs f, b3, h0, restA h0]
    by_cases hn : 0 ≤ n
    · rw [hrem hn]
      by_cases h256 : n < 256
      · by_cases h3 : n % 4 = 3
        · have hR : readFlagE n = 7 := (hE7 n).resolve_left (by omega)
          rw [hR]
          repeat first | (refine selK_posx ?_ ?_; · first | assumption | with_reducible rfl | (simp only [hid_eq, ltI_iff, leI_iff, eqI_iff, eqS_iff, eqB_iff, inR_iff, inB_iff, cd_iff, fitS_iff, capOk_iff, nz_iff, blt_iff, not_t, Bool.and_eq_true, Bool.or_eq_true, decide_eq_true_eq, ltI_iff0, leI_iff0, eqI_iff0, eqS_iff0, eqB_iff0, inR_iff0, inB_iff0, cd_iff0, nz_iff0, blt_iff0, not_f, and_f, or_f, dec_f, List.length_append, true_and, and_true, Bool.true_eq_false, Bool.false_eq_true, false_or, or_false] <;> omega)) | (refine selK_negx ?_ ?_; · first | assumption | with_reducible rfl | (simp only [hid_eq, ltI_iff, leI_iff, eqI_iff, eqS_iff, eqB_iff, inR_iff, inB_iff, cd_iff, fitS_iff, capOk_iff, nz_iff, blt_iff, not_t, Bool.and_eq_true, Bool.or_eq_true, decide_eq_true_eq, ltI_iff0, leI_iff0, eqI_iff0, eqS_iff0, eqB_iff0, inR_iff0, inB_iff0, cd_iff0, nz_iff0, blt_iff0, not_f, and_f, or_f, dec_f, List.length_append, true_and, and_true, Bool.true_eq_false, Bool.false_eq_true, false_or, or_false] <;> omega))
          rfl
        · have hR : readFlagE n = 0 := by omega
          rw [hR]
          repeat first | (refine selK_posx ?_ ?_; · first | assumption | with_reducible rfl | (simp only [hid_eq, ltI_iff, leI_iff, eqI_iff, eqS_iff, eqB_iff, inR_iff, inB_iff, cd_iff, fitS_iff, capOk_iff, nz_iff, blt_iff, not_t, Bool.and_eq_true, Bool.or_eq_true, decide_eq_true_eq, ltI_iff0, leI_iff0, eqI_iff0, eqS_iff0, eqB_iff0, inR_iff0, inB_iff0, cd_iff0, nz_iff0, blt_iff0, not_f, and_f, or_f, dec_f, List.length_append, true_and, and_true, Bool.true_eq_false, Bool.false_eq_true, false_or, or_false] <;> omega)) | (refine selK_negx ?_ ?_; · first | assumption | with_reducible rfl | (simp only [hid_eq, ltI_iff, leI_iff, eqI_iff, eqS_iff, eqB_iff, inR_iff, inB_iff, cd_iff, fitS_iff, capOk_iff, nz_iff, blt_iff, not_t, Bool.and_eq_true, Bool.or_eq_true, decide_eq_true_eq, ltI_iff0, leI_iff0, eqI_iff0, eqS_iff0, eqB_iff0, inR_iff0, inB_iff0, cd_iff0, nz_iff0, blt_iff0, not_f, and_f, or_f, dec_f, List.length_append, true_and, and_true, Bool.true_eq_false, Bool.false_eq_true, false_or, or_false] <;> omega))
          rfl
      · have hR : readFlagE n = 7 := (hE7 n).resolve_left (by omega)
        rw [hR]
        repeat first | (refine selK_posx ?_ ?_; · first | assumption | with_reducible rfl | (simp only [hid_eq, ltI_iff, leI_iff, eqI_iff, eqS_iff, eqB_iff, inR_iff, inB_iff, cd_iff, fitS_iff, capOk_iff, nz_iff, blt_iff, not_t, Bool.and_eq_true, Bool.or_eq_true, decide_eq_true_eq, ltI_iff0, leI_iff0, eqI_iff0, eqS_iff0, eqB_iff0, inR_iff0, inB_iff0, cd_iff0, nz_iff0, blt_iff0, not_f, and_f, or_f, dec_f, List.length_append, true_and, and_true, Bool.true_eq_false, Bool.false_eq_true, false_or, or_false] <;> omega)) | (refine selK_negx ?_ ?_; · first | assumption | with_reducible rfl | (simp only [hid_eq, ltI_iff, leI_iff, eqI_iff, eqS_iff, eqB_iff, inR_iff, inB_iff, cd_iff, fitS_iff, capOk_iff, nz_iff, blt_iff, not_t, Bool.and_eq_true, Bool.or_eq_true, decide_eq_true_eq, ltI_iff0, leI_iff0, eqI_iff0, eqS_iff0, eqB_iff0, inR_iff0, inB_iff0, cd_iff0, nz_iff0, blt_iff0, not_f, and_f, or_f, dec_f, List.length_append, true_and, and_true, Bool.true_eq_false, Bool.false_eq_true, false_or, or_false] <;> omega))
        rfl
    · have hR : readFlagE n = 7 := (hE7 n).resolve_left (by omega)
      rw [hR]
      repeat first | (refine selK_posx ?_ ?_; · first | assumption | with_reducible rfl | (simp only [hid_eq, ltI_iff, leI_iff, eqI_iff, eqS_iff, eqB_iff, inR_iff, inB_iff, cd_iff, fitS_iff, capOk_iff, nz_iff, blt_iff, not_t, Bool.and_eq_true, Bool.or_eq_true, decide_eq_true_eq, ltI_iff0, leI_iff0, eqI_iff0, eqS_iff0, eqB_iff0, inR_iff0, inB_iff0, cd_iff0, nz_iff0, blt_iff0, not_f, and_f, or_f, dec_f, List.length_append, true_and, and_true, Bool.true_eq_false, Bool.false_eq_true, false_or, or_false] <;> omega)) | (refine selK_negx ?_ ?_; · first | assumption | with_reducible rfl | (simp only [hid_eq, ltI_iff, leI_iff, eqI_iff, eqS_iff, eqB_iff, inR_iff, inB_iff, cd_iff, fitS_iff, capOk_iff, nz_iff, blt_iff, not_t, Bool.and_eq_true, Bool.or_eq_true, decide_eq_true_eq, ltI_iff0, leI_iff0, eqI_iff0, eqS_iff0, eqB_iff0, inR_iff0, inB_iff0, cd_iff0, nz_iff0, blt_iff0, not_f, and_f, or_f, dec_f, List.length_append, true_and, and_true, Bool.true_eq_false, Bool.false_eq_true, false_or, or_false] <;> omega))
      rfl
  · rw [h0, restB h0]
    by_cases hn : 0 ≤ n
    · rw [hrem hn]
      by_cases h256 : n < 256
      · by_cases h3 : n % 4 = 3
        · have hR : readFlagE n = 7 := (hE7 n).resolve_left (by omega)
          rw [hR]
          repeat first | (refine selK_posx ?_ ?_; · first | assumption | with_reducible rfl | (simp only [hid_eq, ltI_iff, leI_iff, eqI_iff, eqS_iff, eqB_iff, inR_iff, inB_iff, cd_iff, fitS_iff, capOk_iff, nz_iff, blt_iff, not_t, Bool.and_eq_true, Bool.or_eq_true, decide_eq_true_eq, ltI_iff0, leI_iff0, eqI_iff0, eqS_iff0, eqB_iff0, inR_iff0, inB_iff0, cd_iff0, nz_iff0, blt_iff0, not_f, and_f, or_f, dec_f, List.length_append, true_and, and_true, Bool.true_eq_false, Bool.false_eq_true, false_or, or_false] <;> omega)) | (refine selK_negx ?_ ?_; · first | assumption | with_reducible rfl | (simp only [hid_eq, ltI_iff, leI_iff, eqI_iff, eqS_iff, eqB_iff, inR_iff, inB_iff, cd_iff, fitS_iff, capOk_iff, nz_iff, blt_iff, not_t, Bool.and_eq_true, Bool.or_eq_true, decide_eq_true_eq, ltI_iff0, leI_iff0, eqI_iff0, eqS_iff0, eqB_iff0, inR_iff0, inB_iff0, cd_iff0, nz_iff0, blt_iff0, not_f, and_f, or_f, dec_f, List.length_append, true_and, and_true, Bool.true_eq_false, Bool.false_eq_true, false_or, or_false] <;> omega))
          rfl
        · have hR : readFlagE n = 0 := by omega
          rw [hR]
          repeat first | (refine selK_posx ?_ ?_; · first | assumption | with_reducible rfl | (simp only [hid_eq, ltI_iff, leI_iff, eqI_iff, eqS_iff, eqB_iff, inR_iff, inB_iff, cd_iff, fitS_iff, capOk_iff, nz_iff, blt_iff, not_t, Bool.and_eq_true, Bool.or_eq_true, decide_eq_true_eq, ltI_iff0, leI_iff0, eqI_iff0, eqS_iff0, eqB_iff0, inR_iff0, inB_iff0, cd_iff0, nz_iff0, blt_iff0, not_f, and_f, or_f, dec_f, List.length_append, true_and, and_true, Bool.true_eq_false, Bool.false_eq_true, false_or, or_false] <;> omega)) | (refine selK_negx ?_ ?_; · first | assumption | with_reducible rfl | (simp only [hid_eq, ltI_iff, leI_iff, eqI_iff, eqS_iff, eqB_iff, inR_iff, inB_iff, cd_iff, fitS_iff, capOk_iff, nz_iff, blt_iff, not_t, Bool.and_eq_true, Bool.or_eq_true, decide_eq_true_eq, ltI_iff0, leI_iff0, eqI_iff0, eqS_iff0, eqB_iff0, inR_iff0, inB_iff0, cd_iff0, nz_iff0, blt_iff0, not_f, and_f, or_f, dec_f, List.length_append, true_and, and_true, Bool.true_eq_false, Bool.false_eq_true, false_or, or_false] <;> omega))
          rfl
      · have hR : readFlagE n = 7 := (hE7 n).resolve_left (by omega)
        rw [hR]
        repeat first | (refine selK_posx ?_ ?_; · first | assumption | with_reducible rfl | (simp only [hid_eq, ltI_iff, leI_iff, eqI_iff, eqS_iff, eqB_iff, inR_iff, inB_iff, cd_iff, fitS_iff, capOk_iff, nz_iff, blt_iff, not_t, Bool.and_eq_true, Bool.or_eq_true, decide_eq_true_eq, ltI_iff0, leI_iff0, eqI_iff0, eqS_iff0, eqB_iff0, inR_iff0, inB_iff0, cd_iff0, nz_iff0, blt_iff0, not_f, and_f, or_f, dec_f, List.length_append, true_and, and_true, Bool.true_eq_false, Bool.false_eq_true, false_or, or_false] <;> omega)) | (refine selK_negx ?_ ?_; · first | assumption | with_reducible rfl | (simp only [hid_eq, ltI_iff, leI_iff, eqI_iff, eqS_iff, eqB_iff, inR_iff, inB_iff, cd_iff, fitS_iff, capOk_iff, nz_iff, blt_iff, not_t, Bool.and_eq_true, Bool.or_eq_true, decide_eq_true_eq, ltI_iff0, leI_iff0, eqI_iff0, eqS_iff0, eqB_iff0, inR_iff0, inB_iff0, cd_iff0, nz_iff0, blt_iff0, not_f, and_f, or_f, dec_f, List.length_append, true_and, and_true, Bool.true_eq_false, Bool.false_eq_true, false_or, or_false] <;> omega))
        rfl
    · have hR : readFlagE n = 7 := (hE7 n).resolve_left (by omega)
      rw [hR]
      repeat first | (refine selK_posx ?_ ?_; · first | assumption | with_reducible rfl | (simp only [hid_eq, ltI_iff, leI_iff, eqI_iff, eqS_iff, eqB_iff, inR_iff, inB_iff, cd_iff, fitS_iff, capOk_iff, nz_iff, blt_iff, not_t, Bool.and_eq_true, Bool.or_eq_true, decide_eq_true_eq, ltI_iff0, leI_iff0, eqI_iff0, eqS_iff0, eqB_iff0, inR_iff0, inB_iff0, cd_iff0, nz_iff0, blt_iff0, not_f, and_f, or_f, dec_f, List.length_append, true_and, and_true, Bool.true_eq_false, Bool.false_eq_true, false_or, or_false] <;> omega)) | (refine selK_negx ?_ ?_; · first | assumption | with_reducible rfl | (simp only [hid_eq, ltI_iff, leI_iff, eqI_iff, eqS_iff, eqB_iff, inR_iff, inB_iff, cd_iff, fitS_iff, capOk_iff, nz_iff, blt_iff, not_t, Bool.and_eq_true, Bool.or_eq_true, decide_eq_true_eq, ltI_iff0, leI_iff0, eqI_iff0, eqS_iff0, eqB_iff0, inR_iff0, inB_iff0, cd_iff0, nz_iff0, blt_iff0, not_f, and_f, or_f, dec_f, List.length_append, true_and, and_true, Bool.true_eq_false, Bool.false_eq_true, false_or, or_false] <;> omega))
      rfl
end

abbrev FlK : List CK := [.bool, .int .i64, .bool, .bool, .bool, .int .i64]
def flOf (r : Row FlK) : Fl := ⟨r.1, r.2.1, r.2.2.1, r.2.2.2.1, r.2.2.2.2.1, r.2.2.2.2.2.1⟩

theorem SnheadFlags_walk (a0 : Row FlK) (w0 : RowWf FlK a0) (a1 : Int) (w1 : (Lit.int .i64 a1).wf = true) (a2 : Int) (w2 : (Lit.int .i64 a2).wf = true) (W : World) :
    Calls Try.prog 4 #[.agg (rowVals FlK a0).toArray, .int .i64 a1, .int .i64 a2] W fun e W' => e = .returned (.bool true) ∧ Go.RowKit.Below W.heap.size W W' := by
  exact walk_run (Checked.mixed Try.checked) F_ok TSnh_ok (fn := f4) rfl rfl (L := fun _ => none) (h := []) (args := [.agg [.bool (flOf a0).dup, .int .i64 (flOf a0).qos, .bool (flOf a0).ret, .bool (flOf a0).will, .bool (flOf a0).clean, .int .i64 (flOf a0).typ], .int .i64 a1, .int .i64 a2]) LoopsOk.none (SnheadFlags_run (flOf a0) a1 a2 _) (ι := [])
    (.cons (by simpa [erv, ers, rowAV, flOf] using agg_rel FlK a0) (.cons (by simp [erv, VRel]) (.cons (by simp [erv, VRel]) .nil))) (HRel.nil W) (fun _ => Own.nil)

end Go.Proofs.Ytahifkdnkhlknaa.Ax

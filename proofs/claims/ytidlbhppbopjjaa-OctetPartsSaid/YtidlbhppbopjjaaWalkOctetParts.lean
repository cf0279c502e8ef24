/-
The law OctetParts, run for any string and any list of lengths.
-/
import Derived.Test.YtidlbhppbopjjaaPartT
namespace Go.Proofs.Ytidlbhppbopjjaa.Ax
open Go.Ax
set_option linter.unusedVariables false
set_option linter.unusedSimpArgs false
set_option maxRecDepth 100000

section
variable {β : Type}
theorem parts_run (s : List UInt8) (l : List (Row [.int .i64])) (kk : KV → KHeap → Option β) :
    kBody (kFn F TPar RR DD) partLT RR f6 [.str s, .rslice 0 0 l.length 1] [.recs true [.int .i64] l] kk = kk (.bool true) [.recs true [.int .i64] l] := by
  rw [parts_tree]
  by_cases hs : s.length ≤ 200
  · by_cases hl : l.length ≤ 60
    · simp only [hid_eq]
      have hle := partF_le s (vals l) 0 0 (Nat.zero_le _)
      generalize (partF s (vals l) 0 0).1 = a at hle
      have e1 : subS s ((a : Int)).toNat s.length = s.drop a := by
        rw [Int.toNat_natCast]; unfold subS; exact List.take_of_length_le (by simp)
      have e2 : s.take a ++ s.drop a = s := List.take_append_drop a s
      have e3 : (s.take a).length = a := by rw [List.length_take]; omega
      have e4 : (s.drop a).length = s.length - a := List.length_drop
      have hok : partOk s s l.length [] 0 0 0 l := ⟨hs, hl, rfl, rfl, rfl, rfl, rfl, rfl⟩
      rw [e1, e2, e3]
      repeat first | (refine selK_posx ?_ ?_; · first | assumption | with_reducible rfl | (simp only [hid_eq, ltI_iff, leI_iff, eqI_iff, eqS_iff, eqB_iff, inR_iff, inB_iff, cd_iff, fitS_iff, capOk_iff, nz_iff, blt_iff, not_t, Bool.and_eq_true, Bool.or_eq_true, decide_eq_true_eq, ltI_iff0, leI_iff0, eqI_iff0, eqS_iff0, eqB_iff0, inR_iff0, inB_iff0, cd_iff0, nz_iff0, blt_iff0, not_f, and_f, or_f, dec_f, List.length_append, List.length_nil, true_and, and_true, Bool.true_eq_false, Bool.false_eq_true, false_or, or_false] <;> first | assumption | omega)) | (refine selK_negx ?_ ?_; · first | assumption | with_reducible rfl | (simp only [hid_eq, ltI_iff, leI_iff, eqI_iff, eqS_iff, eqB_iff, inR_iff, inB_iff, cd_iff, fitS_iff, capOk_iff, nz_iff, blt_iff, not_t, Bool.and_eq_true, Bool.or_eq_true, decide_eq_true_eq, ltI_iff0, leI_iff0, eqI_iff0, eqS_iff0, eqB_iff0, inR_iff0, inB_iff0, cd_iff0, nz_iff0, blt_iff0, not_f, and_f, or_f, dec_f, List.length_append, List.length_nil, true_and, and_true, Bool.true_eq_false, Bool.false_eq_true, false_or, or_false] <;> first | assumption | omega))
      rfl
    · repeat first | (refine selK_posx ?_ ?_; · first | assumption | with_reducible rfl | (simp only [hid_eq, ltI_iff, leI_iff, eqI_iff, eqS_iff, eqB_iff, inR_iff, inB_iff, cd_iff, fitS_iff, capOk_iff, nz_iff, blt_iff, not_t, Bool.and_eq_true, Bool.or_eq_true, decide_eq_true_eq, ltI_iff0, leI_iff0, eqI_iff0, eqS_iff0, eqB_iff0, inR_iff0, inB_iff0, cd_iff0, nz_iff0, blt_iff0, not_f, and_f, or_f, dec_f, List.length_append, List.length_nil, true_and, and_true, Bool.true_eq_false, Bool.false_eq_true, false_or, or_false] <;> first | assumption | omega)) | (refine selK_negx ?_ ?_; · first | assumption | with_reducible rfl | (simp only [hid_eq, ltI_iff, leI_iff, eqI_iff, eqS_iff, eqB_iff, inR_iff, inB_iff, cd_iff, fitS_iff, capOk_iff, nz_iff, blt_iff, not_t, Bool.and_eq_true, Bool.or_eq_true, decide_eq_true_eq, ltI_iff0, leI_iff0, eqI_iff0, eqS_iff0, eqB_iff0, inR_iff0, inB_iff0, cd_iff0, nz_iff0, blt_iff0, not_f, and_f, or_f, dec_f, List.length_append, List.length_nil, true_and, and_true, Bool.true_eq_false, Bool.false_eq_true, false_or, or_false] <;> first | assumption | omega))
      rfl
  · repeat first | (refine selK_posx ?_ ?_; · first | assumption | with_reducible rfl | (simp only [hid_eq, ltI_iff, leI_iff, eqI_iff, eqS_iff, eqB_iff, inR_iff, inB_iff, cd_iff, fitS_iff, capOk_iff, nz_iff, blt_iff, not_t, Bool.and_eq_true, Bool.or_eq_true, decide_eq_true_eq, ltI_iff0, leI_iff0, eqI_iff0, eqS_iff0, eqB_iff0, inR_iff0, inB_iff0, cd_iff0, nz_iff0, blt_iff0, not_f, and_f, or_f, dec_f, List.length_append, List.length_nil, true_and, and_true, Bool.true_eq_false, Bool.false_eq_true, false_or, or_false] <;> first | assumption | omega)) | (refine selK_negx ?_ ?_; · first | assumption | with_reducible rfl | (simp only [hid_eq, ltI_iff, leI_iff, eqI_iff, eqS_iff, eqB_iff, inR_iff, inB_iff, cd_iff, fitS_iff, capOk_iff, nz_iff, blt_iff, not_t, Bool.and_eq_true, Bool.or_eq_true, decide_eq_true_eq, ltI_iff0, leI_iff0, eqI_iff0, eqS_iff0, eqB_iff0, inR_iff0, inB_iff0, cd_iff0, nz_iff0, blt_iff0, not_f, and_f, or_f, dec_f, List.length_append, List.length_nil, true_and, and_true, Bool.true_eq_false, Bool.false_eq_true, false_or, or_false] <;> first | assumption | omega))
    rfl
theorem parts_nil_run (s : List UInt8) (kk : KV → KHeap → Option β) : kBody (kFn F TPar RR DD) (fun _ => none) RR f6 [.str s, .nilslice] [] kk = kk (.bool true) [] := by
  rw [parts_nil]
  have e1 : subS s 0 s.length = s := List.take_of_length_le (by simp)
  rw [e1, List.nil_append]
  by_cases hs : s.length ≤ 200
  · repeat first | (refine selK_posx ?_ ?_; · first | assumption | with_reducible rfl | (simp only [hid_eq, ltI_iff, leI_iff, eqI_iff, eqS_iff, eqB_iff, inR_iff, inB_iff, cd_iff, fitS_iff, capOk_iff, nz_iff, blt_iff, not_t, Bool.and_eq_true, Bool.or_eq_true, decide_eq_true_eq, ltI_iff0, leI_iff0, eqI_iff0, eqS_iff0, eqB_iff0, inR_iff0, inB_iff0, cd_iff0, nz_iff0, blt_iff0, not_f, and_f, or_f, dec_f, List.length_append, List.length_nil, true_and, and_true, Bool.true_eq_false, Bool.false_eq_true, false_or, or_false] <;> first | assumption | omega)) | (refine selK_negx ?_ ?_; · first | assumption | with_reducible rfl | (simp only [hid_eq, ltI_iff, leI_iff, eqI_iff, eqS_iff, eqB_iff, inR_iff, inB_iff, cd_iff, fitS_iff, capOk_iff, nz_iff, blt_iff, not_t, Bool.and_eq_true, Bool.or_eq_true, decide_eq_true_eq, ltI_iff0, leI_iff0, eqI_iff0, eqS_iff0, eqB_iff0, inR_iff0, inB_iff0, cd_iff0, nz_iff0, blt_iff0, not_f, and_f, or_f, dec_f, List.length_append, List.length_nil, true_and, and_true, Bool.true_eq_false, Bool.false_eq_true, false_or, or_false] <;> first | assumption | omega))
    rfl
  · repeat first | (refine selK_posx ?_ ?_; · first | assumption | with_reducible rfl | (simp only [hid_eq, ltI_iff, leI_iff, eqI_iff, eqS_iff, eqB_iff, inR_iff, inB_iff, cd_iff, fitS_iff, capOk_iff, nz_iff, blt_iff, not_t, Bool.and_eq_true, Bool.or_eq_true, decide_eq_true_eq, ltI_iff0, leI_iff0, eqI_iff0, eqS_iff0, eqB_iff0, inR_iff0, inB_iff0, cd_iff0, nz_iff0, blt_iff0, not_f, and_f, or_f, dec_f, List.length_append, List.length_nil, true_and, and_true, Bool.true_eq_false, Bool.false_eq_true, false_or, or_false] <;> first | assumption | omega)) | (refine selK_negx ?_ ?_; · first | assumption | with_reducible rfl | (simp only [hid_eq, ltI_iff, leI_iff, eqI_iff, eqS_iff, eqB_iff, inR_iff, inB_iff, cd_iff, fitS_iff, capOk_iff, nz_iff, blt_iff, not_t, Bool.and_eq_true, Bool.or_eq_true, decide_eq_true_eq, ltI_iff0, leI_iff0, eqI_iff0, eqS_iff0, eqB_iff0, inR_iff0, inB_iff0, cd_iff0, nz_iff0, blt_iff0, not_f, and_f, or_f, dec_f, List.length_append, List.length_nil, true_and, and_true, Bool.true_eq_false, Bool.false_eq_true, false_or, or_false] <;> first | assumption | omega))
    rfl
theorem parts_dead_run (s : List UInt8) (kk : KV → KHeap → Option β) : kBody (kFn F TPar RR DD) (fun _ => none) RR f6 [.str s, .slice 0 0 0 1] [.dead] kk = kk (.bool true) [.dead] := by
  rw [parts_dead]
  have e1 : subS s 0 s.length = s := List.take_of_length_le (by simp)
  rw [e1, List.nil_append]
  by_cases hs : s.length ≤ 200
  · repeat first | (refine selK_posx ?_ ?_; · first | assumption | with_reducible rfl | (simp only [hid_eq, ltI_iff, leI_iff, eqI_iff, eqS_iff, eqB_iff, inR_iff, inB_iff, cd_iff, fitS_iff, capOk_iff, nz_iff, blt_iff, not_t, Bool.and_eq_true, Bool.or_eq_true, decide_eq_true_eq, ltI_iff0, leI_iff0, eqI_iff0, eqS_iff0, eqB_iff0, inR_iff0, inB_iff0, cd_iff0, nz_iff0, blt_iff0, not_f, and_f, or_f, dec_f, List.length_append, List.length_nil, true_and, and_true, Bool.true_eq_false, Bool.false_eq_true, false_or, or_false] <;> first | assumption | omega)) | (refine selK_negx ?_ ?_; · first | assumption | with_reducible rfl | (simp only [hid_eq, ltI_iff, leI_iff, eqI_iff, eqS_iff, eqB_iff, inR_iff, inB_iff, cd_iff, fitS_iff, capOk_iff, nz_iff, blt_iff, not_t, Bool.and_eq_true, Bool.or_eq_true, decide_eq_true_eq, ltI_iff0, leI_iff0, eqI_iff0, eqS_iff0, eqB_iff0, inR_iff0, inB_iff0, cd_iff0, nz_iff0, blt_iff0, not_f, and_f, or_f, dec_f, List.length_append, List.length_nil, true_and, and_true, Bool.true_eq_false, Bool.false_eq_true, false_or, or_false] <;> first | assumption | omega))
    rfl
  · repeat first | (refine selK_posx ?_ ?_; · first | assumption | with_reducible rfl | (simp only [hid_eq, ltI_iff, leI_iff, eqI_iff, eqS_iff, eqB_iff, inR_iff, inB_iff, cd_iff, fitS_iff, capOk_iff, nz_iff, blt_iff, not_t, Bool.and_eq_true, Bool.or_eq_true, decide_eq_true_eq, ltI_iff0, leI_iff0, eqI_iff0, eqS_iff0, eqB_iff0, inR_iff0, inB_iff0, cd_iff0, nz_iff0, blt_iff0, not_f, and_f, or_f, dec_f, List.length_append, List.length_nil, true_and, and_true, Bool.true_eq_false, Bool.false_eq_true, false_or, or_false] <;> first | assumption | omega)) | (refine selK_negx ?_ ?_; · first | assumption | with_reducible rfl | (simp only [hid_eq, ltI_iff, leI_iff, eqI_iff, eqS_iff, eqB_iff, inR_iff, inB_iff, cd_iff, fitS_iff, capOk_iff, nz_iff, blt_iff, not_t, Bool.and_eq_true, Bool.or_eq_true, decide_eq_true_eq, ltI_iff0, leI_iff0, eqI_iff0, eqS_iff0, eqB_iff0, inR_iff0, inB_iff0, cd_iff0, nz_iff0, blt_iff0, not_f, and_f, or_f, dec_f, List.length_append, List.length_nil, true_and, and_true, Bool.true_eq_false, Bool.false_eq_true, false_or, or_false] <;> first | assumption | omega))
    rfl
end

theorem OctetParts_walk {W : World} (a0 : ByteArray) (w0 : a0.size ≤ 140737488351232) (v1 : Value) (w1 : RowsArg W [.int .i64] v1) (_ : World) :
    Calls Try.prog 6 #[.string a0, v1] W fun e W' => e = .returned (.bool true) ∧ Go.RowKit.Below W.heap.size W W' := by
  rcases w1 with rfl | ⟨a, rfl⟩ | ⟨l, em, wf, hlen, hor, hv⟩
  · exact walk_run (Checked.mixed Try.checked) F_ok TPar_ok (fn := f6) rfl rfl (L := fun _ => none) (h := []) (args := [.str a0.data.toList, .nilslice]) LoopsOk.none (parts_nil_run _ _) (ι := [])
      (.cons (by simp [erv, VRel]) (.cons (by simp [erv, VRel]) .nil)) (HRel.nil W) (fun _ => Own.nil)
  · exact walk_run (Checked.mixed Try.checked) F_ok TPar_ok (fn := f6) rfl rfl (L := fun _ => none) (h := [.dead]) (args := [.str a0.data.toList, .slice 0 0 0 1]) LoopsOk.none (parts_dead_run _ _) (ι := [(0, 0, 0)])
      (.cons (by simp [erv, VRel]) (.cons (by simp only [erv, VRel]; exact ⟨(0, 0, 0), a, 0, rfl, rfl, Nat.le_refl 0, .inl rfl⟩) .nil)) (hrel_dead _) own_dead
  · exact walk_run (Checked.mixed Try.checked) F_ok TPar_ok (fn := f6) rfl rfl (L := partLT) (h := [.recs true [.int .i64] l]) (args := [.str a0.data.toList, .rslice 0 0 l.length 1]) partLoop_ok (parts_run _ _ _) (ι := [em])
      (.cons (by simp [erv, VRel]) (.cons (by simpa [erv] using hv [em] 0 rfl) .nil)) (hrel_one hor) own_one

end Go.Proofs.Ytidlbhppbopjjaa.Ax

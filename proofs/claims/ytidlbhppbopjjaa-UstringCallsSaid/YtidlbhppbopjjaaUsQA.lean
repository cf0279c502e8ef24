/-
Chapter 3: the contracts of Read, and of the reference's; the table for UstringCalls.
-/
import Derived.Test.YtidlbhppbopjjaaUsQ9
namespace Go.Proofs.Ytidlbhppbopjjaa.Ax
open Go.Ax
set_option linter.unusedVariables false
set_option linter.unusedSimpArgs false
set_option maxRecDepth 100000

def readS (s : List UInt8) : List UInt8 × Int × Int := if (readbS s).2.2 = 0 then (if validS (readbS s).1 = true then readbS s else ([], 0, 6)) else readbS s
theorem readbS_err (s : List UInt8) (h : (readbS s).2.2 ≠ 0) : (readbS s).1 = [] ∧ (readbS s).2.1 = 0 := by
  unfold readbS at h ⊢
  split
  · exact ⟨rfl, rfl⟩
  · rw [if_neg ‹_›] at h
    split
    · exact ⟨rfl, rfl⟩
    · rw [if_neg ‹_›] at h; exact absurd rfl h
theorem readbS_len (s : List UInt8) : (readbS s).1.length ≤ s.length := by
  unfold readbS
  split
  · simp
  · split
    · simp
    · simp [subS]; omega

section
variable {β : Type} (s : List UInt8) (kk : KV → KHeap → Option β)
theorem read_run (hs : s.length ≤ 1000000) : kBody (kFn F TRd RR DD) (fun _ => none) RR f39 [.str s] [] kk = kk (.tuple [.str (readS s).1, .int .i64 (readS s).2.1, .int .i64 (readS s).2.2]) [] := by
  rw [read_tree]
  simp only [hid_eq]
  have hl := readbS_len s
  unfold readS
  rw [selK_pos (by rw [cd_iff]; exact hs)]
  by_cases h : (readbS s).2.2 = 0
  · rw [selK_pos (by rw [eqI_iff]; exact h), if_pos h, selK_pos (by rw [cd_iff]; omega)]
    cases validS (readbS s).1 <;> rfl
  · rw [selK_neg (by rw [eqI_iff0]; exact h), if_neg h]
theorem rread_run (hs : s.length ≤ 1000000) : kBody (kFn F TRd RR DD) (fun _ => none) RR f46 [.str s] [] kk = kk (.tuple [.str (readS s).1, .int .i64 (readS s).2.1, .int .i64 (readS s).2.2]) [] := by
  rw [rread_tree]
  simp only [hid_eq]
  have hl := readbS_len s
  unfold readS
  rw [selK_pos (by rw [cd_iff]; exact hs)]
  by_cases h : (readbS s).2.2 = 0
  · rw [selK_neg (by rw [not_f, eqI_iff]; exact h), if_pos h, selK_pos (by rw [cd_iff]; omega)]
    cases validS (readbS s).1
    · rfl
    · simp only [selK_true, if_true, h]
  · rw [selK_pos (by rw [not_t, eqI_iff0]; exact h), if_neg h, (readbS_err s h).1, (readbS_err s h).2]
end

noncomputable def cRead : List AV → Bool
  | [.str s] => cd (s.length ≤ 1000000)
  | _ => false
noncomputable def gRead : List AV → Option AV
  | [.str s] => some (.tuple [.str (hid readS s).1, .int .i64 (hid readS s).2.1, .int .i64 (hid readS s).2.2])
  | _ => none
noncomputable def kRead : KT := KT.pure cRead gRead
theorem kRead_ok : ContractOk Try.prog 39 kRead.a := by
  refine KT.pure_run (Checked.mixed Try.checked) F_ok TRd_ok rfl (fn := f39) rfl (L := fun _ => none) LoopsOk.none fun args v hc hg => ?_
  unfold gRead at hg
  split at hg
  · cases hg
    rename_i s
    have hc : s.length ≤ 1000000 := Eq.mp cd_iff hc
    exact ⟨rfl, rfl, _, (by first | exact read_run s _ hc | (simp only [hid_eq]; exact read_run s _ hc))⟩
  · cases hg
noncomputable def cRRead : List AV → Bool
  | [.str s] => cd (s.length ≤ 1000000)
  | _ => false
noncomputable def gRRead : List AV → Option AV
  | [.str s] => some (.tuple [.str (hid readS s).1, .int .i64 (hid readS s).2.1, .int .i64 (hid readS s).2.2])
  | _ => none
noncomputable def kRRead : KT := KT.pure cRRead gRRead
theorem kRRead_ok : ContractOk Try.prog 46 kRRead.a := by
  refine KT.pure_run (Checked.mixed Try.checked) F_ok TRd_ok rfl (fn := f46) rfl (L := fun _ => none) LoopsOk.none fun args v hc hg => ?_
  unfold gRRead at hg
  split at hg
  · cases hg
    rename_i s
    have hc : s.length ≤ 1000000 := Eq.mp cd_iff hc
    exact ⟨rfl, rfl, _, (by first | exact rread_run s _ hc | (simp only [hid_eq]; exact rread_run s _ hc))⟩
  · cases hg
noncomputable def TUc : FuncId → Option KT
  | 19 => some kBad
  | 18 => some kCount
  | 20 => some kRunes
  | 17 => some kValid
  | 49 => some kRBad
  | 51 => some kRRunes
  | 48 => some kRValid
  | 50 => some kRCount
  | 43 => some kSame
  | 38 => some kText
  | 44 => some kRText
  | 40 => some kBinary
  | 45 => some kRBinary
  | 41 => some kReadB
  | 47 => some kRReadB
  | 39 => some kRead
  | 46 => some kRRead
  | _ => none
theorem TUc_ok : KTOk Try.prog TUc := by
  intro f t h
  unfold TUc at h
  split at h
  · cases h; exact kBad_ok
  · cases h; exact kCount_ok
  · cases h; exact kRunes_ok
  · cases h; exact kValid_ok
  · cases h; exact kRBad_ok
  · cases h; exact kRRunes_ok
  · cases h; exact kRValid_ok
  · cases h; exact kRCount_ok
  · cases h; exact kSame_ok
  · cases h; exact kText_ok
  · cases h; exact kRText_ok
  · cases h; exact kBinary_ok
  · cases h; exact kRBinary_ok
  · cases h; exact kReadB_ok
  · cases h; exact kRReadB_ok
  · cases h; exact kRead_ok
  · cases h; exact kRRead_ok
  · cases h

end Go.Proofs.Ytidlbhppbopjjaa.Ax

/-
Chapter 1: contracts of Put and Get.
-/
import Derived.Test.YtidlbhppbopjjaaOctT
namespace Go.Proofs.Ytidlbhppbopjjaa.Ax
open Go.Ax
set_option linter.unusedVariables false
set_option linter.unusedSimpArgs false
set_option maxRecDepth 100000

section
variable {β : Type} (kk : KV → KHeap → Option β)

theorem bytesR_putR (n : Int) (s : Nat) : bytesR (((putR n s).drop 0).take s) = putL n s := by
  have hl := putA_length n s s
  have e : putR n s = putA n s s := by simp [putR]
  rw [List.drop_zero, e, List.take_of_length_le (by omega), ← putAt_done n s]
  exact List.map_map

theorem put_run (n s : Int) (h0 : 0 ≤ n) (hn : n < 18446744073709551616) : kBody (kFn F (fun _ => none) RR DD) putLT RR f14 [.int .u64 n, .int .i64 s] [] kk = kk (.str (putL n (min s 16).toNat)) [] := by
  rw [put_tree]
  by_cases hs : s ≤ 0
  · have e : (min s 16).toNat = 0 := by omega
    rw [selK_pos (by simpa [leI] using hs), e]
    rfl
  · obtain ⟨q, hq⟩ : ∃ q : Nat, minI s 16 = q := ⟨(minI s 16).toNat, by unfold minI; split <;> omega⟩
    have hq2 : q ≤ 16 := by unfold minI at hq; split at hq <;> omega
    have e : (min s 16).toNat = q := by unfold minI at hq; split at hq <;> omega
    have hok : putOk n q q q 0 (List.replicate q (0, ())) := by
      refine ⟨h0, hn, by omega, by omega, by omega, rfl, rfl, ?_⟩
      rw [Int.toNat_natCast, putA, putAt_zero]
      exact (List.map_replicate (f := u8Row)).symm
    have hl : (putR n q).length = q := by rw [putR, Int.toNat_natCast, putA_length]
    rw [hq, e, Int.toNat_natCast]
    rw [selK_neg (by simpa [leI] using hs), selK_pos (by simp [leI]; omega), selK_pos (by rw [cd_iff]; exact hok), selK_pos (by simp [hl]), bytesR_putR]

theorem get_run (s : List UInt8) (hs : s.length ≤ 4611686018427387904) : kBody (kFn F (fun _ => none) RR DD) getLT RR f15 [.str s] [] kk = kk (.int .u64 (getL s)) [] := by
  rw [get_tree]
  by_cases h8 : 8 < s.length
  · have e1 : wr .i64 (((s.length : Nat) : Int) - 8) = ((s.length - 8 : Nat) : Int) := by rw [w64 _ (by omega) (by omega)]; omega
    have e2 : subS s (s.length - 8) s.length = s.drop (s.length - 8) := by
      unfold subS
      exact List.take_of_length_le (by simp)
    have e3 : (s.drop (s.length - 8)).length = 8 := by simp; omega
    rw [e1, Int.toNat_natCast, e2]
    rw [selK_pos (by rw [ltI_iff]; omega), selK_pos (by rw [inB_iff]; omega), selK_pos (by rw [cd_iff]; exact ⟨by omega, rfl, rfl, rfl⟩)]
    rfl
  · have e : getL s = getN s := by simp [getL, show s.length - 8 = 0 by omega]
    rw [selK_neg (by rw [← Bool.not_eq_true, ltI_iff]; omega), selK_pos (by rw [cd_iff]; exact ⟨by omega, rfl, rfl, rfl⟩), e]
end

noncomputable def cPut : List AV → Bool
  | [.int .u64 n, .int .i64 s] => cd (0 ≤ n ∧ n < 18446744073709551616)
  | _ => false
noncomputable def gPut : List AV → Option AV
  | [.int .u64 n, .int .i64 s] => some (.str (hid putL n (min s 16).toNat))
  | _ => none
noncomputable def kPut : KT := KT.pure cPut gPut
theorem kPut_ok : ContractOk Try.prog 14 kPut.a := by
  refine KT.pure_run (Checked.mixed Try.checked) F_ok KTOk.none rfl (fn := f14) rfl (L := putLT) putLoop_ok fun args v hc hg => ?_
  unfold gPut at hg
  split at hg
  · cases hg
    rename_i n s
    have hc : 0 ≤ n ∧ n < 18446744073709551616 := Eq.mp cd_iff hc
    exact ⟨rfl, rfl, _, (by first | exact put_run _ n s hc.1 hc.2 | (simp only [hid_eq]; exact put_run _ n s hc.1 hc.2))⟩
  · cases hg
noncomputable def cGet : List AV → Bool
  | [.str s] => cd (s.length ≤ 4611686018427387904)
  | _ => false
noncomputable def gGet : List AV → Option AV
  | [.str s] => some (.int .u64 (hid getL s))
  | _ => none
noncomputable def kGet : KT := KT.pure cGet gGet
theorem kGet_ok : ContractOk Try.prog 15 kGet.a := by
  refine KT.pure_run (Checked.mixed Try.checked) F_ok KTOk.none rfl (fn := f15) rfl (L := getLT) getLoop_ok fun args v hc hg => ?_
  unfold gGet at hg
  split at hg
  · cases hg
    rename_i s
    have hc : s.length ≤ 4611686018427387904 := Eq.mp cd_iff hc
    exact ⟨rfl, rfl, _, (by first | exact get_run _ s hc | (simp only [hid_eq]; exact get_run _ s hc))⟩
  · cases hg
noncomputable def TOct : FuncId → Option KT
  | 14 => some kPut
  | 15 => some kGet
  | _ => none
theorem TOct_ok : KTOk Try.prog TOct := by
  intro f t h
  unfold TOct at h
  split at h
  · cases h; exact kPut_ok
  · cases h; exact kGet_ok
  · cases h

end Go.Proofs.Ytidlbhppbopjjaa.Ax

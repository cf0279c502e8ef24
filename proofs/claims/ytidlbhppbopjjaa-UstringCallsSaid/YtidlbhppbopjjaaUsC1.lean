/-
Chapter 3: the contract of Times.
-/
import Derived.Test.YtidlbhppbopjjaaUsT1
namespace Go.Proofs.Ytidlbhppbopjjaa.Ax
open Go.Ax
set_option linter.unusedVariables false
set_option linter.unusedSimpArgs false
set_option maxRecDepth 100000

theorem times_run {β : Type} (s : List UInt8) (n : Int) (h : 0 ≤ n ∧ n ≤ 1000000 ∧ s.length ≤ 1000) (kk : KV → KHeap → Option β) : kBody (kFn F (fun _ => none) RR DD) timesLT RR f42 [.str s, .int .i64 n] [] kk = kk (.str (timesL s n.toNat)) [] := by
  rw [times_tree, selK_pos (by rw [cd_iff]; exact ⟨rfl, h⟩)]

noncomputable def cTimes : List AV → Bool
  | [.str s, .int .i64 n] => cd (0 ≤ n ∧ n ≤ 1000000 ∧ s.length ≤ 1000)
  | _ => false
noncomputable def gTimes : List AV → Option AV
  | [.str s, .int .i64 n] => some (.str (hid timesL s n.toNat))
  | _ => none
noncomputable def kTimes : KT := KT.pure cTimes gTimes
theorem kTimes_ok : ContractOk Try.prog 42 kTimes.a := by
  refine KT.pure_run (Checked.mixed Try.checked) F_ok KTOk.none rfl (fn := f42) rfl (L := timesLT) timesLoop_ok fun args v hc hg => ?_
  unfold gTimes at hg
  split at hg
  · cases hg
    rename_i s n
    have hc : 0 ≤ n ∧ n ≤ 1000000 ∧ s.length ≤ 1000 := Eq.mp cd_iff hc
    exact ⟨rfl, rfl, _, (by first | exact times_run s n hc _ | (simp only [hid_eq]; exact times_run s n hc _))⟩
  · cases hg
noncomputable def TNm : FuncId → Option KT
  | 19 => some kBad
  | 42 => some kTimes
  | _ => none
theorem TNm_ok : KTOk Try.prog TNm := by
  intro f t h
  unfold TNm at h
  split at h
  · cases h; exact kBad_ok
  · cases h; exact kTimes_ok
  · cases h

end Go.Proofs.Ytidlbhppbopjjaa.Ax

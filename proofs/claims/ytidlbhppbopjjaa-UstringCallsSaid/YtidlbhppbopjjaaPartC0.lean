/-
Chapter 1: the examples.
-/
import Derived.Test.YtidlbhppbopjjaaPartT0
namespace Go.Proofs.Ytidlbhppbopjjaa.Ax
open Go.Ax
set_option linter.unusedVariables false
noncomputable def cLives01 : List AV → Bool
  | _ => true
noncomputable def gLives01 : List AV → Option AV
  | [] => some (.bool true)
  | _ => none
noncomputable def kLives01 : KT := KT.pure cLives01 gLives01
theorem kLives01_ok : ContractOk Try.prog 12 kLives01.a := by
  refine KT.pure_run (Checked.mixed Try.checked) F_ok KTOk.none rfl (fn := f12) rfl (L := (fun _ => none)) LoopsOk.none fun args v hc hg => ?_
  unfold gLives01 at hg
  split at hg
  · cases hg
    exact ⟨rfl, rfl, _, (by first | exact lives01_run _ | (simp only [hid_eq]; exact lives01_run _))⟩
  · cases hg
noncomputable def TPar : FuncId → Option KT
  | 14 => some kPut
  | 15 => some kGet
  | 12 => some kLives01
  | _ => none
theorem TPar_ok : KTOk Try.prog TPar := by
  intro f t h
  unfold TPar at h
  split at h
  · cases h; exact kPut_ok
  · cases h; exact kGet_ok
  · cases h; exact kLives01_ok
  · cases h
end Go.Proofs.Ytidlbhppbopjjaa.Ax

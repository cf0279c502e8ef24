/-
Chapter 21: the contract of Known; words for headers.
-/
import Derived.Test.YtahifkdnkhlknaaSnhT0
import Derived.Test.YtahifkdnkhlknaaSnhS
namespace Go.Proofs.Ytahifkdnkhlknaa.Ax
open Go.Ax
set_option linter.unusedVariables false
set_option linter.unusedSimpArgs false
set_option maxRecDepth 100000

theorem known_run {β : Type} (k : Int) (kk : KV → KHeap → Option β) : kBody (kFn F (fun _ => none) RR DD) (fun _ => none) RR f9 [.int .i64 k] [] kk = kk (.bool (known k)) [] := by
  rw [known_tree]
  simp only [selK_ite, eqI_iff, leI_iff]
  have e : ∀ b, (known k = b) → kk (.bool (known k)) [] = kk (.bool b) [] := fun b h => by rw [h]
  repeat' split
  all_goals
    refine (e _ ?_).symm
    first
      | exact decide_eq_true (by omega)
      | exact decide_eq_false (by omega)

noncomputable def cKnown : List AV → Bool
  | _ => true
noncomputable def gKnown : List AV → Option AV
  | [.int .i64 k] => some (.bool (hid known k))
  | _ => none
noncomputable def kKnown : KT := KT.pure cKnown gKnown
theorem kKnown_ok : ContractOk Try.prog 9 kKnown.a := by
  refine KT.pure_run (Checked.mixed Try.checked) F_ok KTOk.none rfl (fn := f9) rfl (L := (fun _ => none)) LoopsOk.none fun args v hc hg => ?_
  unfold gKnown at hg
  split at hg
  · cases hg
    rename_i k
    exact ⟨rfl, rfl, _, (by first | exact known_run k _ | (simp only [hid_eq]; exact known_run k _))⟩
  · cases hg
noncomputable def TKno : FuncId → Option KT
  | 22 => some kPut
  | 30 => some kGet
  | 9 => some kKnown
  | _ => none
theorem TKno_ok : KTOk Try.prog TKno := by
  intro f t h
  unfold TKno at h
  split at h
  · cases h; exact kPut_ok
  · cases h; exact kGet_ok
  · cases h; exact kKnown_ok
  · cases h

end Go.Proofs.Ytahifkdnkhlknaa.Ax

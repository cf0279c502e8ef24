/-
Chapter 21: the contracts of May and of the examples.
-/
import Derived.Test.YtahifkdnkhlknaaSnhT2
namespace Go.Proofs.Ytahifkdnkhlknaa.Ax
open Go.Ax
set_option linter.unusedVariables false
set_option linter.unusedSimpArgs false
set_option maxRecDepth 100000

section
variable {β : Type} (kk : KV → KHeap → Option β)
theorem selK_bool (c : Bool) : selK c (kk (.bool true) []) (kk (.bool false) []) = kk (.bool c) [] := by cases c <;> rfl
theorem eqB_false (c : Bool) : eqB c false = !c := by cases c <;> rfl
theorem may_run (k : Int) (f : Fl) : kBody (kFn F TFla RR DD) (fun _ => none) RR f14 [.int .i64 k, .agg [.bool f.dup, .int .i64 f.qos, .bool f.ret, .bool f.will, .bool f.clean, .int .i64 f.typ]] [] kk = kk (.bool (may k f)) [] := by
  rw [may_tree]
  simp only [hid_eq]
  unfold may
  obtain ⟨d, q, r, w, c, t⟩ := f
  simp only
  generalize flagE ⟨d, q, r, w, c, t⟩ = e
  generalize (uses k).dup = ud
  generalize eqI (uses k).qos 1 = uq
  generalize (uses k).ret = ur
  generalize (uses k).will = uw
  generalize (uses k).clean = uc
  generalize eqI (uses k).typ 1 = ut
  generalize eqI e 0 = e0
  generalize ltI q 0 = ql
  generalize eqI k 12 = k12
  simp only [eqB_false]
  cases e0
  · rfl
  cases ql <;> cases k12 <;> cases ud <;> cases uq <;> cases ur <;> cases uw <;> cases uc <;> cases ut <;>
  simp only [selK_true, selK_false, selK_bool, Bool.not_true, Bool.not_false, Bool.and_true, Bool.true_and, Bool.false_or, Bool.true_or, Bool.and_assoc, Bool.false_and]
end

noncomputable def cMay : List AV → Bool
  | _ => true
noncomputable def gMay : List AV → Option AV
  | [.int .i64 k, .agg [.bool d, .int .i64 q, .bool r, .bool w, .bool c, .int .i64 t]] => some (.bool (hid may k ⟨d, q, r, w, c, t⟩))
  | _ => none
noncomputable def kMay : KT := KT.pure cMay gMay
theorem kMay_ok : ContractOk Try.prog 14 kMay.a := by
  refine KT.pure_run (Checked.mixed Try.checked) F_ok TFla_ok rfl (fn := f14) rfl (L := (fun _ => none)) LoopsOk.none fun args v hc hg => ?_
  unfold gMay at hg
  split at hg
  · cases hg
    rename_i k d q r w c t
    exact ⟨rfl, rfl, _, (by first | exact may_run _ k ⟨d, q, r, w, c, t⟩ | (simp only [hid_eq]; exact may_run _ k ⟨d, q, r, w, c, t⟩))⟩
  · cases hg
noncomputable def cLives21 : List AV → Bool
  | _ => true
noncomputable def gLives21 : List AV → Option AV
  | [] => some (.bool true)
  | _ => none
noncomputable def kLives21 : KT := KT.pure cLives21 gLives21
theorem kLives21_ok : ContractOk Try.prog 7 kLives21.a := by
  refine KT.pure_run (Checked.mixed Try.checked) F_ok KTOk.none rfl (fn := f7) rfl (L := (fun _ => none)) LoopsOk.none fun args v hc hg => ?_
  unfold gLives21 at hg
  split at hg
  · cases hg
    exact ⟨rfl, rfl, _, (by first | exact lives21_run _ | (simp only [hid_eq]; exact lives21_run _))⟩
  · cases hg
noncomputable def TSnh : FuncId → Option KT
  | 22 => some kPut
  | 30 => some kGet
  | 9 => some kKnown
  | 8 => some kSnBytes
  | 10 => some kSnRead
  | 11 => some kFlag
  | 12 => some kReadFlag
  | 13 => some kUses
  | 14 => some kMay
  | 7 => some kLives21
  | _ => none
theorem TSnh_ok : KTOk Try.prog TSnh := by
  intro f t h
  unfold TSnh at h
  split at h
  · cases h; exact kPut_ok
  · cases h; exact kGet_ok
  · cases h; exact kKnown_ok
  · cases h; exact kSnBytes_ok
  · cases h; exact kSnRead_ok
  · cases h; exact kFlag_ok
  · cases h; exact kReadFlag_ok
  · cases h; exact kUses_ok
  · cases h; exact kMay_ok
  · cases h; exact kLives21_ok
  · cases h

end Go.Proofs.Ytahifkdnkhlknaa.Ax

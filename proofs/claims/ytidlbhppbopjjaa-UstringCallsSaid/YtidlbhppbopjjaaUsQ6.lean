/-
Chapter 3: the contracts of the reference's Valid and Count.
-/
import Derived.Test.YtidlbhppbopjjaaUsQ5
import Derived.Test.YtidlbhppbopjjaaScrC0
namespace Go.Proofs.Ytidlbhppbopjjaa.Ax
open Go.Ax
set_option linter.unusedVariables false
set_option linter.unusedSimpArgs false
set_option maxRecDepth 100000

theorem rvalid_run {β : Type} (s : List UInt8) (hs : s.length ≤ 1000000000) (kk : KV → KHeap → Option β) : kBody (kFn F TRef RR DD) (fun _ => none) RR f48 [.str s] [] kk = kk (.bool (validS s)) [] := by
  rw [rvalid_tree]
  unfold validS
  have hr := bad_range s
  by_cases h1 : s.length ≤ 65535
  · rw [selK_pos (by rw [leI_iff]; omega), selK_pos (by rw [cd_iff]; exact hs), badH_eq, decide_eq_true h1]
    by_cases hb : bad s = -1
    · rw [selK_pos (by rw [ltI_iff]; omega), decide_eq_true hb]; rfl
    · rw [selK_neg (by rw [ltI_iff0]; omega), decide_eq_false hb]; rfl
  · rw [selK_neg (by rw [leI_iff0]; omega), decide_eq_false h1]
    rfl
theorem rcount_run {β : Type} (s : List UInt8) (hs : s.length ≤ 1000000) (kk : KV → KHeap → Option β) : kBody (kFn F TRef RR DD) (fun _ => none) RR f50 [.str s] [] kk = kk (.int .i64 (countS s : Nat)) [] := by
  rw [rcount_tree]
  unfold countS
  have hr := bad_range s
  by_cases h1 : s.length ≤ 65535
  · rw [selK_pos (by rw [leI_iff]; omega), selK_pos (by rw [cd_iff]; omega), badH_eq, hid_eq]
    by_cases hb : bad s = -1
    · rw [selK_pos (by rw [ltI_iff]; omega), selK_pos (by rw [cd_iff]; exact hs), if_pos ⟨h1, hb⟩, runesQ_length]
      by_cases h0 : (pts s).length = 0
      · rw [h0]; rfl
      · rw [selK_neg (by rw [← Bool.not_eq_true]; intro h; exact h0 (Nat.eq_of_beq_eq_true h))]
    · rw [selK_neg (by rw [ltI_iff0]; omega), if_neg (fun h => hb h.2)]; rfl
  · rw [selK_neg (by rw [leI_iff0]; omega), if_neg (fun h => h1 h.1)]
    rfl
noncomputable def cRValid : List AV → Bool
  | [.str s] => cd (s.length ≤ 1000000000)
  | _ => false
noncomputable def gRValid : List AV → Option AV
  | [.str s] => some (.bool (hid validS s))
  | _ => none
noncomputable def kRValid : KT := KT.pure cRValid gRValid
theorem kRValid_ok : ContractOk Try.prog 48 kRValid.a := by
  refine KT.pure_run (Checked.mixed Try.checked) F_ok TRef_ok rfl (fn := f48) rfl (L := fun _ => none) LoopsOk.none fun args v hc hg => ?_
  unfold gRValid at hg
  split at hg
  · cases hg
    rename_i s
    have hc : s.length ≤ 1000000000 := Eq.mp cd_iff hc
    exact ⟨rfl, rfl, _, (by first | exact rvalid_run s hc _ | (simp only [hid_eq]; exact rvalid_run s hc _))⟩
  · cases hg
noncomputable def cRCount : List AV → Bool
  | [.str s] => cd (s.length ≤ 1000000)
  | _ => false
noncomputable def gRCount : List AV → Option AV
  | [.str s] => some (.int .i64 ((hid countS s : Nat) : Int))
  | _ => none
noncomputable def kRCount : KT := KT.pure cRCount gRCount
theorem kRCount_ok : ContractOk Try.prog 50 kRCount.a := by
  refine KT.pure_run (Checked.mixed Try.checked) F_ok TRef_ok rfl (fn := f50) rfl (L := fun _ => none) LoopsOk.none fun args v hc hg => ?_
  unfold gRCount at hg
  split at hg
  · cases hg
    rename_i s
    have hc : s.length ≤ 1000000 := Eq.mp cd_iff hc
    exact ⟨rfl, rfl, _, (by first | exact rcount_run s hc _ | (simp only [hid_eq]; exact rcount_run s hc _))⟩
  · cases hg
noncomputable def TTxt : FuncId → Option KT
  | 17 => some kValid
  | 48 => some kRValid
  | 14 => some kPut
  | 15 => some kGet
  | 58 => some kRPut
  | 56 => some kRGet
  | _ => none
theorem TTxt_ok : KTOk Try.prog TTxt := by
  intro f t h
  unfold TTxt at h
  split at h
  · cases h; exact kValid_ok
  · cases h; exact kRValid_ok
  · cases h; exact kPut_ok
  · cases h; exact kGet_ok
  · cases h; exact kRPut_ok
  · cases h; exact kRGet_ok
  · cases h

end Go.Proofs.Ytidlbhppbopjjaa.Ax

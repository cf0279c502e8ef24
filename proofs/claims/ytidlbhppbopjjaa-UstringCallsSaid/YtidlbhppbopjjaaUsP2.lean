/-
Chapter 3: the reference's byte that goes on.
-/
import Derived.Test.YtidlbhppbopjjaaUsP1
import Derived.Test.YtidlbhppbopjjaaUsP0
import Derived.Test.YtidlbhppbopjjaaChecked
namespace Go.Proofs.Ytidlbhppbopjjaa.Ax
open Go.Ax
set_option linter.unusedVariables false
set_option linter.unusedSimpArgs false
set_option maxRecDepth 100000

theorem more_run {β : Type} (s : List UInt8) (p : Int) (h : 0 ≤ p ∧ s.length ≤ 4611686018427387904) (kk : KV → KHeap → Option β) : kBody (kFn F (fun _ => none) RR DD) (fun _ => none) RR f61 [.str s, .int .i64 p] [] kk = kk (.tuple [.int .i64 (moreN s p), .bool (moreB s p)]) [] := by
  rw [more_tree]
  obtain ⟨q, rfl⟩ : ∃ q : Nat, p = q := ⟨p.toNat, by omega⟩
  unfold moreN moreB
  rw [Int.toNat_natCast]
  by_cases hl : s.length ≤ q
  · have hc : ct s q = false := by unfold ct; rw [decide_eq_false (by omega)]; rfl
    rw [selK_pos (by rw [leI_iff]; omega), hc]; rfl
  · have hb : s[q]? = some s[q] := List.getElem?_eq_getElem (by omega)
    have hbt : bt s q = (s[q]).toNat := by unfold bt; rw [List.getD_eq_getElem?_getD, hb]; rfl
    have hc : ct s q = (bt s q / 64 == 2) := by unfold ct; rw [decide_eq_true (by omega)]; rfl
    have hlt := bt_lt s q
    rw [selK_neg (by rw [leI_iff0]; omega), selK_pos (by rw [leI_iff]; omega), optK_of hb, ← hbt]
    by_cases h1 : bt s q < 128
    · rw [selK_pos (by rw [ltI_iff]; omega), hc, show (bt s q / 64 == 2) = false by rw [beq_eq_false_iff_ne]; omega]; rfl
    · rw [selK_neg (by rw [ltI_iff0]; omega), selK_pos (by rw [leI_iff]; omega), optK_of hb, ← hbt]
      by_cases h2 : 191 < bt s q
      · rw [selK_pos (by rw [ltI_iff]; omega), hc, show (bt s q / 64 == 2) = false by rw [beq_eq_false_iff_ne]; omega]; rfl
      · rw [selK_neg (by rw [ltI_iff0]; omega), selK_pos (by rw [leI_iff]; omega), optK_of hb, ← hbt, hc, show (bt s q / 64 == 2) = true by rw [beq_iff_eq]; omega, if_pos rfl, w64 ((bt s q : Nat) : Int) (by omega) (by omega), w64 (((bt s q : Nat) : Int) - 128) (by omega) (by omega)]

noncomputable def cMore : List AV → Bool
  | [.str s, .int .i64 p] => cd (0 ≤ p ∧ s.length ≤ 4611686018427387904)
  | _ => false
noncomputable def gMore : List AV → Option AV
  | [.str s, .int .i64 p] => some (.tuple [.int .i64 (hid moreN s p), .bool (hid moreB s p)])
  | _ => none
noncomputable def kMore : KT := KT.pure cMore gMore
theorem kMore_ok : ContractOk Try.prog 61 kMore.a := by
  refine KT.pure_run (Checked.mixed Try.checked) F_ok KTOk.none rfl (fn := f61) rfl (L := fun _ => none) LoopsOk.none fun args v hc hg => ?_
  unfold gMore at hg
  split at hg
  · cases hg
    rename_i s p
    have hc : 0 ≤ p ∧ s.length ≤ 4611686018427387904 := Eq.mp cd_iff hc
    exact ⟨rfl, rfl, _, (by first | exact more_run s p hc _ | (simp only [hid_eq]; exact more_run s p hc _))⟩
  · cases hg
noncomputable def TMore : FuncId → Option KT
  | 61 => some kMore
  | _ => none
theorem TMore_ok : KTOk Try.prog TMore := by
  intro f t h
  unfold TMore at h
  split at h
  · cases h; exact kMore_ok
  · cases h

end Go.Proofs.Ytidlbhppbopjjaa.Ax

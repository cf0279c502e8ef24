/-
Chapter 3: the contracts of Valid and Pick.
-/
import Derived.Test.YtidlbhppbopjjaaUsR8
namespace Go.Proofs.Ytidlbhppbopjjaa.Ax
open Go.Ax
set_option linter.unusedVariables false
set_option linter.unusedSimpArgs false
set_option maxRecDepth 100000

def validS (s : List UInt8) : Bool := decide (s.length ≤ 65535) && decide (bad s = -1)
theorem valid_run {β : Type} (s : List UInt8) (hs : s.length ≤ 4611686018427387904) (kk : KV → KHeap → Option β) : kBody (kFn F TNm RR DD) (fun _ => none) RR f17 [.str s] [] kk = kk (.bool (validS s)) [] := by
  rw [valid_tree]
  unfold validS
  by_cases h1 : s.length ≤ 65535
  · rw [selK_pos (by rw [leI_iff]; omega), selK_pos (by rw [cd_iff]; exact hs), badH_eq, decide_eq_true h1]
    by_cases hb : bad s = -1
    · rw [selK_pos (by rw [eqI_iff]; exact hb), decide_eq_true hb]; rfl
    · rw [selK_neg (by rw [eqI_iff0]; exact hb), decide_eq_false hb]; rfl
  · rw [selK_neg (by rw [leI_iff0]; omega), decide_eq_false h1]
    rfl
noncomputable def cValid : List AV → Bool
  | [.str s] => cd (s.length ≤ 4611686018427387904)
  | _ => false
noncomputable def gValid : List AV → Option AV
  | [.str s] => some (.bool (hid validS s))
  | _ => none
noncomputable def kValid : KT := KT.pure cValid gValid
theorem kValid_ok : ContractOk Try.prog 17 kValid.a := by
  refine KT.pure_run (Checked.mixed Try.checked) F_ok TNm_ok rfl (fn := f17) rfl (L := fun _ => none) LoopsOk.none fun args v hc hg => ?_
  unfold gValid at hg
  split at hg
  · cases hg
    rename_i s
    have hc : s.length ≤ 4611686018427387904 := Eq.mp cd_iff hc
    exact ⟨rfl, rfl, _, (by first | exact valid_run s hc _ | (simp only [hid_eq]; exact valid_run s hc _))⟩
  · cases hg

/-- Which of n a number picks. -/
def pickI (a n : Int) : Int := a.emod n
theorem pickI_range (a n : Int) (h : 1 ≤ n) : 0 ≤ pickI a n ∧ pickI a n < n := ⟨Int.emod_nonneg _ (by omega), Int.emod_lt_of_pos _ (by omega)⟩
theorem pick_run {β : Type} (a n : Int) (h : 1 ≤ n ∧ n ≤ 4611686018427387904) (kk : KV → KHeap → Option β) : kBody (kFn F TNm RR DD) (fun _ => none) RR f13 [.int .i64 a, .int .i64 n] [] kk = kk (.int .i64 (pickI a n)) [] := by
  rw [pick_tree]
  have hr : remI a n = a.tmod n := rfl
  have h3 := Int.emod_nonneg a (show n ≠ 0 by omega)
  have h4 := Int.emod_lt_of_pos a (show 0 < n by omega)
  have h5 : a.tmod n = a % n ∨ a.tmod n = a % n - n := by
    rw [Int.tmod_eq_emod]
    split
    · left; omega
    · right; omega
  have h6 : pickI a n = a % n := rfl
  rw [hr, h6]
  generalize a.tmod n = x at h5 ⊢
  generalize a % n = y at h3 h4 h5 ⊢
  by_cases hneg : x < 0
  · rw [selK_neg (by rw [ltI_iff0]; omega), selK_neg (by rw [eqI_iff0]; omega), selK_pos (by rw [ltI_iff]; exact hneg), w64 _ (by omega) (by omega), show x + n = y by omega]
  · rw [selK_neg (by rw [ltI_iff0]; omega), selK_neg (by rw [eqI_iff0]; omega), selK_neg (by rw [ltI_iff0]; omega), show x = y by omega]
noncomputable def cPick : List AV → Bool
  | [.int .i64 a, .int .i64 n] => cd (1 ≤ n ∧ n ≤ 4611686018427387904)
  | _ => false
noncomputable def gPick : List AV → Option AV
  | [.int .i64 a, .int .i64 n] => some (.int .i64 (hid pickI a n))
  | _ => none
noncomputable def kPick : KT := KT.pure cPick gPick
theorem kPick_ok : ContractOk Try.prog 13 kPick.a := by
  refine KT.pure_run (Checked.mixed Try.checked) F_ok TNm_ok rfl (fn := f13) rfl (L := fun _ => none) LoopsOk.none fun args v hc hg => ?_
  unfold gPick at hg
  split at hg
  · cases hg
    rename_i a n
    have hc : 1 ≤ n ∧ n ≤ 4611686018427387904 := Eq.mp cd_iff hc
    exact ⟨rfl, rfl, _, (by first | exact pick_run a n hc _ | (simp only [hid_eq]; exact pick_run a n hc _))⟩
  · cases hg

noncomputable def TUs : FuncId → Option KT
  | 19 => some kBad
  | 18 => some kCount
  | 20 => some kRunes
  | 17 => some kValid
  | 13 => some kPick
  | _ => none
theorem TUs_ok : KTOk Try.prog TUs := by
  intro f t h
  unfold TUs at h
  split at h
  · cases h; exact kBad_ok
  · cases h; exact kCount_ok
  · cases h; exact kRunes_ok
  · cases h; exact kValid_ok
  · cases h; exact kPick_ok
  · cases h

end Go.Proofs.Ytidlbhppbopjjaa.Ax

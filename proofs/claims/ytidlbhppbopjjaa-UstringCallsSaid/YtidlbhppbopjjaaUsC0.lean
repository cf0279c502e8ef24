/-
Chapter 3: the contracts of Bad and of Times.
-/
import Derived.Test.YtidlbhppbopjjaaUsT
namespace Go.Proofs.Ytidlbhppbopjjaa.Ax
open Go.Ax
set_option linter.unusedVariables false
set_option linter.unusedSimpArgs false
set_option maxRecDepth 100000

/-- `bad`, which the kernel reckons at short strings alone. -/
noncomputable def badH (l : List UInt8) : Int := if Nat.ble l.length 100 then bad l else hid bad l
theorem badH_eq (l : List UInt8) : badH l = bad l := by unfold badH; split <;> simp only [hid_eq]

/-- A text n times. -/
def timesL (s : List UInt8) (n : Nat) : List UInt8 := (List.replicate n s).flatten
theorem timesL_succ (s : List UInt8) (n : Nat) : timesL s (n + 1) = s ++ timesL s n := by simp [timesL, List.replicate_succ]
theorem timesL_length (s : List UInt8) (n : Nat) : (timesL s n).length = n * s.length := by simp [timesL]
theorem below_pow {n m : Nat} (h : n ≤ 1000000) (hm : 20 ≤ m) : n < 2 ^ m := Nat.lt_of_lt_of_le (Nat.lt_of_le_of_lt h (show 1000000 < 2 ^ 20 by decide)) (Nat.pow_le_pow_right (by omega) hm)
theorem timesL_two (s : List UInt8) : ∀ n : Nat, timesL (s ++ s) n = timesL s (2 * n)
  | 0 => rfl
  | n + 1 => by
    rw [timesL_succ, timesL_two s n, show 2 * (n + 1) = 2 * n + 1 + 1 by omega, timesL_succ, timesL_succ, List.append_assoc]

noncomputable def timesLoop {β : Type} : KLoop β := fun fr h k => f42_D0 fr none fun x0 x1 x5 => match x0, x1, x5, h with
  | .str s, .int .i64 n, .str o, [] => selK (cd (o = [] ∧ 0 ≤ n ∧ n ≤ 1000000 ∧ s.length ≤ 1000)) (k (.exit 0) (f42_E0 (.str (timesL s n.toNat))) []) none
  | _, _, _, _ => none
noncomputable def timesLT {β : Type} : Nat → Option (KLoop β)
  | 0 => some timesLoop
  | _ => none

section
variable {β : Type}

theorem times_rounds (k : KCont β) : ∀ (m n : Nat) (s o : List UInt8), o.length + n * s.length ≤ 1000000000 → s.length ≤ 2000000000 → n ≤ 1000000 → n < 2 ^ m →
    times_bodyK (m + 1) (f42_S0 (.str s) (.int .i64 (n : Int)) (.str o)) [] k = k (.exit 0) (f42_E0 (.str (o ++ timesL s n))) []
  | 0, n, s, o, hb, hs, hn6, hn => by
    obtain rfl : n = 0 := by simpa using hn
    rw [times_body, selK_neg (by rw [ltI_iff0]; omega)]
    simp [timesL]
  | m + 1, n, s, o, hb, hs, hn6, hn => by
    rw [times_body]
    by_cases h0 : n = 0
    · subst h0
      rw [selK_neg (by rw [ltI_iff0]; omega)]
      simp [timesL]
    · have hq : quoI (n : Int) 2 = ((n / 2 : Nat) : Int) := rfl
      have hr : remI (n : Int) 2 = ((n % 2 : Nat) : Int) := rfl
      have hsl : s.length ≤ 1000000000 := by
        have : 1 * s.length ≤ n * s.length := Nat.mul_le_mul_right _ (by omega)
        omega
      have e2 : n / 2 * (s ++ s).length = n / 2 * 2 * s.length := by rw [List.length_append, ← Nat.two_mul, Nat.mul_assoc]
      rw [hq, hr, w64 _ (by omega) (by omega), selK_pos (by rw [ltI_iff]; omega)]
      by_cases h1 : n % 2 = 1
      · have hnn : n = 2 * (n / 2) + 1 := by omega
        have hm : n * s.length = n / 2 * 2 * s.length + s.length := by conv => lhs; rw [hnn, Nat.mul_comm 2, Nat.add_mul, Nat.one_mul]
        rw [selK_pos (by rw [eqI_iff, h1]; rfl), selK_pos (by rw [fitS_iff]; omega), selK_pos (by rw [fitS_iff]; omega), times_rounds k m (n / 2) (s ++ s) (o ++ s) (by rw [e2, List.length_append]; omega) (by rw [List.length_append]; omega) (by omega) (by rw [Nat.pow_succ] at hn; omega)]
        have : timesL s n = s ++ timesL (s ++ s) (n / 2) := by rw [timesL_two, ← timesL_succ, ← hnn]
        rw [this, List.append_assoc]
      · have hnn : n = 2 * (n / 2) := by omega
        have hm : n * s.length = n / 2 * 2 * s.length := by conv => lhs; rw [hnn, Nat.mul_comm 2]
        rw [selK_neg (by rw [eqI_iff0]; omega), selK_pos (by rw [fitS_iff]; omega), times_rounds k m (n / 2) (s ++ s) o (by rw [e2]; omega) (by rw [List.length_append]; omega) (by omega) (by rw [Nat.pow_succ] at hn; omega)]
        have : timesL s n = timesL (s ++ s) (n / 2) := by rw [timesL_two, ← hnn]
        rw [this]

theorem timesLoop_ok : LoopsOk (β := β) (aFn F (KT.tab fun _ => none) RR DD) RR 0 timesLT f42.code := by
  refine LoopsOk.one 0 f42_M0 f42_O0 f42_L0 rfl rfl ?_
  intro fr h k r e0
  obtain ⟨x0, x1, x5, hm, e⟩ := f42_D0_inv e0
  split at e
  · rename_i s n o
    obtain ⟨hc, e2⟩ := selK_t e
    rw [cd_iff] at hc
    obtain ⟨rfl, h0, h1, h2⟩ := hc
    rw [kLoop_M, hm]
    refine (?_ : _ = _).trans e2
    obtain ⟨n, rfl⟩ : ∃ q : Nat, n = q := ⟨n.toNat, by omega⟩
    have hmul : n * s.length ≤ 1000000 * 1000 := Nat.mul_le_mul (by omega) h2
    obtain ⟨q, hq⟩ : ∃ q : Nat, q = 18446744073709551615 := ⟨_, rfl⟩
    have := times_rounds k q n s [] (by simp; omega) (by omega) (by omega) (below_pow (by omega) (by omega))
    rw [List.nil_append, hq] at this
    exact this
  · cases e

theorem bad_run (s : List UInt8) (hs : s.length ≤ 4611686018427387904) (kk : KV → KHeap → Option β) : kBody (kFn F (fun _ => none) RR DD) badLT RR f19 [.str s] [] kk = kk (.int .i64 (badH s)) [] := by
  rw [bad_tree, selK_pos (by rw [cd_iff]; exact ⟨rfl, rfl, hs⟩), badH_eq]
  cases h : eqI (bad s) (-1)
  · rfl
  · rw [eqI_iff] at h; rw [h]; rfl
end

noncomputable def cBad : List AV → Bool
  | [.str s] => cd (s.length ≤ 4611686018427387904)
  | _ => false
noncomputable def gBad : List AV → Option AV
  | [.str s] => some (.int .i64 (badH s))
  | _ => none
noncomputable def kBad : KT := KT.pure cBad gBad
theorem kBad_ok : ContractOk Try.prog 19 kBad.a := by
  refine KT.pure_run (Checked.mixed Try.checked) F_ok KTOk.none rfl (fn := f19) rfl (L := badLT) badLoop_ok fun args v hc hg => ?_
  unfold gBad at hg
  split at hg
  · cases hg
    rename_i s
    have hc : s.length ≤ 4611686018427387904 := Eq.mp cd_iff hc
    exact ⟨rfl, rfl, _, (by first | exact bad_run s hc _ | (simp only [hid_eq]; exact bad_run s hc _))⟩
  · cases hg

end Go.Proofs.Ytidlbhppbopjjaa.Ax

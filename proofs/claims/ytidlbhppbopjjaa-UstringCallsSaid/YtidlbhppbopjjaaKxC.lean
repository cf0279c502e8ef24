/-
Words for trees of tests.
-/
import Derived.Test.YtidlbhppbopjjaaKxB
namespace Go.Ax
set_option linter.unusedVariables false
set_option linter.unusedSimpArgs false
/-- A thing that the kernel does not look into. -/
noncomputable def hid {α : Type} (a : α) : α := Classical.choose (⟨a, rfl⟩ : ∃ b, b = a)
theorem hid_eq {α : Type} (a : α) : hid a = a := Classical.choose_spec (⟨a, rfl⟩ : ∃ b, b = a)
section
variable {β : Type}
theorem selK_elim {c : Bool} {a b x : Option β} (h1 : c = true → a = x) (h2 : c = false → b = x) : selK c a b = x := by
  cases c with
  | true => exact h1 rfl
  | false => exact h2 rfl
theorem selK_posx {c : Bool} {a b x : Option β} (h : c = true) (h1 : a = x) : selK c a b = x := (selK_pos h).trans h1
theorem selK_negx {c : Bool} {a b x : Option β} (h : c = false) (h1 : b = x) : selK c a b = x := (selK_neg h).trans h1
theorem optK_of {α : Type} {o : Option α} {v : α} {k : α → Option β} (h : o = some v) : optK o k = k v := by rw [h]; rfl
theorem ltI_iff0 {a b : Int} : (ltI a b = false) = (b ≤ a) := by simp [ltI]
theorem leI_iff0 {a b : Int} : (leI a b = false) = (b < a) := by simp [leI]
theorem eqI_iff0 {a b : Int} : (eqI a b = false) = (¬ a = b) := by simp [eqI]
theorem eqS_iff0 {a b : List UInt8} : (eqS a b = false) = (¬ a = b) := by simp [eqS]
theorem eqB_iff0 {a b : Bool} : (eqB a b = false) = (¬ a = b) := by simp [eqB]
theorem inR_iff0 {a : Int} {n : Nat} : (inR a n = false) = (¬ (0 ≤ a ∧ a < (n : Int))) := by unfold inR; exact propext decide_eq_false_iff_not
theorem inB_iff0 {a : Int} {n : Nat} : (inB a n = false) = (¬ (0 ≤ a ∧ a ≤ (n : Int))) := by unfold inB; exact propext decide_eq_false_iff_not
theorem cd_iff0 {p : Prop} : (cd p = false) = ¬ p := propext (@decide_eq_false_iff_not p (Classical.propDecidable p))
theorem nz_iff0 {n : Nat} : ((n == 0) = false) = (¬ n = 0) := by simp
theorem blt_iff0 {a b : Nat} : (Nat.blt a b = false) = (b ≤ a) := by
  rw [← Bool.not_eq_true, blt_iff, Nat.not_lt]
theorem not_t {a : Bool} : ((!a) = true) = (a = false) := by cases a <;> simp
theorem not_f {a : Bool} : ((!a) = false) = (a = true) := by cases a <;> simp
theorem and_f {a b : Bool} : ((a && b) = false) = (a = false ∨ b = false) := by cases a <;> cases b <;> simp
theorem or_f {a b : Bool} : ((a || b) = false) = (a = false ∧ b = false) := by cases a <;> cases b <;> simp
theorem dec_f {p : Prop} [Decidable p] : (decide p = false) = ¬ p := propext decide_eq_false_iff_not
theorem wu64_range (x : Int) : 0 ≤ wr .u64 x ∧ wr .u64 x < 18446744073709551616 := by rw [wu64_mod]; omega
end
end Go.Ax

/-
The law OctetScript: what is told of its loop.
-/
import Derived.Test.YtidlbhppbopjjaaScrL
namespace Go.Proofs.Ytidlbhppbopjjaa.Ax
open Go.Ax
set_option linter.unusedVariables false
set_option linter.unusedSimpArgs false
set_option maxRecDepth 100000

section
variable {β : Type}
def scrOk (s s' s2 : List UInt8) (n : Nat) (i a a2 e e2 : Int) (l : List (Row ActR)) : Prop := s.length ≤ 200 ∧ (∀ r ∈ l, RowWf ActR r) ∧ l.length ≤ 60 ∧ s = s' ∧ s = s2 ∧ n = l.length ∧ i = 0 ∧ a = 0 ∧ a2 = 0 ∧ e = 0 ∧ e2 = 0
noncomputable def scrLoop : KLoop β := fun fr h k => f8_D0 fr none fun x1 x5 x6 x7 => match x1, x5, x6, x7, h with
  | .rslice 0 0 n 2, .ptr 1 0, .ptr 2 0, .int .i64 i, [.recs true [.int .i64, .int .i64] l, .cells [.str s, .int .i64 a, .int .i64 e], .cells [.str s', .int .i64 a2, .int .i64 e2]] =>
    selK (cd (scrOk s s' s n i a a2 e e2 l)) (k (.exit 0) (f8_E0 .junk) [.recs true ActR l, .cells [.str s, .int .i64 (hid scrF s l 0 0).1, .int .i64 (hid scrF s l 0 0).2], .cells [.str s, .int .i64 (hid scrF s l 0 0).1, .int .i64 (hid scrF s l 0 0).2]]) none
  | _, _, _, _, _ => none
noncomputable def scrLT : Nat → Option (KLoop β)
  | 0 => some scrLoop
  | _ => none

theorem scrLoop_ok : LoopsOk (β := β) (aFn F (KT.tab TScr) RR DD) RR 1 scrLT f8.code := by
  refine LoopsOk.one 0 f8_M0 f8_O0 f8_L0 rfl rfl ?_
  intro fr h k r e0
  obtain ⟨x1, x5, x6, x7, hm, e⟩ := f8_D0_inv e0
  split at e
  · rename_i n i l s a e' s' a2 e3
    obtain ⟨hc, e2⟩ := selK_t e
    rw [cd_iff] at hc
    obtain ⟨hs, hw, hl, rfl, _, rfl, rfl, rfl, rfl, rfl, rfl⟩ := hc
    rw [kLoop_M, hm]
    refine (?_ : _ = _).trans e2
    rw [hid_eq]
    exact scr_rounds s hs l hw hl k l.length 0 RR 0 0 (by omega) (by show l.length < 18446744073709551616; omega) (Nat.zero_le _)
  · cases e
end
end Go.Proofs.Ytidlbhppbopjjaa.Ax

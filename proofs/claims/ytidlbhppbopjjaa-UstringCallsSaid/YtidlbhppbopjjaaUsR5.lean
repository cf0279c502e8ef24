/-
Chapter 3: Count's loop.
-/
import Derived.Test.YtidlbhppbopjjaaUsR4
namespace Go.Proofs.Ytidlbhppbopjjaa.Ax
open Go.Ax
set_option linter.unusedVariables false
set_option linter.unusedSimpArgs false
set_option maxRecDepth 100000

noncomputable def cntLoop {β : Type} : KLoop β := fun fr h k => f18_D0 fr none fun x3 x8 => match x3, x8, h with
  | .int .i64 n, .ptr 0 0, [.iter s p] => selK (cd (n = 0 ∧ p = 0 ∧ bad s = -1 ∧ s.length ≤ 1000000)) (k (.exit 0) (f18_E0 (.int .i64 ((pts s).length : Nat))) [.iter s s.length]) none
  | _, _, _ => none
noncomputable def cntLT {β : Type} : Nat → Option (KLoop β)
  | 0 => some cntLoop
  | _ => none

section
variable {β : Type}
theorem cnt_rounds (s : List UInt8) (hs : s.length ≤ 1000000) (k : KCont β) : ∀ (us ds : List (List UInt8 × Nat)) (m : Nat), Units (ds ++ us) → s = joined (ds ++ us) → (ds ++ us).length ≤ s.length → us.length < m →
    cnt_bodyK m (f18_S0 (.int .i64 (ds.length : Nat)) (.ptr 0 0)) [.iter s (joined ds).length] k = k (.exit 0) (f18_E0 (.int .i64 ((ds ++ us).length : Nat))) [.iter s s.length]
  | [], ds, m, hu, ht, hl, hm => by
    obtain ⟨m, rfl⟩ : ∃ q, m = q + 1 := ⟨m - 1, by omega⟩
    rw [List.append_nil] at ht
    rw [cnt_body, ← ht, selK_neg (by rw [blt_iff0]; exact Nat.le_refl _), List.append_nil]
  | u :: us, ds, m, hu, ht, hl, hm => by
    obtain ⟨m, rfl⟩ : ∃ q, m = q + 1 := ⟨m - 1, by simp at hm; omega⟩
    obtain ⟨h1, h2, h3⟩ := runes_step s u us ds hu ht
    have hll : ds.length + (us.length + 1) ≤ s.length := by simpa using hl
    have ih := cnt_rounds s hs k us (ds ++ [u]) m (by simpa using hu) (by simpa using ht) (by simpa using hl) (by simp at hm; omega)
    rw [cnt_body, selK_pos (by rw [blt_iff]; exact h1), h3, w64 _ (by omega) (by omega)]
    rw [show (((ds ++ [u]).length : Nat) : Int) = (ds.length : Int) + 1 by simp] at ih
    rw [ih]
    simp

theorem cntLoop_ok : LoopsOk (β := β) (aFn F (KT.tab TNm) RR DD) RR 0 cntLT f18.code := by
  refine LoopsOk.one 0 f18_M0 f18_O0 f18_L0 rfl rfl ?_
  intro fr h k r e0
  obtain ⟨x3, x8, hm, e⟩ := f18_D0_inv e0
  split at e
  · rename_i n s p
    obtain ⟨hc, e2⟩ := selK_t e
    rw [cd_iff] at hc
    obtain ⟨rfl, rfl, hb, hsl⟩ := hc
    rw [kLoop_M, hm]
    refine (?_ : _ = _).trans e2
    obtain ⟨hu, hst, hj⟩ := pts_spec s
    have hlen := pts_len (pts s) hu
    rw [(bad_neg s).1 hb, List.append_nil] at hj
    have hl := congrArg List.length hj
    exact cnt_rounds s hsl k (pts s) [] RR hu hj (by show (pts s).length ≤ _; omega) (by show _ < 18446744073709551616; omega)
  · cases e
end

def countS (s : List UInt8) : Nat := if s.length ≤ 65535 ∧ bad s = -1 then (pts s).length else 0

end Go.Proofs.Ytidlbhppbopjjaa.Ax

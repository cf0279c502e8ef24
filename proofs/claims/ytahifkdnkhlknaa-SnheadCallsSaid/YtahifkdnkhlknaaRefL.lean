/-
The reference's Number (chapter 16): its loop.
-/
import Derived.Test.YtahifkdnkhlknaaRefB
import Derived.Test.YtahifkdnkhlknaaNum
import Derived.Test.YtahifkdnkhlknaaChecked
namespace Go.Proofs.Ytahifkdnkhlknaa.Ax
open Go.Ax
set_option linter.unusedVariables false
set_option linter.unusedSimpArgs false
set_option maxRecDepth 100000

def rnumOk (s : List UInt8) (n i : Int) : Prop := s.length ≤ 8 ∧ n = 0 ∧ i = 0
noncomputable def rnumLoop {β : Type} : KLoop β := fun fr h k => f28_D0 fr none fun x0 x3 x4 => match x0, x3, x4, h with
  | .str s, .int .u64 n, .int .i64 i, [] => selK (cd (rnumOk s n i)) (k (.exit 0) (f28_E0 (.int .u64 (getN s))) []) none
  | _, _, _, _ => none
noncomputable def rnumLT {β : Type} : Nat → Option (KLoop β)
  | 0 => some rnumLoop
  | _ => none

section
variable {β : Type}
theorem rnum_rounds (s : List UInt8) (hs : s.length ≤ 8) (k : KCont β) : ∀ (d i m : Nat), i + d = s.length → d < m →
    rnum_bodyK m (f28_S0 (.str s) (.int .u64 (getN (s.take i))) (.int .i64 i)) [] k = k (.exit 0) (f28_E0 (.int .u64 (getN s))) [] := by
  intro d
  induction d with
  | zero =>
    intro i m hi hm
    obtain ⟨m, rfl⟩ : ∃ q, m = q + 1 := ⟨m - 1, by omega⟩
    obtain rfl : i = s.length := by omega
    rw [rnum_body]
    simp (disch := omega) only [selK_ite, ltI_iff, if_neg, List.take_length]
  | succ d ih =>
    intro i m hi hm
    obtain ⟨m, rfl⟩ : ∃ q, m = q + 1 := ⟨m - 1, by omega⟩
    rw [rnum_body]
    have hil : i < s.length := by omega
    have hg : s[i]? = some s[i] := List.getElem?_eq_getElem hil
    have e2 : ((i : Int) + 1) = ((i + 1 : Nat) : Int) := by omega
    have hlt := getN_lt i (s.take i) (by simp; omega)
    have hp : 256 ^ i ≤ 256 ^ 7 := Nat.pow_le_pow_right (by omega) (by omega)
    have h7 : (256 : Nat) ^ 7 = 72057594037927936 := rfl
    rw [h7] at hp
    have hb := s[i].toNat_lt
    have ho : bitsA .or .u64 (shlI .u64 (getN (s.take i) : Int) 8) (s[i].toNat : Int) = ((getN (s.take i) * 256 + s[i].toNat : Nat) : Int) := or_byte (getN (s.take i)) s[i] (by omega)
    have e3 : getN (s.take i) * 256 + s[i].toNat = getN (s.take (i + 1)) := by rw [List.take_succ_eq_append_getElem hil, getN_append]
    simp (disch := omega) only [selK_ite, ltI_iff, leI_iff, w64, wu64, if_pos, Int.toNat_natCast, hg, optK, ho, e2, e3]
    exact ih (i + 1) m (by omega) (by omega)

theorem rnumLoop_ok : LoopsOk (β := β) (aFn F (KT.tab fun _ => none) RR DD) RR 0 rnumLT f28.code := by
  refine LoopsOk.one 0 f28_M0 f28_O0 f28_L0 rfl rfl ?_
  intro fr h k r e0
  obtain ⟨x0, x1, x5, hm, e⟩ := f28_D0_inv e0
  split at e
  · rename_i s n i
    obtain ⟨hc, e2⟩ := selK_t e
    rw [cd_iff] at hc
    obtain ⟨hs, rfl, rfl⟩ := hc
    rw [kLoop_M, hm]
    refine (?_ : _ = _).trans e2
    exact rnum_rounds s hs k s.length 0 RR (by omega) (by show s.length < 18446744073709551616; omega)
  · cases e
end
end Go.Proofs.Ytahifkdnkhlknaa.Ax

/-
The reference's Get (chapter 1): its loop.
-/
import Derived.Test.YtidlbhppbopjjaaRGetB
import Derived.Test.YtidlbhppbopjjaaNum
import Derived.Test.YtidlbhppbopjjaaChecked
namespace Go.Proofs.Ytidlbhppbopjjaa.Ax
open Go.Ax
set_option linter.unusedVariables false
set_option linter.unusedSimpArgs false
set_option maxRecDepth 100000

def rgetOk (s : List UInt8) (n i : Int) : Prop := s.length ≤ 4611686018427387904 ∧ n = 0 ∧ i = ((s.length - 8 : Nat) : Int)
noncomputable def rgetLoop {β : Type} : KLoop β := fun fr h k => f56_D0 fr none fun x0 x3 x4 => match x0, x3, x4, h with
  | .str s, .int .u64 n, .int .i64 i, [] => selK (cd (rgetOk s n i)) (k (.exit 0) (f56_E0 (.int .u64 (getL s))) []) none
  | _, _, _, _ => none
noncomputable def rgetLT {β : Type} : Nat → Option (KLoop β)
  | 0 => some rgetLoop
  | _ => none

section
variable {β : Type}
theorem rget_rounds (s : List UInt8) (hs : s.length ≤ 4611686018427387904) (k : KCont β) : ∀ (d q m : Nat), s.length - 8 + q + d = s.length → d < m →
    rget_bodyK m (f56_S0 (.str s) (.int .u64 (getN ((s.drop (s.length - 8)).take q))) (.int .i64 ((s.length - 8 + q : Nat) : Int))) [] k = k (.exit 0) (f56_E0 (.int .u64 (getL s))) [] := by
  intro d
  induction d with
  | zero =>
    intro q m hi hm
    obtain ⟨m, rfl⟩ : ∃ q, m = q + 1 := ⟨m - 1, by omega⟩
    rw [rget_body, selK_neg (by rw [ltI_iff0]; omega), List.take_of_length_le (by simp; omega)]
    rfl
  | succ d ih =>
    intro q m hi hm
    obtain ⟨m, rfl⟩ : ∃ q, m = q + 1 := ⟨m - 1, by omega⟩
    rw [rget_body]
    generalize hp : s.length - 8 = p at *
    have hil : p + q < s.length := by omega
    have hg : s[p + q]? = some s[p + q] := List.getElem?_eq_getElem hil
    have e2 : (((p + q : Nat) : Int) + 1) = ((p + (q + 1) : Nat) : Int) := by omega
    have hlt := getN_lt q ((s.drop p).take q) (by simp; omega)
    have hpw : 256 ^ q ≤ 256 ^ 7 := Nat.pow_le_pow_right (by omega) (by omega)
    have h7 : (256 : Nat) ^ 7 = 72057594037927936 := rfl
    rw [h7] at hpw
    have hb := s[p + q].toNat_lt
    have ho : bitsA .or .u64 (shlI .u64 (getN ((s.drop p).take q) : Int) 8) (s[p + q].toNat : Int) = ((getN ((s.drop p).take q) * 256 + s[p + q].toNat : Nat) : Int) := or_byte (getN ((s.drop p).take q)) s[p + q] (by omega)
    have e3 : getN ((s.drop p).take q) * 256 + s[p + q].toNat = getN ((s.drop p).take (q + 1)) := by
      have hq : q < (s.drop p).length := by simp; omega
      rw [List.take_succ_eq_append_getElem hq, getN_append, List.getElem_drop]
    simp (disch := omega) only [selK_ite, ltI_iff, leI_iff, w64, wu64, if_pos, Int.toNat_natCast, hg, optK, ho, e2, e3]
    exact ih (q + 1) m (by omega) (by omega)

theorem rgetLoop_ok : LoopsOk (β := β) (aFn F (KT.tab fun _ => none) RR DD) RR 0 rgetLT f56.code := by
  refine LoopsOk.one 0 f56_M0 f56_O0 f56_L0 rfl rfl ?_
  intro fr h k r e0
  obtain ⟨x0, x1, x5, hm, e⟩ := f56_D0_inv e0
  split at e
  · rename_i s n i
    obtain ⟨hc, e2⟩ := selK_t e
    rw [cd_iff] at hc
    obtain ⟨hs, rfl, rfl⟩ := hc
    rw [kLoop_M, hm]
    refine (?_ : _ = _).trans e2
    exact rget_rounds s hs k (s.length - (s.length - 8)) 0 RR (by omega) (by show _ < 18446744073709551616; omega)
  · cases e
end
end Go.Proofs.Ytidlbhppbopjjaa.Ax

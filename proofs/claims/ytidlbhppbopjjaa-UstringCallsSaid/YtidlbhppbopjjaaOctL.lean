/-
Chapter 1: the loops of Put and Get.
-/
import Derived.Test.YtidlbhppbopjjaaOctB
import Derived.Test.YtidlbhppbopjjaaNum
import Derived.Test.YtidlbhppbopjjaaChecked
namespace Go.Proofs.Ytidlbhppbopjjaa.Ax
open Go.Ax
set_option linter.unusedVariables false
set_option linter.unusedSimpArgs false
set_option maxRecDepth 100000

abbrev U8 : List CK := [.int .u8]
def u8Row (n : Int) : Row U8 := (n, ())

/-! ### Put -/

def putA (n : Int) (s i : Nat) : List (Row U8) := (putAt n s i).map u8Row
def putR (n s : Int) : List (Row U8) := putA n s.toNat s.toNat

theorem putA_length (n : Int) (s i : Nat) : (putA n s i).length = s := (List.length_map _).trans (putAt_length n s i)
theorem putA_set (n : Int) (s i j : Nat) (x : Int) : (putA n s i).set j (u8Row x) = ((putAt n s i).set j x).map u8Row := List.map_set.symm

def putOk (n s : Int) (m : Nat) (s' i : Int) (l : List (Row U8)) : Prop := 0 ≤ n ∧ n < 18446744073709551616 ∧ 0 ≤ s ∧ s ≤ 16 ∧ m = s.toNat ∧ s = s' ∧ i = 0 ∧ l = putA n s.toNat 0

noncomputable def putLoop {β : Type} : KLoop β := fun fr h k => f14_D0 fr none fun x0 x1 x5 x13 x14 => match x0, x1, x5, x13, x14, h with
  | .int .u64 n, .int .i64 s, .rslice 0 0 m 1, .int .i64 s', .int .i64 i, [.recs false [.int .u8] l] =>
    selK (cd (putOk n s m s' i l)) (k (.exit 0) (f14_E0 (.rslice 0 0 m 1)) [.recs false [.int .u8] (putR n s)]) none
  | _, _, _, _, _, _ => none
noncomputable def putLT {β : Type} : Nat → Option (KLoop β)
  | 0 => some putLoop
  | _ => none

section
variable {β : Type}

theorem put_rounds (n : Int) (h0 : 0 ≤ n) (hn : n < 18446744073709551616) (s : Nat) (hs : s ≤ 16) (k : KCont β) : ∀ (d i m : Nat), i + d = s → d < m →
    put_bodyK m (f14_S0 (.int .u64 n) (.int .i64 s) (.rslice 0 0 (s : Int).toNat 1) (.int .i64 s) (.int .i64 i)) [.recs false [.int .u8] (putA n s i)] k =
    k (.exit 0) (f14_E0 (.rslice 0 0 (s : Int).toNat 1)) [.recs false [.int .u8] (putR n s)] := by
  intro d
  induction d with
  | zero =>
    intro i m hi hm
    obtain ⟨m, rfl⟩ : ∃ q, m = q + 1 := ⟨m - 1, by omega⟩
    obtain rfl : i = s := by omega
    rw [put_body]
    simp (disch := omega) only [selK_ite, ltI_iff, if_neg]
    rfl
  | succ d ih =>
    intro i m hi hm
    obtain ⟨m, rfl⟩ : ∃ q, m = q + 1 := ⟨m - 1, by omega⟩
    rw [put_body]
    have hl := putA_length n s i
    by_cases h8 : i < 8
    · have hsh : shrI .u64 n (8 * (i : Int)) = n / 256 ^ i := shr_byte n i h8 h0
      have ht : ((s : Int) - 1 - (i : Int)).toNat = s - 1 - i := by omega
      obtain ⟨r, hr⟩ : ∃ r, (putA n s i)[s - 1 - i]? = some r := ⟨_, List.getElem?_eq_getElem (by omega)⟩
      have e1 : (putA n s i).set (s - 1 - i) (n / 256 ^ i % 256, ()) = putA n s (i + 1) := by
        have e0 : putA n s (i + 1) = ((putAt n s i).set (s - 1 - i) (n / 256 ^ i % 256)).map u8Row := by rw [putAt_succ n s i (by omega)]; rfl
        exact (putA_set n s i (s - 1 - i) _).trans e0.symm
      have e2 : ((i : Int) + 1) = ((i + 1 : Nat) : Int) := by omega
      simp (disch := omega) only [selK_ite, ltI_iff, inR_iff, Bool.and_true, w64, wu64, wu8, if_pos, if_neg, ht, hsh, Nat.zero_add, hr, optK, e1, e2]
      exact ih (i + 1) m (by omega) (by omega)
    · have e2 : ((i : Int) + 1) = ((i + 1 : Nat) : Int) := by omega
      simp (disch := omega) only [selK_ite, ltI_iff, w64, if_pos, if_neg, e2]
      have e1 : putA n s i = putA n s (i + 1) := by rw [putA, putA, ← putAt_high n s i h0 hn (by omega)]
      rw [e1]
      exact ih (i + 1) m (by omega) (by omega)

theorem putLoop_ok : LoopsOk (β := β) (aFn F (KT.tab fun _ => none) RR DD) RR 0 putLT f14.code := by
  refine LoopsOk.one 0 f14_M0 f14_O0 f14_L0 rfl rfl ?_
  intro fr h k r e0
  obtain ⟨x0, x1, x5, x13, x14, hm, e⟩ := f14_D0_inv e0
  split at e
  · rename_i n s m s' i l
    obtain ⟨hc, e2⟩ := selK_t e
    rw [cd_iff] at hc
    obtain ⟨h0, hn, hs0, hs, rfl, rfl, rfl, rfl⟩ := hc
    obtain ⟨s, rfl⟩ : ∃ q : Nat, s = q := ⟨s.toNat, by omega⟩
    rw [kLoop_M, hm]
    refine (?_ : _ = _).trans e2
    exact put_rounds n h0 hn s (by omega) k s 0 RR (by omega) (by show s < 18446744073709551616; omega)
  · cases e

/-! ### Get -/

def getOk (s : List UInt8) (n m i : Int) : Prop := s.length ≤ 8 ∧ n = 0 ∧ m = s.length ∧ i = 0
noncomputable def getLoop : KLoop β := fun fr h k => f15_D0 fr none fun x0 x3 x14 x15 => match x0, x3, x14, x15, h with
  | .str s, .int .u64 n, .int .i64 m, .int .i64 i, [] => selK (cd (getOk s n m i)) (k (.exit 0) (f15_E0 (.int .u64 (getN s))) []) none
  | _, _, _, _, _ => none
noncomputable def getLT : Nat → Option (KLoop β)
  | 0 => some getLoop
  | _ => none

theorem get_rounds (s : List UInt8) (hs : s.length ≤ 8) (k : KCont β) : ∀ (d i m : Nat), i + d = s.length → d < m →
    get_bodyK m (f15_S0 (.str s) (.int .u64 (getN (s.take i))) (.int .i64 (s.length : Int)) (.int .i64 i)) [] k =
    k (.exit 0) (f15_E0 (.int .u64 (getN s))) [] := by
  intro d
  induction d with
  | zero =>
    intro i m hi hm
    obtain ⟨m, rfl⟩ : ∃ q, m = q + 1 := ⟨m - 1, by omega⟩
    obtain rfl : i = s.length := by omega
    rw [get_body]
    simp (disch := omega) only [selK_ite, ltI_iff, if_neg, List.take_length]
  | succ d ih =>
    intro i m hi hm
    obtain ⟨m, rfl⟩ : ∃ q, m = q + 1 := ⟨m - 1, by omega⟩
    rw [get_body]
    have hil : i < s.length := by omega
    have hg : s[i]? = some s[i] := List.getElem?_eq_getElem hil
    have e2 : ((i : Int) + 1) = ((i + 1 : Nat) : Int) := by omega
    have hlt := getN_lt i (s.take i) (by simp; omega)
    have hp : 256 ^ i ≤ 256 ^ 7 := Nat.pow_le_pow_right (by omega) (by omega)
    have h7 : (256 : Nat) ^ 7 = 72057594037927936 := rfl
    rw [h7] at hp
    have hb := s[i].toNat_lt
    have ho : bitsA .or .u64 (shlI .u64 (getN (s.take i) : Int) 8) (s[i].toNat : Int) = ((getN (s.take i) * 256 + s[i].toNat : Nat) : Int) := or_byte (getN (s.take i)) s[i] (by omega)
    have e3 : getN (s.take i) * 256 + s[i].toNat = getN (s.take (i + 1)) := by rw [List.take_succ_eq_append_getElem hil, getN_append]
    simp (disch := omega) only [selK_ite, ltI_iff, leI_iff, w64, wu64, if_pos, Int.toNat_natCast, hg, optK, ho, e2, e3]
    exact ih (i + 1) m (by omega) (by omega)

theorem getLoop_ok : LoopsOk (β := β) (aFn F (KT.tab fun _ => none) RR DD) RR 0 getLT f15.code := by
  refine LoopsOk.one 0 f15_M0 f15_O0 f15_L0 rfl rfl ?_
  intro fr h k r e0
  obtain ⟨x0, x1, x5, x13, hm, e⟩ := f15_D0_inv e0
  split at e
  · rename_i s n m i
    obtain ⟨hc, e2⟩ := selK_t e
    rw [cd_iff] at hc
    obtain ⟨hs, rfl, rfl, rfl⟩ := hc
    rw [kLoop_M, hm]
    refine (?_ : _ = _).trans e2
    exact get_rounds s hs k s.length 0 RR (by omega) (by show s.length < 18446744073709551616; omega)
  · cases e

end
end Go.Proofs.Ytidlbhppbopjjaa.Ax

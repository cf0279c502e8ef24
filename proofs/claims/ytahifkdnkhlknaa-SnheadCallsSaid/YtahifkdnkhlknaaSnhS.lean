/-
Chapter 21 in plain words: headers and flags.
-/
import Derived.Test.YtahifkdnkhlknaaNum
namespace Go.Ax
set_option linter.unusedVariables false
set_option linter.unusedSimpArgs false

/-- There is such a type. -/
def known (k : Int) : Bool := decide (k = 254 ∨ 0 ≤ k ∧ k ≤ 29 ∧ k ≠ 3 ∧ k ≠ 17 ∧ k ≠ 25)
theorem known_range {k : Int} (hk : known k = true) : 0 ≤ k ∧ k < 256 := by
  unfold known at hk
  have := of_decide_eq_true hk
  omega

/-- A header's bytes, its error. -/
def bytesE (k r : Int) : Int := if known k = false then 8 else if r < 0 then 2 else if 65531 < r then 4 else 0
def bytesS (k r : Int) : List UInt8 := if bytesE k r ≠ 0 then [] else if r ≤ 253 then putN (r + 2).toNat 1 ++ putN k.toNat 1 else putN 1 1 ++ putN (r + 4).toNat 2 ++ putN k.toNat 1

theorem bytesE_ok {k r : Int} (h : bytesE k r = 0) : known k = true ∧ 0 ≤ r ∧ r ≤ 65531 := by
  unfold bytesE at h
  split at h
  · omega
  · split at h
    · omega
    · split at h
      · omega
      · refine ⟨by simpa using ‹¬known k = false›, by omega, by omega⟩

theorem bytesS_length {k r : Int} (h : bytesE k r = 0) : (bytesS k r).length = if r ≤ 253 then 2 else 4 := by
  unfold bytesS
  rw [if_neg (by simp [h])]
  split <;> simp [putN_length]
theorem bytesS_le (k r : Int) : (bytesS k r).length ≤ 4 := by
  by_cases h : bytesE k r = 0
  · rw [bytesS_length h]; split <;> omega
  · simp [bytesS, h]

/-- The type, the header's size, the length, the error that bytes begin with. -/
def readS (s : List UInt8) : Int × Int × Int × Int :=
  if s.length < 2 then (0, 0, 0, 3) else
  if getL (s.take 1) = 1 then
    if s.length < 4 then (0, 0, 0, 3) else
    if getL ((s.drop 1).take 2) < 258 then (0, 0, 0, 5) else
    if known (getL ((s.drop 3).take 1)) = false then (0, 0, 0, 8) else
    ((getL ((s.drop 3).take 1) : Int), 4, (getL ((s.drop 1).take 2) : Int), 0)
  else
    if getL (s.take 1) < 2 then (0, 0, 0, 5) else
    if known (getL ((s.drop 1).take 1)) = false then (0, 0, 0, 8) else
    ((getL ((s.drop 1).take 1) : Int), 2, (getL (s.take 1) : Int), 0)

theorem getL_short (s : List UInt8) (h : s.length ≤ 8) : getL s = getN s := by simp [getL, show s.length - 8 = 0 by omega]
theorem getL_putN (n k : Nat) (hk : k ≤ 8) : getL (putN n k) = n % 256 ^ k := by rw [getL_short _ (by rw [putN_length]; exact hk), getN_putN]
theorem getL_lt (s : List UInt8) (k : Nat) (hs : s.length ≤ k) (hk : k ≤ 8) : getL s < 256 ^ k := by
  rw [getL_short s (by omega)]
  exact Nat.lt_of_lt_of_le (getN_lt s.length s rfl) (Nat.pow_le_pow_right (by omega) hs)

/-- A header is read back, whatever follows. -/
theorem read_bytes {k r : Int} (h : bytesE k r = 0) (more : List UInt8) : readS (bytesS k r ++ more) = (k, ((bytesS k r).length : Int), ((bytesS k r).length : Int) + r, 0) := by
  obtain ⟨hk, h0, h1⟩ := bytesE_ok h
  have hkr := known_range hk
  have hkn : ((k.toNat : Nat) : Int) = k := by omega
  have hl := bytesS_length h
  unfold readS
  by_cases hr : r ≤ 253
  · have e : bytesS k r = putN (r + 2).toNat 1 ++ putN k.toNat 1 := by
      unfold bytesS; rw [if_neg (by simp [h]), if_pos hr]
    rw [if_pos hr] at hl
    have l1 := putN_length (r + 2).toNat 1
    have l2 := putN_length k.toNat 1
    have t1 : (bytesS k r ++ more).take 1 = putN (r + 2).toNat 1 := by rw [e, List.append_assoc]; exact List.take_left' l1
    have t2 : ((bytesS k r ++ more).drop 1).take 1 = putN k.toNat 1 := by
      rw [e, List.append_assoc, List.drop_left' l1]; exact List.take_left' l2
    have g1 : getL (putN (r + 2).toNat 1) = (r + 2).toNat := by rw [getL_putN _ _ (by omega)]; exact Nat.mod_eq_of_lt (by omega)
    have g2 : getL (putN k.toNat 1) = k.toNat := by rw [getL_putN _ _ (by omega)]; exact Nat.mod_eq_of_lt (by omega)
    rw [t1, t2, g1, g2, hkn, hk, hl, if_neg (by rw [List.length_append]; omega), if_neg (by omega), if_neg (by omega), if_neg (by simp)]
    simp only [Prod.mk.injEq, true_and, and_true]
    omega
  · have e : bytesS k r = putN 1 1 ++ putN (r + 4).toNat 2 ++ putN k.toNat 1 := by
      unfold bytesS; rw [if_neg (by simp [h]), if_neg hr]
    rw [if_neg hr] at hl
    have l0 := putN_length 1 1
    have l1 := putN_length (r + 4).toNat 2
    have l2 := putN_length k.toNat 1
    have t0 : (bytesS k r ++ more).take 1 = putN 1 1 := by rw [e, List.append_assoc, List.append_assoc]; exact List.take_left' l0
    have t1 : ((bytesS k r ++ more).drop 1).take 2 = putN (r + 4).toNat 2 := by
      rw [e, List.append_assoc, List.append_assoc, List.drop_left' l0]; exact List.take_left' l1
    have t2 : ((bytesS k r ++ more).drop 3).take 1 = putN k.toNat 1 := by
      rw [e, List.append_assoc, List.drop_left' (by rw [List.length_append, l0, l1])]; exact List.take_left' l2
    have g0 : getL (putN 1 1) = 1 := by rw [getL_putN _ _ (by omega)]
    have g1 : getL (putN (r + 4).toNat 2) = (r + 4).toNat := by rw [getL_putN _ _ (by omega)]; exact Nat.mod_eq_of_lt (by omega)
    have g2 : getL (putN k.toNat 1) = k.toNat := by rw [getL_putN _ _ (by omega)]; exact Nat.mod_eq_of_lt (by omega)
    rw [t0, t1, t2, g0, g1, g2, hkn, hk, hl, if_neg (by rw [List.length_append]; omega), if_pos rfl, if_neg (by rw [List.length_append]; omega), if_neg (by omega), if_neg (by simp)]
    simp only [Prod.mk.injEq, true_and, and_true]
    omega

/-! ### Flags -/

structure Fl where
  dup : Bool
  qos : Int
  ret : Bool
  will : Bool
  clean : Bool
  typ : Int
  deriving DecidableEq

def Fl.zero : Fl := ⟨false, 0, false, false, false, 0⟩
def flagE (f : Fl) : Int := if f.qos < -1 ∨ 2 < f.qos ∨ f.typ < 0 ∨ 2 < f.typ then 7 else 0
def bitI (b : Bool) (n : Int) : Int := if b = true then n else 0
def flagN (f : Fl) : Int := if flagE f ≠ 0 then 0 else bitI f.dup 128 + 32 * (if f.qos < 0 then 3 else f.qos) + bitI f.ret 16 + bitI f.will 8 + bitI f.clean 4 + f.typ
def readFlagE (n : Int) : Int := if n < 0 ∨ 255 < n ∨ n % 4 = 3 then 7 else 0
def readFlag (n : Int) : Fl := if readFlagE n ≠ 0 then .zero else
  ⟨decide (128 ≤ n), if n / 32 % 4 = 3 then -1 else n / 32 % 4, decide (n / 16 % 2 = 1), decide (n / 8 % 2 = 1), decide (n / 4 % 2 = 1), n % 4⟩
def uses (k : Int) : Fl :=
  if k = 4 then ⟨false, 0, false, true, true, 0⟩ else
  if k = 7 ∨ k = 26 then ⟨false, 1, true, false, false, 0⟩ else
  if k = 12 then ⟨true, 1, true, false, false, 1⟩ else
  if k = 18 then ⟨true, 1, false, false, false, 1⟩ else
  if k = 20 then ⟨false, 0, false, false, false, 1⟩ else
  if k = 19 then ⟨false, 1, false, false, false, 0⟩ else .zero
def may (k : Int) (f : Fl) : Bool :=
  eqI (flagE f) 0 && (!ltI f.qos 0 || eqI k 12) && ((uses k).dup || !f.dup) && (eqI (uses k).qos 1 || eqI f.qos 0) && ((uses k).ret || !f.ret) && ((uses k).will || !f.will) && ((uses k).clean || !f.clean) && (eqI (uses k).typ 1 || eqI f.typ 0)

theorem flagE_ok {f : Fl} (h : flagE f = 0) : -1 ≤ f.qos ∧ f.qos ≤ 2 ∧ 0 ≤ f.typ ∧ f.typ ≤ 2 := by
  unfold flagE at h
  split at h <;> omega
theorem flagN_eq {f : Fl} (h : flagE f = 0) : flagN f = bitI f.dup 128 + 32 * (if f.qos < 0 then 3 else f.qos) + bitI f.ret 16 + bitI f.will 8 + bitI f.clean 4 + f.typ := by
  unfold flagN
  rw [if_neg (by simp [h])]
theorem bitI_cases (b : Bool) (n : Int) : (b = true ∧ bitI b n = n) ∨ (b = false ∧ bitI b n = 0) := by cases b <;> simp [bitI]
/-- Valid flags are a byte, which is read as they. -/
theorem flag_back {f : Fl} (h : flagE f = 0) : 0 ≤ flagN f ∧ flagN f ≤ 255 ∧ readFlagE (flagN f) = 0 ∧ readFlag (flagN f) = f := by
  obtain ⟨h1, h2, h3, h4⟩ := flagE_ok h
  obtain ⟨d, q, r, w, c, t⟩ := f
  rw [flagN_eq h]
  simp only at h1 h2 h3 h4 ⊢
  have hq : q = -1 ∨ q = 0 ∨ q = 1 ∨ q = 2 := by omega
  have ht : t = 0 ∨ t = 1 ∨ t = 2 := by omega
  clear h h1 h2 h3 h4
  rcases hq with rfl | rfl | rfl | rfl <;> rcases ht with rfl | rfl | rfl <;> cases d <;> cases r <;> cases w <;> cases c <;> decide
theorem readFlag_back (n : Int) (h : readFlagE n = 0) : flagE (readFlag n) = 0 ∧ flagN (readFlag n) = n := by
  have hb : 0 ≤ n ∧ n ≤ 255 := by unfold readFlagE at h; split at h <;> omega
  obtain ⟨m, rfl⟩ : ∃ m : Nat, n = m := ⟨n.toNat, by omega⟩
  have hm : m < 256 := by omega
  have key : ∀ m : Nat, m < 256 → readFlagE (m : Int) = 0 → flagE (readFlag (m : Int)) = 0 ∧ flagN (readFlag (m : Int)) = (m : Int) := by decide +kernel
  exact key m hm h

end Go.Ax

/-
Numbers and their bytes.
-/
import Derived.Test.YtidlbhppbopjjaaKxC
namespace Go.Ax
set_option linter.unusedVariables false
set_option linter.unusedSimpArgs false

theorem iwu64 (x : Int) (h1 : 0 ≤ x) (h2 : x ≤ 18446744073709551615) : IntKind.u64.wrap x = x := wu64 x h1 h2

/-- The lowest s bytes of a number, the highest first. -/
def putL (n : Int) (s : Nat) : List UInt8 := (List.range s).map fun j => UInt8.ofNat (n / 256 ^ (s - 1 - j) % 256).toNat

/-- Put's bytes, after i rounds. -/
def putAt (n : Int) (s i : Nat) : List Int := (List.range s).map fun j => if s - 1 - j < i then n / 256 ^ (s - 1 - j) % 256 else 0

theorem putAt_length (n : Int) (s i : Nat) : (putAt n s i).length = s := by simp [putAt]

theorem putAt_zero (n : Int) (s : Nat) : putAt n s 0 = List.replicate s 0 := by
  apply List.ext_getElem
  · simp [putAt]
  · intro j h1 h2
    simp [putAt]

theorem putAt_succ (n : Int) (s i : Nat) (hi : i < s) : (putAt n s i).set (s - 1 - i) (n / 256 ^ i % 256) = putAt n s (i + 1) := by
  apply List.ext_getElem
  · simp [putAt]
  · intro j h1 h2
    simp only [putAt_length] at h2
    rw [List.getElem_set]
    simp only [putAt, List.getElem_map, List.getElem_range]
    by_cases hj : s - 1 - i = j
    · subst hj
      have : s - 1 - (s - 1 - i) = i := by omega
      simp [this]
    · rw [if_neg hj]
      by_cases hl : s - 1 - j < i
      · rw [if_pos hl, if_pos (by omega)]
      · rw [if_neg hl, if_neg (by omega)]

theorem putAt_high (n : Int) (s i : Nat) (h0 : 0 ≤ n) (hn : n < 18446744073709551616) (hi : 8 ≤ i) : putAt n s i = putAt n s (i + 1) := by
  apply List.ext_getElem
  · simp [putAt]
  · intro j h1 h2
    simp only [putAt, List.getElem_map, List.getElem_range]
    by_cases hl : s - 1 - j < i
    · rw [if_pos hl, if_pos (by omega)]
    · rw [if_neg hl]
      split
      · rename_i h
        have : s - 1 - j = i := by omega
        rw [this]
        have h8 : (18446744073709551616 : Int) ≤ 256 ^ i := by
          have h1 : 256 ^ 8 ≤ 256 ^ i := Nat.pow_le_pow_right (n := 256) (by omega) hi
          have h2 : ((256 ^ 8 : Nat) : Int) ≤ ((256 ^ i : Nat) : Int) := Int.ofNat_le.2 h1
          rw [Int.natCast_pow, Int.natCast_pow] at h2
          exact h2
        have : n / 256 ^ i = 0 := Int.ediv_eq_zero_of_lt h0 (Int.lt_of_lt_of_le hn h8)
        rw [this]; rfl
      · rfl

theorem putAt_done (n : Int) (s : Nat) : (putAt n s s).map (fun n => UInt8.ofNat n.toNat) = putL n s := by
  apply List.ext_getElem
  · simp [putAt, putL]
  · intro j h1 h2
    simp only [putAt, putL, List.getElem_map, List.getElem_range]
    rw [if_pos (by simp [putL] at h2; omega)]

theorem shr_byte (n : Int) (i : Nat) (hi : i < 8) (h0 : 0 ≤ n) : n.fdiv (2 ^ ((8 * (i : Int)).toNat.min IntKind.u64.bits)) = n / 256 ^ i := by
  have e : (8 * (i : Int)).toNat.min IntKind.u64.bits = 8 * i := by
    have : (8 * (i : Int)).toNat = 8 * i := by omega
    rw [this]
    show min (8 * i) 64 = 8 * i
    omega
  rw [e]
  have h2 : ((2 : Int) ^ (8 * i)) = 256 ^ i := by
    have h1 : (2 : Nat) ^ (8 * i) = 256 ^ i := by rw [Nat.pow_mul]
    have h2 : (((2 : Nat) ^ (8 * i) : Nat) : Int) = ((256 ^ i : Nat) : Int) := congrArg _ h1
    rw [Int.natCast_pow, Int.natCast_pow] at h2
    exact h2
  rw [h2, Int.fdiv_eq_ediv_of_nonneg]
  exact Int.le_of_lt (Int.pow_pos (by decide))

/-- The number that the last eight bytes are. -/
def getN (l : List UInt8) : Nat := l.foldl (fun a b => a * 256 + b.toNat) 0
def getL (l : List UInt8) : Nat := getN (l.drop (l.length - 8))

theorem getN_append (l : List UInt8) (b : UInt8) : getN (l ++ [b]) = getN l * 256 + b.toNat := by simp [getN]

theorem getN_lt : ∀ (k : Nat) (l : List UInt8), l.length = k → getN l < 256 ^ k
  | 0, l, h => by
    have : l = [] := by simpa using h
    subst this; simp [getN]
  | k + 1, l, h => by
    have hne : l ≠ [] := by intro e; subst e; simp at h
    rw [← List.dropLast_concat_getLast hne, getN_append]
    have := getN_lt k l.dropLast (by simp [h])
    have hb := (l.getLast hne).toNat_lt
    rw [Nat.pow_succ]
    omega

theorem or_byte (x : Nat) (b : UInt8) (hx : x * 256 + 255 < 18446744073709551616) : bitsA .or .u64 (IntKind.u64.wrap ((x : Int) * 2 ^ (8 : Int).toNat.min IntKind.u64.bits)) (b.toNat : Int) = ((x * 256 + b.toNat : Nat) : Int) := by
  have hb := b.toNat_lt
  have e : (8 : Int).toNat.min IntKind.u64.bits = 8 := rfl
  rw [e]
  have e2 : ((2 : Int) ^ 8) = 256 := by decide
  rw [e2, iwu64 _ (by omega) (by omega)]
  show IntKind.u64.wrap ((BitVec.ofInt 64 ((x : Int) * 256) ||| BitVec.ofInt 64 (b.toNat : Int)).toNat : Int) = _
  have h1 : BitVec.ofInt 64 ((x : Int) * 256) = BitVec.ofNat 64 (x * 256) := by
    apply BitVec.eq_of_toNat_eq
    rw [BitVec.toNat_ofInt, BitVec.toNat_ofNat]
    omega
  have h2 : BitVec.ofInt 64 (b.toNat : Int) = BitVec.ofNat 64 b.toNat := by
    apply BitVec.eq_of_toNat_eq
    rw [BitVec.toNat_ofInt, BitVec.toNat_ofNat]
    omega
  have p64 : (2 : Nat) ^ 64 = 18446744073709551616 := by rfl
  have m1 : x * 256 % 2 ^ 64 = x * 256 := by rw [p64]; exact Nat.mod_eq_of_lt (Nat.lt_of_le_of_lt (Nat.le_add_right _ _) hx)
  have m2 : b.toNat % 2 ^ 64 = b.toNat := by rw [p64]; exact Nat.mod_eq_of_lt (Nat.lt_trans hb (by decide))
  rw [h1, h2, BitVec.toNat_or, BitVec.toNat_ofNat, BitVec.toNat_ofNat, m1, m2]
  have h3 : x * 256 ||| b.toNat = x * 256 + b.toNat := by
    have := Nat.shiftLeft_add_eq_or_of_lt (i := 8) (b := b.toNat) (by simpa using hb) x
    rw [Nat.shiftLeft_eq] at this
    simpa using this.symm
  rw [h3]
  exact iwu64 _ (by omega) (by omega)

/-- Put's bytes of a natural number, from the last one on. -/
def putN (n : Nat) : Nat → List UInt8
  | 0 => []
  | k + 1 => putN (n / 256) k ++ [UInt8.ofNat (n % 256)]

theorem putN_length (n k : Nat) : (putN n k).length = k := by
  induction k generalizing n with
  | zero => rfl
  | succ k ih => simp [putN, ih]

theorem putL_putN (n k : Nat) : putL (n : Int) k = putN n k := by
  induction k generalizing n with
  | zero => simp [putL, putN]
  | succ k ih =>
    rw [putN, ← ih]
    simp only [putL]
    rw [List.range_succ, List.map_append]
    congr 1
    · apply List.map_congr_left
      intro j hj
      have hj' : j < k := by simpa using hj
      have e : k + 1 - 1 - j = (k - 1 - j) + 1 := by omega
      rw [e]
      have e2 : (n : Int) / 256 ^ (k - 1 - j + 1) = ((n / 256 : Nat) : Int) / 256 ^ (k - 1 - j) := by
        have hp : (256 : Int) ^ (k - 1 - j + 1) = ((256 ^ (k - 1 - j + 1) : Nat) : Int) := by rw [Int.natCast_pow]; rfl
        have hq : (256 : Int) ^ (k - 1 - j) = ((256 ^ (k - 1 - j) : Nat) : Int) := by rw [Int.natCast_pow]; rfl
        rw [hp, hq, ← Int.natCast_ediv, ← Int.natCast_ediv, Nat.pow_succ, Nat.mul_comm, Nat.div_div_eq_div_mul]
      rw [e2]
    · simp only [List.map_cons, List.map_nil, List.cons.injEq, and_true]
      have e : k + 1 - 1 - k = 0 := by omega
      rw [e]
      simp only [Int.pow_zero, Int.ediv_one]
      have : ((n : Int) % 256).toNat = n % 256 := by omega
      rw [this]

theorem getN_putN (n k : Nat) : getN (putN n k) = n % 256 ^ k := by
  induction k generalizing n with
  | zero => simp [putN, getN, Nat.mod_one]
  | succ k ih =>
    have e : (UInt8.ofNat (n % 256)).toNat = n % 256 := by
      simp
    rw [putN, getN_append, ih, e, Nat.pow_succ, Nat.mul_comm (256 ^ k) 256]
    rw [Nat.mod_mul, Nat.mul_comm (n / 256 % 256 ^ k) 256]
    omega

theorem putN_getN : ∀ (k : Nat) (s : List UInt8), s.length = k → putN (getN s) k = s
  | 0, s, h => by
    have : s = [] := by simpa using h
    subst this; rfl
  | k + 1, s, h => by
    have hne : s ≠ [] := by intro e; subst e; simp at h
    have hs := List.dropLast_concat_getLast hne
    have hl : s.dropLast.length = k := by simp [h]
    have hb := (s.getLast hne).toNat_lt
    conv => rhs; rw [← hs]
    have hg : getN s = getN s.dropLast * 256 + (s.getLast hne).toNat := by
      conv => lhs; rw [← hs]
      rw [getN_append]
    have h1 : getN s / 256 = getN s.dropLast := by omega
    have h2 : getN s % 256 = (s.getLast hne).toNat := by omega
    rw [putN, h1, h2, putN_getN k _ hl]
    congr 2
    exact UInt8.toNat_inj.1 (by simp)

theorem getN_foldl (l : List UInt8) : ∀ x : Nat, l.foldl (fun a b => a * 256 + b.toNat) x = x * 256 ^ l.length + getN l := by
  induction l with
  | nil => intro x; simp [getN]
  | cons b l ih =>
    intro x
    simp only [List.foldl_cons, getN, List.length_cons]
    rw [ih, ih (0 * 256 + b.toNat), Nat.pow_succ, Nat.zero_mul, Nat.zero_add, Nat.add_mul, Nat.mul_comm (256 ^ l.length) 256, Nat.mul_assoc]
    omega

theorem getN_cons (b : UInt8) (l : List UInt8) : getN (b :: l) = b.toNat * 256 ^ l.length + getN l := by
  show (b :: l).foldl (fun a b => a * 256 + b.toNat) 0 = _
  rw [List.foldl_cons, getN_foldl]
  simp

theorem getN_inj : ∀ (a b : List UInt8), a.length = b.length → getN a = getN b → a = b
  | [], [], _, _ => rfl
  | [], _ :: _, h, _ => by simp at h
  | _ :: _, [], h, _ => by simp at h
  | x :: a, y :: b, h, hg => by
    have hl : a.length = b.length := by simpa using h
    rw [getN_cons, getN_cons, hl] at hg
    have ha := getN_lt _ a rfl
    have hb := getN_lt _ b rfl
    rw [hl] at ha
    have hxy : x.toNat = y.toNat := by
      have h1 : (x.toNat * 256 ^ b.length + getN a) / 256 ^ b.length = x.toNat := by
        rw [Nat.mul_comm, Nat.mul_add_div (Nat.pow_pos (by decide)), Nat.div_eq_of_lt ha]; omega
      have h2 : (y.toNat * 256 ^ b.length + getN b) / 256 ^ b.length = y.toNat := by
        rw [Nat.mul_comm, Nat.mul_add_div (Nat.pow_pos (by decide)), Nat.div_eq_of_lt hb]; omega
      rw [← h1, ← h2, hg]
    have hab : getN a = getN b := by rw [hxy] at hg; omega
    rw [UInt8.toNat_inj.1 hxy, getN_inj a b hl hab]

theorem bytesLt_getN : ∀ (a b : List UInt8), a.length = b.length → bytesLt a b = decide (getN a < getN b)
  | [], [], _ => by simp [bytesLt, getN]
  | [], _ :: _, h => by simp at h
  | _ :: _, [], h => by simp at h
  | x :: a, y :: b, h => by
    have hl : a.length = b.length := by simpa using h
    rw [bytesLt, bytesLt_getN a b hl, getN_cons, getN_cons, hl]
    have ha := getN_lt _ a rfl
    have hb := getN_lt _ b rfl
    rw [hl] at ha
    generalize 256 ^ b.length = p at *
    rw [Bool.eq_iff_iff]
    simp only [Bool.or_eq_true, decide_eq_true_eq, Bool.and_eq_true, beq_iff_eq]
    constructor
    · rintro (h1 | ⟨rfl, h1⟩)
      · have : x.toNat + 1 ≤ y.toNat := h1
        have := Nat.mul_le_mul_right p this
        rw [Nat.add_mul] at this
        omega
      · omega
    · intro h1
      rcases Nat.lt_trichotomy x.toNat y.toNat with h2 | h2 | h2
      · exact .inl h2
      · exact .inr ⟨UInt8.toNat_inj.1 h2, by rw [h2] at h1; omega⟩
      · have : y.toNat + 1 ≤ x.toNat := h2
        have := Nat.mul_le_mul_right p this
        rw [Nat.add_mul] at this
        omega

theorem eq_getN (a b : List UInt8) (h : a.length = b.length) : (a == b) = decide (getN a = getN b) := by
  rw [Bool.eq_iff_iff]
  simp only [beq_iff_eq, decide_eq_true_eq]
  exact ⟨fun e => by rw [e], getN_inj a b h⟩

theorem mask_and (n k : Nat) (hn : n < 18446744073709551616) (hk : k ≤ 8) : bitsA .and .u64 (n : Int) ((256 ^ k - 1 : Nat) : Int) = ((n % 256 ^ k : Nat) : Int) := by
  have hp : 256 ^ k ≤ 256 ^ 8 := Nat.pow_le_pow_right (by omega) hk
  have h8 : (256 : Nat) ^ 8 = 18446744073709551616 := by rfl
  rw [h8] at hp
  show IntKind.u64.wrap ((BitVec.ofInt 64 (n : Int) &&& BitVec.ofInt 64 ((256 ^ k - 1 : Nat) : Int)).toNat : Int) = _
  have h1 : ∀ x : Nat, BitVec.ofInt 64 (x : Int) = BitVec.ofNat 64 x := fun x => by
    apply BitVec.eq_of_toNat_eq
    rw [BitVec.toNat_ofInt, BitVec.toNat_ofNat]
    omega
  have p64 : (2 : Nat) ^ 64 = 18446744073709551616 := by rfl
  have m1 : n % 2 ^ 64 = n := by rw [p64]; exact Nat.mod_eq_of_lt hn
  have m2 : (256 ^ k - 1) % 2 ^ 64 = 256 ^ k - 1 := by rw [p64]; exact Nat.mod_eq_of_lt (Nat.lt_of_lt_of_le (Nat.sub_lt (Nat.pow_pos (by decide)) (by decide)) hp)
  rw [h1, h1, BitVec.toNat_and, BitVec.toNat_ofNat, BitVec.toNat_ofNat, m1, m2]
  have h3 : n &&& (256 ^ k - 1) = n % 256 ^ k := by
    have e : (256 : Nat) ^ k = 2 ^ (8 * k) := by rw [Nat.pow_mul]
    rw [e, Nat.and_two_pow_sub_one_eq_mod]
  rw [h3]
  have hlt : n % 256 ^ k ≤ n := Nat.mod_le _ _
  exact iwu64 _ (Int.natCast_nonneg _) (by clear p64 h8 h1 m1 m2 h3; omega)

def pickL (n m : Int) : Int := if m < 1 then 0 else if n.tmod m < 0 then n.tmod m + m else n.tmod m

end Go.Ax

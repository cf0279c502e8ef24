/-
Code points as strings of bytes: a string is good units, one after the other, and what stops them.
-/
import Derived.Test.YtidlbhppbopjjaaNum
namespace Go.Ax
set_option linter.unusedVariables false
set_option linter.unusedSimpArgs false

def bt (l : List UInt8) (k : Nat) : Nat := (l.getD k 0).toNat
def ct (l : List UInt8) (k : Nat) : Bool := decide (k < l.length) && bt l k / 64 == 2

/-- The code point at the beginning, and its bytes. -/
def dec (l : List UInt8) : Nat × Nat :=
  if bt l 0 < 0x80 then (bt l 0, 1)
  else if bt l 0 / 32 == 6 && ct l 1 then
    if (bt l 0 % 32) * 64 + bt l 1 % 64 ≥ 0x80 then ((bt l 0 % 32) * 64 + bt l 1 % 64, 2) else (0xFFFD, 1)
  else if bt l 0 / 16 == 14 && ct l 1 && ct l 2 then
    if (bt l 0 % 16) * 4096 + (bt l 1 % 64) * 64 + bt l 2 % 64 ≥ 0x800 && Utf8.valid ((bt l 0 % 16) * 4096 + (bt l 1 % 64) * 64 + bt l 2 % 64 : Nat) then
      ((bt l 0 % 16) * 4096 + (bt l 1 % 64) * 64 + bt l 2 % 64, 3) else (0xFFFD, 1)
  else if bt l 0 / 8 == 30 && ct l 1 && ct l 2 && ct l 3 then
    if (bt l 0 % 8) * 262144 + (bt l 1 % 64) * 4096 + (bt l 2 % 64) * 64 + bt l 3 % 64 ≥ 0x10000 && Utf8.valid ((bt l 0 % 8) * 262144 + (bt l 1 % 64) * 4096 + (bt l 2 % 64) * 64 + bt l 3 % 64 : Nat) then
      ((bt l 0 % 8) * 262144 + (bt l 1 % 64) * 4096 + (bt l 2 % 64) * 64 + bt l 3 % 64, 4) else (0xFFFD, 1)
  else (0xFFFD, 1)

theorem get_drop (s : List UInt8) (i k : Nat) : ((⟨s.toArray⟩ : ByteArray).get! (i + k)).toNat = bt (s.drop i) k := by
  show ((s.toArray)[i + k]!).toNat = _
  unfold bt
  rw [List.getD_eq_getElem?_getD, List.getElem?_drop]
  rw [getElem!_def, List.getElem?_toArray]
  cases s[i + k]? <;> rfl

theorem decode_dec (s : List UInt8) (i : Nat) : Utf8.decode ⟨s.toArray⟩ i = dec (s.drop i) := by
  have hc : ∀ k, (decide (i + k < (⟨s.toArray⟩ : ByteArray).size) && bt (s.drop i) k / 64 == 2) = ct (s.drop i) k := fun k => by
    unfold ct
    congr 1
    rw [Bool.eq_iff_iff]
    simp only [decide_eq_true_eq, List.length_drop]
    show i + k < s.length ↔ _
    omega
  unfold Utf8.decode dec
  simp only [get_drop, hc]
  rfl

theorem dec1 (b0 : UInt8) (y : List UInt8) (h : b0.toNat < 0x80) : dec (b0 :: y) = (b0.toNat, 1) := by
  simp [dec, bt, h]
theorem dec2 (b0 b1 : UInt8) (y : List UInt8) (h0 : b0.toNat / 32 = 6) (h1 : b1.toNat / 64 = 2) (hc : 0x80 ≤ (b0.toNat % 32) * 64 + b1.toNat % 64) :
    dec (b0 :: b1 :: y) = ((b0.toNat % 32) * 64 + b1.toNat % 64, 2) := by
  have h : ¬ b0.toNat < 128 := by omega
  simp [dec, bt, ct, h, h0, h1, hc]
theorem dec3 (b0 b1 b2 : UInt8) (y : List UInt8) (h0 : b0.toNat / 16 = 14) (h1 : b1.toNat / 64 = 2) (h2 : b2.toNat / 64 = 2) (hc : 0x800 ≤ (b0.toNat % 16) * 4096 + (b1.toNat % 64) * 64 + b2.toNat % 64)
    (hv : Utf8.valid ((b0.toNat % 16) * 4096 + (b1.toNat % 64) * 64 + b2.toNat % 64 : Nat) = true) :
    dec (b0 :: b1 :: b2 :: y) = ((b0.toNat % 16) * 4096 + (b1.toNat % 64) * 64 + b2.toNat % 64, 3) := by
  have h : ¬ b0.toNat < 128 := by omega
  have h' : ¬ b0.toNat / 32 = 6 := by omega
  simp only [dec, bt, ct, List.getD_cons_zero, List.getD_cons_succ, List.length_cons, h, h', if_false, h0, h1, h2, hv, hc]
  simp [h', h0, h1, h2]
theorem dec4 (b0 b1 b2 b3 : UInt8) (y : List UInt8) (h0 : b0.toNat / 8 = 30) (h1 : b1.toNat / 64 = 2) (h2 : b2.toNat / 64 = 2) (h3 : b3.toNat / 64 = 2)
    (hc : 0x10000 ≤ (b0.toNat % 8) * 262144 + (b1.toNat % 64) * 4096 + (b2.toNat % 64) * 64 + b3.toNat % 64)
    (hv : Utf8.valid ((b0.toNat % 8) * 262144 + (b1.toNat % 64) * 4096 + (b2.toNat % 64) * 64 + b3.toNat % 64 : Nat) = true) :
    dec (b0 :: b1 :: b2 :: b3 :: y) = ((b0.toNat % 8) * 262144 + (b1.toNat % 64) * 4096 + (b2.toNat % 64) * 64 + b3.toNat % 64, 4) := by
  have h : ¬ b0.toNat < 128 := by omega
  have h' : ¬ b0.toNat / 32 = 6 := by omega
  have h'' : ¬ b0.toNat / 16 = 14 := by omega
  simp only [dec, bt, ct, List.getD_cons_zero, List.getD_cons_succ, List.length_cons, h, h', if_false, h0, h1, h2, h3, hv, hc]
  simp [h', h'', h0, h1, h2, h3]

/-- What a string that is not empty begins with. -/
inductive Head : List UInt8 → List UInt8 → Nat → Prop
  | one (b0 : UInt8) (y) : b0.toNat < 0x80 → Head (b0 :: y) [b0] b0.toNat
  | two (b0 b1 : UInt8) (y) : b0.toNat / 32 = 6 → b1.toNat / 64 = 2 → 0x80 ≤ (b0.toNat % 32) * 64 + b1.toNat % 64 → Head (b0 :: b1 :: y) [b0, b1] ((b0.toNat % 32) * 64 + b1.toNat % 64)
  | three (b0 b1 b2 : UInt8) (y) : b0.toNat / 16 = 14 → b1.toNat / 64 = 2 → b2.toNat / 64 = 2 → 0x800 ≤ (b0.toNat % 16) * 4096 + (b1.toNat % 64) * 64 + b2.toNat % 64 →
      Utf8.valid ((b0.toNat % 16) * 4096 + (b1.toNat % 64) * 64 + b2.toNat % 64 : Nat) = true → Head (b0 :: b1 :: b2 :: y) [b0, b1, b2] ((b0.toNat % 16) * 4096 + (b1.toNat % 64) * 64 + b2.toNat % 64)
  | four (b0 b1 b2 b3 : UInt8) (y) : b0.toNat / 8 = 30 → b1.toNat / 64 = 2 → b2.toNat / 64 = 2 → b3.toNat / 64 = 2 →
      0x10000 ≤ (b0.toNat % 8) * 262144 + (b1.toNat % 64) * 4096 + (b2.toNat % 64) * 64 + b3.toNat % 64 →
      Utf8.valid ((b0.toNat % 8) * 262144 + (b1.toNat % 64) * 4096 + (b2.toNat % 64) * 64 + b3.toNat % 64 : Nat) = true →
      Head (b0 :: b1 :: b2 :: b3 :: y) [b0, b1, b2, b3] ((b0.toNat % 8) * 262144 + (b1.toNat % 64) * 4096 + (b2.toNat % 64) * 64 + b3.toNat % 64)

theorem ct_cons (b : UInt8) (l : List UInt8) (k : Nat) : ct (b :: l) (k + 1) = ct l k := by
  simp [ct, bt]
theorem ct_zero (l : List UInt8) (h : ct l 0 = true) : ∃ b y, l = b :: y ∧ b.toNat / 64 = 2 := by
  cases l with
  | nil => simp [ct] at h
  | cons b y => exact ⟨b, y, rfl, by simpa [ct, bt] using h⟩

theorem dec_cases (b0 : UInt8) (t : List UInt8) : dec (b0 :: t) = (0xFFFD, 1) ∨ ∃ u c, Head (b0 :: t) u c := by
  have e0 : bt (b0 :: t) 0 = b0.toNat := rfl
  unfold dec
  rw [e0]
  by_cases h : b0.toNat < 0x80
  · exact .inr ⟨_, _, .one b0 t h⟩
  rw [if_neg h]
  by_cases h2 : (b0.toNat / 32 == 6 && ct (b0 :: t) 1) = true
  · rw [if_pos h2]
    split
    · rename_i hc
      simp only [Bool.and_eq_true, beq_iff_eq, ct_cons] at h2
      obtain ⟨b1, y, rfl, h1⟩ := ct_zero t h2.2
      exact .inr ⟨_, _, .two b0 b1 y h2.1 h1 hc⟩
    · exact .inl rfl
  rw [if_neg h2]
  by_cases h3 : (b0.toNat / 16 == 14 && ct (b0 :: t) 1 && ct (b0 :: t) 2) = true
  · rw [if_pos h3]
    split
    · rename_i hc
      simp only [Bool.and_eq_true, beq_iff_eq, ct_cons, decide_eq_true_eq] at h3 hc
      obtain ⟨b1, y, rfl, h1⟩ := ct_zero t h3.1.2
      rw [show (1 : Nat) = 0 + 1 from rfl, ct_cons] at h3
      obtain ⟨b2, y, rfl, h2'⟩ := ct_zero y h3.2
      exact .inr ⟨_, _, .three b0 b1 b2 y h3.1.1 h1 h2' hc.1 hc.2⟩
    · exact .inl rfl
  rw [if_neg h3]
  by_cases h4 : (b0.toNat / 8 == 30 && ct (b0 :: t) 1 && ct (b0 :: t) 2 && ct (b0 :: t) 3) = true
  · rw [if_pos h4]
    split
    · rename_i hc
      simp only [Bool.and_eq_true, beq_iff_eq, ct_cons, decide_eq_true_eq] at h4 hc
      obtain ⟨b1, y, rfl, h1⟩ := ct_zero t h4.1.1.2
      rw [show (1 : Nat) = 0 + 1 from rfl, show (2 : Nat) = 1 + 1 from rfl, ct_cons, ct_cons] at h4
      obtain ⟨b2, y, rfl, h2'⟩ := ct_zero y h4.1.2
      rw [show (1 : Nat) = 0 + 1 from rfl, ct_cons] at h4
      obtain ⟨b3, y, rfl, h3'⟩ := ct_zero y h4.2
      exact .inr ⟨_, _, .four b0 b1 b2 b3 y h4.1.1.1 h1 h2' h3' hc.1 hc.2⟩
    · exact .inl rfl
  · rw [if_neg h4]; exact .inl rfl

theorem Head.split {l u : List UInt8} {c : Nat} (h : Head l u c) : u ≠ [] ∧ ∃ y, l = u ++ y := by
  cases h <;> exact ⟨by simp, _, rfl⟩
theorem Head.dec {l u : List UInt8} {c : Nat} (h : Head l u c) (y : List UInt8) : dec (u ++ y) = (c, u.length) := by
  cases h with
  | one b0 _ h => exact dec1 b0 y h
  | two b0 b1 _ h0 h1 hc => exact dec2 b0 b1 y h0 h1 hc
  | three b0 b1 b2 _ h0 h1 h2 hc hv => exact dec3 b0 b1 b2 y h0 h1 h2 hc hv
  | four b0 b1 b2 b3 _ h0 h1 h2 h3 hc hv => exact dec4 b0 b1 b2 b3 y h0 h1 h2 h3 hc hv
theorem Head.len {l u : List UInt8} {c : Nat} (h : Head l u c) : 1 ≤ u.length ∧ u.length ≤ 4 := by
  cases h <;> simp

theorem uofNat (b : UInt8) (n : Nat) (h : n = b.toNat) : UInt8.ofNat n = b := by subst h; exact UInt8.ofNat_toNat

theorem Head.encode {l u : List UInt8} {c : Nat} (h : Head l u c) : (Utf8.encode (c : Int)).data.toList = u := by
  cases h with
  | one b0 y h =>
    have hv : Utf8.valid (b0.toNat : Int) = true := by simp [Utf8.valid]; omega
    simp only [Utf8.encode, hv, if_true, Int.toNat_natCast, h, UInt8.ofNat_toNat]
  | two b0 b1 y h0 h1 hc =>
    have hb0 := b0.toNat_lt
    have hb1 := b1.toNat_lt
    have hv : Utf8.valid (((b0.toNat % 32) * 64 + b1.toNat % 64 : Nat) : Int) = true := by simp [Utf8.valid]; omega
    simp only [Utf8.encode, hv, if_true, Int.toNat_natCast]
    rw [if_neg (by omega), if_pos (by omega), uofNat b0 _ (by omega), uofNat b1 _ (by omega)]
  | three b0 b1 b2 y h0 h1 h2 hc hv =>
    have hb0 := b0.toNat_lt
    have hb1 := b1.toNat_lt
    have hb2 := b2.toNat_lt
    simp only [Utf8.encode, hv, if_true, Int.toNat_natCast]
    rw [if_neg (by omega), if_neg (by omega), if_pos (by omega), uofNat b0 _ (by omega), uofNat b1 _ (by omega), uofNat b2 _ (by omega)]
  | four b0 b1 b2 b3 y h0 h1 h2 h3 hc hv =>
    have hb0 := b0.toNat_lt
    have hb1 := b1.toNat_lt
    have hb2 := b2.toNat_lt
    have hb3 := b3.toNat_lt
    simp only [Utf8.encode, hv, if_true, Int.toNat_natCast]
    rw [if_neg (by omega), if_neg (by omega), if_neg (by omega), uofNat b0 _ (by omega), uofNat b1 _ (by omega), uofNat b2 _ (by omega), uofNat b3 _ (by omega)]

def whole (l : List UInt8) : Bool := decide (3 ≤ l.length) && l.take 3 == [0xef, 0xbf, 0xbd]
def good (l : List UInt8) : Bool := !((dec l).1 == 0 || ((dec l).1 == 0xFFFD && !whole l))

/-- A good unit: whatever follows, it is what a code point is read from, and it may be. -/
def Un (u : List UInt8) (c : Nat) : Prop := u ≠ [] ∧ u.length ≤ 4 ∧ (∀ y, dec (u ++ y) = (c, u.length) ∧ good (u ++ y) = true) ∧ (Utf8.encode (c : Int)).data.toList = u ∧ c ≤ 0x10FFFF ∧ c ≠ 0

theorem valid_le {c : Nat} (h : Utf8.valid (c : Int) = true) : c ≤ 0x10FFFF := by
  simp [Utf8.valid] at h; omega

theorem unit_of_good (b0 : UInt8) (t : List UInt8) (hg : good (b0 :: t) = true) : ∃ u c y, b0 :: t = u ++ y ∧ Un u c := by
  rcases dec_cases b0 t with hd | ⟨u, c, hh⟩
  · simp only [good, hd] at hg
    have hw : whole (b0 :: t) = true := by simpa using hg
    exfalso
    simp only [whole, Bool.and_eq_true, decide_eq_true_eq, beq_iff_eq] at hw
    match t, hw with
    | [], hw => simp at hw
    | [_], hw => simp at hw
    | b1 :: b2 :: y, hw =>
      have h3 : b0 = 0xef ∧ b1 = 0xbf ∧ b2 = 0xbd := by simpa using hw.2
      obtain ⟨rfl, rfl, rfl⟩ := h3
      rw [dec3 _ _ _ y (by decide) (by decide) (by decide) (by decide) (by decide)] at hd
      simp at hd
  · obtain ⟨hne, y, hy⟩ := hh.split
    have hd := fun z => hh.dec z
    refine ⟨u, c, y, hy, hne, hh.len.2, fun z => ⟨hd z, ?_⟩, hh.encode, ?_, ?_⟩
    · rw [hy] at hg
      simp only [good, hd, Bool.not_eq_true', Bool.or_eq_false_iff, beq_eq_false_iff_ne, ne_eq] at hg ⊢
      refine ⟨hg.1, ?_⟩
      by_cases hc : c = 0xFFFD
      · have hwy : whole (u ++ y) = true := by simpa [hc] using hg.2
        have h3 : u.length = 3 ∨ whole (u ++ z) = true := by
          cases hh with
          | one b0 _ h => exfalso; omega
          | two b0 b1 _ h0 h1 hcc => exfalso; omega
          | three b0 b1 b2 _ h0 h1 h2 hcc hv => exact .inl rfl
          | four b0 b1 b2 b3 _ h0 h1 h2 h3 hcc hv => exfalso; omega
        rcases h3 with h3 | h3
        · have : whole (u ++ z) = true := by
            simp only [whole, Bool.and_eq_true, decide_eq_true_eq, beq_iff_eq] at hwy ⊢
            refine ⟨by simp; omega, ?_⟩
            rw [List.take_append_of_le_length (by omega)] at hwy ⊢
            exact hwy.2
          simp [this]
        · simp [h3]
      · simp [hc]
    · cases hh with
      | one b0 _ h => omega
      | two b0 b1 _ h0 h1 hcc => omega
      | three b0 b1 b2 _ h0 h1 h2 hcc hv => exact valid_le hv
      | four b0 b1 b2 b3 _ h0 h1 h2 h3 hcc hv => exact valid_le hv
    · intro hc
      rw [hy] at hg
      simp [good, hd, hc] at hg

/-- The units that a string begins with, and what is behind. -/
def units : Nat → List UInt8 → List (List UInt8 × Nat) × List UInt8
  | 0, l => ([], l)
  | _ + 1, [] => ([], [])
  | n + 1, b :: t => if good (b :: t) = true then (((b :: t).take (dec (b :: t)).2, (dec (b :: t)).1) :: (units n ((b :: t).drop (dec (b :: t)).2)).1, (units n ((b :: t).drop (dec (b :: t)).2)).2) else ([], b :: t)

def joined (us : List (List UInt8 × Nat)) : List UInt8 := (us.map Prod.fst).flatten
theorem joined_nil : joined [] = [] := rfl
theorem joined_cons (u : List UInt8 × Nat) (us) : joined (u :: us) = u.1 ++ joined us := rfl
theorem joined_append (us vs) : joined (us ++ vs) = joined us ++ joined vs := by simp [joined]

def Stop (r : List UInt8) : Prop := r = [] ∨ good r = false
def Units (us : List (List UInt8 × Nat)) : Prop := ∀ p ∈ us, Un p.1 p.2

theorem units_spec : ∀ (n : Nat) (l : List UInt8), l.length ≤ n → Units (units n l).1 ∧ Stop (units n l).2 ∧ l = joined (units n l).1 ++ (units n l).2
  | 0, l, h => by
    have : l = [] := by simpa using h
    subst this
    exact ⟨by simp [units, Units], .inl rfl, rfl⟩
  | n + 1, [], _ => ⟨by simp [units, Units], .inl rfl, rfl⟩
  | n + 1, b :: t, h => by
    unfold units
    by_cases hg : good (b :: t) = true
    · rw [if_pos hg]
      obtain ⟨u, c, y, hy, hu⟩ := unit_of_good b t hg
      have hd : dec (b :: t) = (c, u.length) := by rw [hy]; exact (hu.2.2.1 y).1
      have h1 : (b :: t).take u.length = u := by rw [hy]; simp
      have h2 : (b :: t).drop u.length = y := by rw [hy]; simp
      have hl : y.length ≤ n := by
        have : (b :: t).length = u.length + y.length := by rw [hy]; simp
        have h0 : u.length ≠ 0 := fun e => hu.1 (List.length_eq_zero_iff.1 e)
        simp only [List.length_cons] at this h
        omega
      obtain ⟨i1, i2, i3⟩ := units_spec n y hl
      simp only [hd, h1, h2]
      refine ⟨?_, i2, ?_⟩
      · intro p hp
        rcases List.mem_cons.1 hp with rfl | hp
        · exact hu
        · exact i1 p hp
      · rw [hy, joined_cons, List.append_assoc, ← i3]
    · rw [if_neg hg]
      exact ⟨by simp [Units], .inr (by simpa using hg), rfl⟩

theorem units_of : ∀ (us : List (List UInt8 × Nat)) (r : List UInt8) (n : Nat), Units us → Stop r → (joined us ++ r).length ≤ n → units n (joined us ++ r) = (us, r)
  | [], r, 0, _, _, h => by
    have : r = [] := by
      rw [joined_nil, List.nil_append] at h
      exact List.length_eq_zero_iff.1 (by omega)
    subst this; rfl
  | [], [], n + 1, _, _, _ => rfl
  | [], b :: t, n + 1, _, hs, h => by
    have hg : good (b :: t) = false := by rcases hs with h | h; cases h; exact h
    show units (n + 1) (b :: t) = _
    simp [units, hg]
  | u :: us, r, n, hu, hs, h => by
    have h1 := hu u (List.mem_cons_self ..)
    have hus : Units us := fun p hp => hu p (List.mem_cons_of_mem _ hp)
    rw [joined_cons, List.append_assoc] at h ⊢
    obtain ⟨hd, hg⟩ := h1.2.2.1 (joined us ++ r)
    have h0 : u.1.length ≠ 0 := fun e => h1.1 (List.length_eq_zero_iff.1 e)
    match n, h with
    | 0, h => rw [List.length_append] at h; omega
    | n + 1, h =>
      have hne : ∃ b t, u.1 ++ (joined us ++ r) = b :: t := by
        cases hu1 : u.1 with
        | nil => exact absurd hu1 h1.1
        | cons b t => exact ⟨b, t ++ (joined us ++ r), rfl⟩
      obtain ⟨b, t, hbt⟩ := hne
      have hun : units (n + 1) (u.1 ++ (joined us ++ r)) = (((u.1 ++ (joined us ++ r)).take (dec (u.1 ++ (joined us ++ r))).2, (dec (u.1 ++ (joined us ++ r))).1) :: (units n ((u.1 ++ (joined us ++ r)).drop (dec (u.1 ++ (joined us ++ r))).2)).1, (units n ((u.1 ++ (joined us ++ r)).drop (dec (u.1 ++ (joined us ++ r))).2)).2) := by
        rw [hbt] at hg ⊢
        simp only [units, hg, if_true]
      rw [hun, hd]
      simp only [List.take_left', List.drop_left']
      rw [units_of us r n hus hs (by simp only [List.length_append] at h ⊢; omega)]

/-- The first place at which there is no good unit. -/
def pts (l : List UInt8) : List (List UInt8 × Nat) := (units l.length l).1
def rst (l : List UInt8) : List UInt8 := (units l.length l).2
def bad (l : List UInt8) : Int := if rst l = [] then -1 else (joined (pts l)).length

theorem pts_spec (l : List UInt8) : Units (pts l) ∧ Stop (rst l) ∧ l = joined (pts l) ++ rst l := units_spec _ l (Nat.le_refl _)
theorem pts_of (us : List (List UInt8 × Nat)) (r : List UInt8) (hu : Units us) (hs : Stop r) : pts (joined us ++ r) = us ∧ rst (joined us ++ r) = r := by
  have := units_of us r _ hu hs (Nat.le_refl _)
  unfold pts rst
  rw [this]
  exact ⟨rfl, rfl⟩

theorem bad_range (l : List UInt8) : -1 ≤ bad l ∧ bad l ≤ l.length := by
  have h := (pts_spec l).2.2
  have hl : l.length = (joined (pts l)).length + (rst l).length := by rw [← List.length_append, ← h]
  unfold bad
  split <;> omega

theorem bad_neg (l : List UInt8) : bad l = -1 ↔ rst l = [] := by
  unfold bad
  split
  · simp [*]
  · constructor
    · intro h; omega
    · intro h; contradiction

theorem append_of (a b : List UInt8) (h : rst a = []) : pts (a ++ b) = pts a ++ pts b ∧ rst (a ++ b) = rst b := by
  obtain ⟨a1, a2, a3⟩ := pts_spec a
  obtain ⟨b1, b2, b3⟩ := pts_spec b
  have e : a ++ b = joined (pts a ++ pts b) ++ rst b := by
    rw [joined_append, List.append_assoc, ← b3]
    conv => lhs; rw [a3, h, List.append_nil]
  have := pts_of (pts a ++ pts b) (rst b) (fun p hp => by rcases List.mem_append.1 hp with hp | hp; exact a1 p hp; exact b1 p hp) b2
  rw [← e] at this
  exact this

end Go.Ax

/-
Code points by the document: where one is read, and where none is.
-/
import Derived.Test.YtidlbhppbopjjaaUst0
namespace Go.Ax
set_option linter.unusedVariables false
set_option linter.unusedSimpArgs false

/-- The code point that begins a text, its bytes; (0, 0): none does. -/
def pnt (l : List UInt8) : Nat × Nat := if dec l = (0xFFFD, 1) then (0, 0) else dec l

theorem dec_le (l : List UInt8) : (dec l).2 ≤ 4 := by
  unfold dec
  repeat' split
  all_goals simp

theorem Head.c_le {l u : List UInt8} {c : Nat} (h : Head l u c) : c ≤ 0x10FFFF := by
  cases h with
  | one b0 _ h => omega
  | two b0 b1 _ h0 h1 hc => omega
  | three b0 b1 b2 _ h0 h1 h2 hc hv => exact Go.Ax.valid_le hv
  | four b0 b1 b2 b3 _ h0 h1 h2 h3 hc hv => exact Go.Ax.valid_le hv

theorem enc_fffd : (Utf8.encode ((0xFFFD : Nat) : Int)).data.toList = [0xef, 0xbf, 0xbd] := by decide

theorem pnt_good (l : List UInt8) (hl : l ≠ []) (hg : good l = true) : pnt l = dec l ∧ (dec l).1 ≠ 0 ∧ (dec l).2 ≠ 0 := by
  obtain ⟨b0, t, rfl⟩ := List.exists_cons_of_ne_nil hl
  obtain ⟨u, c, y, e, hu⟩ := unit_of_good b0 t hg
  rw [e]
  obtain ⟨hd, _⟩ := hu.2.2.1 y
  have h0 : u.length ≠ 0 := fun e => hu.1 (List.length_eq_zero_iff.1 e)
  rw [hd]
  refine ⟨?_, hu.2.2.2.2.2, h0⟩
  unfold pnt
  rw [hd, if_neg]
  intro he
  simp only [Prod.mk.injEq] at he
  have := hu.2.2.2.1
  rw [he.1, enc_fffd] at this
  rw [← this] at he
  simp at he

theorem pnt_bad (l : List UInt8) (hl : l ≠ []) (hg : good l = false) : (pnt l).1 = 0 ∨ (pnt l).2 = 0 := by
  obtain ⟨b0, t, rfl⟩ := List.exists_cons_of_ne_nil hl
  unfold pnt
  rcases dec_cases b0 t with hd | ⟨u, c, hh⟩
  · rw [if_pos hd]; exact .inl rfl
  · by_cases hd : dec (b0 :: t) = (0xFFFD, 1)
    · rw [if_pos hd]; exact .inl rfl
    · rw [if_neg hd]
      simp only [good, Bool.not_eq_false', Bool.or_eq_true, Bool.and_eq_true, beq_iff_eq, Bool.not_eq_true'] at hg
      rcases hg with h | ⟨h1, h2⟩
      · exact .inl h
      · exfalso
        obtain ⟨_, y, hy⟩ := hh.split
        have hdd := hh.dec y
        rw [← hy] at hdd
        rw [hdd] at h1
        have henc := hh.encode
        rw [show c = 0xFFFD from h1, enc_fffd] at henc
        rw [hy, ← henc] at h2
        simp [whole] at h2

theorem ct_drop (l : List UInt8) (k j : Nat) : ct (l.drop k) j = ct l (k + j) := by
  unfold ct bt
  rw [List.length_drop, List.getD_eq_getElem?_getD, List.getD_eq_getElem?_getD, List.getElem?_drop]
  congr 1
  exact decide_eq_decide.2 (by omega)
theorem bt_drop (l : List UInt8) (k j : Nat) : bt (l.drop k) j = bt l (k + j) := by
  unfold bt
  rw [List.getD_eq_getElem?_getD, List.getD_eq_getElem?_getD, List.getElem?_drop]
theorem bt_lt (l : List UInt8) (k : Nat) : bt l k < 256 := by
  unfold bt
  exact UInt8.toNat_lt _
theorem ct_bt {l : List UInt8} {k : Nat} (h : ct l k = true) : 128 ≤ bt l k ∧ bt l k ≤ 191 := by
  unfold ct at h
  simp only [Bool.and_eq_true, beq_iff_eq] at h
  have := bt_lt l k
  omega

theorem pnt_eq (l : List UInt8) : pnt l =
    if bt l 0 < 0x80 then (bt l 0, 1)
    else if bt l 0 / 32 == 6 && ct l 1 then
      if (bt l 0 % 32) * 64 + bt l 1 % 64 ≥ 0x80 then ((bt l 0 % 32) * 64 + bt l 1 % 64, 2) else (0, 0)
    else if bt l 0 / 16 == 14 && ct l 1 && ct l 2 then
      if (bt l 0 % 16) * 4096 + (bt l 1 % 64) * 64 + bt l 2 % 64 ≥ 0x800 && Utf8.valid ((bt l 0 % 16) * 4096 + (bt l 1 % 64) * 64 + bt l 2 % 64 : Nat) then
        ((bt l 0 % 16) * 4096 + (bt l 1 % 64) * 64 + bt l 2 % 64, 3) else (0, 0)
    else if bt l 0 / 8 == 30 && ct l 1 && ct l 2 && ct l 3 then
      if (bt l 0 % 8) * 262144 + (bt l 1 % 64) * 4096 + (bt l 2 % 64) * 64 + bt l 3 % 64 ≥ 0x10000 && Utf8.valid ((bt l 0 % 8) * 262144 + (bt l 1 % 64) * 4096 + (bt l 2 % 64) * 64 + bt l 3 % 64 : Nat) then
        ((bt l 0 % 8) * 262144 + (bt l 1 % 64) * 4096 + (bt l 2 % 64) * 64 + bt l 3 % 64, 4) else (0, 0)
    else (0, 0) := by
  unfold pnt dec
  by_cases h0 : bt l 0 < 0x80
  · rw [if_pos h0, if_pos h0, if_neg (by simp only [Prod.mk.injEq]; omega)]
  rw [if_neg h0, if_neg h0]
  by_cases h1 : (bt l 0 / 32 == 6 && ct l 1) = true
  · rw [if_pos h1, if_pos h1]
    split <;> simp_all
  rw [if_neg h1, if_neg h1]
  by_cases h2 : (bt l 0 / 16 == 14 && ct l 1 && ct l 2) = true
  · rw [if_pos h2, if_pos h2]
    split <;> simp_all
  rw [if_neg h2, if_neg h2]
  by_cases h3 : (bt l 0 / 8 == 30 && ct l 1 && ct l 2 && ct l 3) = true
  · rw [if_pos h3, if_pos h3]
    split <;> simp_all
  rw [if_neg h3, if_neg h3]
  simp

/-- The byte that goes on at a place: whether, and its low six bits. -/
def moreB (s : List UInt8) (p : Int) : Bool := ct s p.toNat
def moreN (s : List UInt8) (p : Int) : Int := if ct s p.toNat = true then (bt s p.toNat : Int) - 128 else 0
def pntN (s : List UInt8) (p : Int) : Int := ((pnt (s.drop p.toNat)).1 : Nat)
def pntZ (s : List UInt8) (p : Int) : Int := ((pnt (s.drop p.toNat)).2 : Nat)

end Go.Ax

/-
Chapter 1: what Put, Get and Pick come to.
-/
import Derived.Test.YtidlbhppbopjjaaAxF
import Derived.Test.YtidlbhppbopjjaaAxS
import Derived.Test.YtidlbhppbopjjaaChecked
namespace Go.Ax
set_option linter.unusedVariables false
set_option linter.unusedSimpArgs false

/-- The lowest s bytes of a number, the highest first. -/
def putL (n : Int) (s : Nat) : List UInt8 := (List.range s).map fun j => UInt8.ofNat (n / 256 ^ (s - 1 - j) % 256).toNat

/-- Put's bytes, after i rounds. -/
def putAt (n : Int) (s i : Nat) : List Int := (List.range s).map fun j => if s - 1 - j < i then n / 256 ^ (s - 1 - j) % 256 else 0

theorem putAt_length (n : Int) (s i : Nat) : (putAt n s i).length = s := by simp [putAt]

theorem putAt_zero (n : Int) (s : Nat) : putAt n s 0 = List.replicate s 0 := by
  apply List.ext_getElem
  · simp [putAt]
  · intro j h1 h2
    simp [putAt]

theorem putAt_succ (n : Int) (s i : Nat) (hi : i < s) : (putAt n s i).set (s - 1 - i) (n / 256 ^ i % 256) = putAt n s (i + 1) := by
  apply List.ext_getElem
  · simp [putAt]
  · intro j h1 h2
    simp only [putAt_length] at h2
    rw [List.getElem_set]
    simp only [putAt, List.getElem_map, List.getElem_range]
    by_cases hj : s - 1 - i = j
    · subst hj
      have : s - 1 - (s - 1 - i) = i := by omega
      simp [this]
    · rw [if_neg hj]
      by_cases hl : s - 1 - j < i
      · rw [if_pos hl, if_pos (by omega)]
      · rw [if_neg hl, if_neg (by omega)]

theorem putAt_high (n : Int) (s i : Nat) (h0 : 0 ≤ n) (hn : n < 18446744073709551616) (hi : 8 ≤ i) : putAt n s i = putAt n s (i + 1) := by
  apply List.ext_getElem
  · simp [putAt]
  · intro j h1 h2
    simp only [putAt, List.getElem_map, List.getElem_range]
    by_cases hl : s - 1 - j < i
    · rw [if_pos hl, if_pos (by omega)]
    · rw [if_neg hl]
      split
      · rename_i h
        have : s - 1 - j = i := by omega
        rw [this]
        have h8 : (18446744073709551616 : Int) ≤ 256 ^ i := by
          have h1 : 256 ^ 8 ≤ 256 ^ i := Nat.pow_le_pow_right (n := 256) (by omega) hi
          have h2 : ((256 ^ 8 : Nat) : Int) ≤ ((256 ^ i : Nat) : Int) := Int.ofNat_le.2 h1
          rw [Int.natCast_pow, Int.natCast_pow] at h2
          exact h2
        have : n / 256 ^ i = 0 := Int.ediv_eq_zero_of_lt h0 (Int.lt_of_lt_of_le hn h8)
        rw [this]; rfl
      · rfl

theorem putAt_done (n : Int) (s : Nat) : (putAt n s s).map (fun n => UInt8.ofNat n.toNat) = putL n s := by
  apply List.ext_getElem
  · simp [putAt, putL]
  · intro j h1 h2
    simp only [putAt, putL, List.getElem_map, List.getElem_range]
    rw [if_pos (by simp [putL] at h2; omega)]

theorem shr_byte (n : Int) (i : Nat) (hi : i < 8) (h0 : 0 ≤ n) : n.fdiv (2 ^ ((8 * (i : Int)).toNat.min IntKind.u64.bits)) = n / 256 ^ i := by
  have e : (8 * (i : Int)).toNat.min IntKind.u64.bits = 8 * i := by
    have : (8 * (i : Int)).toNat = 8 * i := by omega
    rw [this]
    show min (8 * i) 64 = 8 * i
    omega
  rw [e]
  have h2 : ((2 : Int) ^ (8 * i)) = 256 ^ i := by
    have h1 : (2 : Nat) ^ (8 * i) = 256 ^ i := by rw [Nat.pow_mul]
    have h2 : (((2 : Nat) ^ (8 * i) : Nat) : Int) = ((256 ^ i : Nat) : Int) := congrArg _ h1
    rw [Int.natCast_pow, Int.natCast_pow] at h2
    exact h2
  rw [h2, Int.fdiv_eq_ediv_of_nonneg]
  exact Int.le_of_lt (Int.pow_pos (by decide))

/-- The number that the last eight bytes are. -/
def getN (l : List UInt8) : Nat := l.foldl (fun a b => a * 256 + b.toNat) 0
def getL (l : List UInt8) : Nat := getN (l.drop (l.length - 8))

theorem getN_append (l : List UInt8) (b : UInt8) : getN (l ++ [b]) = getN l * 256 + b.toNat := by simp [getN]

theorem getN_lt : ∀ (k : Nat) (l : List UInt8), l.length = k → getN l < 256 ^ k
  | 0, l, h => by
    have : l = [] := by simpa using h
    subst this; simp [getN]
  | k + 1, l, h => by
    have hne : l ≠ [] := by intro e; subst e; simp at h
    rw [← List.dropLast_concat_getLast hne, getN_append]
    have := getN_lt k l.dropLast (by simp [h])
    have hb := (l.getLast hne).toNat_lt
    rw [Nat.pow_succ]
    omega

theorem or_byte (x : Nat) (b : UInt8) (hx : x * 256 + 255 < 18446744073709551616) : bitsA .or .u64 (IntKind.u64.wrap ((x : Int) * 2 ^ (8 : Int).toNat.min IntKind.u64.bits)) (b.toNat : Int) = ((x * 256 + b.toNat : Nat) : Int) := by
  have hb := b.toNat_lt
  have e : (8 : Int).toNat.min IntKind.u64.bits = 8 := rfl
  rw [e]
  have e2 : ((2 : Int) ^ 8) = 256 := by decide
  rw [e2, wu64 _ (by omega) (by omega)]
  show IntKind.u64.wrap ((BitVec.ofInt 64 ((x : Int) * 256) ||| BitVec.ofInt 64 (b.toNat : Int)).toNat : Int) = _
  have h1 : BitVec.ofInt 64 ((x : Int) * 256) = BitVec.ofNat 64 (x * 256) := by
    apply BitVec.eq_of_toNat_eq
    rw [BitVec.toNat_ofInt, BitVec.toNat_ofNat]
    omega
  have h2 : BitVec.ofInt 64 (b.toNat : Int) = BitVec.ofNat 64 b.toNat := by
    apply BitVec.eq_of_toNat_eq
    rw [BitVec.toNat_ofInt, BitVec.toNat_ofNat]
    omega
  have p64 : (2 : Nat) ^ 64 = 18446744073709551616 := by rfl
  have m1 : x * 256 % 2 ^ 64 = x * 256 := by rw [p64]; exact Nat.mod_eq_of_lt (Nat.lt_of_le_of_lt (Nat.le_add_right _ _) hx)
  have m2 : b.toNat % 2 ^ 64 = b.toNat := by rw [p64]; exact Nat.mod_eq_of_lt (Nat.lt_trans hb (by decide))
  rw [h1, h2, BitVec.toNat_or, BitVec.toNat_ofNat, BitVec.toNat_ofNat, m1, m2]
  have h3 : x * 256 ||| b.toNat = x * 256 + b.toNat := by
    have := Nat.shiftLeft_add_eq_or_of_lt (i := 8) (b := b.toNat) (by simpa using hb) x
    rw [Nat.shiftLeft_eq] at this
    simpa using this.symm
  rw [h3]
  exact wu64 _ (by omega) (by omega)

/-- Put's bytes of a natural number, from the last one on. -/
def putN (n : Nat) : Nat → List UInt8
  | 0 => []
  | k + 1 => putN (n / 256) k ++ [UInt8.ofNat (n % 256)]

theorem putN_length (n k : Nat) : (putN n k).length = k := by
  induction k generalizing n with
  | zero => rfl
  | succ k ih => simp [putN, ih]

theorem putL_putN (n k : Nat) : putL (n : Int) k = putN n k := by
  induction k generalizing n with
  | zero => simp [putL, putN]
  | succ k ih =>
    rw [putN, ← ih]
    simp only [putL]
    rw [List.range_succ, List.map_append]
    congr 1
    · apply List.map_congr_left
      intro j hj
      have hj' : j < k := by simpa using hj
      have e : k + 1 - 1 - j = (k - 1 - j) + 1 := by omega
      rw [e]
      have e2 : (n : Int) / 256 ^ (k - 1 - j + 1) = ((n / 256 : Nat) : Int) / 256 ^ (k - 1 - j) := by
        have hp : (256 : Int) ^ (k - 1 - j + 1) = ((256 ^ (k - 1 - j + 1) : Nat) : Int) := by rw [Int.natCast_pow]; rfl
        have hq : (256 : Int) ^ (k - 1 - j) = ((256 ^ (k - 1 - j) : Nat) : Int) := by rw [Int.natCast_pow]; rfl
        rw [hp, hq, ← Int.natCast_ediv, ← Int.natCast_ediv, Nat.pow_succ, Nat.mul_comm, Nat.div_div_eq_div_mul]
      rw [e2]
    · simp only [List.map_cons, List.map_nil, List.cons.injEq, and_true]
      have e : k + 1 - 1 - k = 0 := by omega
      rw [e]
      simp only [Int.pow_zero, Int.ediv_one]
      have : ((n : Int) % 256).toNat = n % 256 := by omega
      rw [this]

theorem getN_putN (n k : Nat) : getN (putN n k) = n % 256 ^ k := by
  induction k generalizing n with
  | zero => simp [putN, getN, Nat.mod_one]
  | succ k ih =>
    have e : (UInt8.ofNat (n % 256)).toNat = n % 256 := by
      simp
    rw [putN, getN_append, ih, e, Nat.pow_succ, Nat.mul_comm (256 ^ k) 256]
    rw [Nat.mod_mul, Nat.mul_comm (n / 256 % 256 ^ k) 256]
    omega

theorem putN_getN : ∀ (k : Nat) (s : List UInt8), s.length = k → putN (getN s) k = s
  | 0, s, h => by
    have : s = [] := by simpa using h
    subst this; rfl
  | k + 1, s, h => by
    have hne : s ≠ [] := by intro e; subst e; simp at h
    have hs := List.dropLast_concat_getLast hne
    have hl : s.dropLast.length = k := by simp [h]
    have hb := (s.getLast hne).toNat_lt
    conv => rhs; rw [← hs]
    have hg : getN s = getN s.dropLast * 256 + (s.getLast hne).toNat := by
      conv => lhs; rw [← hs]
      rw [getN_append]
    have h1 : getN s / 256 = getN s.dropLast := by omega
    have h2 : getN s % 256 = (s.getLast hne).toNat := by omega
    rw [putN, h1, h2, putN_getN k _ hl]
    congr 2
    exact UInt8.toNat_inj.1 (by simp)

theorem getN_foldl (l : List UInt8) : ∀ x : Nat, l.foldl (fun a b => a * 256 + b.toNat) x = x * 256 ^ l.length + getN l := by
  induction l with
  | nil => intro x; simp [getN]
  | cons b l ih =>
    intro x
    simp only [List.foldl_cons, getN, List.length_cons]
    rw [ih, ih (0 * 256 + b.toNat), Nat.pow_succ, Nat.zero_mul, Nat.zero_add, Nat.add_mul, Nat.mul_comm (256 ^ l.length) 256, Nat.mul_assoc]
    omega

theorem getN_cons (b : UInt8) (l : List UInt8) : getN (b :: l) = b.toNat * 256 ^ l.length + getN l := by
  show (b :: l).foldl (fun a b => a * 256 + b.toNat) 0 = _
  rw [List.foldl_cons, getN_foldl]
  simp

theorem getN_inj : ∀ (a b : List UInt8), a.length = b.length → getN a = getN b → a = b
  | [], [], _, _ => rfl
  | [], _ :: _, h, _ => by simp at h
  | _ :: _, [], h, _ => by simp at h
  | x :: a, y :: b, h, hg => by
    have hl : a.length = b.length := by simpa using h
    rw [getN_cons, getN_cons, hl] at hg
    have ha := getN_lt _ a rfl
    have hb := getN_lt _ b rfl
    rw [hl] at ha
    have hxy : x.toNat = y.toNat := by
      have h1 : (x.toNat * 256 ^ b.length + getN a) / 256 ^ b.length = x.toNat := by
        rw [Nat.mul_comm, Nat.mul_add_div (Nat.pow_pos (by decide)), Nat.div_eq_of_lt ha]; omega
      have h2 : (y.toNat * 256 ^ b.length + getN b) / 256 ^ b.length = y.toNat := by
        rw [Nat.mul_comm, Nat.mul_add_div (Nat.pow_pos (by decide)), Nat.div_eq_of_lt hb]; omega
      rw [← h1, ← h2, hg]
    have hab : getN a = getN b := by rw [hxy] at hg; omega
    rw [UInt8.toNat_inj.1 hxy, getN_inj a b hl hab]

theorem bytesLt_getN : ∀ (a b : List UInt8), a.length = b.length → bytesLt a b = decide (getN a < getN b)
  | [], [], _ => by simp [bytesLt, getN]
  | [], _ :: _, h => by simp at h
  | _ :: _, [], h => by simp at h
  | x :: a, y :: b, h => by
    have hl : a.length = b.length := by simpa using h
    rw [bytesLt, bytesLt_getN a b hl, getN_cons, getN_cons, hl]
    have ha := getN_lt _ a rfl
    have hb := getN_lt _ b rfl
    rw [hl] at ha
    generalize 256 ^ b.length = p at *
    rw [Bool.eq_iff_iff]
    simp only [Bool.or_eq_true, decide_eq_true_eq, Bool.and_eq_true, beq_iff_eq]
    constructor
    · rintro (h1 | ⟨rfl, h1⟩)
      · have : x.toNat + 1 ≤ y.toNat := h1
        have := Nat.mul_le_mul_right p this
        rw [Nat.add_mul] at this
        omega
      · omega
    · intro h1
      rcases Nat.lt_trichotomy x.toNat y.toNat with h2 | h2 | h2
      · exact .inl h2
      · exact .inr ⟨UInt8.toNat_inj.1 h2, by rw [h2] at h1; omega⟩
      · have : y.toNat + 1 ≤ x.toNat := h2
        have := Nat.mul_le_mul_right p this
        rw [Nat.add_mul] at this
        omega

theorem eq_getN (a b : List UInt8) (h : a.length = b.length) : (a == b) = decide (getN a = getN b) := by
  rw [Bool.eq_iff_iff]
  simp only [beq_iff_eq, decide_eq_true_eq]
  exact ⟨fun e => by rw [e], getN_inj a b h⟩

theorem mask_and (n k : Nat) (hn : n < 18446744073709551616) (hk : k ≤ 8) : bitsA .and .u64 (n : Int) ((256 ^ k - 1 : Nat) : Int) = ((n % 256 ^ k : Nat) : Int) := by
  have hp : 256 ^ k ≤ 256 ^ 8 := Nat.pow_le_pow_right (by omega) hk
  have h8 : (256 : Nat) ^ 8 = 18446744073709551616 := by rfl
  rw [h8] at hp
  show IntKind.u64.wrap ((BitVec.ofInt 64 (n : Int) &&& BitVec.ofInt 64 ((256 ^ k - 1 : Nat) : Int)).toNat : Int) = _
  have h1 : ∀ x : Nat, BitVec.ofInt 64 (x : Int) = BitVec.ofNat 64 x := fun x => by
    apply BitVec.eq_of_toNat_eq
    rw [BitVec.toNat_ofInt, BitVec.toNat_ofNat]
    omega
  have p64 : (2 : Nat) ^ 64 = 18446744073709551616 := by rfl
  have m1 : n % 2 ^ 64 = n := by rw [p64]; exact Nat.mod_eq_of_lt hn
  have m2 : (256 ^ k - 1) % 2 ^ 64 = 256 ^ k - 1 := by rw [p64]; exact Nat.mod_eq_of_lt (Nat.lt_of_lt_of_le (Nat.sub_lt (Nat.pow_pos (by decide)) (by decide)) hp)
  rw [h1, h1, BitVec.toNat_and, BitVec.toNat_ofNat, BitVec.toNat_ofNat, m1, m2]
  have h3 : n &&& (256 ^ k - 1) = n % 256 ^ k := by
    have e : (256 : Nat) ^ k = 2 ^ (8 * k) := by rw [Nat.pow_mul]
    rw [e, Nat.and_two_pow_sub_one_eq_mod]
  rw [h3]
  have hlt : n % 256 ^ k ≤ n := Nat.mod_le _ _
  exact wu64 _ (Int.natCast_nonneg _) (by clear p64 h8 h1 m1 m2 h3; omega)

def pickL (n m : Int) : Int := if m < 1 then 0 else if n.tmod m < 0 then n.tmod m + m else n.tmod m

end Go.Ax

namespace Go.Proofs.Ytidlbhppbopjjaa.Ax
open Go.Ax
set_option linter.unusedVariables false
set_option linter.unusedSimpArgs false
set_option maxRecDepth 1000000
variable {T : FuncId → Option (List AV → AHeap → Option (AV × AHeap))}

/-! ### Put -/

theorem put_low (call : ACall) (R : Nat) (n : Int) (s i : Nat) (out : List Int) (h0 : 0 ≤ n) (hs : s ≤ 16) (hi : i < s) (hl : out.length = s) (h8 : i < 8) :
    ∃ fr, aCode call R 0 f14_L0 (f14_S0 (.int .u64 n) (.int .i64 s) (.slice 0 0 s 1) (.int .i64 s) (.int .i64 i)) [.cells (ints .u8 out)] =
      some (.normal, fr, [.cells (ints .u8 (out.set (s - 1 - i) (n / 256 ^ i % 256)))]) ∧ mask f14_M0 fr = f14_S0 (.int .u64 n) (.int .i64 s) (.slice 0 0 s 1) (.int .i64 s) (.int .i64 ((i + 1 : Nat) : Int)) := by
  have hsh := shr_byte n i h8 h0
  have ht : ((s : Int) - 1 - (i : Int)).toNat = s - 1 - i := by omega
  simp (maxSteps := 10000000) (disch := omega) only [f14_L0, f14_S0, aCode_skip, aCode_ret, aCode_exit, aCode_ops, aCode_quiet, aCode_seq, aCode_cond, aCode_block, aCode_loop, aOps_nil, aOps_cons, aQuiet_nil, aQuiet_cons, obind_some, obind_none, sel_true, sel_false, outK_val, outK_skip, outK_call, quietK_val, quietK_call, condK_bool, normK_normal, normK_exit, normK_ret, blockK_normal, blockK_ret, blockK_exit, endK_normal, endK_ret, callR_eq, ev_t, ev_c, put_some, put_none, wantK_t, wantK_f, row_eq, wantK_undef, wantedA_none, wantedA_some, ptrK_ptr, strK_str, intK_int, aggK_agg, tupK_tuple, funK_func, cellsK_some, iterK_some, rowO_cells, rowO_ro, aOp_mov, aOp_pick, aOp_new, aOp_box, aOp_build, aOp_buildSlice, aOp_load1, aOp_loadN, aOp_store, aOp_nilCheck, aOp_bin, aOp_not, aOp_conv, aOp_b2s, notStr_slice, notStr_nil, aOp_i2s, aOp_mkfunc, aOp_mkslice, aOp_substr, aOp_subslice, aOp_fieldAddr, aOp_field1, aOp_fieldN, aOp_indexAddr, aOp_indexStr, aOp_range, aOp_next, aOp_extract, aOp_call, aOp_lenS, aOp_len, lenK_slice, lenK_nil, aOp_append, sliceK_slice, sliceK_nil, i64K_int, aOp_min, aOp_max, aMin_int, aMax_int, bin_add, bin_sub, bin_mul, bin_quo, bin_rem, bin_eql, bin_neq, bin_lss, bin_leq, bin_gtr, bin_geq, bin_shl, bin_shr, bin_and, bin_or, bin_xor, bin_andNot, bin_sadd, bin_seql, bin_sneq, bin_slss, bin_beql, bin_bneq, bin_peql0, bin_pneq0, bin_peql1, bin_pneq1, bin_peql2, bin_pneq2, bin_agg_eql, bin_agg_neq, boundD_none, boundD_some, cells_bool, cells_int, cells_str, cells_agg, cells_ptr, cells_slice, cells_func, cells_nilptr, cells_nilslice, cells_nilFunc, AV.undef, List.length_cons, List.length_nil, Nat.reduceAdd, Nat.reduceSub, List.replicate_succ, List.replicate_zero, List.cons_append, List.nil_append, getD_0, set_0, getD_1, set_1, getD_2, set_2, getD_3, set_3, getD_4, set_4, getD_5, set_5, getD_6, set_6, getD_7, set_7, getD_8, set_8, getD_9, set_9, getD_10, set_10, getD_11, set_11, getD_12, set_12, getD_13, set_13, getD_14, set_14, getD_15, set_15, getD_16, set_16, List.map_cons, List.map_nil, Option.map_some, Option.map_none, true_or, or_true, false_or, or_false, reduceIte, reduceCtorEq, if_pos, if_neg, decide_eq_true, decide_eq_false, w64, wu64, ints_length, strs_length, ints_get, strs_get, List.getElem?_cons_zero, List.getElem?_cons_succ, splice_ints, splice, List.all_cons, List.all_nil, AV.one, and_true, true_and, and_false, false_and, Bool.and_true, Bool.true_and, Bool.and_false, Bool.false_and, Nat.zero_add, Nat.add_zero, Nat.mul_one, Bool.not_true, Bool.not_false, Bool.false_eq_true, beq_self_eq_true, still_mov, free_mov, still_pick, free_pick, still_build, free_build, still_load1, free_load1, still_loadN, free_loadN, still_nilCheck, free_nilCheck, still_bin, free_bin, still_not, free_not, still_conv, free_conv, still_b2s, free_b2s, still_i2s, free_i2s, still_mkfunc, free_mkfunc, still_substr, free_substr, still_subslice, free_subslice, still_fieldAddr, free_fieldAddr, still_field1, free_field1, still_fieldN, free_fieldN, still_indexAddr, free_indexAddr, still_indexStr, free_indexStr, still_extract, free_extract, still_call, free_call, still_lenS, free_lenS, still_len, free_len, still_min, free_min, still_max, free_max, det_bool, det_int, det_str, det_nilptr, det_ptr, det_nilslice, det_nilFunc, det_slice, det_agg, det_tuple, scalar_bool, scalar_int, scalar_str, scalar_nilptr, scalar_ptr, scalar_nilslice, scalar_nilFunc, scalar_slice, scalar_agg, scalar_tuple, dets_nil, dets_cons, scalars_nil, scalars_cons, or_t, or_f, and_t, and_f, not_t, not_f, toRo_cells, toRo_ro, toRo_iter, toRo_dead, cellsK_nil, cellsK_slice, cellsK_str, Bool.or_true, Bool.true_or, Bool.or_false, Bool.false_or, ge_iff_le, gt_iff_lt, ↓obind_some, ↓obind_none, ↓sel_true, ↓sel_false, ↓outK_val, ↓outK_skip, ↓outK_call, ↓quietK_val, ↓quietK_call, ↓condK_bool, ↓normK_normal, ↓normK_exit, ↓normK_ret, ↓blockK_normal, ↓blockK_ret, ↓blockK_exit, ↓endK_normal, ↓endK_ret, ↓ptrK_ptr, ↓strK_str, ↓intK_int, ↓aggK_agg, ↓tupK_tuple, ↓funK_func, ↓cellsK_some, ↓iterK_some, ↓sliceK_slice, ↓sliceK_nil, ↓i64K_int, hl, hsh, ht, wu8]
  exact ⟨_, rfl, rfl⟩

theorem put_high (call : ACall) (R : Nat) (n : Int) (s i : Nat) (out : List Int) (hs : s ≤ 16) (hi : i < s) (hl : out.length = s) (h8 : ¬ i < 8) :
    ∃ fr, aCode call R 0 f14_L0 (f14_S0 (.int .u64 n) (.int .i64 s) (.slice 0 0 s 1) (.int .i64 s) (.int .i64 i)) [.cells (ints .u8 out)] =
      some (.normal, fr, [.cells (ints .u8 out)]) ∧ mask f14_M0 fr = f14_S0 (.int .u64 n) (.int .i64 s) (.slice 0 0 s 1) (.int .i64 s) (.int .i64 ((i + 1 : Nat) : Int)) := by
  simp (maxSteps := 10000000) (disch := omega) only [f14_L0, f14_S0, aCode_skip, aCode_ret, aCode_exit, aCode_ops, aCode_quiet, aCode_seq, aCode_cond, aCode_block, aCode_loop, aOps_nil, aOps_cons, aQuiet_nil, aQuiet_cons, obind_some, obind_none, sel_true, sel_false, outK_val, outK_skip, outK_call, quietK_val, quietK_call, condK_bool, normK_normal, normK_exit, normK_ret, blockK_normal, blockK_ret, blockK_exit, endK_normal, endK_ret, callR_eq, ev_t, ev_c, put_some, put_none, wantK_t, wantK_f, row_eq, wantK_undef, wantedA_none, wantedA_some, ptrK_ptr, strK_str, intK_int, aggK_agg, tupK_tuple, funK_func, cellsK_some, iterK_some, rowO_cells, rowO_ro, aOp_mov, aOp_pick, aOp_new, aOp_box, aOp_build, aOp_buildSlice, aOp_load1, aOp_loadN, aOp_store, aOp_nilCheck, aOp_bin, aOp_not, aOp_conv, aOp_b2s, notStr_slice, notStr_nil, aOp_i2s, aOp_mkfunc, aOp_mkslice, aOp_substr, aOp_subslice, aOp_fieldAddr, aOp_field1, aOp_fieldN, aOp_indexAddr, aOp_indexStr, aOp_range, aOp_next, aOp_extract, aOp_call, aOp_lenS, aOp_len, lenK_slice, lenK_nil, aOp_append, sliceK_slice, sliceK_nil, i64K_int, aOp_min, aOp_max, aMin_int, aMax_int, bin_add, bin_sub, bin_mul, bin_quo, bin_rem, bin_eql, bin_neq, bin_lss, bin_leq, bin_gtr, bin_geq, bin_shl, bin_shr, bin_and, bin_or, bin_xor, bin_andNot, bin_sadd, bin_seql, bin_sneq, bin_slss, bin_beql, bin_bneq, bin_peql0, bin_pneq0, bin_peql1, bin_pneq1, bin_peql2, bin_pneq2, bin_agg_eql, bin_agg_neq, boundD_none, boundD_some, cells_bool, cells_int, cells_str, cells_agg, cells_ptr, cells_slice, cells_func, cells_nilptr, cells_nilslice, cells_nilFunc, AV.undef, List.length_cons, List.length_nil, Nat.reduceAdd, Nat.reduceSub, List.replicate_succ, List.replicate_zero, List.cons_append, List.nil_append, getD_0, set_0, getD_1, set_1, getD_2, set_2, getD_3, set_3, getD_4, set_4, getD_5, set_5, getD_6, set_6, getD_7, set_7, getD_8, set_8, getD_9, set_9, getD_10, set_10, getD_11, set_11, getD_12, set_12, getD_13, set_13, getD_14, set_14, getD_15, set_15, getD_16, set_16, List.map_cons, List.map_nil, Option.map_some, Option.map_none, true_or, or_true, false_or, or_false, reduceIte, reduceCtorEq, if_pos, if_neg, decide_eq_true, decide_eq_false, w64, wu64, ints_length, strs_length, ints_get, strs_get, List.getElem?_cons_zero, List.getElem?_cons_succ, splice_ints, splice, List.all_cons, List.all_nil, AV.one, and_true, true_and, and_false, false_and, Bool.and_true, Bool.true_and, Bool.and_false, Bool.false_and, Nat.zero_add, Nat.add_zero, Nat.mul_one, Bool.not_true, Bool.not_false, Bool.false_eq_true, beq_self_eq_true, still_mov, free_mov, still_pick, free_pick, still_build, free_build, still_load1, free_load1, still_loadN, free_loadN, still_nilCheck, free_nilCheck, still_bin, free_bin, still_not, free_not, still_conv, free_conv, still_b2s, free_b2s, still_i2s, free_i2s, still_mkfunc, free_mkfunc, still_substr, free_substr, still_subslice, free_subslice, still_fieldAddr, free_fieldAddr, still_field1, free_field1, still_fieldN, free_fieldN, still_indexAddr, free_indexAddr, still_indexStr, free_indexStr, still_extract, free_extract, still_call, free_call, still_lenS, free_lenS, still_len, free_len, still_min, free_min, still_max, free_max, det_bool, det_int, det_str, det_nilptr, det_ptr, det_nilslice, det_nilFunc, det_slice, det_agg, det_tuple, scalar_bool, scalar_int, scalar_str, scalar_nilptr, scalar_ptr, scalar_nilslice, scalar_nilFunc, scalar_slice, scalar_agg, scalar_tuple, dets_nil, dets_cons, scalars_nil, scalars_cons, or_t, or_f, and_t, and_f, not_t, not_f, toRo_cells, toRo_ro, toRo_iter, toRo_dead, cellsK_nil, cellsK_slice, cellsK_str, Bool.or_true, Bool.true_or, Bool.or_false, Bool.false_or, ge_iff_le, gt_iff_lt, ↓obind_some, ↓obind_none, ↓sel_true, ↓sel_false, ↓outK_val, ↓outK_skip, ↓outK_call, ↓quietK_val, ↓quietK_call, ↓condK_bool, ↓normK_normal, ↓normK_exit, ↓normK_ret, ↓blockK_normal, ↓blockK_ret, ↓blockK_exit, ↓endK_normal, ↓endK_ret, ↓ptrK_ptr, ↓strK_str, ↓intK_int, ↓aggK_agg, ↓tupK_tuple, ↓funK_func, ↓cellsK_some, ↓iterK_some, ↓sliceK_slice, ↓sliceK_nil, ↓i64K_int, hl]
  exact ⟨_, rfl, rfl⟩

theorem put_over (call : ACall) (R : Nat) (n : Int) (s : Nat) (out : List Int) (hs : s ≤ 16) :
    ∃ fr, aCode call R 0 f14_L0 (f14_S0 (.int .u64 n) (.int .i64 s) (.slice 0 0 s 1) (.int .i64 s) (.int .i64 s)) [.cells (ints .u8 out)] =
      some (.exit 0, fr, [.cells (ints .u8 out)]) ∧ fr = (f14_S0 (.int .u64 n) (.int .i64 s) (.slice 0 0 s 1) (.int .i64 s) (.int .i64 s)).set 15 (.bool false) := by
  simp (maxSteps := 10000000) (disch := omega) only [f14_L0, f14_S0, aCode_skip, aCode_ret, aCode_exit, aCode_ops, aCode_quiet, aCode_seq, aCode_cond, aCode_block, aCode_loop, aOps_nil, aOps_cons, aQuiet_nil, aQuiet_cons, obind_some, obind_none, sel_true, sel_false, outK_val, outK_skip, outK_call, quietK_val, quietK_call, condK_bool, normK_normal, normK_exit, normK_ret, blockK_normal, blockK_ret, blockK_exit, endK_normal, endK_ret, callR_eq, ev_t, ev_c, put_some, put_none, wantK_t, wantK_f, row_eq, wantK_undef, wantedA_none, wantedA_some, ptrK_ptr, strK_str, intK_int, aggK_agg, tupK_tuple, funK_func, cellsK_some, iterK_some, rowO_cells, rowO_ro, aOp_mov, aOp_pick, aOp_new, aOp_box, aOp_build, aOp_buildSlice, aOp_load1, aOp_loadN, aOp_store, aOp_nilCheck, aOp_bin, aOp_not, aOp_conv, aOp_b2s, notStr_slice, notStr_nil, aOp_i2s, aOp_mkfunc, aOp_mkslice, aOp_substr, aOp_subslice, aOp_fieldAddr, aOp_field1, aOp_fieldN, aOp_indexAddr, aOp_indexStr, aOp_range, aOp_next, aOp_extract, aOp_call, aOp_lenS, aOp_len, lenK_slice, lenK_nil, aOp_append, sliceK_slice, sliceK_nil, i64K_int, aOp_min, aOp_max, aMin_int, aMax_int, bin_add, bin_sub, bin_mul, bin_quo, bin_rem, bin_eql, bin_neq, bin_lss, bin_leq, bin_gtr, bin_geq, bin_shl, bin_shr, bin_and, bin_or, bin_xor, bin_andNot, bin_sadd, bin_seql, bin_sneq, bin_slss, bin_beql, bin_bneq, bin_peql0, bin_pneq0, bin_peql1, bin_pneq1, bin_peql2, bin_pneq2, bin_agg_eql, bin_agg_neq, boundD_none, boundD_some, cells_bool, cells_int, cells_str, cells_agg, cells_ptr, cells_slice, cells_func, cells_nilptr, cells_nilslice, cells_nilFunc, AV.undef, List.length_cons, List.length_nil, Nat.reduceAdd, Nat.reduceSub, List.replicate_succ, List.replicate_zero, List.cons_append, List.nil_append, getD_0, set_0, getD_1, set_1, getD_2, set_2, getD_3, set_3, getD_4, set_4, getD_5, set_5, getD_6, set_6, getD_7, set_7, getD_8, set_8, getD_9, set_9, getD_10, set_10, getD_11, set_11, getD_12, set_12, getD_13, set_13, getD_14, set_14, getD_15, set_15, getD_16, set_16, List.map_cons, List.map_nil, Option.map_some, Option.map_none, true_or, or_true, false_or, or_false, reduceIte, reduceCtorEq, if_pos, if_neg, decide_eq_true, decide_eq_false, w64, wu64, ints_length, strs_length, ints_get, strs_get, List.getElem?_cons_zero, List.getElem?_cons_succ, splice_ints, splice, List.all_cons, List.all_nil, AV.one, and_true, true_and, and_false, false_and, Bool.and_true, Bool.true_and, Bool.and_false, Bool.false_and, Nat.zero_add, Nat.add_zero, Nat.mul_one, Bool.not_true, Bool.not_false, Bool.false_eq_true, beq_self_eq_true, still_mov, free_mov, still_pick, free_pick, still_build, free_build, still_load1, free_load1, still_loadN, free_loadN, still_nilCheck, free_nilCheck, still_bin, free_bin, still_not, free_not, still_conv, free_conv, still_b2s, free_b2s, still_i2s, free_i2s, still_mkfunc, free_mkfunc, still_substr, free_substr, still_subslice, free_subslice, still_fieldAddr, free_fieldAddr, still_field1, free_field1, still_fieldN, free_fieldN, still_indexAddr, free_indexAddr, still_indexStr, free_indexStr, still_extract, free_extract, still_call, free_call, still_lenS, free_lenS, still_len, free_len, still_min, free_min, still_max, free_max, det_bool, det_int, det_str, det_nilptr, det_ptr, det_nilslice, det_nilFunc, det_slice, det_agg, det_tuple, scalar_bool, scalar_int, scalar_str, scalar_nilptr, scalar_ptr, scalar_nilslice, scalar_nilFunc, scalar_slice, scalar_agg, scalar_tuple, dets_nil, dets_cons, scalars_nil, scalars_cons, or_t, or_f, and_t, and_f, not_t, not_f, toRo_cells, toRo_ro, toRo_iter, toRo_dead, cellsK_nil, cellsK_slice, cellsK_str, Bool.or_true, Bool.true_or, Bool.or_false, Bool.false_or, ge_iff_le, gt_iff_lt, ↓obind_some, ↓obind_none, ↓sel_true, ↓sel_false, ↓outK_val, ↓outK_skip, ↓outK_call, ↓quietK_val, ↓quietK_call, ↓condK_bool, ↓normK_normal, ↓normK_exit, ↓normK_ret, ↓blockK_normal, ↓blockK_ret, ↓blockK_exit, ↓endK_normal, ↓endK_ret, ↓ptrK_ptr, ↓strK_str, ↓intK_int, ↓aggK_agg, ↓tupK_tuple, ↓funK_func, ↓cellsK_some, ↓iterK_some, ↓sliceK_slice, ↓sliceK_nil, ↓i64K_int]
  exact ⟨_, rfl, rfl⟩

theorem put_loop (call : ACall) (R : Nat) (n : Int) (s : Nat) (h0 : 0 ≤ n) (hn : n < 18446744073709551616) (hs : s ≤ 16) : ∀ (d k i : Nat) (fr : List AV) (h : AHeap), i + d = s → d < k →
    renorm 0 (mask f14_M0 fr) h = some (f14_S0 (.int .u64 n) (.int .i64 s) (.slice 0 0 s 1) (.int .i64 s) (.int .i64 i), [.cells (ints .u8 (putAt n s i))]) →
    aLoop 0 f14_M0 (fun fr h => aCode call R 0 f14_L0 fr h) k fr h =
      some (.exit 0, (f14_S0 (.int .u64 n) (.int .i64 s) (.slice 0 0 s 1) (.int .i64 s) (.int .i64 s)).set 15 (.bool false), [.cells (ints .u8 (putAt n s s))]) := by
  intro d
  induction d with
  | zero =>
    intro k i fr h hi hk hr
    obtain ⟨k, rfl⟩ : ∃ m, k = m + 1 := ⟨k - 1, by omega⟩
    obtain rfl : i = s := by omega
    rw [aLoop_succ _ _ _ _ _ _ hr]
    obtain ⟨fr', h1, rfl⟩ := put_over call R n i (putAt n i i) hs
    simp only [h1]
  | succ d ih =>
    intro k i fr h hi hk hr
    obtain ⟨k, rfl⟩ : ∃ m, k = m + 1 := ⟨k - 1, by omega⟩
    rw [aLoop_succ _ _ _ _ _ _ hr]
    have hren : ∀ out : List Int, renorm 0 (f14_S0 (.int .u64 n) (.int .i64 s) (.slice 0 0 s 1) (.int .i64 s) (.int .i64 ((i + 1 : Nat) : Int))) [.cells (ints .u8 out)] =
        some (f14_S0 (.int .u64 n) (.int .i64 s) (.slice 0 0 s 1) (.int .i64 s) (.int .i64 ((i + 1 : Nat) : Int)), [.cells (ints .u8 out)]) := fun out => by
      simp [renorm, reach, AV.idss, AV.ids, f14_S0, roots, AObj.ids, idss_ints, keepOk, AV.rens, AV.ren, rho, idx, AObj.ren, rens_ints]
    by_cases h8 : i < 8
    · obtain ⟨fr', h1, h2⟩ := put_low call R n s i (putAt n s i) h0 hs (by omega) (putAt_length n s i) h8
      simp only [h1]
      refine ih k (i + 1) fr' _ (by omega) (by omega) ?_
      rw [h2, putAt_succ n s i (by omega)]
      exact hren _
    · obtain ⟨fr', h1, h2⟩ := put_high call R n s i (putAt n s i) hs (by omega) (putAt_length n s i) h8
      simp only [h1]
      refine ih k (i + 1) fr' _ (by omega) (by omega) ?_
      rw [h2, ← putAt_high n s i h0 hn (by omega)]
      exact hren _

theorem put_run (R n0 : Nat) (hT : T 14 = none) (n size : Int) (h0 : 0 ≤ n) (hn : n < 18446744073709551616) (hR : 20 ≤ R) :
    aFn F T R (n0 + 1) 14 [.int .u64 n, .int .i64 size] [] = some (.str (putL n (min size 16).toNat), []) := by
  by_cases hs : size ≤ 0
  · have e : (min size 16).toNat = 0 := by omega
    simp (maxSteps := 10000000) (disch := omega) only [aFn_run hT (show F 14 = some f14 from rfl), f14, aCode_skip, aCode_ret, aCode_exit, aCode_ops, aCode_quiet, aCode_seq, aCode_cond, aCode_block, aCode_loop, aOps_nil, aOps_cons, aQuiet_nil, aQuiet_cons, obind_some, obind_none, sel_true, sel_false, outK_val, outK_skip, outK_call, quietK_val, quietK_call, condK_bool, normK_normal, normK_exit, normK_ret, blockK_normal, blockK_ret, blockK_exit, endK_normal, endK_ret, callR_eq, ev_t, ev_c, put_some, put_none, wantK_t, wantK_f, row_eq, wantK_undef, wantedA_none, wantedA_some, ptrK_ptr, strK_str, intK_int, aggK_agg, tupK_tuple, funK_func, cellsK_some, iterK_some, rowO_cells, rowO_ro, aOp_mov, aOp_pick, aOp_new, aOp_box, aOp_build, aOp_buildSlice, aOp_load1, aOp_loadN, aOp_store, aOp_nilCheck, aOp_bin, aOp_not, aOp_conv, aOp_b2s, notStr_slice, notStr_nil, aOp_i2s, aOp_mkfunc, aOp_mkslice, aOp_substr, aOp_subslice, aOp_fieldAddr, aOp_field1, aOp_fieldN, aOp_indexAddr, aOp_indexStr, aOp_range, aOp_next, aOp_extract, aOp_call, aOp_lenS, aOp_len, lenK_slice, lenK_nil, aOp_append, sliceK_slice, sliceK_nil, i64K_int, aOp_min, aOp_max, aMin_int, aMax_int, bin_add, bin_sub, bin_mul, bin_quo, bin_rem, bin_eql, bin_neq, bin_lss, bin_leq, bin_gtr, bin_geq, bin_shl, bin_shr, bin_and, bin_or, bin_xor, bin_andNot, bin_sadd, bin_seql, bin_sneq, bin_slss, bin_beql, bin_bneq, bin_peql0, bin_pneq0, bin_peql1, bin_pneq1, bin_peql2, bin_pneq2, bin_agg_eql, bin_agg_neq, boundD_none, boundD_some, cells_bool, cells_int, cells_str, cells_agg, cells_ptr, cells_slice, cells_func, cells_nilptr, cells_nilslice, cells_nilFunc, AV.undef, List.length_cons, List.length_nil, Nat.reduceAdd, Nat.reduceSub, List.replicate_succ, List.replicate_zero, List.cons_append, List.nil_append, getD_0, set_0, getD_1, set_1, getD_2, set_2, getD_3, set_3, getD_4, set_4, getD_5, set_5, getD_6, set_6, getD_7, set_7, getD_8, set_8, getD_9, set_9, getD_10, set_10, getD_11, set_11, getD_12, set_12, getD_13, set_13, getD_14, set_14, getD_15, set_15, getD_16, set_16, List.map_cons, List.map_nil, Option.map_some, Option.map_none, true_or, or_true, false_or, or_false, reduceIte, reduceCtorEq, if_pos, if_neg, decide_eq_true, decide_eq_false, w64, wu64, ints_length, strs_length, ints_get, strs_get, List.getElem?_cons_zero, List.getElem?_cons_succ, splice_ints, splice, List.all_cons, List.all_nil, AV.one, and_true, true_and, and_false, false_and, Bool.and_true, Bool.true_and, Bool.and_false, Bool.false_and, Nat.zero_add, Nat.add_zero, Nat.mul_one, Bool.not_true, Bool.not_false, Bool.false_eq_true, beq_self_eq_true, still_mov, free_mov, still_pick, free_pick, still_build, free_build, still_load1, free_load1, still_loadN, free_loadN, still_nilCheck, free_nilCheck, still_bin, free_bin, still_not, free_not, still_conv, free_conv, still_b2s, free_b2s, still_i2s, free_i2s, still_mkfunc, free_mkfunc, still_substr, free_substr, still_subslice, free_subslice, still_fieldAddr, free_fieldAddr, still_field1, free_field1, still_fieldN, free_fieldN, still_indexAddr, free_indexAddr, still_indexStr, free_indexStr, still_extract, free_extract, still_call, free_call, still_lenS, free_lenS, still_len, free_len, still_min, free_min, still_max, free_max, det_bool, det_int, det_str, det_nilptr, det_ptr, det_nilslice, det_nilFunc, det_slice, det_agg, det_tuple, scalar_bool, scalar_int, scalar_str, scalar_nilptr, scalar_ptr, scalar_nilslice, scalar_nilFunc, scalar_slice, scalar_agg, scalar_tuple, dets_nil, dets_cons, scalars_nil, scalars_cons, or_t, or_f, and_t, and_f, not_t, not_f, toRo_cells, toRo_ro, toRo_iter, toRo_dead, cellsK_nil, cellsK_slice, cellsK_str, Bool.or_true, Bool.true_or, Bool.or_false, Bool.false_or, ge_iff_le, gt_iff_lt, ↓obind_some, ↓obind_none, ↓sel_true, ↓sel_false, ↓outK_val, ↓outK_skip, ↓outK_call, ↓quietK_val, ↓quietK_call, ↓condK_bool, ↓normK_normal, ↓normK_exit, ↓normK_ret, ↓blockK_normal, ↓blockK_ret, ↓blockK_exit, ↓endK_normal, ↓endK_ret, ↓ptrK_ptr, ↓strK_str, ↓intK_int, ↓aggK_agg, ↓tupK_tuple, ↓funK_func, ↓cellsK_some, ↓iterK_some, ↓sliceK_slice, ↓sliceK_nil, ↓i64K_int, e]
    simp [obind_some, resAll, ARes.get, tup, renorm, reach, mask, AV.idss, AV.ids, roots, AObj.ids, idss_ints, idss_strs, keepOk, AV.rens, AV.ren, rho, idx, AObj.ren, rens_ints, rens_strs, putL]
  · obtain ⟨s, hs'⟩ : ∃ s : Nat, (min size 16) = (s : Int) := ⟨(min size 16).toNat, by omega⟩
    have hs16 : s ≤ 16 := by omega
    have hmin : (if (16 : Int) < size then 16 else size) = (s : Int) := by split <;> omega
    have e : (min size 16).toNat = s := by omega
    rw [e]
    have hl := put_loop (aFn F T R n0) R n s h0 hn hs16 s R 0
    simp (maxSteps := 10000000) (disch := omega) only [aFn_run hT (show F 14 = some f14 from rfl), f14, aCode_skip, aCode_ret, aCode_exit, aCode_ops, aCode_quiet, aCode_seq, aCode_cond, aCode_block, aCode_loop, aOps_nil, aOps_cons, aQuiet_nil, aQuiet_cons, obind_some, obind_none, sel_true, sel_false, outK_val, outK_skip, outK_call, quietK_val, quietK_call, condK_bool, normK_normal, normK_exit, normK_ret, blockK_normal, blockK_ret, blockK_exit, endK_normal, endK_ret, callR_eq, ev_t, ev_c, put_some, put_none, wantK_t, wantK_f, row_eq, wantK_undef, wantedA_none, wantedA_some, ptrK_ptr, strK_str, intK_int, aggK_agg, tupK_tuple, funK_func, cellsK_some, iterK_some, rowO_cells, rowO_ro, aOp_mov, aOp_pick, aOp_new, aOp_box, aOp_build, aOp_buildSlice, aOp_load1, aOp_loadN, aOp_store, aOp_nilCheck, aOp_bin, aOp_not, aOp_conv, aOp_b2s, notStr_slice, notStr_nil, aOp_i2s, aOp_mkfunc, aOp_mkslice, aOp_substr, aOp_subslice, aOp_fieldAddr, aOp_field1, aOp_fieldN, aOp_indexAddr, aOp_indexStr, aOp_range, aOp_next, aOp_extract, aOp_call, aOp_lenS, aOp_len, lenK_slice, lenK_nil, aOp_append, sliceK_slice, sliceK_nil, i64K_int, aOp_min, aOp_max, aMin_int, aMax_int, bin_add, bin_sub, bin_mul, bin_quo, bin_rem, bin_eql, bin_neq, bin_lss, bin_leq, bin_gtr, bin_geq, bin_shl, bin_shr, bin_and, bin_or, bin_xor, bin_andNot, bin_sadd, bin_seql, bin_sneq, bin_slss, bin_beql, bin_bneq, bin_peql0, bin_pneq0, bin_peql1, bin_pneq1, bin_peql2, bin_pneq2, bin_agg_eql, bin_agg_neq, boundD_none, boundD_some, cells_bool, cells_int, cells_str, cells_agg, cells_ptr, cells_slice, cells_func, cells_nilptr, cells_nilslice, cells_nilFunc, AV.undef, List.length_cons, List.length_nil, Nat.reduceAdd, Nat.reduceSub, List.replicate_succ, List.replicate_zero, List.cons_append, List.nil_append, getD_0, set_0, getD_1, set_1, getD_2, set_2, getD_3, set_3, getD_4, set_4, getD_5, set_5, getD_6, set_6, getD_7, set_7, getD_8, set_8, getD_9, set_9, getD_10, set_10, getD_11, set_11, getD_12, set_12, getD_13, set_13, getD_14, set_14, getD_15, set_15, getD_16, set_16, List.map_cons, List.map_nil, Option.map_some, Option.map_none, true_or, or_true, false_or, or_false, reduceIte, reduceCtorEq, if_pos, if_neg, decide_eq_true, decide_eq_false, w64, wu64, ints_length, strs_length, ints_get, strs_get, List.getElem?_cons_zero, List.getElem?_cons_succ, splice_ints, splice, List.all_cons, List.all_nil, AV.one, and_true, true_and, and_false, false_and, Bool.and_true, Bool.true_and, Bool.and_false, Bool.false_and, Nat.zero_add, Nat.add_zero, Nat.mul_one, Bool.not_true, Bool.not_false, Bool.false_eq_true, beq_self_eq_true, still_mov, free_mov, still_pick, free_pick, still_build, free_build, still_load1, free_load1, still_loadN, free_loadN, still_nilCheck, free_nilCheck, still_bin, free_bin, still_not, free_not, still_conv, free_conv, still_b2s, free_b2s, still_i2s, free_i2s, still_mkfunc, free_mkfunc, still_substr, free_substr, still_subslice, free_subslice, still_fieldAddr, free_fieldAddr, still_field1, free_field1, still_fieldN, free_fieldN, still_indexAddr, free_indexAddr, still_indexStr, free_indexStr, still_extract, free_extract, still_call, free_call, still_lenS, free_lenS, still_len, free_len, still_min, free_min, still_max, free_max, det_bool, det_int, det_str, det_nilptr, det_ptr, det_nilslice, det_nilFunc, det_slice, det_agg, det_tuple, scalar_bool, scalar_int, scalar_str, scalar_nilptr, scalar_ptr, scalar_nilslice, scalar_nilFunc, scalar_slice, scalar_agg, scalar_tuple, dets_nil, dets_cons, scalars_nil, scalars_cons, or_t, or_f, and_t, and_f, not_t, not_f, toRo_cells, toRo_ro, toRo_iter, toRo_dead, cellsK_nil, cellsK_slice, cellsK_str, Bool.or_true, Bool.true_or, Bool.or_false, Bool.false_or, ge_iff_le, gt_iff_lt, ↓obind_some, ↓obind_none, ↓sel_true, ↓sel_false, ↓outK_val, ↓outK_skip, ↓outK_call, ↓quietK_val, ↓quietK_call, ↓condK_bool, ↓normK_normal, ↓normK_exit, ↓normK_ret, ↓blockK_normal, ↓blockK_ret, ↓blockK_exit, ↓endK_normal, ↓endK_ret, ↓ptrK_ptr, ↓strK_str, ↓intK_int, ↓aggK_agg, ↓tupK_tuple, ↓funK_func, ↓cellsK_some, ↓iterK_some, ↓sliceK_slice, ↓sliceK_nil, ↓i64K_int, hmin, Int.toNat_natCast, flatten_ints]
    rw [hl _ _ (by omega) (by omega) (by simp [mask, f14_M0, renorm, reach, AV.idss, AV.ids, f14_S0, roots, AObj.ids, idss_ints, keepOk, AV.rens, AV.ren, rho, idx, AObj.ren, rens_ints, putAt_zero])]
    have hpl := putAt_length n s s
    simp (maxSteps := 10000000) (disch := omega) only [f14_S0, aCode_skip, aCode_ret, aCode_exit, aCode_ops, aCode_quiet, aCode_seq, aCode_cond, aCode_block, aCode_loop, aOps_nil, aOps_cons, aQuiet_nil, aQuiet_cons, obind_some, obind_none, sel_true, sel_false, outK_val, outK_skip, outK_call, quietK_val, quietK_call, condK_bool, normK_normal, normK_exit, normK_ret, blockK_normal, blockK_ret, blockK_exit, endK_normal, endK_ret, callR_eq, ev_t, ev_c, put_some, put_none, wantK_t, wantK_f, row_eq, wantK_undef, wantedA_none, wantedA_some, ptrK_ptr, strK_str, intK_int, aggK_agg, tupK_tuple, funK_func, cellsK_some, iterK_some, rowO_cells, rowO_ro, aOp_mov, aOp_pick, aOp_new, aOp_box, aOp_build, aOp_buildSlice, aOp_load1, aOp_loadN, aOp_store, aOp_nilCheck, aOp_bin, aOp_not, aOp_conv, aOp_b2s, notStr_slice, notStr_nil, aOp_i2s, aOp_mkfunc, aOp_mkslice, aOp_substr, aOp_subslice, aOp_fieldAddr, aOp_field1, aOp_fieldN, aOp_indexAddr, aOp_indexStr, aOp_range, aOp_next, aOp_extract, aOp_call, aOp_lenS, aOp_len, lenK_slice, lenK_nil, aOp_append, sliceK_slice, sliceK_nil, i64K_int, aOp_min, aOp_max, aMin_int, aMax_int, bin_add, bin_sub, bin_mul, bin_quo, bin_rem, bin_eql, bin_neq, bin_lss, bin_leq, bin_gtr, bin_geq, bin_shl, bin_shr, bin_and, bin_or, bin_xor, bin_andNot, bin_sadd, bin_seql, bin_sneq, bin_slss, bin_beql, bin_bneq, bin_peql0, bin_pneq0, bin_peql1, bin_pneq1, bin_peql2, bin_pneq2, bin_agg_eql, bin_agg_neq, boundD_none, boundD_some, cells_bool, cells_int, cells_str, cells_agg, cells_ptr, cells_slice, cells_func, cells_nilptr, cells_nilslice, cells_nilFunc, AV.undef, List.length_cons, List.length_nil, Nat.reduceAdd, Nat.reduceSub, List.replicate_succ, List.replicate_zero, List.cons_append, List.nil_append, getD_0, set_0, getD_1, set_1, getD_2, set_2, getD_3, set_3, getD_4, set_4, getD_5, set_5, getD_6, set_6, getD_7, set_7, getD_8, set_8, getD_9, set_9, getD_10, set_10, getD_11, set_11, getD_12, set_12, getD_13, set_13, getD_14, set_14, getD_15, set_15, getD_16, set_16, List.map_cons, List.map_nil, Option.map_some, Option.map_none, true_or, or_true, false_or, or_false, reduceIte, reduceCtorEq, if_pos, if_neg, decide_eq_true, decide_eq_false, w64, wu64, ints_length, strs_length, ints_get, strs_get, List.getElem?_cons_zero, List.getElem?_cons_succ, splice_ints, splice, List.all_cons, List.all_nil, AV.one, and_true, true_and, and_false, false_and, Bool.and_true, Bool.true_and, Bool.and_false, Bool.false_and, Nat.zero_add, Nat.add_zero, Nat.mul_one, Bool.not_true, Bool.not_false, Bool.false_eq_true, beq_self_eq_true, still_mov, free_mov, still_pick, free_pick, still_build, free_build, still_load1, free_load1, still_loadN, free_loadN, still_nilCheck, free_nilCheck, still_bin, free_bin, still_not, free_not, still_conv, free_conv, still_b2s, free_b2s, still_i2s, free_i2s, still_mkfunc, free_mkfunc, still_substr, free_substr, still_subslice, free_subslice, still_fieldAddr, free_fieldAddr, still_field1, free_field1, still_fieldN, free_fieldN, still_indexAddr, free_indexAddr, still_indexStr, free_indexStr, still_extract, free_extract, still_call, free_call, still_lenS, free_lenS, still_len, free_len, still_min, free_min, still_max, free_max, det_bool, det_int, det_str, det_nilptr, det_ptr, det_nilslice, det_nilFunc, det_slice, det_agg, det_tuple, scalar_bool, scalar_int, scalar_str, scalar_nilptr, scalar_ptr, scalar_nilslice, scalar_nilFunc, scalar_slice, scalar_agg, scalar_tuple, dets_nil, dets_cons, scalars_nil, scalars_cons, or_t, or_f, and_t, and_f, not_t, not_f, toRo_cells, toRo_ro, toRo_iter, toRo_dead, cellsK_nil, cellsK_slice, cellsK_str, Bool.or_true, Bool.true_or, Bool.or_false, Bool.false_or, ge_iff_le, gt_iff_lt, ↓obind_some, ↓obind_none, ↓sel_true, ↓sel_false, ↓outK_val, ↓outK_skip, ↓outK_call, ↓quietK_val, ↓quietK_call, ↓condK_bool, ↓normK_normal, ↓normK_exit, ↓normK_ret, ↓blockK_normal, ↓blockK_ret, ↓blockK_exit, ↓endK_normal, ↓endK_ret, ↓ptrK_ptr, ↓strK_str, ↓intK_int, ↓aggK_agg, ↓tupK_tuple, ↓funK_func, ↓cellsK_some, ↓iterK_some, ↓sliceK_slice, ↓sliceK_nil, ↓i64K_int, sub?_ints, List.drop_zero, List.take_of_length_le, bytesOf_ints, putAt_done]
    simp [obind_some, resAll, ARes.get, tup, renorm, reach, mask, AV.idss, AV.ids, roots, AObj.ids, idss_ints, idss_strs, keepOk, AV.rens, AV.ren, rho, idx, AObj.ren, rens_ints, rens_strs]

/-! ### Get -/

theorem get_round (call : ACall) (R : Nat) (l : List UInt8) (i : Nat) (x : Nat) (hi : i < l.length) (hl : l.length ≤ 8) (hx : x * 256 + 255 < 18446744073709551616) :
    ∃ fr, aCode call R 0 f15_L0 (f15_S0 (.str l) (.int .u64 x) (.int .i64 l.length) (.int .i64 i)) [] = some (.normal, fr, []) ∧
      mask f15_M0 fr = f15_S0 (.str l) (.int .u64 ((x * 256 + l[i].toNat : Nat) : Int)) (.int .i64 l.length) (.int .i64 ((i + 1 : Nat) : Int)) := by
  have hb := l[i].toNat_lt
  have ho := or_byte x l[i] hx
  have hg : l[(i : Int).toNat]? = some l[i] := by simp [hi]
  simp (maxSteps := 10000000) (disch := omega) only [f15_L0, f15_S0, aCode_skip, aCode_ret, aCode_exit, aCode_ops, aCode_quiet, aCode_seq, aCode_cond, aCode_block, aCode_loop, aOps_nil, aOps_cons, aQuiet_nil, aQuiet_cons, obind_some, obind_none, sel_true, sel_false, outK_val, outK_skip, outK_call, quietK_val, quietK_call, condK_bool, normK_normal, normK_exit, normK_ret, blockK_normal, blockK_ret, blockK_exit, endK_normal, endK_ret, callR_eq, ev_t, ev_c, put_some, put_none, wantK_t, wantK_f, row_eq, wantK_undef, wantedA_none, wantedA_some, ptrK_ptr, strK_str, intK_int, aggK_agg, tupK_tuple, funK_func, cellsK_some, iterK_some, rowO_cells, rowO_ro, aOp_mov, aOp_pick, aOp_new, aOp_box, aOp_build, aOp_buildSlice, aOp_load1, aOp_loadN, aOp_store, aOp_nilCheck, aOp_bin, aOp_not, aOp_conv, aOp_b2s, notStr_slice, notStr_nil, aOp_i2s, aOp_mkfunc, aOp_mkslice, aOp_substr, aOp_subslice, aOp_fieldAddr, aOp_field1, aOp_fieldN, aOp_indexAddr, aOp_indexStr, aOp_range, aOp_next, aOp_extract, aOp_call, aOp_lenS, aOp_len, lenK_slice, lenK_nil, aOp_append, sliceK_slice, sliceK_nil, i64K_int, aOp_min, aOp_max, aMin_int, aMax_int, bin_add, bin_sub, bin_mul, bin_quo, bin_rem, bin_eql, bin_neq, bin_lss, bin_leq, bin_gtr, bin_geq, bin_shl, bin_shr, bin_and, bin_or, bin_xor, bin_andNot, bin_sadd, bin_seql, bin_sneq, bin_slss, bin_beql, bin_bneq, bin_peql0, bin_pneq0, bin_peql1, bin_pneq1, bin_peql2, bin_pneq2, bin_agg_eql, bin_agg_neq, boundD_none, boundD_some, cells_bool, cells_int, cells_str, cells_agg, cells_ptr, cells_slice, cells_func, cells_nilptr, cells_nilslice, cells_nilFunc, AV.undef, List.length_cons, List.length_nil, Nat.reduceAdd, Nat.reduceSub, List.replicate_succ, List.replicate_zero, List.cons_append, List.nil_append, getD_0, set_0, getD_1, set_1, getD_2, set_2, getD_3, set_3, getD_4, set_4, getD_5, set_5, getD_6, set_6, getD_7, set_7, getD_8, set_8, getD_9, set_9, getD_10, set_10, getD_11, set_11, getD_12, set_12, getD_13, set_13, getD_14, set_14, getD_15, set_15, getD_16, set_16, List.map_cons, List.map_nil, Option.map_some, Option.map_none, true_or, or_true, false_or, or_false, reduceIte, reduceCtorEq, if_pos, if_neg, decide_eq_true, decide_eq_false, w64, wu64, ints_length, strs_length, ints_get, strs_get, List.getElem?_cons_zero, List.getElem?_cons_succ, splice_ints, splice, List.all_cons, List.all_nil, AV.one, and_true, true_and, and_false, false_and, Bool.and_true, Bool.true_and, Bool.and_false, Bool.false_and, Nat.zero_add, Nat.add_zero, Nat.mul_one, Bool.not_true, Bool.not_false, Bool.false_eq_true, beq_self_eq_true, still_mov, free_mov, still_pick, free_pick, still_build, free_build, still_load1, free_load1, still_loadN, free_loadN, still_nilCheck, free_nilCheck, still_bin, free_bin, still_not, free_not, still_conv, free_conv, still_b2s, free_b2s, still_i2s, free_i2s, still_mkfunc, free_mkfunc, still_substr, free_substr, still_subslice, free_subslice, still_fieldAddr, free_fieldAddr, still_field1, free_field1, still_fieldN, free_fieldN, still_indexAddr, free_indexAddr, still_indexStr, free_indexStr, still_extract, free_extract, still_call, free_call, still_lenS, free_lenS, still_len, free_len, still_min, free_min, still_max, free_max, det_bool, det_int, det_str, det_nilptr, det_ptr, det_nilslice, det_nilFunc, det_slice, det_agg, det_tuple, scalar_bool, scalar_int, scalar_str, scalar_nilptr, scalar_ptr, scalar_nilslice, scalar_nilFunc, scalar_slice, scalar_agg, scalar_tuple, dets_nil, dets_cons, scalars_nil, scalars_cons, or_t, or_f, and_t, and_f, not_t, not_f, toRo_cells, toRo_ro, toRo_iter, toRo_dead, cellsK_nil, cellsK_slice, cellsK_str, Bool.or_true, Bool.true_or, Bool.or_false, Bool.false_or, ge_iff_le, gt_iff_lt, ↓obind_some, ↓obind_none, ↓sel_true, ↓sel_false, ↓outK_val, ↓outK_skip, ↓outK_call, ↓quietK_val, ↓quietK_call, ↓condK_bool, ↓normK_normal, ↓normK_exit, ↓normK_ret, ↓blockK_normal, ↓blockK_ret, ↓blockK_exit, ↓endK_normal, ↓endK_ret, ↓ptrK_ptr, ↓strK_str, ↓intK_int, ↓aggK_agg, ↓tupK_tuple, ↓funK_func, ↓cellsK_some, ↓iterK_some, ↓sliceK_slice, ↓sliceK_nil, ↓i64K_int, hg, ho]
  exact ⟨_, rfl, rfl⟩

theorem get_over (call : ACall) (R : Nat) (l : List UInt8) (x : Nat) :
    aCode call R 0 f15_L0 (f15_S0 (.str l) (.int .u64 x) (.int .i64 l.length) (.int .i64 l.length)) [] =
      some (.exit 0, (f15_S0 (.str l) (.int .u64 x) (.int .i64 l.length) (.int .i64 l.length)).set 16 (.bool false), []) := by
  simp (maxSteps := 10000000) (disch := omega) only [f15_L0, f15_S0, aCode_skip, aCode_ret, aCode_exit, aCode_ops, aCode_quiet, aCode_seq, aCode_cond, aCode_block, aCode_loop, aOps_nil, aOps_cons, aQuiet_nil, aQuiet_cons, obind_some, obind_none, sel_true, sel_false, outK_val, outK_skip, outK_call, quietK_val, quietK_call, condK_bool, normK_normal, normK_exit, normK_ret, blockK_normal, blockK_ret, blockK_exit, endK_normal, endK_ret, callR_eq, ev_t, ev_c, put_some, put_none, wantK_t, wantK_f, row_eq, wantK_undef, wantedA_none, wantedA_some, ptrK_ptr, strK_str, intK_int, aggK_agg, tupK_tuple, funK_func, cellsK_some, iterK_some, rowO_cells, rowO_ro, aOp_mov, aOp_pick, aOp_new, aOp_box, aOp_build, aOp_buildSlice, aOp_load1, aOp_loadN, aOp_store, aOp_nilCheck, aOp_bin, aOp_not, aOp_conv, aOp_b2s, notStr_slice, notStr_nil, aOp_i2s, aOp_mkfunc, aOp_mkslice, aOp_substr, aOp_subslice, aOp_fieldAddr, aOp_field1, aOp_fieldN, aOp_indexAddr, aOp_indexStr, aOp_range, aOp_next, aOp_extract, aOp_call, aOp_lenS, aOp_len, lenK_slice, lenK_nil, aOp_append, sliceK_slice, sliceK_nil, i64K_int, aOp_min, aOp_max, aMin_int, aMax_int, bin_add, bin_sub, bin_mul, bin_quo, bin_rem, bin_eql, bin_neq, bin_lss, bin_leq, bin_gtr, bin_geq, bin_shl, bin_shr, bin_and, bin_or, bin_xor, bin_andNot, bin_sadd, bin_seql, bin_sneq, bin_slss, bin_beql, bin_bneq, bin_peql0, bin_pneq0, bin_peql1, bin_pneq1, bin_peql2, bin_pneq2, bin_agg_eql, bin_agg_neq, boundD_none, boundD_some, cells_bool, cells_int, cells_str, cells_agg, cells_ptr, cells_slice, cells_func, cells_nilptr, cells_nilslice, cells_nilFunc, AV.undef, List.length_cons, List.length_nil, Nat.reduceAdd, Nat.reduceSub, List.replicate_succ, List.replicate_zero, List.cons_append, List.nil_append, getD_0, set_0, getD_1, set_1, getD_2, set_2, getD_3, set_3, getD_4, set_4, getD_5, set_5, getD_6, set_6, getD_7, set_7, getD_8, set_8, getD_9, set_9, getD_10, set_10, getD_11, set_11, getD_12, set_12, getD_13, set_13, getD_14, set_14, getD_15, set_15, getD_16, set_16, List.map_cons, List.map_nil, Option.map_some, Option.map_none, true_or, or_true, false_or, or_false, reduceIte, reduceCtorEq, if_pos, if_neg, decide_eq_true, decide_eq_false, w64, wu64, ints_length, strs_length, ints_get, strs_get, List.getElem?_cons_zero, List.getElem?_cons_succ, splice_ints, splice, List.all_cons, List.all_nil, AV.one, and_true, true_and, and_false, false_and, Bool.and_true, Bool.true_and, Bool.and_false, Bool.false_and, Nat.zero_add, Nat.add_zero, Nat.mul_one, Bool.not_true, Bool.not_false, Bool.false_eq_true, beq_self_eq_true, still_mov, free_mov, still_pick, free_pick, still_build, free_build, still_load1, free_load1, still_loadN, free_loadN, still_nilCheck, free_nilCheck, still_bin, free_bin, still_not, free_not, still_conv, free_conv, still_b2s, free_b2s, still_i2s, free_i2s, still_mkfunc, free_mkfunc, still_substr, free_substr, still_subslice, free_subslice, still_fieldAddr, free_fieldAddr, still_field1, free_field1, still_fieldN, free_fieldN, still_indexAddr, free_indexAddr, still_indexStr, free_indexStr, still_extract, free_extract, still_call, free_call, still_lenS, free_lenS, still_len, free_len, still_min, free_min, still_max, free_max, det_bool, det_int, det_str, det_nilptr, det_ptr, det_nilslice, det_nilFunc, det_slice, det_agg, det_tuple, scalar_bool, scalar_int, scalar_str, scalar_nilptr, scalar_ptr, scalar_nilslice, scalar_nilFunc, scalar_slice, scalar_agg, scalar_tuple, dets_nil, dets_cons, scalars_nil, scalars_cons, or_t, or_f, and_t, and_f, not_t, not_f, toRo_cells, toRo_ro, toRo_iter, toRo_dead, cellsK_nil, cellsK_slice, cellsK_str, Bool.or_true, Bool.true_or, Bool.or_false, Bool.false_or, ge_iff_le, gt_iff_lt, ↓obind_some, ↓obind_none, ↓sel_true, ↓sel_false, ↓outK_val, ↓outK_skip, ↓outK_call, ↓quietK_val, ↓quietK_call, ↓condK_bool, ↓normK_normal, ↓normK_exit, ↓normK_ret, ↓blockK_normal, ↓blockK_ret, ↓blockK_exit, ↓endK_normal, ↓endK_ret, ↓ptrK_ptr, ↓strK_str, ↓intK_int, ↓aggK_agg, ↓tupK_tuple, ↓funK_func, ↓cellsK_some, ↓iterK_some, ↓sliceK_slice, ↓sliceK_nil, ↓i64K_int]

theorem get_loop (call : ACall) (R : Nat) (l : List UInt8) (hl : l.length ≤ 8) : ∀ (d k i : Nat) (fr : List AV), i + d = l.length → d < k →
    mask f15_M0 fr = f15_S0 (.str l) (.int .u64 (getN (l.take i))) (.int .i64 l.length) (.int .i64 i) →
    aLoop 0 f15_M0 (fun fr h => aCode call R 0 f15_L0 fr h) k fr [] =
      some (.exit 0, (f15_S0 (.str l) (.int .u64 (getN l)) (.int .i64 l.length) (.int .i64 l.length)).set 16 (.bool false), []) := by
  intro d
  induction d with
  | zero =>
    intro k i fr hi hk hm
    obtain ⟨k, rfl⟩ : ∃ m, k = m + 1 := ⟨k - 1, by omega⟩
    obtain rfl : i = l.length := by omega
    rw [aLoop_succ _ _ _ _ _ _ (renorm_small _ _ _ (by simp)), hm, List.take_length]
    simp only [get_over]
  | succ d ih =>
    intro k i fr hi hk hm
    obtain ⟨k, rfl⟩ : ∃ m, k = m + 1 := ⟨k - 1, by omega⟩
    rw [aLoop_succ _ _ _ _ _ _ (renorm_small _ _ _ (by simp)), hm]
    have hlt : getN (l.take i) < 256 ^ i := getN_lt i _ (by simp; omega)
    have h7 : 256 ^ i ≤ 256 ^ 7 := Nat.pow_le_pow_right (by omega) (by omega)
    have h77 : (256 : Nat) ^ 7 = 72057594037927936 := by rfl
    rw [h77] at h7
    obtain ⟨fr', h1, h2⟩ := get_round call R l i (getN (l.take i)) (by omega) hl (by omega)
    simp only [h1]
    refine ih k (i + 1) fr' (by omega) (by omega) ?_
    rw [h2]
    rw [List.take_succ_eq_append_getElem (by omega), getN_append]

theorem get_run (R n0 : Nat) (hT : T 15 = none) (s : List UInt8) (hs : s.length ≤ 4611686018427387904) (hR : 20 ≤ R) :
    aFn F T R (n0 + 1) 15 [.str s] [] = some (.int .u64 (getL s), []) := by
  by_cases h8 : s.length ≤ 8
  · have e : getL s = getN s := by simp [getL, show s.length - 8 = 0 by omega]
    rw [e]
    have hl := get_loop (aFn F T R n0) R s h8 s.length R 0
    simp (maxSteps := 10000000) (disch := omega) only [aFn_run hT (show F 15 = some f15 from rfl), f15, aCode_skip, aCode_ret, aCode_exit, aCode_ops, aCode_quiet, aCode_seq, aCode_cond, aCode_block, aCode_loop, aOps_nil, aOps_cons, aQuiet_nil, aQuiet_cons, obind_some, obind_none, sel_true, sel_false, outK_val, outK_skip, outK_call, quietK_val, quietK_call, condK_bool, normK_normal, normK_exit, normK_ret, blockK_normal, blockK_ret, blockK_exit, endK_normal, endK_ret, callR_eq, ev_t, ev_c, put_some, put_none, wantK_t, wantK_f, row_eq, wantK_undef, wantedA_none, wantedA_some, ptrK_ptr, strK_str, intK_int, aggK_agg, tupK_tuple, funK_func, cellsK_some, iterK_some, rowO_cells, rowO_ro, aOp_mov, aOp_pick, aOp_new, aOp_box, aOp_build, aOp_buildSlice, aOp_load1, aOp_loadN, aOp_store, aOp_nilCheck, aOp_bin, aOp_not, aOp_conv, aOp_b2s, notStr_slice, notStr_nil, aOp_i2s, aOp_mkfunc, aOp_mkslice, aOp_substr, aOp_subslice, aOp_fieldAddr, aOp_field1, aOp_fieldN, aOp_indexAddr, aOp_indexStr, aOp_range, aOp_next, aOp_extract, aOp_call, aOp_lenS, aOp_len, lenK_slice, lenK_nil, aOp_append, sliceK_slice, sliceK_nil, i64K_int, aOp_min, aOp_max, aMin_int, aMax_int, bin_add, bin_sub, bin_mul, bin_quo, bin_rem, bin_eql, bin_neq, bin_lss, bin_leq, bin_gtr, bin_geq, bin_shl, bin_shr, bin_and, bin_or, bin_xor, bin_andNot, bin_sadd, bin_seql, bin_sneq, bin_slss, bin_beql, bin_bneq, bin_peql0, bin_pneq0, bin_peql1, bin_pneq1, bin_peql2, bin_pneq2, bin_agg_eql, bin_agg_neq, boundD_none, boundD_some, cells_bool, cells_int, cells_str, cells_agg, cells_ptr, cells_slice, cells_func, cells_nilptr, cells_nilslice, cells_nilFunc, AV.undef, List.length_cons, List.length_nil, Nat.reduceAdd, Nat.reduceSub, List.replicate_succ, List.replicate_zero, List.cons_append, List.nil_append, getD_0, set_0, getD_1, set_1, getD_2, set_2, getD_3, set_3, getD_4, set_4, getD_5, set_5, getD_6, set_6, getD_7, set_7, getD_8, set_8, getD_9, set_9, getD_10, set_10, getD_11, set_11, getD_12, set_12, getD_13, set_13, getD_14, set_14, getD_15, set_15, getD_16, set_16, List.map_cons, List.map_nil, Option.map_some, Option.map_none, true_or, or_true, false_or, or_false, reduceIte, reduceCtorEq, if_pos, if_neg, decide_eq_true, decide_eq_false, w64, wu64, ints_length, strs_length, ints_get, strs_get, List.getElem?_cons_zero, List.getElem?_cons_succ, splice_ints, splice, List.all_cons, List.all_nil, AV.one, and_true, true_and, and_false, false_and, Bool.and_true, Bool.true_and, Bool.and_false, Bool.false_and, Nat.zero_add, Nat.add_zero, Nat.mul_one, Bool.not_true, Bool.not_false, Bool.false_eq_true, beq_self_eq_true, still_mov, free_mov, still_pick, free_pick, still_build, free_build, still_load1, free_load1, still_loadN, free_loadN, still_nilCheck, free_nilCheck, still_bin, free_bin, still_not, free_not, still_conv, free_conv, still_b2s, free_b2s, still_i2s, free_i2s, still_mkfunc, free_mkfunc, still_substr, free_substr, still_subslice, free_subslice, still_fieldAddr, free_fieldAddr, still_field1, free_field1, still_fieldN, free_fieldN, still_indexAddr, free_indexAddr, still_indexStr, free_indexStr, still_extract, free_extract, still_call, free_call, still_lenS, free_lenS, still_len, free_len, still_min, free_min, still_max, free_max, det_bool, det_int, det_str, det_nilptr, det_ptr, det_nilslice, det_nilFunc, det_slice, det_agg, det_tuple, scalar_bool, scalar_int, scalar_str, scalar_nilptr, scalar_ptr, scalar_nilslice, scalar_nilFunc, scalar_slice, scalar_agg, scalar_tuple, dets_nil, dets_cons, scalars_nil, scalars_cons, or_t, or_f, and_t, and_f, not_t, not_f, toRo_cells, toRo_ro, toRo_iter, toRo_dead, cellsK_nil, cellsK_slice, cellsK_str, Bool.or_true, Bool.true_or, Bool.or_false, Bool.false_or, ge_iff_le, gt_iff_lt, ↓obind_some, ↓obind_none, ↓sel_true, ↓sel_false, ↓outK_val, ↓outK_skip, ↓outK_call, ↓quietK_val, ↓quietK_call, ↓condK_bool, ↓normK_normal, ↓normK_exit, ↓normK_ret, ↓blockK_normal, ↓blockK_ret, ↓blockK_exit, ↓endK_normal, ↓endK_ret, ↓ptrK_ptr, ↓strK_str, ↓intK_int, ↓aggK_agg, ↓tupK_tuple, ↓funK_func, ↓cellsK_some, ↓iterK_some, ↓sliceK_slice, ↓sliceK_nil, ↓i64K_int]
    rw [hl _ (by omega) (by omega) rfl]
    simp (maxSteps := 10000000) (disch := omega) only [f15_S0, aCode_skip, aCode_ret, aCode_exit, aCode_ops, aCode_quiet, aCode_seq, aCode_cond, aCode_block, aCode_loop, aOps_nil, aOps_cons, aQuiet_nil, aQuiet_cons, obind_some, obind_none, sel_true, sel_false, outK_val, outK_skip, outK_call, quietK_val, quietK_call, condK_bool, normK_normal, normK_exit, normK_ret, blockK_normal, blockK_ret, blockK_exit, endK_normal, endK_ret, callR_eq, ev_t, ev_c, put_some, put_none, wantK_t, wantK_f, row_eq, wantK_undef, wantedA_none, wantedA_some, ptrK_ptr, strK_str, intK_int, aggK_agg, tupK_tuple, funK_func, cellsK_some, iterK_some, rowO_cells, rowO_ro, aOp_mov, aOp_pick, aOp_new, aOp_box, aOp_build, aOp_buildSlice, aOp_load1, aOp_loadN, aOp_store, aOp_nilCheck, aOp_bin, aOp_not, aOp_conv, aOp_b2s, notStr_slice, notStr_nil, aOp_i2s, aOp_mkfunc, aOp_mkslice, aOp_substr, aOp_subslice, aOp_fieldAddr, aOp_field1, aOp_fieldN, aOp_indexAddr, aOp_indexStr, aOp_range, aOp_next, aOp_extract, aOp_call, aOp_lenS, aOp_len, lenK_slice, lenK_nil, aOp_append, sliceK_slice, sliceK_nil, i64K_int, aOp_min, aOp_max, aMin_int, aMax_int, bin_add, bin_sub, bin_mul, bin_quo, bin_rem, bin_eql, bin_neq, bin_lss, bin_leq, bin_gtr, bin_geq, bin_shl, bin_shr, bin_and, bin_or, bin_xor, bin_andNot, bin_sadd, bin_seql, bin_sneq, bin_slss, bin_beql, bin_bneq, bin_peql0, bin_pneq0, bin_peql1, bin_pneq1, bin_peql2, bin_pneq2, bin_agg_eql, bin_agg_neq, boundD_none, boundD_some, cells_bool, cells_int, cells_str, cells_agg, cells_ptr, cells_slice, cells_func, cells_nilptr, cells_nilslice, cells_nilFunc, AV.undef, List.length_cons, List.length_nil, Nat.reduceAdd, Nat.reduceSub, List.replicate_succ, List.replicate_zero, List.cons_append, List.nil_append, getD_0, set_0, getD_1, set_1, getD_2, set_2, getD_3, set_3, getD_4, set_4, getD_5, set_5, getD_6, set_6, getD_7, set_7, getD_8, set_8, getD_9, set_9, getD_10, set_10, getD_11, set_11, getD_12, set_12, getD_13, set_13, getD_14, set_14, getD_15, set_15, getD_16, set_16, List.map_cons, List.map_nil, Option.map_some, Option.map_none, true_or, or_true, false_or, or_false, reduceIte, reduceCtorEq, if_pos, if_neg, decide_eq_true, decide_eq_false, w64, wu64, ints_length, strs_length, ints_get, strs_get, List.getElem?_cons_zero, List.getElem?_cons_succ, splice_ints, splice, List.all_cons, List.all_nil, AV.one, and_true, true_and, and_false, false_and, Bool.and_true, Bool.true_and, Bool.and_false, Bool.false_and, Nat.zero_add, Nat.add_zero, Nat.mul_one, Bool.not_true, Bool.not_false, Bool.false_eq_true, beq_self_eq_true, still_mov, free_mov, still_pick, free_pick, still_build, free_build, still_load1, free_load1, still_loadN, free_loadN, still_nilCheck, free_nilCheck, still_bin, free_bin, still_not, free_not, still_conv, free_conv, still_b2s, free_b2s, still_i2s, free_i2s, still_mkfunc, free_mkfunc, still_substr, free_substr, still_subslice, free_subslice, still_fieldAddr, free_fieldAddr, still_field1, free_field1, still_fieldN, free_fieldN, still_indexAddr, free_indexAddr, still_indexStr, free_indexStr, still_extract, free_extract, still_call, free_call, still_lenS, free_lenS, still_len, free_len, still_min, free_min, still_max, free_max, det_bool, det_int, det_str, det_nilptr, det_ptr, det_nilslice, det_nilFunc, det_slice, det_agg, det_tuple, scalar_bool, scalar_int, scalar_str, scalar_nilptr, scalar_ptr, scalar_nilslice, scalar_nilFunc, scalar_slice, scalar_agg, scalar_tuple, dets_nil, dets_cons, scalars_nil, scalars_cons, or_t, or_f, and_t, and_f, not_t, not_f, toRo_cells, toRo_ro, toRo_iter, toRo_dead, cellsK_nil, cellsK_slice, cellsK_str, Bool.or_true, Bool.true_or, Bool.or_false, Bool.false_or, ge_iff_le, gt_iff_lt, ↓obind_some, ↓obind_none, ↓sel_true, ↓sel_false, ↓outK_val, ↓outK_skip, ↓outK_call, ↓quietK_val, ↓quietK_call, ↓condK_bool, ↓normK_normal, ↓normK_exit, ↓normK_ret, ↓blockK_normal, ↓blockK_ret, ↓blockK_exit, ↓endK_normal, ↓endK_ret, ↓ptrK_ptr, ↓strK_str, ↓intK_int, ↓aggK_agg, ↓tupK_tuple, ↓funK_func, ↓cellsK_some, ↓iterK_some, ↓sliceK_slice, ↓sliceK_nil, ↓i64K_int]
    simp [obind_some, resAll, ARes.get, tup, renorm, reach, mask, AV.idss, AV.ids, roots, AObj.ids, idss_ints, idss_strs, keepOk, AV.rens, AV.ren, rho, idx, AObj.ren, rens_ints, rens_strs]
  · have hd : (s.drop (s.length - 8)).length = 8 := by simp; omega
    have hl := get_loop (aFn F T R n0) R (s.drop (s.length - 8)) (by omega) 8 R 0
    have e : getL s = getN (s.drop (s.length - 8)) := rfl
    rw [e]
    have hn : ((s.length : Int) - 8).toNat = s.length - 8 := by omega
    have ht : (s.drop (s.length - 8)).take (s.length - (s.length - 8)) = s.drop (s.length - 8) := List.take_of_length_le (by simp)
    simp (maxSteps := 10000000) (disch := omega) only [aFn_run hT (show F 15 = some f15 from rfl), f15, aCode_skip, aCode_ret, aCode_exit, aCode_ops, aCode_quiet, aCode_seq, aCode_cond, aCode_block, aCode_loop, aOps_nil, aOps_cons, aQuiet_nil, aQuiet_cons, obind_some, obind_none, sel_true, sel_false, outK_val, outK_skip, outK_call, quietK_val, quietK_call, condK_bool, normK_normal, normK_exit, normK_ret, blockK_normal, blockK_ret, blockK_exit, endK_normal, endK_ret, callR_eq, ev_t, ev_c, put_some, put_none, wantK_t, wantK_f, row_eq, wantK_undef, wantedA_none, wantedA_some, ptrK_ptr, strK_str, intK_int, aggK_agg, tupK_tuple, funK_func, cellsK_some, iterK_some, rowO_cells, rowO_ro, aOp_mov, aOp_pick, aOp_new, aOp_box, aOp_build, aOp_buildSlice, aOp_load1, aOp_loadN, aOp_store, aOp_nilCheck, aOp_bin, aOp_not, aOp_conv, aOp_b2s, notStr_slice, notStr_nil, aOp_i2s, aOp_mkfunc, aOp_mkslice, aOp_substr, aOp_subslice, aOp_fieldAddr, aOp_field1, aOp_fieldN, aOp_indexAddr, aOp_indexStr, aOp_range, aOp_next, aOp_extract, aOp_call, aOp_lenS, aOp_len, lenK_slice, lenK_nil, aOp_append, sliceK_slice, sliceK_nil, i64K_int, aOp_min, aOp_max, aMin_int, aMax_int, bin_add, bin_sub, bin_mul, bin_quo, bin_rem, bin_eql, bin_neq, bin_lss, bin_leq, bin_gtr, bin_geq, bin_shl, bin_shr, bin_and, bin_or, bin_xor, bin_andNot, bin_sadd, bin_seql, bin_sneq, bin_slss, bin_beql, bin_bneq, bin_peql0, bin_pneq0, bin_peql1, bin_pneq1, bin_peql2, bin_pneq2, bin_agg_eql, bin_agg_neq, boundD_none, boundD_some, cells_bool, cells_int, cells_str, cells_agg, cells_ptr, cells_slice, cells_func, cells_nilptr, cells_nilslice, cells_nilFunc, AV.undef, List.length_cons, List.length_nil, Nat.reduceAdd, Nat.reduceSub, List.replicate_succ, List.replicate_zero, List.cons_append, List.nil_append, getD_0, set_0, getD_1, set_1, getD_2, set_2, getD_3, set_3, getD_4, set_4, getD_5, set_5, getD_6, set_6, getD_7, set_7, getD_8, set_8, getD_9, set_9, getD_10, set_10, getD_11, set_11, getD_12, set_12, getD_13, set_13, getD_14, set_14, getD_15, set_15, getD_16, set_16, List.map_cons, List.map_nil, Option.map_some, Option.map_none, true_or, or_true, false_or, or_false, reduceIte, reduceCtorEq, if_pos, if_neg, decide_eq_true, decide_eq_false, w64, wu64, ints_length, strs_length, ints_get, strs_get, List.getElem?_cons_zero, List.getElem?_cons_succ, splice_ints, splice, List.all_cons, List.all_nil, AV.one, and_true, true_and, and_false, false_and, Bool.and_true, Bool.true_and, Bool.and_false, Bool.false_and, Nat.zero_add, Nat.add_zero, Nat.mul_one, Bool.not_true, Bool.not_false, Bool.false_eq_true, beq_self_eq_true, still_mov, free_mov, still_pick, free_pick, still_build, free_build, still_load1, free_load1, still_loadN, free_loadN, still_nilCheck, free_nilCheck, still_bin, free_bin, still_not, free_not, still_conv, free_conv, still_b2s, free_b2s, still_i2s, free_i2s, still_mkfunc, free_mkfunc, still_substr, free_substr, still_subslice, free_subslice, still_fieldAddr, free_fieldAddr, still_field1, free_field1, still_fieldN, free_fieldN, still_indexAddr, free_indexAddr, still_indexStr, free_indexStr, still_extract, free_extract, still_call, free_call, still_lenS, free_lenS, still_len, free_len, still_min, free_min, still_max, free_max, det_bool, det_int, det_str, det_nilptr, det_ptr, det_nilslice, det_nilFunc, det_slice, det_agg, det_tuple, scalar_bool, scalar_int, scalar_str, scalar_nilptr, scalar_ptr, scalar_nilslice, scalar_nilFunc, scalar_slice, scalar_agg, scalar_tuple, dets_nil, dets_cons, scalars_nil, scalars_cons, or_t, or_f, and_t, and_f, not_t, not_f, toRo_cells, toRo_ro, toRo_iter, toRo_dead, cellsK_nil, cellsK_slice, cellsK_str, Bool.or_true, Bool.true_or, Bool.or_false, Bool.false_or, ge_iff_le, gt_iff_lt, ↓obind_some, ↓obind_none, ↓sel_true, ↓sel_false, ↓outK_val, ↓outK_skip, ↓outK_call, ↓quietK_val, ↓quietK_call, ↓condK_bool, ↓normK_normal, ↓normK_exit, ↓normK_ret, ↓blockK_normal, ↓blockK_ret, ↓blockK_exit, ↓endK_normal, ↓endK_ret, ↓ptrK_ptr, ↓strK_str, ↓intK_int, ↓aggK_agg, ↓tupK_tuple, ↓funK_func, ↓cellsK_some, ↓iterK_some, ↓sliceK_slice, ↓sliceK_nil, ↓i64K_int, hn, ht]
    rw [hl _ (by omega) (by omega) (by simp [mask, f15_M0, f15_S0, getN])]
    simp (maxSteps := 10000000) (disch := omega) only [f15_S0, aCode_skip, aCode_ret, aCode_exit, aCode_ops, aCode_quiet, aCode_seq, aCode_cond, aCode_block, aCode_loop, aOps_nil, aOps_cons, aQuiet_nil, aQuiet_cons, obind_some, obind_none, sel_true, sel_false, outK_val, outK_skip, outK_call, quietK_val, quietK_call, condK_bool, normK_normal, normK_exit, normK_ret, blockK_normal, blockK_ret, blockK_exit, endK_normal, endK_ret, callR_eq, ev_t, ev_c, put_some, put_none, wantK_t, wantK_f, row_eq, wantK_undef, wantedA_none, wantedA_some, ptrK_ptr, strK_str, intK_int, aggK_agg, tupK_tuple, funK_func, cellsK_some, iterK_some, rowO_cells, rowO_ro, aOp_mov, aOp_pick, aOp_new, aOp_box, aOp_build, aOp_buildSlice, aOp_load1, aOp_loadN, aOp_store, aOp_nilCheck, aOp_bin, aOp_not, aOp_conv, aOp_b2s, notStr_slice, notStr_nil, aOp_i2s, aOp_mkfunc, aOp_mkslice, aOp_substr, aOp_subslice, aOp_fieldAddr, aOp_field1, aOp_fieldN, aOp_indexAddr, aOp_indexStr, aOp_range, aOp_next, aOp_extract, aOp_call, aOp_lenS, aOp_len, lenK_slice, lenK_nil, aOp_append, sliceK_slice, sliceK_nil, i64K_int, aOp_min, aOp_max, aMin_int, aMax_int, bin_add, bin_sub, bin_mul, bin_quo, bin_rem, bin_eql, bin_neq, bin_lss, bin_leq, bin_gtr, bin_geq, bin_shl, bin_shr, bin_and, bin_or, bin_xor, bin_andNot, bin_sadd, bin_seql, bin_sneq, bin_slss, bin_beql, bin_bneq, bin_peql0, bin_pneq0, bin_peql1, bin_pneq1, bin_peql2, bin_pneq2, bin_agg_eql, bin_agg_neq, boundD_none, boundD_some, cells_bool, cells_int, cells_str, cells_agg, cells_ptr, cells_slice, cells_func, cells_nilptr, cells_nilslice, cells_nilFunc, AV.undef, List.length_cons, List.length_nil, Nat.reduceAdd, Nat.reduceSub, List.replicate_succ, List.replicate_zero, List.cons_append, List.nil_append, getD_0, set_0, getD_1, set_1, getD_2, set_2, getD_3, set_3, getD_4, set_4, getD_5, set_5, getD_6, set_6, getD_7, set_7, getD_8, set_8, getD_9, set_9, getD_10, set_10, getD_11, set_11, getD_12, set_12, getD_13, set_13, getD_14, set_14, getD_15, set_15, getD_16, set_16, List.map_cons, List.map_nil, Option.map_some, Option.map_none, true_or, or_true, false_or, or_false, reduceIte, reduceCtorEq, if_pos, if_neg, decide_eq_true, decide_eq_false, w64, wu64, ints_length, strs_length, ints_get, strs_get, List.getElem?_cons_zero, List.getElem?_cons_succ, splice_ints, splice, List.all_cons, List.all_nil, AV.one, and_true, true_and, and_false, false_and, Bool.and_true, Bool.true_and, Bool.and_false, Bool.false_and, Nat.zero_add, Nat.add_zero, Nat.mul_one, Bool.not_true, Bool.not_false, Bool.false_eq_true, beq_self_eq_true, still_mov, free_mov, still_pick, free_pick, still_build, free_build, still_load1, free_load1, still_loadN, free_loadN, still_nilCheck, free_nilCheck, still_bin, free_bin, still_not, free_not, still_conv, free_conv, still_b2s, free_b2s, still_i2s, free_i2s, still_mkfunc, free_mkfunc, still_substr, free_substr, still_subslice, free_subslice, still_fieldAddr, free_fieldAddr, still_field1, free_field1, still_fieldN, free_fieldN, still_indexAddr, free_indexAddr, still_indexStr, free_indexStr, still_extract, free_extract, still_call, free_call, still_lenS, free_lenS, still_len, free_len, still_min, free_min, still_max, free_max, det_bool, det_int, det_str, det_nilptr, det_ptr, det_nilslice, det_nilFunc, det_slice, det_agg, det_tuple, scalar_bool, scalar_int, scalar_str, scalar_nilptr, scalar_ptr, scalar_nilslice, scalar_nilFunc, scalar_slice, scalar_agg, scalar_tuple, dets_nil, dets_cons, scalars_nil, scalars_cons, or_t, or_f, and_t, and_f, not_t, not_f, toRo_cells, toRo_ro, toRo_iter, toRo_dead, cellsK_nil, cellsK_slice, cellsK_str, Bool.or_true, Bool.true_or, Bool.or_false, Bool.false_or, ge_iff_le, gt_iff_lt, ↓obind_some, ↓obind_none, ↓sel_true, ↓sel_false, ↓outK_val, ↓outK_skip, ↓outK_call, ↓quietK_val, ↓quietK_call, ↓condK_bool, ↓normK_normal, ↓normK_exit, ↓normK_ret, ↓blockK_normal, ↓blockK_ret, ↓blockK_exit, ↓endK_normal, ↓endK_ret, ↓ptrK_ptr, ↓strK_str, ↓intK_int, ↓aggK_agg, ↓tupK_tuple, ↓funK_func, ↓cellsK_some, ↓iterK_some, ↓sliceK_slice, ↓sliceK_nil, ↓i64K_int]
    simp [obind_some, resAll, ARes.get, tup, renorm, reach, mask, AV.idss, AV.ids, roots, AObj.ids, idss_ints, idss_strs, keepOk, AV.rens, AV.ren, rho, idx, AObj.ren, rens_ints, rens_strs]

theorem pick_run (R n0 : Nat) (hT : T 13 = none) (n m : Int) (h1 : -9223372036854775808 ≤ n) (h2 : n ≤ 9223372036854775807) (h3 : m ≤ 9223372036854775807) :
    aFn F T R (n0 + 1) 13 [.int .i64 n, .int .i64 m] [] = some (.int .i64 (pickL n m), []) := by
  unfold pickL
  by_cases hm : m < 1
  · simp (maxSteps := 10000000) (disch := omega) only [aFn_run hT (show F 13 = some f13 from rfl), f13, aCode_skip, aCode_ret, aCode_exit, aCode_ops, aCode_quiet, aCode_seq, aCode_cond, aCode_block, aCode_loop, aOps_nil, aOps_cons, aQuiet_nil, aQuiet_cons, obind_some, obind_none, sel_true, sel_false, outK_val, outK_skip, outK_call, quietK_val, quietK_call, condK_bool, normK_normal, normK_exit, normK_ret, blockK_normal, blockK_ret, blockK_exit, endK_normal, endK_ret, callR_eq, ev_t, ev_c, put_some, put_none, wantK_t, wantK_f, row_eq, wantK_undef, wantedA_none, wantedA_some, ptrK_ptr, strK_str, intK_int, aggK_agg, tupK_tuple, funK_func, cellsK_some, iterK_some, rowO_cells, rowO_ro, aOp_mov, aOp_pick, aOp_new, aOp_box, aOp_build, aOp_buildSlice, aOp_load1, aOp_loadN, aOp_store, aOp_nilCheck, aOp_bin, aOp_not, aOp_conv, aOp_b2s, notStr_slice, notStr_nil, aOp_i2s, aOp_mkfunc, aOp_mkslice, aOp_substr, aOp_subslice, aOp_fieldAddr, aOp_field1, aOp_fieldN, aOp_indexAddr, aOp_indexStr, aOp_range, aOp_next, aOp_extract, aOp_call, aOp_lenS, aOp_len, lenK_slice, lenK_nil, aOp_append, sliceK_slice, sliceK_nil, i64K_int, aOp_min, aOp_max, aMin_int, aMax_int, bin_add, bin_sub, bin_mul, bin_quo, bin_rem, bin_eql, bin_neq, bin_lss, bin_leq, bin_gtr, bin_geq, bin_shl, bin_shr, bin_and, bin_or, bin_xor, bin_andNot, bin_sadd, bin_seql, bin_sneq, bin_slss, bin_beql, bin_bneq, bin_peql0, bin_pneq0, bin_peql1, bin_pneq1, bin_peql2, bin_pneq2, bin_agg_eql, bin_agg_neq, boundD_none, boundD_some, cells_bool, cells_int, cells_str, cells_agg, cells_ptr, cells_slice, cells_func, cells_nilptr, cells_nilslice, cells_nilFunc, AV.undef, List.length_cons, List.length_nil, Nat.reduceAdd, Nat.reduceSub, List.replicate_succ, List.replicate_zero, List.cons_append, List.nil_append, getD_0, set_0, getD_1, set_1, getD_2, set_2, getD_3, set_3, getD_4, set_4, getD_5, set_5, getD_6, set_6, getD_7, set_7, getD_8, set_8, getD_9, set_9, getD_10, set_10, getD_11, set_11, getD_12, set_12, getD_13, set_13, getD_14, set_14, getD_15, set_15, getD_16, set_16, List.map_cons, List.map_nil, Option.map_some, Option.map_none, true_or, or_true, false_or, or_false, reduceIte, reduceCtorEq, if_pos, if_neg, decide_eq_true, decide_eq_false, w64, wu64, ints_length, strs_length, ints_get, strs_get, List.getElem?_cons_zero, List.getElem?_cons_succ, splice_ints, splice, List.all_cons, List.all_nil, AV.one, and_true, true_and, and_false, false_and, Bool.and_true, Bool.true_and, Bool.and_false, Bool.false_and, Nat.zero_add, Nat.add_zero, Nat.mul_one, Bool.not_true, Bool.not_false, Bool.false_eq_true, beq_self_eq_true, still_mov, free_mov, still_pick, free_pick, still_build, free_build, still_load1, free_load1, still_loadN, free_loadN, still_nilCheck, free_nilCheck, still_bin, free_bin, still_not, free_not, still_conv, free_conv, still_b2s, free_b2s, still_i2s, free_i2s, still_mkfunc, free_mkfunc, still_substr, free_substr, still_subslice, free_subslice, still_fieldAddr, free_fieldAddr, still_field1, free_field1, still_fieldN, free_fieldN, still_indexAddr, free_indexAddr, still_indexStr, free_indexStr, still_extract, free_extract, still_call, free_call, still_lenS, free_lenS, still_len, free_len, still_min, free_min, still_max, free_max, det_bool, det_int, det_str, det_nilptr, det_ptr, det_nilslice, det_nilFunc, det_slice, det_agg, det_tuple, scalar_bool, scalar_int, scalar_str, scalar_nilptr, scalar_ptr, scalar_nilslice, scalar_nilFunc, scalar_slice, scalar_agg, scalar_tuple, dets_nil, dets_cons, scalars_nil, scalars_cons, or_t, or_f, and_t, and_f, not_t, not_f, toRo_cells, toRo_ro, toRo_iter, toRo_dead, cellsK_nil, cellsK_slice, cellsK_str, Bool.or_true, Bool.true_or, Bool.or_false, Bool.false_or, ge_iff_le, gt_iff_lt, ↓obind_some, ↓obind_none, ↓sel_true, ↓sel_false, ↓outK_val, ↓outK_skip, ↓outK_call, ↓quietK_val, ↓quietK_call, ↓condK_bool, ↓normK_normal, ↓normK_exit, ↓normK_ret, ↓blockK_normal, ↓blockK_ret, ↓blockK_exit, ↓endK_normal, ↓endK_ret, ↓ptrK_ptr, ↓strK_str, ↓intK_int, ↓aggK_agg, ↓tupK_tuple, ↓funK_func, ↓cellsK_some, ↓iterK_some, ↓sliceK_slice, ↓sliceK_nil, ↓i64K_int]
    simp [obind_some, resAll, ARes.get, tup, renorm, reach, mask, AV.idss, AV.ids, roots, AObj.ids, idss_ints, idss_strs, keepOk, AV.rens, AV.ren, rho, idx, AObj.ren, rens_ints, rens_strs]
  · by_cases hr : n.tmod m < 0
    · have hb : n.tmod m + m ≤ 9223372036854775807 ∧ -9223372036854775808 ≤ n.tmod m + m := by
        have := Int.lt_tmod_of_pos n (show 0 < m by omega)
        omega
      simp (maxSteps := 10000000) (disch := omega) only [aFn_run hT (show F 13 = some f13 from rfl), f13, aCode_skip, aCode_ret, aCode_exit, aCode_ops, aCode_quiet, aCode_seq, aCode_cond, aCode_block, aCode_loop, aOps_nil, aOps_cons, aQuiet_nil, aQuiet_cons, obind_some, obind_none, sel_true, sel_false, outK_val, outK_skip, outK_call, quietK_val, quietK_call, condK_bool, normK_normal, normK_exit, normK_ret, blockK_normal, blockK_ret, blockK_exit, endK_normal, endK_ret, callR_eq, ev_t, ev_c, put_some, put_none, wantK_t, wantK_f, row_eq, wantK_undef, wantedA_none, wantedA_some, ptrK_ptr, strK_str, intK_int, aggK_agg, tupK_tuple, funK_func, cellsK_some, iterK_some, rowO_cells, rowO_ro, aOp_mov, aOp_pick, aOp_new, aOp_box, aOp_build, aOp_buildSlice, aOp_load1, aOp_loadN, aOp_store, aOp_nilCheck, aOp_bin, aOp_not, aOp_conv, aOp_b2s, notStr_slice, notStr_nil, aOp_i2s, aOp_mkfunc, aOp_mkslice, aOp_substr, aOp_subslice, aOp_fieldAddr, aOp_field1, aOp_fieldN, aOp_indexAddr, aOp_indexStr, aOp_range, aOp_next, aOp_extract, aOp_call, aOp_lenS, aOp_len, lenK_slice, lenK_nil, aOp_append, sliceK_slice, sliceK_nil, i64K_int, aOp_min, aOp_max, aMin_int, aMax_int, bin_add, bin_sub, bin_mul, bin_quo, bin_rem, bin_eql, bin_neq, bin_lss, bin_leq, bin_gtr, bin_geq, bin_shl, bin_shr, bin_and, bin_or, bin_xor, bin_andNot, bin_sadd, bin_seql, bin_sneq, bin_slss, bin_beql, bin_bneq, bin_peql0, bin_pneq0, bin_peql1, bin_pneq1, bin_peql2, bin_pneq2, bin_agg_eql, bin_agg_neq, boundD_none, boundD_some, cells_bool, cells_int, cells_str, cells_agg, cells_ptr, cells_slice, cells_func, cells_nilptr, cells_nilslice, cells_nilFunc, AV.undef, List.length_cons, List.length_nil, Nat.reduceAdd, Nat.reduceSub, List.replicate_succ, List.replicate_zero, List.cons_append, List.nil_append, getD_0, set_0, getD_1, set_1, getD_2, set_2, getD_3, set_3, getD_4, set_4, getD_5, set_5, getD_6, set_6, getD_7, set_7, getD_8, set_8, getD_9, set_9, getD_10, set_10, getD_11, set_11, getD_12, set_12, getD_13, set_13, getD_14, set_14, getD_15, set_15, getD_16, set_16, List.map_cons, List.map_nil, Option.map_some, Option.map_none, true_or, or_true, false_or, or_false, reduceIte, reduceCtorEq, if_pos, if_neg, decide_eq_true, decide_eq_false, w64, wu64, ints_length, strs_length, ints_get, strs_get, List.getElem?_cons_zero, List.getElem?_cons_succ, splice_ints, splice, List.all_cons, List.all_nil, AV.one, and_true, true_and, and_false, false_and, Bool.and_true, Bool.true_and, Bool.and_false, Bool.false_and, Nat.zero_add, Nat.add_zero, Nat.mul_one, Bool.not_true, Bool.not_false, Bool.false_eq_true, beq_self_eq_true, still_mov, free_mov, still_pick, free_pick, still_build, free_build, still_load1, free_load1, still_loadN, free_loadN, still_nilCheck, free_nilCheck, still_bin, free_bin, still_not, free_not, still_conv, free_conv, still_b2s, free_b2s, still_i2s, free_i2s, still_mkfunc, free_mkfunc, still_substr, free_substr, still_subslice, free_subslice, still_fieldAddr, free_fieldAddr, still_field1, free_field1, still_fieldN, free_fieldN, still_indexAddr, free_indexAddr, still_indexStr, free_indexStr, still_extract, free_extract, still_call, free_call, still_lenS, free_lenS, still_len, free_len, still_min, free_min, still_max, free_max, det_bool, det_int, det_str, det_nilptr, det_ptr, det_nilslice, det_nilFunc, det_slice, det_agg, det_tuple, scalar_bool, scalar_int, scalar_str, scalar_nilptr, scalar_ptr, scalar_nilslice, scalar_nilFunc, scalar_slice, scalar_agg, scalar_tuple, dets_nil, dets_cons, scalars_nil, scalars_cons, or_t, or_f, and_t, and_f, not_t, not_f, toRo_cells, toRo_ro, toRo_iter, toRo_dead, cellsK_nil, cellsK_slice, cellsK_str, Bool.or_true, Bool.true_or, Bool.or_false, Bool.false_or, ge_iff_le, gt_iff_lt, ↓obind_some, ↓obind_none, ↓sel_true, ↓sel_false, ↓outK_val, ↓outK_skip, ↓outK_call, ↓quietK_val, ↓quietK_call, ↓condK_bool, ↓normK_normal, ↓normK_exit, ↓normK_ret, ↓blockK_normal, ↓blockK_ret, ↓blockK_exit, ↓endK_normal, ↓endK_ret, ↓ptrK_ptr, ↓strK_str, ↓intK_int, ↓aggK_agg, ↓tupK_tuple, ↓funK_func, ↓cellsK_some, ↓iterK_some, ↓sliceK_slice, ↓sliceK_nil, ↓i64K_int]
      simp [obind_some, resAll, ARes.get, tup, renorm, reach, mask, AV.idss, AV.ids, roots, AObj.ids, idss_ints, idss_strs, keepOk, AV.rens, AV.ren, rho, idx, AObj.ren, rens_ints, rens_strs]
    · simp (maxSteps := 10000000) (disch := omega) only [aFn_run hT (show F 13 = some f13 from rfl), f13, aCode_skip, aCode_ret, aCode_exit, aCode_ops, aCode_quiet, aCode_seq, aCode_cond, aCode_block, aCode_loop, aOps_nil, aOps_cons, aQuiet_nil, aQuiet_cons, obind_some, obind_none, sel_true, sel_false, outK_val, outK_skip, outK_call, quietK_val, quietK_call, condK_bool, normK_normal, normK_exit, normK_ret, blockK_normal, blockK_ret, blockK_exit, endK_normal, endK_ret, callR_eq, ev_t, ev_c, put_some, put_none, wantK_t, wantK_f, row_eq, wantK_undef, wantedA_none, wantedA_some, ptrK_ptr, strK_str, intK_int, aggK_agg, tupK_tuple, funK_func, cellsK_some, iterK_some, rowO_cells, rowO_ro, aOp_mov, aOp_pick, aOp_new, aOp_box, aOp_build, aOp_buildSlice, aOp_load1, aOp_loadN, aOp_store, aOp_nilCheck, aOp_bin, aOp_not, aOp_conv, aOp_b2s, notStr_slice, notStr_nil, aOp_i2s, aOp_mkfunc, aOp_mkslice, aOp_substr, aOp_subslice, aOp_fieldAddr, aOp_field1, aOp_fieldN, aOp_indexAddr, aOp_indexStr, aOp_range, aOp_next, aOp_extract, aOp_call, aOp_lenS, aOp_len, lenK_slice, lenK_nil, aOp_append, sliceK_slice, sliceK_nil, i64K_int, aOp_min, aOp_max, aMin_int, aMax_int, bin_add, bin_sub, bin_mul, bin_quo, bin_rem, bin_eql, bin_neq, bin_lss, bin_leq, bin_gtr, bin_geq, bin_shl, bin_shr, bin_and, bin_or, bin_xor, bin_andNot, bin_sadd, bin_seql, bin_sneq, bin_slss, bin_beql, bin_bneq, bin_peql0, bin_pneq0, bin_peql1, bin_pneq1, bin_peql2, bin_pneq2, bin_agg_eql, bin_agg_neq, boundD_none, boundD_some, cells_bool, cells_int, cells_str, cells_agg, cells_ptr, cells_slice, cells_func, cells_nilptr, cells_nilslice, cells_nilFunc, AV.undef, List.length_cons, List.length_nil, Nat.reduceAdd, Nat.reduceSub, List.replicate_succ, List.replicate_zero, List.cons_append, List.nil_append, getD_0, set_0, getD_1, set_1, getD_2, set_2, getD_3, set_3, getD_4, set_4, getD_5, set_5, getD_6, set_6, getD_7, set_7, getD_8, set_8, getD_9, set_9, getD_10, set_10, getD_11, set_11, getD_12, set_12, getD_13, set_13, getD_14, set_14, getD_15, set_15, getD_16, set_16, List.map_cons, List.map_nil, Option.map_some, Option.map_none, true_or, or_true, false_or, or_false, reduceIte, reduceCtorEq, if_pos, if_neg, decide_eq_true, decide_eq_false, w64, wu64, ints_length, strs_length, ints_get, strs_get, List.getElem?_cons_zero, List.getElem?_cons_succ, splice_ints, splice, List.all_cons, List.all_nil, AV.one, and_true, true_and, and_false, false_and, Bool.and_true, Bool.true_and, Bool.and_false, Bool.false_and, Nat.zero_add, Nat.add_zero, Nat.mul_one, Bool.not_true, Bool.not_false, Bool.false_eq_true, beq_self_eq_true, still_mov, free_mov, still_pick, free_pick, still_build, free_build, still_load1, free_load1, still_loadN, free_loadN, still_nilCheck, free_nilCheck, still_bin, free_bin, still_not, free_not, still_conv, free_conv, still_b2s, free_b2s, still_i2s, free_i2s, still_mkfunc, free_mkfunc, still_substr, free_substr, still_subslice, free_subslice, still_fieldAddr, free_fieldAddr, still_field1, free_field1, still_fieldN, free_fieldN, still_indexAddr, free_indexAddr, still_indexStr, free_indexStr, still_extract, free_extract, still_call, free_call, still_lenS, free_lenS, still_len, free_len, still_min, free_min, still_max, free_max, det_bool, det_int, det_str, det_nilptr, det_ptr, det_nilslice, det_nilFunc, det_slice, det_agg, det_tuple, scalar_bool, scalar_int, scalar_str, scalar_nilptr, scalar_ptr, scalar_nilslice, scalar_nilFunc, scalar_slice, scalar_agg, scalar_tuple, dets_nil, dets_cons, scalars_nil, scalars_cons, or_t, or_f, and_t, and_f, not_t, not_f, toRo_cells, toRo_ro, toRo_iter, toRo_dead, cellsK_nil, cellsK_slice, cellsK_str, Bool.or_true, Bool.true_or, Bool.or_false, Bool.false_or, ge_iff_le, gt_iff_lt, ↓obind_some, ↓obind_none, ↓sel_true, ↓sel_false, ↓outK_val, ↓outK_skip, ↓outK_call, ↓quietK_val, ↓quietK_call, ↓condK_bool, ↓normK_normal, ↓normK_exit, ↓normK_ret, ↓blockK_normal, ↓blockK_ret, ↓blockK_exit, ↓endK_normal, ↓endK_ret, ↓ptrK_ptr, ↓strK_str, ↓intK_int, ↓aggK_agg, ↓tupK_tuple, ↓funK_func, ↓cellsK_some, ↓iterK_some, ↓sliceK_slice, ↓sliceK_nil, ↓i64K_int]
      simp [obind_some, resAll, ARes.get, tup, renorm, reach, mask, AV.idss, AV.ids, roots, AObj.ids, idss_ints, idss_strs, keepOk, AV.rens, AV.ren, rho, idx, AObj.ren, rens_ints, rens_strs]

/-! ### The table of these three -/

def gPut : List AV → Option AV
  | [.int .u64 n, .int .i64 s] => if 0 ≤ n ∧ n < 18446744073709551616 then some (.str (putL n (min s 16).toNat)) else none
  | _ => none
def gGet : List AV → Option AV
  | [.str s] => if s.length ≤ 4611686018427387904 then some (.int .u64 (getL s)) else none
  | _ => none
def gPick : List AV → Option AV
  | [.int .i64 n, .int .i64 m] => if -9223372036854775808 ≤ n ∧ n ≤ 9223372036854775807 ∧ m ≤ 9223372036854775807 then some (.int .i64 (pickL n m)) else none
  | _ => none

theorem gPut_ok : ∀ args v, gPut args = some v → AV.scalars args = true ∧ v.scalar = true ∧ ∃ h0, SoundCall Try.prog 14 args [] v h0 := by
  intro args v h
  unfold gPut at h
  split at h
  · split at h
    · rename_i n s hb
      cases h
      exact ⟨rfl, rfl, [], fn_ok (Checked.mixed Try.checked) F_ok tOk_none 20 1 _ _ _ _ _ (put_run 20 0 rfl n s hb.1 hb.2 (by omega))⟩
    · cases h
  · cases h

theorem gGet_ok : ∀ args v, gGet args = some v → AV.scalars args = true ∧ v.scalar = true ∧ ∃ h0, SoundCall Try.prog 15 args [] v h0 := by
  intro args v h
  unfold gGet at h
  split at h
  · split at h
    · rename_i s hb
      cases h
      exact ⟨rfl, rfl, [], fn_ok (Checked.mixed Try.checked) F_ok tOk_none 20 1 _ _ _ _ _ (get_run 20 0 rfl s hb (by omega))⟩
    · cases h
  · cases h

theorem gPick_ok : ∀ args v, gPick args = some v → AV.scalars args = true ∧ v.scalar = true ∧ ∃ h0, SoundCall Try.prog 13 args [] v h0 := by
  intro args v h
  unfold gPick at h
  split at h
  · split at h
    · rename_i n m hb
      cases h
      exact ⟨rfl, rfl, [], fn_ok (Checked.mixed Try.checked) F_ok tOk_none 20 1 _ _ _ _ _ (pick_run 20 0 rfl n m hb.1 hb.2.1 hb.2.2)⟩
    · cases h
  · cases h

def TOct : FuncId → Option (List AV → AHeap → Option (AV × AHeap))
  | 14 => some (pureT gPut)
  | 15 => some (pureT gGet)
  | 13 => some (pureT gPick)
  | _ => none

theorem TOct_ok : TOk Try.prog TOct := by
  intro f g h
  unfold TOct at h
  split at h
  · cases h; exact pureT_ok gPut_ok
  · cases h; exact pureT_ok gGet_ok
  · cases h; exact pureT_ok gPick_ok
  · cases h

theorem gPut_eq (n : Int) (k : Int) : gPut [.int .u64 n, .int .i64 k] = if 0 ≤ n ∧ n < 18446744073709551616 then some (AV.str (putL n (min (k : Int) 16).toNat)) else none := rfl
theorem gGet_eq (s : List UInt8) : gGet [.str s] = if s.length ≤ 4611686018427387904 then some (.int .u64 (getL s)) else none := rfl
theorem gPick_eq (n m : Int) : gPick [.int .i64 n, .int .i64 m] = if -9223372036854775808 ≤ n ∧ n ≤ 9223372036854775807 ∧ m ≤ 9223372036854775807 then some (.int .i64 (pickL n m)) else none := rfl
theorem gPut_val (n k : Nat) (hn : n < 18446744073709551616) (hk : k ≤ 16) : gPut [.int .u64 n, .int .i64 k] = some (.str (putN n k)) := by
  have e : (min (k : Int) 16).toNat = k := by omega
  rw [gPut_eq, if_pos ⟨by omega, by omega⟩, e, putL_putN]
theorem pPut (n k : Nat) (h : AHeap) (hn : n < 18446744073709551616) (hk : k ≤ 16) : pureT gPut [.int .u64 n, .int .i64 k] h = some (.str (putN n k), h) := pureT_some _ _ _ _ (gPut_val n k hn hk)
theorem gGet_val (s : List UInt8) (hs : s.length ≤ 4611686018427387904) : gGet [.str s] = some (.int .u64 (getL s)) := by
  rw [gGet_eq, if_pos hs]
theorem pGet (s : List UInt8) (h : AHeap) (hs : s.length ≤ 4611686018427387904) : pureT gGet [.str s] h = some (.int .u64 (getL s), h) := pureT_some _ _ _ _ (gGet_val s hs)
theorem gPick_val (n m : Int) (h1 : -9223372036854775808 ≤ n) (h2 : n ≤ 9223372036854775807) (h3 : m ≤ 9223372036854775807) : gPick [.int .i64 n, .int .i64 m] = some (.int .i64 (pickL n m)) := by
  rw [gPick_eq, if_pos ⟨h1, h2, h3⟩]
theorem pPick (n m : Int) (h : AHeap) (h1 : -9223372036854775808 ≤ n) (h2 : n ≤ 9223372036854775807) (h3 : m ≤ 9223372036854775807) : pureT gPick [.int .i64 n, .int .i64 m] h = some (.int .i64 (pickL n m), h) := pureT_some _ _ _ _ (gPick_val n m h1 h2 h3)

end Go.Proofs.Ytidlbhppbopjjaa.Ax

/-
Chapter 3: the reference's code point at a place.
-/
import Derived.Test.YtidlbhppbopjjaaUsP3
namespace Go.Proofs.Ytidlbhppbopjjaa.Ax
open Go.Ax
set_option linter.unusedVariables false
set_option linter.unusedSimpArgs false
set_option maxRecDepth 100000

theorem pnt_tail {γ : Type} {N least : Int} {A B : Option γ} : selK (ltI N least) A (selK (ltI 1114111 N) A (selK (leI 55296 N) (selK (leI N 57343) A B) B)) = if N < least ∨ 1114111 < N ∨ (55296 ≤ N ∧ N ≤ 57343) then A else B := by
  by_cases h1 : N < least
  · rw [selK_pos (by rw [ltI_iff]; exact h1), if_pos (.inl h1)]
  rw [selK_neg (by rw [ltI_iff0]; omega)]
  by_cases h2 : 1114111 < N
  · rw [selK_pos (by rw [ltI_iff]; exact h2), if_pos (.inr (.inl h2))]
  rw [selK_neg (by rw [ltI_iff0]; omega)]
  by_cases h3 : 55296 ≤ N
  · rw [selK_pos (by rw [leI_iff]; exact h3)]
    by_cases h4 : N ≤ 57343
    · rw [selK_pos (by rw [leI_iff]; exact h4), if_pos (.inr (.inr ⟨h3, h4⟩))]
    · rw [selK_neg (by rw [leI_iff0]; omega), if_neg (by omega)]
  · rw [selK_neg (by rw [leI_iff0]; omega), if_neg (by omega)]

theorem point_run {β : Type} (s : List UInt8) (p : Int) (h : 0 ≤ p ∧ p < s.length ∧ s.length ≤ 1000000000) (kk : KV → KHeap → Option β) : kBody (kFn F TMore RR DD) (fun _ => none) RR f59 [.str s, .int .i64 p] [] kk = kk (.tuple [.int .i64 (pntN s p), .int .i64 (pntZ s p)]) [] := by
  rw [pnt_tree]
  obtain ⟨q, rfl⟩ : ∃ q : Nat, p = q := ⟨p.toNat, by omega⟩
  unfold pntN pntZ pnt_tree_s13 pnt_tree_s12
  rw [Int.toNat_natCast]
  have e1 : wr .i64 ((q : Int) + 1) = ((q + 1 : Nat) : Int) := by rw [w64 _ (by omega) (by omega)]; omega
  have e2 : wr .i64 ((q : Int) + 2) = ((q + 2 : Nat) : Int) := by rw [w64 _ (by omega) (by omega)]; omega
  have e3 : wr .i64 ((q : Int) + 3) = ((q + 3 : Nat) : Int) := by rw [w64 _ (by omega) (by omega)]; omega
  have mb : ∀ k : Nat, moreB s ((q + k : Nat) : Int) = ct (s.drop q) k := fun k => by unfold moreB; rw [Int.toNat_natCast, ct_drop]
  have mn : ∀ k : Nat, moreN s ((q + k : Nat) : Int) = if ct (s.drop q) k = true then (bt (s.drop q) k : Int) - 128 else 0 := fun k => by unfold moreN; rw [Int.toNat_natCast, ct_drop, bt_drop]
  have hb : s[q]? = some s[q] := List.getElem?_eq_getElem (by omega)
  have hbt : bt (s.drop q) 0 = (s[q]).toNat := by rw [bt_drop]; unfold bt; rw [List.getD_eq_getElem?_getD, Nat.add_zero, hb]; rfl
  rw [selK_pos (by rw [leI_iff]; omega), optK_of hb]
  simp only [e1, e2, e3, hid_eq, mb, mn, ← hbt, pnt_tail]
  rw [pnt_eq]
  have hlt := bt_lt (s.drop q) 0
  generalize hx : bt (s.drop q) 0 = x at *
  rw [w64 _ (by omega) (by omega)]
  have cdT : ∀ k : Nat, cd (0 ≤ ((q + k : Nat) : Int) ∧ s.length ≤ 4611686018427387904) = true := fun k => by rw [cd_iff]; omega
  by_cases h0 : x < 128
  · rw [selK_pos (by rw [ltI_iff]; omega), if_pos h0]
    rfl
  rw [selK_neg (by rw [ltI_iff0]; omega), if_neg h0]
  simp only [cdT, selK_true]
  have b1 := @ct_bt (s.drop q) 1
  have b2 := @ct_bt (s.drop q) 2
  have b3 := @ct_bt (s.drop q) 3
  generalize ct (s.drop q) 1 = c1 at *
  generalize ct (s.drop q) 2 = c2 at *
  generalize ct (s.drop q) 3 = c3 at *
  generalize bt (s.drop q) 1 = y1 at *
  generalize bt (s.drop q) 2 = y2 at *
  generalize bt (s.drop q) 3 = y3 at *
  by_cases h2 : 192 ≤ x ∧ x < 224
  · rw [selK_pos (by rw [leI_iff]; omega), selK_pos (by rw [ltI_iff]; omega)]
    have g : (x / 32 == 6) = true := by rw [beq_iff_eq]; omega
    rw [g]
    cases c1 with
    | false => simp [selK, show ¬ x / 16 = 14 by omega, show ¬ x / 8 = 30 by omega]
    | true =>
      have := b1 rfl
      simp only [if_true, selK_true, Bool.and_self]
      simp (disch := omega) only [w64]
      have e : 64 * ((x : Int) - 192) + ((y1 : Int) - 128) = ((x % 32 * 64 + y1 % 64 : Nat) : Int) := by omega
      rw [e]
      by_cases hc : x % 32 * 64 + y1 % 64 ≥ 128
      · rw [if_neg (by omega), if_pos hc]; rfl
      · rw [if_pos (by omega), if_neg hc]; rfl
  have g1 : (x / 32 == 6) = false := by rw [beq_eq_false_iff_ne]; omega
  rw [g1]
  simp only [Bool.false_and, Bool.false_eq_true, if_false]
  by_cases h3 : 224 ≤ x ∧ x < 240
  · rw [selK_pos (by rw [leI_iff]; omega), selK_neg (by rw [ltI_iff0]; omega), selK_pos (by rw [leI_iff]; omega), selK_pos (by rw [ltI_iff]; omega)]
    have g : (x / 16 == 14) = true := by rw [beq_iff_eq]; omega
    rw [g]
    cases c1 with
    | false => simp [selK, show ¬ x / 8 = 30 by omega]
    | true =>
      cases c2 with
      | false => simp [selK, show ¬ x / 8 = 30 by omega]
      | true =>
        have := b1 rfl
        have := b2 rfl
        simp only [if_true, selK_true, Bool.and_self]
        simp (disch := omega) only [w64]
        have e : 64 * (64 * ((x : Int) - 224) + ((y1 : Int) - 128)) + ((y2 : Int) - 128) = ((x % 16 * 4096 + y1 % 64 * 64 + y2 % 64 : Nat) : Int) := by omega
        rw [e]
        generalize x % 16 * 4096 + y1 % 64 * 64 + y2 % 64 = N
        by_cases hc : N < 2048 ∨ 1114111 < N ∨ (55296 ≤ N ∧ N ≤ 57343)
        · rw [if_pos (by omega), if_neg (by simp [Utf8.valid]; omega)]; rfl
        · rw [if_neg (by omega), if_pos (by simp [Utf8.valid]; omega)]; rfl
  have g2 : (x / 16 == 14) = false := by rw [beq_eq_false_iff_ne]; omega
  rw [g2]
  simp only [Bool.false_and, Bool.false_eq_true, if_false]
  by_cases h4 : 240 ≤ x ∧ x < 248
  · rw [selK_pos (by rw [leI_iff]; omega), selK_neg (by rw [ltI_iff0]; omega), selK_pos (by rw [leI_iff]; omega), selK_neg (by rw [ltI_iff0]; omega), selK_pos (by rw [leI_iff]; omega), selK_pos (by rw [ltI_iff]; omega)]
    have g : (x / 8 == 30) = true := by rw [beq_iff_eq]; omega
    rw [g]
    cases c1 with
    | false => simp [selK]
    | true =>
      cases c2 with
      | false => simp [selK]
      | true =>
        cases c3 with
        | false => simp [selK]
        | true =>
          have := b1 rfl
          have := b2 rfl
          have := b3 rfl
          simp only [if_true, selK_true, Bool.and_self]
          simp (disch := omega) only [w64]
          have e : 64 * (64 * (64 * ((x : Int) - 240) + ((y1 : Int) - 128)) + ((y2 : Int) - 128)) + ((y3 : Int) - 128) = ((x % 8 * 262144 + y1 % 64 * 4096 + y2 % 64 * 64 + y3 % 64 : Nat) : Int) := by omega
          rw [e]
          generalize x % 8 * 262144 + y1 % 64 * 4096 + y2 % 64 * 64 + y3 % 64 = N
          by_cases hc : N < 65536 ∨ 1114111 < N ∨ (55296 ≤ N ∧ N ≤ 57343)
          · rw [if_pos (by omega), if_neg (by simp [Utf8.valid]; omega)]; rfl
          · rw [if_neg (by omega), if_pos (by simp [Utf8.valid]; omega)]; rfl
  have g3 : (x / 8 == 30) = false := by rw [beq_eq_false_iff_ne]; omega
  rw [g3]
  simp only [Bool.false_and, Bool.false_eq_true, if_false]
  by_cases h5 : x < 192
  · rw [selK_neg (by rw [leI_iff0]; omega), selK_neg (by rw [leI_iff0]; omega), selK_neg (by rw [leI_iff0]; omega)]; rfl
  · rw [selK_pos (by rw [leI_iff]; omega), selK_neg (by rw [ltI_iff0]; omega), selK_pos (by rw [leI_iff]; omega), selK_neg (by rw [ltI_iff0]; omega), selK_pos (by rw [leI_iff]; omega), selK_neg (by rw [ltI_iff0]; omega)]; rfl

noncomputable def cPoint : List AV → Bool
  | [.str s, .int .i64 p] => cd (0 ≤ p ∧ p < s.length ∧ s.length ≤ 1000000000)
  | _ => false
noncomputable def gPoint : List AV → Option AV
  | [.str s, .int .i64 p] => some (.tuple [.int .i64 (hid pntN s p), .int .i64 (hid pntZ s p)])
  | _ => none
noncomputable def kPoint : KT := KT.pure cPoint gPoint
theorem kPoint_ok : ContractOk Try.prog 59 kPoint.a := by
  refine KT.pure_run (Checked.mixed Try.checked) F_ok TMore_ok rfl (fn := f59) rfl (L := fun _ => none) LoopsOk.none fun args v hc hg => ?_
  unfold gPoint at hg
  split at hg
  · cases hg
    rename_i s p
    have hc : 0 ≤ p ∧ p < s.length ∧ s.length ≤ 1000000000 := Eq.mp cd_iff hc
    exact ⟨rfl, rfl, _, (by first | exact point_run s p hc _ | (simp only [hid_eq]; exact point_run s p hc _))⟩
  · cases hg

theorem rput2_run {β : Type} (n i : Int) (h : i = 2 ∧ 0 ≤ n ∧ n < 18446744073709551616) (kk : KV → KHeap → Option β) : kBody (kFn F (fun _ => none) RR DD) (fun _ => none) RR f58 [.int .u64 n, .int .i64 i] [] kk = kk (.str (putL n (min i 16).toNat)) [] := by
  obtain ⟨rfl, h0, h1⟩ := h
  rw [rput2_tree]
  refine selK_posx rfl (selK_posx rfl ?_)
  have e : ∀ k : Nat, k ≤ 64 → shrI .u64 n k = n / 2 ^ k := fun k hk => by
    unfold shrI
    rw [Int.toNat_natCast, show Nat.min k IntKind.u64.bits = k from Nat.min_eq_left hk, Int.fdiv_eq_ediv_of_nonneg]
    exact Int.le_of_lt (Int.pow_pos (by omega))
  have e8 := e 8 (by omega)
  have e0 := e 0 (by omega)
  have : putL n (min (2 : Int) 16).toNat = [UInt8.ofNat (n / 256 ^ 1 % 256).toNat, UInt8.ofNat (n / 256 ^ 0 % 256).toNat] := rfl
  rw [this]
  simp only [bytesR, List.drop_zero, List.take_succ_cons, List.take_zero, List.cons_append, List.nil_append, List.map_cons, List.map_nil, wu8]
  rw [show shrI .u64 n 8 = n / 2 ^ 8 from e8, show shrI .u64 n 0 = n / 2 ^ 0 from e0]
  rfl
noncomputable def cRPut : List AV → Bool
  | [.int .u64 n, .int .i64 i] => cd (i = 2 ∧ 0 ≤ n ∧ n < 18446744073709551616)
  | _ => false
noncomputable def gRPut : List AV → Option AV
  | [.int .u64 n, .int .i64 i] => some (.str (hid putL n (min i 16).toNat))
  | _ => none
noncomputable def kRPut : KT := KT.pure cRPut gRPut
theorem kRPut_ok : ContractOk Try.prog 58 kRPut.a := by
  refine KT.pure_run (Checked.mixed Try.checked) F_ok KTOk.none rfl (fn := f58) rfl (L := fun _ => none) LoopsOk.none fun args v hc hg => ?_
  unfold gRPut at hg
  split at hg
  · cases hg
    rename_i n i
    have hc : i = 2 ∧ 0 ≤ n ∧ n < 18446744073709551616 := Eq.mp cd_iff hc
    exact ⟨rfl, rfl, _, (by first | exact rput2_run n i hc _ | (simp only [hid_eq]; exact rput2_run n i hc _))⟩
  · cases hg
noncomputable def TPnt : FuncId → Option KT
  | 59 => some kPoint
  | _ => none
theorem TPnt_ok : KTOk Try.prog TPnt := by
  intro f t h
  unfold TPnt at h
  split at h
  · cases h; exact kPoint_ok
  · cases h

end Go.Proofs.Ytidlbhppbopjjaa.Ax

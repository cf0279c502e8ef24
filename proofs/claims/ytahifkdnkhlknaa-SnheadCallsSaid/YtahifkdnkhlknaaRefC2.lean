/-
Chapter 21: the contract of the reference's Bytes.
-/
import Derived.Test.YtahifkdnkhlknaaRefT2
namespace Go.Proofs.Ytahifkdnkhlknaa.Ax
open Go.Ax
set_option linter.unusedVariables false
set_option linter.unusedSimpArgs false
set_option maxRecDepth 100000

section
variable {β : Type} (kk : KV → KHeap → Option β)
theorem shr8 (x : Int) (h : 0 ≤ x) : shrI .u64 x 8 = x / 256 := by
  show x.fdiv (2 ^ _) = _
  rw [show (2 : Int) ^ (Nat.min (8 : Int).toNat IntKind.u64.bits) = 256 from rfl]
  exact Int.fdiv_eq_ediv_of_nonneg _ (by omega)
theorem put1 (x : Int) (h : 0 ≤ x) : [UInt8.ofNat (wr .u8 x).toNat] = putN x.toNat 1 := by
  rw [wu8]
  show _ = [UInt8.ofNat (x.toNat % 256)]
  rw [show (x % 256).toNat = x.toNat % 256 by omega]
theorem put2 (x : Int) (h : 0 ≤ x) : [UInt8.ofNat (wr .u8 (x / 256)).toNat] ++ ([UInt8.ofNat (wr .u8 x).toNat] ++ []) = putN x.toNat 2 := by
  rw [List.append_nil, put1 x h, put1 (x / 256) (by omega)]
  show [UInt8.ofNat ((x / 256).toNat % 256)] ++ [UInt8.ofNat (x.toNat % 256)] = [UInt8.ofNat (x.toNat / 256 % 256), UInt8.ofNat (x.toNat % 256)]
  rw [show (x / 256).toNat = x.toNat / 256 by omega]
  rfl

theorem rbytes_run (k r : Int) (hr : -9223372036854775808 ≤ r ∧ r ≤ 9223372036854775807) : kBody (kFn F TRef RR DD) (fun _ => none) RR f15 [.int .i64 k, .int .i64 r] [] kk = kk (.tuple [.str (bytesS k r), .int .i64 (bytesE k r)]) [] := by
  rw [rbytes_tree]
  simp only [hid_eq]
  cases hk : known k with
  | false => simp [selK, bytesS, bytesE, hk]
  | true =>
    have hkr := known_range hk
    rw [selK_true]
    by_cases h0 : r < 0
    · rw [selK_pos (by rw [ltI_iff]; exact h0)]
      simp [bytesS, bytesE, hk, h0]
    rw [selK_neg (by rw [ltI_iff0]; omega)]
    by_cases h1 : 65531 < r
    · rw [selK_neg (by rw [leI_iff0]; omega), selK_pos (by rw [ltI_iff]; exact h1)]
      simp [bytesS, bytesE, hk, h0, h1]
    have e : bytesE k r = 0 := by simp [bytesE, hk, h0, h1]
    by_cases h2 : r ≤ 253
    · rw [selK_pos (by rw [leI_iff]; exact h2), e, w64 (r + 2) (by omega) (by omega)]
      have : bytesS k r = putN (r + 2).toNat 1 ++ putN k.toNat 1 := by simp [bytesS, e, h2]
      rw [this, ← put1 (r + 2) (by omega), ← put1 k (by omega)]
      rfl
    · rw [selK_neg (by rw [leI_iff0]; omega), selK_neg (by rw [ltI_iff0]; omega), w64 (r + 4) (by omega) (by omega), wu64 (r + 4) (by omega) (by omega), shr8 (r + 4) (by omega), put2 (r + 4) (by omega)]
      have hp := putN_length (r + 4).toNat 2
      have : bytesS k r = putN 1 1 ++ putN (r + 4).toNat 2 ++ putN k.toNat 1 := by simp [bytesS, e, h2]
      rw [this, ← put1 k (by omega), e]
      rw [selK_pos (by rw [fitS_iff]; simp), selK_pos (by rw [fitS_iff]; simp), selK_pos (by rw [fitS_iff, hp]; simp), selK_pos (by rw [fitS_iff, List.length_append, hp]; simp)]
      rfl
end

noncomputable def cRBytes : List AV → Bool
  | [.int .i64 k, .int .i64 r] => cd (-9223372036854775808 ≤ r ∧ r ≤ 9223372036854775807)
  | _ => false
noncomputable def gRBytes : List AV → Option AV
  | [.int .i64 k, .int .i64 r] => some (.tuple [.str (hid bytesS k r), .int .i64 (hid bytesE k r)])
  | _ => none
noncomputable def kRBytes : KT := KT.pure cRBytes gRBytes
theorem kRBytes_ok : ContractOk Try.prog 15 kRBytes.a := by
  refine KT.pure_run (Checked.mixed Try.checked) F_ok TRef_ok rfl (fn := f15) rfl (L := (fun _ => none)) LoopsOk.none fun args v hc hg => ?_
  unfold gRBytes at hg
  split at hg
  · cases hg
    rename_i k r
    have hc : -9223372036854775808 ≤ r ∧ r ≤ 9223372036854775807 := Eq.mp cd_iff hc
    exact ⟨rfl, rfl, _, (by first | exact rbytes_run _ k r hc | (simp only [hid_eq]; exact rbytes_run _ k r hc))⟩
  · cases hg
noncomputable def TCal : FuncId → Option KT
  | 9 => some kKnown
  | 8 => some kSnBytes
  | 10 => some kSnRead
  | 11 => some kFlag
  | 12 => some kReadFlag
  | 13 => some kUses
  | 14 => some kMay
  | 7 => some kLives21
  | 19 => some kRKnown
  | 15 => some kRBytes
  | 16 => some kRRead
  | 17 => some kRFlag
  | 18 => some kRReadFlag
  | 20 => some kRUses
  | 21 => some kRMay
  | _ => none
theorem TCal_ok : KTOk Try.prog TCal := by
  intro f t h
  unfold TCal at h
  split at h
  · cases h; exact kKnown_ok
  · cases h; exact kSnBytes_ok
  · cases h; exact kSnRead_ok
  · cases h; exact kFlag_ok
  · cases h; exact kReadFlag_ok
  · cases h; exact kUses_ok
  · cases h; exact kMay_ok
  · cases h; exact kLives21_ok
  · cases h; exact kRKnown_ok
  · cases h; exact kRBytes_ok
  · cases h; exact kRRead_ok
  · cases h; exact kRFlag_ok
  · cases h; exact kRReadFlag_ok
  · cases h; exact kRUses_ok
  · cases h; exact kRMay_ok
  · cases h

end Go.Proofs.Ytahifkdnkhlknaa.Ax

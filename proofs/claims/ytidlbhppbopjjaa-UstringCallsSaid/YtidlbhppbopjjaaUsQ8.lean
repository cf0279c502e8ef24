/-
Chapter 3: the contracts of Text, Binary and ReadBinary, and of the reference's.
-/
import Derived.Test.YtidlbhppbopjjaaUsQ7
namespace Go.Proofs.Ytidlbhppbopjjaa.Ax
open Go.Ax
set_option linter.unusedVariables false
set_option linter.unusedSimpArgs false
set_option maxRecDepth 100000

def textS (s : List UInt8) : List UInt8 × Int := if validS s = true then (putL (wr .u64 ((s.length : Nat) : Int)) (min (2 : Int) 16).toNat ++ s, 0) else ([], 6)
def binS (s : List UInt8) : List UInt8 × Int := if 65535 < s.length then ([], 2) else (putL (wr .u64 ((s.length : Nat) : Int)) (min (2 : Int) 16).toNat ++ s, 0)
def readbS (s : List UInt8) : List UInt8 × Int × Int :=
  if s.length < 2 then ([], 0, 3) else if s.length < 2 + getL (subS s 0 2) then ([], 0, 3) else (subS s 2 (2 + getL (subS s 0 2)), ((2 + getL (subS s 0 2) : Nat) : Int), 0)

section
variable {β : Type} (s : List UInt8) (kk : KV → KHeap → Option β)

theorem fit_put (n : Int) (h : s.length ≤ 1000000) : fitS (putL n (min (2 : Int) 16).toNat) s = true := by
  rw [fitS_iff]
  have : (putL n (min (2 : Int) 16).toNat).length = 2 := by simp [putL]; rfl
  omega

theorem text_run (hs : s.length ≤ 1000000) : kBody (kFn F TTxt RR DD) (fun _ => none) RR f38 [.str s] [] kk = kk (.tuple [.str (textS s).1, .int .i64 (textS s).2]) [] := by
  rw [text_tree]
  simp only [hid_eq]
  have hu := wu64_range ((s.length : Nat) : Int)
  unfold textS
  cases validS s
  · rw [selK_pos (by rw [cd_iff]; omega)]; rfl
  · rw [selK_pos (by rw [cd_iff]; omega), selK_true, selK_pos (by rw [cd_iff]; exact hu), selK_pos (fit_put s _ hs)]; rfl
theorem rtext_run (hs : s.length ≤ 1000000) : kBody (kFn F TTxt RR DD) (fun _ => none) RR f44 [.str s] [] kk = kk (.tuple [.str (textS s).1, .int .i64 (textS s).2]) [] := by
  rw [rtext_tree]
  simp only [hid_eq]
  have hu := wu64_range ((s.length : Nat) : Int)
  unfold textS
  cases validS s
  · rw [selK_pos (by rw [cd_iff]; omega)]; rfl
  · rw [selK_pos (by rw [cd_iff]; omega), selK_true, selK_pos (by rw [cd_iff]; exact ⟨by trivial, hu⟩), selK_pos (fit_put s _ hs)]; rfl
theorem binary_run (hs : s.length ≤ 1000000) : kBody (kFn F TTxt RR DD) (fun _ => none) RR f40 [.str s] [] kk = kk (.tuple [.str (binS s).1, .int .i64 (binS s).2]) [] := by
  rw [binary_tree]
  simp only [hid_eq]
  have hu := wu64_range ((s.length : Nat) : Int)
  unfold binS
  by_cases h : 65535 < s.length
  · rw [selK_pos (by rw [ltI_iff]; omega), if_pos h]
  · rw [selK_neg (by rw [ltI_iff0]; omega), selK_pos (by rw [cd_iff]; exact hu), selK_pos (fit_put s _ hs), if_neg h]
theorem rbinary_run (hs : s.length ≤ 1000000) : kBody (kFn F TTxt RR DD) (fun _ => none) RR f45 [.str s] [] kk = kk (.tuple [.str (binS s).1, .int .i64 (binS s).2]) [] := by
  rw [rbinary_tree]
  simp only [hid_eq]
  have hu := wu64_range ((s.length : Nat) : Int)
  unfold binS
  by_cases h : 65535 < s.length
  · rw [selK_pos (by rw [ltI_iff]; omega), if_pos h]
  · rw [selK_neg (by rw [ltI_iff0]; omega), selK_pos (by rw [cd_iff]; exact ⟨by trivial, hu⟩), selK_pos (fit_put s _ hs), if_neg h]

theorem get2_lt (h : 2 ≤ s.length) : getL (subS s 0 2) < 65536 := by
  have hl : (subS s 0 2).length = 2 := by simp [subS]; omega
  have := getN_lt 2 (subS s 0 2) hl
  have e : getL (subS s 0 2) = getN (subS s 0 2) := by simp [getL, hl]
  omega

theorem readb_run (hs : s.length ≤ 1000000) : kBody (kFn F TTxt RR DD) (fun _ => none) RR f41 [.str s] [] kk = kk (.tuple [.str (readbS s).1, .int .i64 (readbS s).2.1, .int .i64 (readbS s).2.2]) [] := by
  rw [readb_tree]
  unfold readbS
  rw [w64 (((s.length : Nat) : Int) - 0) (by omega) (by omega)]
  by_cases h2 : s.length < 2
  · rw [selK_neg (by rw [leI_iff0]; omega), selK_pos (by rw [cd_iff]; decide), if_pos h2]
  · have hg := get2_lt s (by omega)
    have hl : (subS s 0 2).length = 2 := by simp [subS]; omega
    rw [selK_pos (by rw [leI_iff]; omega), selK_pos (by rw [inB_iff]; omega), selK_pos (by rw [cd_iff]; omega), if_neg h2]
    simp only [hid_eq]
    generalize getL (subS s 0 2) = n at *
    rw [w64 ((n : Nat) : Int) (by omega) (by omega), w64 (2 + ((n : Nat) : Int)) (by omega) (by omega), w64 (((s.length : Nat) : Int) - 2) (by omega) (by omega), selK_pos (by rw [leI_iff]; omega)]
    have e : 2 + (n : Int) = ((2 + n : Nat) : Int) := by omega
    by_cases h3 : s.length < 2 + n
    · rw [selK_neg (by rw [leI_iff0]; omega), if_pos h3]
    · rw [selK_pos (by rw [leI_iff]; omega), selK_pos (by rw [inB_iff]; omega), e, Int.toNat_natCast, selK_pos (by rw [inB_iff]; omega), if_neg h3]
theorem rreadb_run (hs : s.length ≤ 1000000) : kBody (kFn F TTxt RR DD) (fun _ => none) RR f47 [.str s] [] kk = kk (.tuple [.str (readbS s).1, .int .i64 (readbS s).2.1, .int .i64 (readbS s).2.2]) [] := by
  rw [rreadb_tree]
  unfold readbS
  by_cases h2 : s.length < 2
  · rw [selK_pos (by rw [ltI_iff]; omega), if_pos h2]
  · have hg := get2_lt s (by omega)
    have hl : (subS s 0 2).length = 2 := by simp [subS]; omega
    rw [selK_neg (by rw [ltI_iff0]; omega), selK_pos (by rw [inB_iff]; omega), selK_pos (by rw [cd_iff]; omega), if_neg h2]
    simp only [hid_eq]
    generalize getL (subS s 0 2) = n at *
    rw [w64 ((n : Nat) : Int) (by omega) (by omega), w64 (2 + ((n : Nat) : Int)) (by omega) (by omega), w64 (((s.length : Nat) : Int) - 2) (by omega) (by omega)]
    have e : 2 + (n : Int) = ((2 + n : Nat) : Int) := by omega
    by_cases h3 : s.length < 2 + n
    · rw [selK_pos (by rw [ltI_iff]; omega), if_pos h3]
    · rw [selK_neg (by rw [ltI_iff0]; omega), selK_pos (by rw [inB_iff]; omega), e, Int.toNat_natCast, selK_pos (by rw [inB_iff]; omega), if_neg h3]
end

noncomputable def cText : List AV → Bool
  | [.str s] => cd (s.length ≤ 1000000)
  | _ => false
noncomputable def gText : List AV → Option AV
  | [.str s] => some (.tuple [.str (hid textS s).1, .int .i64 (hid textS s).2])
  | _ => none
noncomputable def kText : KT := KT.pure cText gText
theorem kText_ok : ContractOk Try.prog 38 kText.a := by
  refine KT.pure_run (Checked.mixed Try.checked) F_ok TTxt_ok rfl (fn := f38) rfl (L := fun _ => none) LoopsOk.none fun args v hc hg => ?_
  unfold gText at hg
  split at hg
  · cases hg
    rename_i s
    have hc : s.length ≤ 1000000 := Eq.mp cd_iff hc
    exact ⟨rfl, rfl, _, (by first | exact text_run s _ hc | (simp only [hid_eq]; exact text_run s _ hc))⟩
  · cases hg
noncomputable def cRText : List AV → Bool
  | [.str s] => cd (s.length ≤ 1000000)
  | _ => false
noncomputable def gRText : List AV → Option AV
  | [.str s] => some (.tuple [.str (hid textS s).1, .int .i64 (hid textS s).2])
  | _ => none
noncomputable def kRText : KT := KT.pure cRText gRText
theorem kRText_ok : ContractOk Try.prog 44 kRText.a := by
  refine KT.pure_run (Checked.mixed Try.checked) F_ok TTxt_ok rfl (fn := f44) rfl (L := fun _ => none) LoopsOk.none fun args v hc hg => ?_
  unfold gRText at hg
  split at hg
  · cases hg
    rename_i s
    have hc : s.length ≤ 1000000 := Eq.mp cd_iff hc
    exact ⟨rfl, rfl, _, (by first | exact rtext_run s _ hc | (simp only [hid_eq]; exact rtext_run s _ hc))⟩
  · cases hg
noncomputable def cBinary : List AV → Bool
  | [.str s] => cd (s.length ≤ 1000000)
  | _ => false
noncomputable def gBinary : List AV → Option AV
  | [.str s] => some (.tuple [.str (hid binS s).1, .int .i64 (hid binS s).2])
  | _ => none
noncomputable def kBinary : KT := KT.pure cBinary gBinary
theorem kBinary_ok : ContractOk Try.prog 40 kBinary.a := by
  refine KT.pure_run (Checked.mixed Try.checked) F_ok TTxt_ok rfl (fn := f40) rfl (L := fun _ => none) LoopsOk.none fun args v hc hg => ?_
  unfold gBinary at hg
  split at hg
  · cases hg
    rename_i s
    have hc : s.length ≤ 1000000 := Eq.mp cd_iff hc
    exact ⟨rfl, rfl, _, (by first | exact binary_run s _ hc | (simp only [hid_eq]; exact binary_run s _ hc))⟩
  · cases hg
noncomputable def cRBinary : List AV → Bool
  | [.str s] => cd (s.length ≤ 1000000)
  | _ => false
noncomputable def gRBinary : List AV → Option AV
  | [.str s] => some (.tuple [.str (hid binS s).1, .int .i64 (hid binS s).2])
  | _ => none
noncomputable def kRBinary : KT := KT.pure cRBinary gRBinary
theorem kRBinary_ok : ContractOk Try.prog 45 kRBinary.a := by
  refine KT.pure_run (Checked.mixed Try.checked) F_ok TTxt_ok rfl (fn := f45) rfl (L := fun _ => none) LoopsOk.none fun args v hc hg => ?_
  unfold gRBinary at hg
  split at hg
  · cases hg
    rename_i s
    have hc : s.length ≤ 1000000 := Eq.mp cd_iff hc
    exact ⟨rfl, rfl, _, (by first | exact rbinary_run s _ hc | (simp only [hid_eq]; exact rbinary_run s _ hc))⟩
  · cases hg
noncomputable def cReadB : List AV → Bool
  | [.str s] => cd (s.length ≤ 1000000)
  | _ => false
noncomputable def gReadB : List AV → Option AV
  | [.str s] => some (.tuple [.str (hid readbS s).1, .int .i64 (hid readbS s).2.1, .int .i64 (hid readbS s).2.2])
  | _ => none
noncomputable def kReadB : KT := KT.pure cReadB gReadB
theorem kReadB_ok : ContractOk Try.prog 41 kReadB.a := by
  refine KT.pure_run (Checked.mixed Try.checked) F_ok TTxt_ok rfl (fn := f41) rfl (L := fun _ => none) LoopsOk.none fun args v hc hg => ?_
  unfold gReadB at hg
  split at hg
  · cases hg
    rename_i s
    have hc : s.length ≤ 1000000 := Eq.mp cd_iff hc
    exact ⟨rfl, rfl, _, (by first | exact readb_run s _ hc | (simp only [hid_eq]; exact readb_run s _ hc))⟩
  · cases hg
noncomputable def cRReadB : List AV → Bool
  | [.str s] => cd (s.length ≤ 1000000)
  | _ => false
noncomputable def gRReadB : List AV → Option AV
  | [.str s] => some (.tuple [.str (hid readbS s).1, .int .i64 (hid readbS s).2.1, .int .i64 (hid readbS s).2.2])
  | _ => none
noncomputable def kRReadB : KT := KT.pure cRReadB gRReadB
theorem kRReadB_ok : ContractOk Try.prog 47 kRReadB.a := by
  refine KT.pure_run (Checked.mixed Try.checked) F_ok TTxt_ok rfl (fn := f47) rfl (L := fun _ => none) LoopsOk.none fun args v hc hg => ?_
  unfold gRReadB at hg
  split at hg
  · cases hg
    rename_i s
    have hc : s.length ≤ 1000000 := Eq.mp cd_iff hc
    exact ⟨rfl, rfl, _, (by first | exact rreadb_run s _ hc | (simp only [hid_eq]; exact rreadb_run s _ hc))⟩
  · cases hg
noncomputable def TRd : FuncId → Option KT
  | 17 => some kValid
  | 48 => some kRValid
  | 41 => some kReadB
  | 47 => some kRReadB
  | _ => none
theorem TRd_ok : KTOk Try.prog TRd := by
  intro f t h
  unfold TRd at h
  split at h
  · cases h; exact kValid_ok
  · cases h; exact kRValid_ok
  · cases h; exact kReadB_ok
  · cases h; exact kRReadB_ok
  · cases h

end Go.Proofs.Ytidlbhppbopjjaa.Ax

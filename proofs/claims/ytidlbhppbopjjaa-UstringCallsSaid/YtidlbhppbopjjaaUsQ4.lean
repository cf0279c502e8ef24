/-
Chapter 3: the contracts of the reference's Bad and Runes, of Same.
-/
import Derived.Test.YtidlbhppbopjjaaUsQ3
namespace Go.Proofs.Ytidlbhppbopjjaa.Ax
open Go.Ax
set_option linter.unusedVariables false
set_option linter.unusedSimpArgs false
set_option maxRecDepth 100000

theorem rbad_run {β : Type} (s : List UInt8) (hs : s.length ≤ 1000000000) (kk : KV → KHeap → Option β) : kBody (kFn F TPnt RR DD) rbadLT RR f49 [.str s] [] kk = kk (.int .i64 (badH s)) [] := by
  rw [rbad_tree, selK_pos (by rw [cd_iff]; exact ⟨rfl, hs⟩), badH_eq]
  cases h : eqI (bad s) (-1)
  · rfl
  · rw [eqI_iff] at h; rw [h]; rfl
noncomputable def cRBad : List AV → Bool
  | [.str s] => cd (s.length ≤ 1000000000)
  | _ => false
noncomputable def gRBad : List AV → Option AV
  | [.str s] => some (.int .i64 (badH s))
  | _ => none
noncomputable def kRBad : KT := KT.pure cRBad gRBad
theorem kRBad_ok : ContractOk Try.prog 49 kRBad.a := by
  refine KT.pure_run (Checked.mixed Try.checked) F_ok TPnt_ok rfl (fn := f49) rfl (L := rbadLT) rbadLoop_ok fun args v hc hg => ?_
  unfold gRBad at hg
  split at hg
  · cases hg
    rename_i s
    have hc : s.length ≤ 1000000000 := Eq.mp cd_iff hc
    exact ⟨rfl, rfl, _, (by first | exact rbad_run s hc _ | (simp only [hid_eq]; exact rbad_run s hc _))⟩
  · cases hg

noncomputable def gRRunes : List KA → FT
  | [.v (.str s)] => .sel (cd (s.length ≤ 1000000)) (.sel (Nat.beq (hid runesQ s).length 0) (.ans .nilslice []) (.ans (.rslice 0 0 (hid runesQ s).length 2) [⟨RK, hid runesQ s⟩])) .no
  | _ => .no
noncomputable def kRRunes : KT := KT.gen [none] gRRunes
theorem kRRunes_ok : ContractOk Try.prog 51 kRRunes.a := by
  refine KT.gen_run (Checked.mixed Try.checked) F_ok TPnt_ok rfl (fn := f51) rfl fun ks v o hv hg => ?_
  unfold gRRunes at hg
  split at hg
  · rename_i s
    rcases FT.sel_run hg with ⟨hc, hg⟩ | ⟨hc, hg⟩
    · rw [cd_iff] at hc
      rw [hid_eq] at hg
      refine ⟨rrunLT, rrunLoop_ok, ?_⟩
      show kBody (kFn F TPnt RR DD) rrunLT RR f51 [.str s] [] _ = _
      rw [rrun_tree, selK_pos (by rw [cd_iff]; exact ⟨rfl, hc⟩)]
      rcases FT.sel_run hg with ⟨h0, hg⟩ | ⟨h0, hg⟩ <;> rw [h0] <;> cases hg <;> cases eqI (bad s) (-1) <;> rfl
    · cases hg
  · cases hg

noncomputable def gSame : List KA → FT
  | [.v .nilslice, .v .nilslice] => .ans (.bool true) []
  | [.rows [.int .i64, .int .i32] a, .rows [.int .i64, .int .i32] b] => .sel (cd (a.length ≤ 1000000000)) (.ans (.bool (cd (a = b))) []) .no
  | _ => .no
noncomputable def kSame : KT := KT.gen [some RK, some RK] gSame
theorem kSame_ok : ContractOk Try.prog 43 kSame.a := by
  refine KT.gen_run (Checked.mixed Try.checked) F_ok KTOk.none rfl (fn := f43) rfl fun ks v o hv hg => ?_
  unfold gSame at hg
  split at hg
  · cases hg
    exact ⟨fun _ => none, LoopsOk.none, same_nil _⟩
  · rename_i a b
    rcases FT.sel_run hg with ⟨hc, hg⟩ | ⟨hc, hg⟩
    · rw [cd_iff] at hc
      cases hg
      refine ⟨sameLT, sameLoop_ok, ?_⟩
      show kBody (kFn F (fun _ => none) RR DD) sameLT RR f43 [.rslice 0 0 a.length 2, .rslice 1 0 b.length 2] [.recs true [.int .i64, .int .i32] a, .recs true [.int .i64, .int .i32] b] _ = _
      rw [same_tree]
      by_cases hl : a.length = b.length
      · rw [selK_neg (by rw [not_f, eqI_iff]; omega), selK_pos (by rw [cd_iff]; exact ⟨rfl, rfl, rfl, hl, hc⟩)]
        cases cd (a = b) <;> rfl
      · rw [selK_pos (by rw [not_t, eqI_iff0]; omega), show cd (a = b) = false by rw [cd_iff0]; intro h; exact hl (by rw [h])]
        rfl
    · cases hg
  · cases hg

noncomputable def TRef : FuncId → Option KT
  | 19 => some kBad
  | 18 => some kCount
  | 49 => some kRBad
  | 51 => some kRRunes
  | _ => none
theorem TRef_ok : KTOk Try.prog TRef := by
  intro f t h
  unfold TRef at h
  split at h
  · cases h; exact kBad_ok
  · cases h; exact kCount_ok
  · cases h; exact kRBad_ok
  · cases h; exact kRRunes_ok
  · cases h

end Go.Proofs.Ytidlbhppbopjjaa.Ax

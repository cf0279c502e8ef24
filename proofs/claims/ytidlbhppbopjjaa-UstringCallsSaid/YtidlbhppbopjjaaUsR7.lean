/-
Chapter 3: the contracts of Count and of the law's runes.
-/
import Derived.Test.YtidlbhppbopjjaaUsR6
namespace Go.Proofs.Ytidlbhppbopjjaa.Ax
open Go.Ax
set_option linter.unusedVariables false
set_option linter.unusedSimpArgs false
set_option maxRecDepth 100000

theorem cnt_run {β : Type} (s : List UInt8) (hs : s.length ≤ 1000000) (kk : KV → KHeap → Option β) : kBody (kFn F TNm RR DD) cntLT RR f18 [.str s] [] kk = kk (.int .i64 (countS s : Nat)) [] := by
  rw [cnt_tree]
  by_cases h1 : s.length ≤ 65535
  · rw [selK_pos (by rw [leI_iff]; omega), selK_pos (by rw [cd_iff]; omega)]
    by_cases hb : bad s = -1
    · rw [selK_pos (by rw [eqI_iff, badH_eq]; exact hb), selK_pos (by rw [cd_iff]; exact ⟨rfl, rfl, hb, hs⟩)]
      unfold countS
      rw [if_pos ⟨h1, hb⟩]
    · rw [selK_neg (by rw [eqI_iff0, badH_eq]; exact hb)]
      unfold countS
      rw [if_neg (fun h => hb h.2)]
      rfl
  · rw [selK_neg (by rw [leI_iff0]; omega)]
    unfold countS
    rw [if_neg (fun h => h1 h.1)]
    rfl

noncomputable def cCount : List AV → Bool
  | [.str s] => cd (s.length ≤ 1000000)
  | _ => false
noncomputable def gCount : List AV → Option AV
  | [.str s] => some (.int .i64 ((hid countS s : Nat) : Int))
  | _ => none
noncomputable def kCount : KT := KT.pure cCount gCount
theorem kCount_ok : ContractOk Try.prog 18 kCount.a := by
  refine KT.pure_run (Checked.mixed Try.checked) F_ok TNm_ok rfl (fn := f18) rfl (L := cntLT) cntLoop_ok fun args v hc hg => ?_
  unfold gCount at hg
  split at hg
  · cases hg
    rename_i s
    have hc : s.length ≤ 1000000 := Eq.mp cd_iff hc
    exact ⟨rfl, rfl, _, (by first | exact cnt_run s hc _ | (simp only [hid_eq]; exact cnt_run s hc _))⟩
  · cases hg

noncomputable def gRunes : List KA → FT
  | [.v (.str s)] => .sel (cd (s.length ≤ 1000000)) (.sel (Nat.beq (hid runesQ s).length 0) (.ans (.tuple [.nilslice, .bool true]) []) (.ans (.tuple [.rslice 0 0 (hid runesQ s).length 2, .bool true]) [⟨RK, hid runesQ s⟩])) .no
  | _ => .no
noncomputable def kRunes : KT := KT.gen [none] gRunes
theorem kRunes_ok : ContractOk Try.prog 20 kRunes.a := by
  refine KT.gen_run (Checked.mixed Try.checked) F_ok TNm_ok rfl (fn := f20) rfl fun ks v o hv hg => ?_
  unfold gRunes at hg
  split at hg
  · rename_i s
    rcases FT.sel_run hg with ⟨hc, hg⟩ | ⟨hc, hg⟩
    · rw [cd_iff] at hc
      rw [hid_eq] at hg
      refine ⟨runesLT, runesLoop_ok, ?_⟩
      show kBody (kFn F TNm RR DD) runesLT RR f20 [.str s] [] _ = _
      rw [runes_tree, selK_pos (by rw [cd_iff]; exact ⟨rfl, rfl, hc⟩)]
      rcases FT.sel_run hg with ⟨h0, hg⟩ | ⟨h0, hg⟩
      · rw [selK_pos h0]; cases hg; rfl
      · rw [selK_neg h0]; cases hg; rfl
    · cases hg
  · cases hg


end Go.Proofs.Ytidlbhppbopjjaa.Ax

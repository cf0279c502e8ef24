/-
Chapter 1: the contract of the reference's Get; the table for OctetScript.
-/
import Derived.Test.YtidlbhppbopjjaaRGetT
import Derived.Test.YtidlbhppbopjjaaPartC0
namespace Go.Proofs.Ytidlbhppbopjjaa.Ax
open Go.Ax
set_option linter.unusedVariables false
set_option linter.unusedSimpArgs false

theorem rget_run {β : Type} (kk : KV → KHeap → Option β) (s : List UInt8) (hs : s.length ≤ 4611686018427387904) : kBody (kFn F (fun _ => none) RR DD) rgetLT RR f56 [.str s] [] kk = kk (.int .u64 (getL s)) [] := by
  have e1 : wr .i64 (((s.length : Nat) : Int) - 8) = (s.length : Int) - 8 := w64 _ (by omega) (by omega)
  have e2 : maxI 0 ((s.length : Int) - 8) = ((s.length - 8 : Nat) : Int) := by unfold maxI; split <;> omega
  rw [rget_tree, e1, e2, selK_pos (by rw [cd_iff]; exact ⟨hs, rfl, rfl⟩)]

noncomputable def cRGet : List AV → Bool
  | [.str s] => cd (s.length ≤ 4611686018427387904)
  | _ => false
noncomputable def gRGet : List AV → Option AV
  | [.str s] => some (.int .u64 (hid getL s))
  | _ => none
noncomputable def kRGet : KT := KT.pure cRGet gRGet
theorem kRGet_ok : ContractOk Try.prog 56 kRGet.a := by
  refine KT.pure_run (Checked.mixed Try.checked) F_ok KTOk.none rfl (fn := f56) rfl (L := rgetLT) rgetLoop_ok fun args v hc hg => ?_
  unfold gRGet at hg
  split at hg
  · cases hg
    rename_i s
    have hc : s.length ≤ 4611686018427387904 := Eq.mp cd_iff hc
    exact ⟨rfl, rfl, _, (by first | exact rget_run _ s hc | (simp only [hid_eq]; exact rget_run _ s hc))⟩
  · cases hg
noncomputable def TScr : FuncId → Option KT
  | 14 => some kPut
  | 15 => some kGet
  | 12 => some kLives01
  | 56 => some kRGet
  | _ => none
theorem TScr_ok : KTOk Try.prog TScr := by
  intro f t h
  unfold TScr at h
  split at h
  · cases h; exact kPut_ok
  · cases h; exact kGet_ok
  · cases h; exact kLives01_ok
  · cases h; exact kRGet_ok
  · cases h
end Go.Proofs.Ytidlbhppbopjjaa.Ax

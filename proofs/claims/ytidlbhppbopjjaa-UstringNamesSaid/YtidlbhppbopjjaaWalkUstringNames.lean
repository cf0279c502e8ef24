/-
The law UstringNames, run.
-/
import Derived.Test.YtidlbhppbopjjaaUsT2
namespace Go.Proofs.Ytidlbhppbopjjaa.Ax
open Go.Ax
set_option linter.unusedVariables false
set_option linter.unusedSimpArgs false
set_option maxRecDepth 100000

theorem times_un1 (b : UInt8) (h : b.toNat < 128) (h0 : b ≠ 0) : Un [b] b.toNat := by
  have hn : b.toNat ≠ 0 := fun e => h0 (UInt8.toNat_inj.1 e)
  have hg : ∀ y, dec ([b] ++ y) = (b.toNat, 1) ∧ good ([b] ++ y) = true := fun y => by
    have := dec1 b y h
    refine ⟨this, ?_⟩
    unfold good
    rw [show [b] ++ y = b :: y from rfl, this]
    simp; omega
  refine ⟨by simp, by simp, hg, ?_, by omega, hn⟩
  exact Head.encode (.one b [] h)

theorem bad_times (b : UInt8) (h : b.toNat < 128) (h0 : b ≠ 0) (n : Nat) : bad (timesL [b] n) = -1 := by
  rw [bad_neg]
  have hj : ∀ n : Nat, joined (List.replicate n ([b], b.toNat)) = timesL [b] n := fun n => by
    induction n with
    | zero => rfl
    | succ n ih => rw [List.replicate_succ, joined_cons, ih, timesL_succ]
  have := (pts_of (List.replicate n ([b], b.toNat)) [] (fun p hp => by rw [(List.mem_replicate.1 hp).2]; exact times_un1 b h h0) (Or.inl rfl)).2
  rw [List.append_nil, hj] at this
  exact this

theorem bytesR_length (l : List (Row [.int .u8])) : (bytesR l).length = l.length := by simp [bytesR]

theorem UstringNames_run {β : Type} (kk : KV → KHeap → Option β) :
    kBody (kFn F TNm RR DD) (fun _ => none) RR f10 [] [] kk = kk (.bool true) [] := by
  rw [unames_tree]
  have hX : (hid timesL ([97] : List UInt8) ((65536 : Int)).toNat).length = 65536 := by rw [hid_eq, timesL_length]; rfl
  have hB : badH (hid timesL ([97] : List UInt8) ((65536 : Int)).toNat) = -1 := by rw [badH_eq, hid_eq]; exact bad_times 97 (by decide) (by decide) _
  generalize hid timesL ([97] : List UInt8) ((65536 : Int)).toNat = X at hX hB ⊢
  have hS : (subS X 1 65536).length = 65535 := by simp [subS, hX]
  rw [hX, hB, hS]
  repeat first
    | (refine optK_posx rfl ?_)
    | (refine selK_posx (by first | rfl | (rw [cd_iff]; first | decide | omega) | (rw [fitS_iff, bytesR_length]; simp [hX, hS]; done)) ?_)
    | (refine selK_negx (by rfl) ?_)
  rfl

theorem UstringNames_walk (W : World) :
    Calls Try.prog 10 #[] W fun e W' => e = .returned (.bool true) ∧ Go.RowKit.Below W.heap.size W W' := by
  exact walk_run (Checked.mixed Try.checked) F_ok TNm_ok (fn := f10) rfl rfl (L := fun _ => none) (h := []) (args := []) LoopsOk.none (UstringNames_run _) (ι := []) .nil (HRel.nil W) (fun _ => Own.nil)

end Go.Proofs.Ytidlbhppbopjjaa.Ax

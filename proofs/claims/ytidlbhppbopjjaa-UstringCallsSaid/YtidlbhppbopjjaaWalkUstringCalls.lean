/-
The law UstringCalls, run for any two strings.
-/
import Derived.Test.YtidlbhppbopjjaaUsQB
namespace Go.Proofs.Ytidlbhppbopjjaa.Ax
open Go.Ax
set_option linter.unusedVariables false
set_option linter.unusedSimpArgs false
set_option maxRecDepth 100000

theorem eqS_refl (a : List UInt8) : eqS a a = true := by simp [eqS]
theorem eqI_refl (a : Int) : eqI a a = true := by simp [eqI]
theorem text65 : textS [65] = ([0, 1, 65], 0) := by decide
theorem textC0 : textS [192, 128] = ([], 6) := by decide

theorem UstringCalls_run {β : Type} (s b : List UInt8) (kk : KV → KHeap → Option β) :
    kBody (kFn F TUc RR DD) (fun _ => none) RR f11 [.str s, .str b] [] kk = kk (.bool true) [] := by
  rw [ucalls_tree]
  simp only [eqS_refl, eqI_refl, selK_true]
  simp only [hid_eq, text65, textC0]
  refine selK_posx (by rw [cd_iff]; decide) (selK_posx (by rw [cd_iff]; decide) (selK_posx rfl (selK_posx rfl (selK_posx rfl ?_))))
  by_cases hs : (70000 : Int) < ((s.length : Nat) : Int)
  · rw [selK_pos (by rw [ltI_iff]; exact hs)]
  rw [selK_neg (by rw [ltI_iff0]; omega)]
  by_cases hb : (70000 : Int) < ((b.length : Nat) : Int)
  · rw [selK_pos (by rw [ltI_iff]; exact hb)]
  rw [selK_neg (by rw [ltI_iff0]; omega)]
  have c1 : cd (s.length ≤ 1000000) = true := by rw [cd_iff]; omega
  have c2 : cd (b.length ≤ 1000000) = true := by rw [cd_iff]; omega
  have c3 : cd (s.length ≤ 1000000000) = true := by rw [cd_iff]; omega
  have c4 : cd (s.length ≤ 4611686018427387904) = true := by rw [cd_iff]; omega
  obtain ⟨hu, hst, hj⟩ := pts_spec s
  have hq := runesQ_length s
  have hlen := pts_len (pts s) hu
  have hl2 : s.length = (joined (pts s)).length + (rst s).length := by rw [← List.length_append]; exact congrArg List.length hj
  have c5 : cd ((List.take (runesQ s).length (List.drop 0 (runesQ s))).length ≤ 1000000000) = true := by rw [cd_iff, List.length_take]; omega
  have c6 : (true && decide (0 + (runesQ s).length ≤ (runesQ s).length)) = true := by simp
  have c7 : cd True = true := by rw [cd_iff]; trivial
  simp only [c1, c2, c3, c4, c5, c6, c7, selK_true]
  cases Nat.beq (runesQ s).length 0 <;> cases validS s <;> rfl

theorem UstringCalls_walk (a0 : ByteArray) (w0 : a0.size ≤ 140737488351232) (a1 : ByteArray) (w1 : a1.size ≤ 140737488351232) (W : World) :
    Calls Try.prog 11 #[.string a0, .string a1] W fun e W' => e = .returned (.bool true) ∧ Go.RowKit.Below W.heap.size W W' := by
  exact walk_run (Checked.mixed Try.checked) F_ok TUc_ok (fn := f11) rfl rfl (L := fun _ => none) (h := []) (args := [.str a0.data.toList, .str a1.data.toList]) LoopsOk.none (UstringCalls_run a0.data.toList a1.data.toList _) (ι := [])
    (.cons (by simp [erv, VRel]) (.cons (by simp [erv, VRel]) .nil)) (HRel.nil W) (fun _ => Own.nil)

end Go.Proofs.Ytidlbhppbopjjaa.Ax

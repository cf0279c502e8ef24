/-
The law SnheadCalls, run for any two numbers, any bytes, any flags.
-/
import Derived.Test.YtahifkdnkhlknaaSnhT5
import Derived.Test.YtahifkdnkhlknaaKxD
namespace Go.Proofs.Ytahifkdnkhlknaa.Ax
open Go.Ax
set_option linter.unusedVariables false
set_option linter.unusedSimpArgs false
set_option maxRecDepth 100000

theorem eqS_refl (a : List UInt8) : eqS a a = true := by simp [eqS]
theorem eqI_refl (a : Int) : eqI a a = true := by simp [eqI]
theorem eqB_refl (a : Bool) : eqB a a = true := by simp [eqB]

theorem SnheadCalls_run {β : Type} (k r : Int) (hr : -9223372036854775808 ≤ r ∧ r ≤ 9223372036854775807) (s : List UInt8) (f : Fl) (kk : KV → KHeap → Option β) :
    kBody (kFn F TCal RR DD) (fun _ => none) RR f6 [.int .i64 k, .int .i64 r, .str s, .agg [.bool f.dup, .int .i64 f.qos, .bool f.ret, .bool f.will, .bool f.clean, .int .i64 f.typ]] [] kk = kk (.bool true) [] := by
  rw [calls_tree]
  by_cases hs : (100 : Int) < ((s.length : Nat) : Int)
  · rw [selK_pos (by rw [ltI_iff]; exact hs)]
  rw [selK_neg (by rw [ltI_iff0]; omega), selK_pos (by rw [cd_iff]; exact hr), selK_pos (by rw [cd_iff]; exact hr), selK_pos (by rw [cd_iff]; omega), selK_pos (by rw [cd_iff]; omega)]
  unfold calls_tree_s1
  simp only [eqS_refl, eqI_refl, eqB_refl, Bool.and_self, Bool.and_true, selK_true]
  cases hid known k <;> cases hid may k (Fl.mk f.dup f.qos f.ret f.will f.clean f.typ) <;> rfl

abbrev FlK : List CK := [.bool, .int .i64, .bool, .bool, .bool, .int .i64]
def flOf (r : Row FlK) : Fl := ⟨r.1, r.2.1, r.2.2.1, r.2.2.2.1, r.2.2.2.2.1, r.2.2.2.2.2.1⟩

theorem SnheadCalls_walk (a0 : Int) (w0 : (Lit.int .i64 a0).wf = true) (a1 : Int) (w1 : (Lit.int .i64 a1).wf = true) (a2 : ByteArray) (w2 : a2.size ≤ 140737488351232) (a3 : Row FlK) (w3 : RowWf FlK a3) (W : World) :
    Calls Try.prog 6 #[.int .i64 a0, .int .i64 a1, .string a2, .agg (rowVals FlK a3).toArray] W fun e W' => e = .returned (.bool true) ∧ Go.RowKit.Below W.heap.size W W' := by
  exact walk_run (Checked.mixed Try.checked) F_ok TCal_ok (fn := f6) rfl rfl (L := fun _ => none) (h := []) (args := [.int .i64 a0, .int .i64 a1, .str a2.data.toList, .agg [.bool (flOf a3).dup, .int .i64 (flOf a3).qos, .bool (flOf a3).ret, .bool (flOf a3).will, .bool (flOf a3).clean, .int .i64 (flOf a3).typ]]) LoopsOk.none (SnheadCalls_run a0 a1 (wf_i64 w1) a2.data.toList (flOf a3) _) (ι := [])
    (.cons (by simp [erv, VRel]) (.cons (by simp [erv, VRel]) (.cons (by simp [erv, VRel]) (.cons (by simpa [erv, ers, rowAV, flOf] using agg_rel FlK a3) .nil)))) (HRel.nil W) (fun _ => Own.nil)

end Go.Proofs.Ytahifkdnkhlknaa.Ax

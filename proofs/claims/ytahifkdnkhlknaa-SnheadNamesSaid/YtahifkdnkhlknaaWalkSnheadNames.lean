import Derived.Test.YtahifkdnkhlknaaAxF
import Derived.Test.YtahifkdnkhlknaaChecked
namespace Go.Proofs.Ytahifkdnkhlknaa.Ax
open Go.Ax
set_option maxRecDepth 1000000
theorem SnheadNames_run : aFn F (fun _ => none) 1000 50 5 [] [] = some (.bool true, []) := by kernel_rfl
theorem SnheadNames_walk (W : World) : Calls Try.prog 5 #[] W fun e W' => e = .returned (.bool true) ∧ Go.RowKit.Below W.heap.size W W' :=
  walk_of (Checked.mixed Try.checked) F_ok tOk_none SnheadNames_run (ι := []) .nil (HRel.nil W) (fun _ => Own.nil)
end Go.Proofs.Ytahifkdnkhlknaa.Ax

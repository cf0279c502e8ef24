import Derived.Test.YtidlbhppbopjjaaAxF
import Derived.Test.YtidlbhppbopjjaaChecked
namespace Go.Proofs.Ytidlbhppbopjjaa.Ax
open Go.Ax
set_option maxRecDepth 1000000
theorem OctetNames_run : aFn F (fun _ => none) 1000 50 7 [] [] = some (.bool true, []) := by kernel_rfl
theorem OctetNames_walk (W : World) : Calls Try.prog 7 #[] W fun e W' => e = .returned (.bool true) ∧ Go.RowKit.Below W.heap.size W W' :=
  walk_of (Checked.mixed Try.checked) F_ok tOk_none OctetNames_run (ι := []) .nil (HRel.nil W) (fun _ => Own.nil)
end Go.Proofs.Ytidlbhppbopjjaa.Ax

/-
What the second machine comes to at some functions (printed by a program of ours).
-/
import Derived.Test.YtidlbhppbopjjaaRGetL
import Derived.KernelRfl
namespace Go.Proofs.Ytidlbhppbopjjaa.Ax
open Go.Ax
set_option linter.unusedVariables false
set_option maxRecDepth 100000

-- size 3
theorem rget_tree {β : Type} (s : List UInt8) (kk : KV → KHeap → Option β) :
    kBody (kFn F (fun _ => none) RR DD) rgetLT RR f56 [.str s] [] kk =
  selK (cd (rgetOk s 0 (maxI 0 (wr .i64 (((s.length : Nat) : Int) - 8)))))
   (kk (.int .u64 (getL s : Int)) [])
   (none) := by kernel_rfl

end Go.Proofs.Ytidlbhppbopjjaa.Ax

/-
What the second machine comes to at some functions (printed by a program of ours).
-/
import Derived.Test.YtidlbhppbopjjaaUsC0
import Derived.KernelRfl
namespace Go.Proofs.Ytidlbhppbopjjaa.Ax
open Go.Ax
set_option linter.unusedVariables false
set_option maxRecDepth 100000

-- size 3
theorem times_tree {β : Type} (s : List UInt8) (n : Int) (kk : KV → KHeap → Option β) :
    kBody (kFn F (fun _ => none) RR DD) timesLT RR f42 [.str s, .int .i64 n] [] kk =
  selK (cd ((([] : List UInt8) : List UInt8) = [] ∧ 0 ≤ n ∧ n ≤ 1000000 ∧ s.length ≤ 1000))
   (kk (.str (timesL s (n).toNat)) [])
   (none) := by kernel_rfl

end Go.Proofs.Ytidlbhppbopjjaa.Ax

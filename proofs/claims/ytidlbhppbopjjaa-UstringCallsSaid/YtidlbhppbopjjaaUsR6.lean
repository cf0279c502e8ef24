/-
What the second machine comes to at some functions (printed by a program of ours).
-/
import Derived.Test.YtidlbhppbopjjaaUsR5
import Derived.KernelRfl
namespace Go.Proofs.Ytidlbhppbopjjaa.Ax
open Go.Ax
set_option linter.unusedVariables false
set_option maxRecDepth 100000

-- size 9
theorem cnt_tree {β : Type} (s : List UInt8) (kk : KV → KHeap → Option β) :
    kBody (kFn F TNm RR DD) cntLT RR f18 [.str s] [] kk =
  selK (leI ((s.length : Nat) : Int) 65535)
   (selK (cd (s.length ≤ 4611686018427387904))
    (selK (eqI (badH s) (-1))
     (selK (cd ((0 : Int) = 0 ∧ 0 = 0 ∧ bad s = -1 ∧ s.length ≤ 1000000))
      (kk (.int .i64 ((pts s).length : Nat)) [])
      (none))
     (kk (.int .i64 0) []))
    (none))
   (kk (.int .i64 0) []) := by kernel_rfl

end Go.Proofs.Ytidlbhppbopjjaa.Ax

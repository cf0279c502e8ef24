/-
What the second machine comes to at some functions (printed by a program of ours).
-/
import Derived.Test.YtidlbhppbopjjaaUsR7
import Derived.KernelRfl
namespace Go.Proofs.Ytidlbhppbopjjaa.Ax
open Go.Ax
set_option linter.unusedVariables false
set_option maxRecDepth 100000

-- size 7
theorem valid_tree {β : Type} (s : List UInt8) (kk : KV → KHeap → Option β) :
    kBody (kFn F TNm RR DD) (fun _ => none) RR f17 [.str s] [] kk =
  selK (leI ((s.length : Nat) : Int) 65535)
   (selK (cd (s.length ≤ 4611686018427387904))
    (selK (eqI (badH s) (-1))
     (kk (.bool true) [])
     (kk (.bool false) []))
    (none))
   (kk (.bool false) []) := by kernel_rfl

-- size 7
theorem pick_tree {β : Type} (a n : Int) (kk : KV → KHeap → Option β) :
    kBody (kFn F TNm RR DD) (fun _ => none) RR f13 [.int .i64 a, .int .i64 n] [] kk =
  selK (ltI n 1)
   (kk (.int .i64 0) [])
   (selK (eqI n 0)
    (none)
    (selK (ltI (remI a n) 0)
     (kk (.int .i64 (wr .i64 ((remI a n) + n))) [])
     (kk (.int .i64 (remI a n)) []))) := by kernel_rfl

end Go.Proofs.Ytidlbhppbopjjaa.Ax

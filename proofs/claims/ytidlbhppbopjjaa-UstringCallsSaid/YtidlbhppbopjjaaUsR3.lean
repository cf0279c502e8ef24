/-
What the second machine comes to at some functions (printed by a program of ours).
-/
import Derived.Test.YtidlbhppbopjjaaUsR2
import Derived.KernelRfl
namespace Go.Proofs.Ytidlbhppbopjjaa.Ax
open Go.Ax
set_option linter.unusedVariables false
set_option maxRecDepth 100000

-- size 5
theorem runes_tree {β : Type} (s : List UInt8) (kk : KV → KHeap → Option β) :
    kBody (kFn F TNm RR DD) runesLT RR f20 [.str s] [] kk =
  selK (cd (s = s ∧ [.junk, .ptr 0 0, .ptr 1 0, .ptr 2 0, .junk, .ptr 4 0, .tuple [], .tuple [], .junk, .junk, .junk, .junk, .func (.func 60) [] [.ptr 3 0], .tuple [], .tuple [], .tuple [], .tuple [], .tuple [], .tuple [], .tuple [], .tuple [], .tuple [], .tuple [], .tuple [], .tuple [], .tuple [], .tuple []] = runesFR ∧ s.length ≤ 1000000))
   (selK (Nat.beq (runesQ s).length 0)
    (kk (.tuple [.nilslice, .bool true]) [])
    (kk (.tuple [.rslice 0 0 (runesQ s).length 2, .bool true]) [.recs false [.int .i64, .int .i32] (runesQ s)]))
   (none) := by kernel_rfl

end Go.Proofs.Ytidlbhppbopjjaa.Ax

/-
What the second machine comes to at some functions (printed by a program of ours).
-/
import Derived.Test.YtidlbhppbopjjaaUsQ8
import Derived.KernelRfl
namespace Go.Proofs.Ytidlbhppbopjjaa.Ax
open Go.Ax
set_option linter.unusedVariables false
set_option maxRecDepth 100000

-- size 9
theorem read_tree {β : Type} (s : List UInt8) (kk : KV → KHeap → Option β) :
    kBody (kFn F TRd RR DD) (fun _ => none) RR f39 [.str s] [] kk =
  selK (cd (s.length ≤ 1000000))
   (selK (eqI (hid readbS s).2.2 0)
    (selK (cd ((hid readbS s).1.length ≤ 4611686018427387904))
     (selK ((hid validS (hid readbS s).1))
      (kk (.tuple [.str (hid readbS s).1, .int .i64 (hid readbS s).2.1, .int .i64 (hid readbS s).2.2]) [])
      (kk (.tuple [.str ([] : List UInt8), .int .i64 0, .int .i64 6]) []))
     (none))
    (kk (.tuple [.str (hid readbS s).1, .int .i64 (hid readbS s).2.1, .int .i64 (hid readbS s).2.2]) []))
   (none) := by kernel_rfl

-- size 9
theorem rread_tree {β : Type} (s : List UInt8) (kk : KV → KHeap → Option β) :
    kBody (kFn F TRd RR DD) (fun _ => none) RR f46 [.str s] [] kk =
  selK (cd (s.length ≤ 1000000))
   (selK ((!eqI (hid readbS s).2.2 0))
    (kk (.tuple [.str ([] : List UInt8), .int .i64 0, .int .i64 (hid readbS s).2.2]) [])
    (selK (cd ((hid readbS s).1.length ≤ 1000000000))
     (selK ((hid validS (hid readbS s).1))
      (kk (.tuple [.str (hid readbS s).1, .int .i64 (hid readbS s).2.1, .int .i64 0]) [])
      (kk (.tuple [.str ([] : List UInt8), .int .i64 0, .int .i64 6]) []))
     (none)))
   (none) := by kernel_rfl

end Go.Proofs.Ytidlbhppbopjjaa.Ax

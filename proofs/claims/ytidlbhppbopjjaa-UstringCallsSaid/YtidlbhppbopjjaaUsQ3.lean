/-
What the second machine comes to at some functions (printed by a program of ours).
-/
import Derived.Test.YtidlbhppbopjjaaUsQ2
import Derived.KernelRfl
namespace Go.Proofs.Ytidlbhppbopjjaa.Ax
open Go.Ax
set_option linter.unusedVariables false
set_option maxRecDepth 100000

-- size 5
theorem rbad_tree {β : Type} (s : List UInt8) (kk : KV → KHeap → Option β) :
    kBody (kFn F TPnt RR DD) rbadLT RR f49 [.str s] [] kk =
  selK (cd ((0 : Int) = 0 ∧ s.length ≤ 1000000000))
   (selK (eqI (bad s) (-1))
    (kk (.int .i64 (-1)) [])
    (kk (.int .i64 (bad s)) []))
   (none) := by kernel_rfl

-- size 9
theorem rrun_tree {β : Type} (s : List UInt8) (kk : KV → KHeap → Option β) :
    kBody (kFn F TPnt RR DD) rrunLT RR f51 [.str s] [] kk =
  selK (cd ((0 : Int) = 0 ∧ s.length ≤ 1000000))
   (selK (eqI (bad s) (-1))
    (selK (Nat.beq (runesQ s).length 0)
     (kk (.nilslice) [])
     (kk (.rslice 0 0 (runesQ s).length 2) [.recs false [.int .i64, .int .i32] (runesQ s)]))
    (selK (Nat.beq (runesQ s).length 0)
     (kk (.nilslice) [])
     (kk (.rslice 0 0 (runesQ s).length 2) [.recs false [.int .i64, .int .i32] (runesQ s)])))
   (none) := by kernel_rfl

-- size 7
theorem same_tree {β : Type} (a b : List (Row RK)) (kk : KV → KHeap → Option β) :
    kBody (kFn F (fun _ => none) RR DD) sameLT RR f43 [.rslice 0 0 a.length 2, .rslice 1 0 b.length 2] [.recs true [.int .i64, .int .i32] a, .recs true [.int .i64, .int .i32] b] kk =
  selK ((!eqI ((a.length : Nat) : Int) ((b.length : Nat) : Int)))
   (kk (.bool false) [.recs true [.int .i64, .int .i32] a, .recs true [.int .i64, .int .i32] b])
   (selK (cd ((0 : Int) = 0 ∧ a.length = a.length ∧ b.length = b.length ∧ a.length = b.length ∧ a.length ≤ 1000000000))
    (selK (cd (a = b))
     (kk (.bool true) [.recs true [.int .i64, .int .i32] a, .recs true [.int .i64, .int .i32] b])
     (kk (.bool false) [.recs true [.int .i64, .int .i32] a, .recs true [.int .i64, .int .i32] b]))
    (none)) := by kernel_rfl

end Go.Proofs.Ytidlbhppbopjjaa.Ax

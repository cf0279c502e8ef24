/-
What the second machine comes to at some functions (printed by a program of ours).
-/
import Derived.Test.YtidlbhppbopjjaaUsQ4
import Derived.KernelRfl
namespace Go.Proofs.Ytidlbhppbopjjaa.Ax
open Go.Ax
set_option linter.unusedVariables false
set_option maxRecDepth 100000

-- size 7
theorem rvalid_tree {β : Type} (s : List UInt8) (kk : KV → KHeap → Option β) :
    kBody (kFn F TRef RR DD) (fun _ => none) RR f48 [.str s] [] kk =
  selK (leI ((s.length : Nat) : Int) 65535)
   (selK (cd (s.length ≤ 1000000000))
    (selK (ltI (badH s) 0)
     (kk (.bool true) [])
     (kk (.bool false) []))
    (none))
   (kk (.bool false) []) := by kernel_rfl

-- size 11
theorem rcount_tree {β : Type} (s : List UInt8) (kk : KV → KHeap → Option β) :
    kBody (kFn F TRef RR DD) (fun _ => none) RR f50 [.str s] [] kk =
  selK (leI ((s.length : Nat) : Int) 65535)
   (selK (cd (s.length ≤ 1000000000))
    (selK (ltI (badH s) 0)
     (selK (cd (s.length ≤ 1000000))
      (selK (Nat.beq (hid runesQ s).length 0)
       (kk (.int .i64 0) [])
       (kk (.int .i64 (((hid runesQ s).length : Nat) : Int)) []))
      (none))
     (kk (.int .i64 0) []))
    (none))
   (kk (.int .i64 0) []) := by kernel_rfl

end Go.Proofs.Ytidlbhppbopjjaa.Ax

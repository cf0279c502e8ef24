/-
What the second machine comes to at some functions (printed by a program of ours).
-/
import Derived.Test.YtidlbhppbopjjaaOctC
import Derived.KernelRfl
namespace Go.Proofs.Ytidlbhppbopjjaa.Ax
open Go.Ax
set_option linter.unusedVariables false
set_option maxRecDepth 100000

-- size 7
theorem lives01_run {β : Type}  (kk : KV → KHeap → Option β) :
    kBody (kFn F (fun _ => none) RR DD) (fun _ => none) RR f12 [] [] kk =
  optK (((List.replicate 2 ((0 : Int), ())))[1]?) fun r0 =>
   (optK (((((List.replicate 2 ((0 : Int), ()))).set 1 ((2 : Int), ())))[0]?) fun r1 =>
    (selK ((true && decide (0 + 2 ≤ ((((((List.replicate 2 ((0 : Int), ()))).set 1 ((2 : Int), ()))).set 0 ((1 : Int), ()))).length)))
     (selK (eqS (bytesR ((((((((List.replicate 2 ((0 : Int), ()))).set 1 ((2 : Int), ()))).set 0 ((1 : Int), ()))).drop 0).take 2)) ([1, 2] : List UInt8))
      (kk (.bool true) [])
      (kk (.bool false) []))
     (none))) := by kernel_rfl

end Go.Proofs.Ytidlbhppbopjjaa.Ax

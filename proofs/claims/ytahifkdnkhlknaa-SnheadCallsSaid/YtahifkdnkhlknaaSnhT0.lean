/-
What the second machine comes to at some functions (printed by a program of ours).
-/
import Derived.Test.YtahifkdnkhlknaaOctC
import Derived.Test.YtahifkdnkhlknaaSnhS
import Derived.KernelRfl
namespace Go.Proofs.Ytahifkdnkhlknaa.Ax
open Go.Ax
set_option linter.unusedVariables false
set_option maxRecDepth 100000

-- size 13
theorem known_tree {β : Type} (k : Int) (kk : KV → KHeap → Option β) :
    kBody (kFn F (fun _ => none) RR DD) (fun _ => none) RR f9 [.int .i64 k] [] kk =
  selK (eqI k 3)
   (kk (.bool false) [])
   (selK (eqI k 17)
    (kk (.bool false) [])
    (selK (eqI k 25)
     (kk (.bool false) [])
     (selK (eqI k 254)
      (kk (.bool true) [])
      (selK (leI 0 k)
       (selK (leI k 29)
        (kk (.bool true) [])
        (kk (.bool false) []))
       (kk (.bool false) []))))) := by kernel_rfl

end Go.Proofs.Ytahifkdnkhlknaa.Ax

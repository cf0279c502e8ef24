/-
What the second machine comes to at some functions (printed by a program of ours).
-/
import Derived.Test.YtidlbhppbopjjaaScrM
import Derived.KernelRfl
namespace Go.Proofs.Ytidlbhppbopjjaa.Ax
open Go.Ax
set_option linter.unusedVariables false
set_option maxRecDepth 100000

-- size 7
theorem script_tree {β : Type} (s : List UInt8) (l : List (Row [.int .i64, .int .i64])) (kk : KV → KHeap → Option β) :
    kBody (kFn F TScr RR DD) scrLT RR f8 [.str s, .rslice 0 0 l.length 2] [.recs true [.int .i64, .int .i64] l] kk =
  selK (ltI 200 ((s.length : Nat) : Int))
   (kk (.bool true) [.recs true [.int .i64, .int .i64] l])
   (selK (ltI 60 ((l.length : Nat) : Int))
    (kk (.bool true) [.recs true [.int .i64, .int .i64] l])
    (selK (cd (scrOk s s s l.length 0 0 0 0 0 l))
     (kk (.bool true) [.recs true [.int .i64, .int .i64] l])
     (none))) := by kernel_rfl

-- size 3
theorem script_nil {β : Type} (s : List UInt8) (kk : KV → KHeap → Option β) :
    kBody (kFn F TScr RR DD) (fun _ => none) RR f8 [.str s, .nilslice] [] kk =
  selK (ltI 200 ((s.length : Nat) : Int))
   (kk (.bool true) [])
   (kk (.bool true) []) := by kernel_rfl

-- size 3
theorem script_dead {β : Type} (s : List UInt8) (kk : KV → KHeap → Option β) :
    kBody (kFn F TScr RR DD) (fun _ => none) RR f8 [.str s, .slice 0 0 0 2] [.dead] kk =
  selK (ltI 200 ((s.length : Nat) : Int))
   (kk (.bool true) [.dead])
   (kk (.bool true) [.dead]) := by kernel_rfl

end Go.Proofs.Ytidlbhppbopjjaa.Ax

/-
What the second machine comes to at some functions (printed by a program of ours).
-/
import Derived.Test.YtidlbhppbopjjaaOctL
import Derived.KernelRfl
namespace Go.Proofs.Ytidlbhppbopjjaa.Ax
open Go.Ax
set_option linter.unusedVariables false
set_option maxRecDepth 100000

-- size 9
theorem put_tree {β : Type} (n s : Int) (kk : KV → KHeap → Option β) :
    kBody (kFn F (fun _ => none) RR DD) putLT RR f14 [.int .u64 n, .int .i64 s] [] kk =
  selK (leI s 0)
   (kk (.str ([] : List UInt8)) [])
   (selK ((leI 0 (minI s 16) && (leI (minI s 16) (minI s 16) && (leI (1 * (minI s 16)) 281474976710656 && (leI (minI s 16) 9223372036854775807 && true)))))
    (selK (cd (putOk n (minI s 16) ((minI s 16)).toNat (minI s 16) 0 (List.replicate ((minI s 16)).toNat ((0 : Int), ()))))
     (selK ((true && decide (0 + ((minI s 16)).toNat ≤ ((putR n (minI s 16))).length)))
      (kk (.str (bytesR ((((putR n (minI s 16))).drop 0).take ((minI s 16)).toNat))) [])
      (none))
     (none))
    (none)) := by kernel_rfl

-- size 9
theorem get_tree {β : Type} (s : List UInt8) (kk : KV → KHeap → Option β) :
    kBody (kFn F (fun _ => none) RR DD) getLT RR f15 [.str s] [] kk =
  selK (ltI 8 ((s.length : Nat) : Int))
   (selK (inB (wr .i64 (((s.length : Nat) : Int) - 8)) s.length)
    (selK (cd (getOk (subS s ((wr .i64 (((s.length : Nat) : Int) - 8))).toNat s.length) 0 (((subS s ((wr .i64 (((s.length : Nat) : Int) - 8))).toNat s.length).length : Nat) : Int) 0))
     (kk (.int .u64 (getN (subS s ((wr .i64 (((s.length : Nat) : Int) - 8))).toNat s.length) : Int)) [])
     (none))
    (none))
   (selK (cd (getOk s 0 ((s.length : Nat) : Int) 0))
    (kk (.int .u64 (getN s : Int)) [])
    (none)) := by kernel_rfl

end Go.Proofs.Ytidlbhppbopjjaa.Ax

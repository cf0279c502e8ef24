/-
What the second machine comes to at some functions (printed by a program of ours).
-/
import Derived.Test.YtahifkdnkhlknaaRefC1
import Derived.KernelRfl
namespace Go.Proofs.Ytahifkdnkhlknaa.Ax
open Go.Ax
set_option linter.unusedVariables false
set_option maxRecDepth 100000

-- size 17
theorem rbytes_tree {β : Type} (k r : Int) (kk : KV → KHeap → Option β) :
    kBody (kFn F TRef RR DD) (fun _ => none) RR f15 [.int .i64 k, .int .i64 r] [] kk =
  selK ((hid known k))
   (selK (ltI r 0)
    (kk (.tuple [.str [], .int .i64 2]) [])
    (selK (leI r 253)
     (kk (.tuple [.str [UInt8.ofNat ((wr .u8 (wr .i64 (r + 2)))).toNat, UInt8.ofNat ((wr .u8 k)).toNat], .int .i64 0]) [])
     (selK (ltI 65531 r)
      (kk (.tuple [.str [], .int .i64 4]) [])
      (selK (fitS [UInt8.ofNat ((wr .u8 (wr .u64 (wr .i64 (r + 4))))).toNat] [])
       (selK (fitS [UInt8.ofNat ((wr .u8 (shrI .u64 (wr .u64 (wr .i64 (r + 4))) 8))).toNat] ([UInt8.ofNat ((wr .u8 (wr .u64 (wr .i64 (r + 4))))).toNat] ++ []))
        (selK (fitS [1] ([UInt8.ofNat ((wr .u8 (shrI .u64 (wr .u64 (wr .i64 (r + 4))) 8))).toNat] ++ ([UInt8.ofNat ((wr .u8 (wr .u64 (wr .i64 (r + 4))))).toNat] ++ [])))
         (selK (fitS ([1] ++ ([UInt8.ofNat ((wr .u8 (shrI .u64 (wr .u64 (wr .i64 (r + 4))) 8))).toNat] ++ ([UInt8.ofNat ((wr .u8 (wr .u64 (wr .i64 (r + 4))))).toNat] ++ []))) [UInt8.ofNat ((wr .u8 k)).toNat])
          (kk (.tuple [.str (([1] ++ ([UInt8.ofNat ((wr .u8 (shrI .u64 (wr .u64 (wr .i64 (r + 4))) 8))).toNat] ++ ([UInt8.ofNat ((wr .u8 (wr .u64 (wr .i64 (r + 4))))).toNat] ++ []))) ++ [UInt8.ofNat ((wr .u8 k)).toNat]), .int .i64 0]) [])
          (none))
         (none))
        (none))
       (none)))))
   (kk (.tuple [.str [], .int .i64 8]) []) := by kernel_rfl

end Go.Proofs.Ytahifkdnkhlknaa.Ax

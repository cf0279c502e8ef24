/-
What the second machine comes to at some functions (printed by a program of ours).
-/
import Derived.Test.YtidlbhppbopjjaaAxF
import Derived.KernelRfl
namespace Go.Proofs.Ytidlbhppbopjjaa.Ax
open Go.Ax
set_option linter.unusedVariables false
set_option maxRecDepth 100000

-- size 16
theorem more_tree {β : Type} (s : List UInt8) (p : Int) (kk : KV → KHeap → Option β) :
    kBody (kFn F (fun _ => none) RR DD) (fun _ => none) RR f61 [.str s, .int .i64 p] [] kk =
  selK (leI ((s.length : Nat) : Int) p)
   (kk (.tuple [.int .i64 0, .bool false]) [])
   (selK (leI 0 p)
    (optK (s[(p).toNat]?) fun b0 =>
     (selK (ltI (b0.toNat : Int) 128)
      (kk (.tuple [.int .i64 0, .bool false]) [])
      (selK (leI 0 p)
       (optK (s[(p).toNat]?) fun b1 =>
        (selK (ltI 191 (b1.toNat : Int))
         (kk (.tuple [.int .i64 0, .bool false]) [])
         (selK (leI 0 p)
          (optK (s[(p).toNat]?) fun b2 =>
           (kk (.tuple [.int .i64 (wr .i64 ((wr .i64 (b2.toNat : Int)) - 128)), .bool true]) []))
          (none))))
       (none))))
    (none)) := by kernel_rfl

-- live [0, 5, 6], behind [5]
noncomputable def rput_bodyK {β : Type} (m : Nat) (fr : List KV) (h : KHeap) (k : KCont β) : Option β := kLoopM 0 f58_M0 (fun fr h k => kCode (kFn F (fun _ => none) RR DD) noYK (fun _ => none) RR false 0 f58_L0 fr h k) m fr h (fun e fr h => forceC (maskK f58_O0 fr) fun fr => k e fr h)
-- size 7
theorem rput_body {β : Type} (m : Nat) (n i : Int) (k : KCont β) :
    rput_bodyK (m + 1) (f58_S0 (.int .u64 n) .nilslice (.int .i64 i)) [] k =
  selK (leI 0 i)
   (selK (ltI i 8)
    (selK (ltI (wr .u64 (wr .i64 (8 * i))) 0)
     (none)
     (rput_bodyK m (f58_S0 (.int .u64 n) (.rslice 0 0 1 1) (.int .i64 (wr .i64 (i - 1)))) [.recs false [.int .u8] [((wr .u8 (shrI .u64 n (wr .u64 (wr .i64 (8 * i))))), ())]] k))
    (rput_bodyK m (f58_S0 (.int .u64 n) (.rslice 0 0 1 1) (.int .i64 (wr .i64 (i - 1)))) [.recs false [.int .u8] [((0 : Int), ())]] k))
   (k (.exit 0) (f58_E0 .nilslice) []) := by kernel_rfl

end Go.Proofs.Ytidlbhppbopjjaa.Ax

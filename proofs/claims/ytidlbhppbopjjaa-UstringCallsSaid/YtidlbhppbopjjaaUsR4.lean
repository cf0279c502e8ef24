/-
What the second machine comes to at some functions (printed by a program of ours).
-/
import Derived.Test.YtidlbhppbopjjaaUsR3
import Derived.KernelRfl
namespace Go.Proofs.Ytidlbhppbopjjaa.Ax
open Go.Ax
set_option linter.unusedVariables false
set_option maxRecDepth 100000

-- live [3, 8], behind [3]
noncomputable def cnt_bodyK {β : Type} (m : Nat) (fr : List KV) (h : KHeap) (k : KCont β) : Option β := kLoopM 0 f18_M0 (fun fr h k => kCode (kFn F TNm RR DD) noYK (fun _ => none) RR false 0 f18_L0 fr h k) m fr h (fun e fr h => forceC (maskK f18_O0 fr) fun fr => k e fr h)
-- size 3
theorem cnt_body {β : Type} (m : Nat) (s : List UInt8) (n : Int) (p : Nat) (k : KCont β) :
    cnt_bodyK (m + 1) (f18_S0 (.int .i64 n) (.ptr 0 0)) [.iter s p] k =
  selK (Nat.blt p s.length)
   (cnt_bodyK m (f18_S0 (.int .i64 (wr .i64 (n + 1))) (.ptr 0 0)) [.iter s (p + (decW s p))] k)
   (k (.exit 0) (f18_E0 (.int .i64 n)) [.iter s p]) := by kernel_rfl

end Go.Proofs.Ytidlbhppbopjjaa.Ax

/-
What the second machine comes to at some functions (printed by a program of ours).
-/
import Derived.Test.YtidlbhppbopjjaaAxF
import Derived.KernelRfl
namespace Go.Proofs.Ytidlbhppbopjjaa.Ax
open Go.Ax
set_option linter.unusedVariables false
set_option maxRecDepth 100000

-- live [0, 3, 4], behind [3]
noncomputable def rget_bodyK {β : Type} (m : Nat) (fr : List KV) (h : KHeap) (k : KCont β) : Option β := kLoopM 0 f56_M0 (fun fr h k => kCode (kFn F (fun _ => none) RR DD) noYK (fun _ => none) RR false 0 f56_L0 fr h k) m fr h (fun e fr h => forceC (maskK f56_O0 fr) fun fr => k e fr h)
-- size 6
theorem rget_body {β : Type} (m : Nat) (s : List UInt8) (n i : Int) (k : KCont β) :
    rget_bodyK (m + 1) (f56_S0 (.str s) (.int .u64 n) (.int .i64 i)) [] k =
  selK (ltI i ((s.length : Nat) : Int))
   (selK (leI 0 i)
    (optK (s[(i).toNat]?) fun b0 =>
     (rget_bodyK m (f56_S0 (.str s) (.int .u64 (bitsA .or .u64 (shlI .u64 n 8) (wr .u64 (b0.toNat : Int)))) (.int .i64 (wr .i64 (i + 1)))) [] k))
    (none))
   (k (.exit 0) (f56_E0 (.int .u64 n)) []) := by kernel_rfl

end Go.Proofs.Ytidlbhppbopjjaa.Ax

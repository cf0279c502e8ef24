/-
What the second machine comes to at some functions (printed by a program of ours).
-/
import Derived.Test.YtidlbhppbopjjaaAxF
import Derived.KernelRfl
namespace Go.Proofs.Ytidlbhppbopjjaa.Ax
open Go.Ax
set_option linter.unusedVariables false
set_option maxRecDepth 100000

-- live [0, 1, 5, 13, 14], behind [5]
noncomputable def put_bodyK {β : Type} (m : Nat) (fr : List KV) (h : KHeap) (k : KCont β) : Option β := kLoopM 0 f14_M0 (fun fr h k => kCode (kFn F (fun _ => none) RR DD) noYK (fun _ => none) RR false 0 f14_L0 fr h k) m fr h (fun e fr h => forceC (maskK f14_O0 fr) fun fr => k e fr h)
-- size 10
theorem put_body {β : Type} (m : Nat) (n s i : Int) (l : List (Row [.int .u8])) (k : KCont β) :
    put_bodyK (m + 1) (f14_S0 (.int .u64 n) (.int .i64 s) (.rslice 0 0 s.toNat 1) (.int .i64 s) (.int .i64 i)) [.recs false [.int .u8] l] k =
  selK (ltI i s)
   (selK (ltI i 8)
    (selK (ltI (wr .u64 (wr .i64 (8 * i))) 0)
     (none)
     (selK ((inR (wr .i64 ((wr .i64 (s - 1)) - i)) s.toNat && true))
      (optK ((l)[(0 + ((wr .i64 ((wr .i64 (s - 1)) - i))).toNat)]?) fun r0 =>
       (put_bodyK m (f14_S0 (.int .u64 n) (.int .i64 s) (.rslice 0 0 s.toNat 1) (.int .i64 s) (.int .i64 (wr .i64 (i + 1)))) [.recs false [.int .u8] ((l).set (0 + ((wr .i64 ((wr .i64 (s - 1)) - i))).toNat) ((wr .u8 (shrI .u64 n (wr .u64 (wr .i64 (8 * i))))), ()))] k))
      (none)))
    (put_bodyK m (f14_S0 (.int .u64 n) (.int .i64 s) (.rslice 0 0 s.toNat 1) (.int .i64 s) (.int .i64 (wr .i64 (i + 1)))) [.recs false [.int .u8] l] k))
   (k (.exit 0) (f14_E0 (.rslice 0 0 s.toNat 1)) [.recs false [.int .u8] l]) := by kernel_rfl

-- live [0, 3, 14, 15], behind [3]
noncomputable def get_bodyK {β : Type} (m : Nat) (fr : List KV) (h : KHeap) (k : KCont β) : Option β := kLoopM 0 f15_M0 (fun fr h k => kCode (kFn F (fun _ => none) RR DD) noYK (fun _ => none) RR false 0 f15_L0 fr h k) m fr h (fun e fr h => forceC (maskK f15_O0 fr) fun fr => k e fr h)
-- size 6
theorem get_body {β : Type} (m : Nat) (s : List UInt8) (n i : Int) (k : KCont β) :
    get_bodyK (m + 1) (f15_S0 (.str s) (.int .u64 n) (.int .i64 (s.length : Int)) (.int .i64 i)) [] k =
  selK (ltI i (s.length : Int))
   (selK (leI 0 i)
    (optK (s[(i).toNat]?) fun b0 =>
     (get_bodyK m (f15_S0 (.str s) (.int .u64 (bitsA .or .u64 (shlI .u64 n 8) (wr .u64 (b0.toNat : Int)))) (.int .i64 (s.length : Int)) (.int .i64 (wr .i64 (i + 1)))) [] k))
    (none))
   (k (.exit 0) (f15_E0 (.int .u64 n)) []) := by kernel_rfl

end Go.Proofs.Ytidlbhppbopjjaa.Ax

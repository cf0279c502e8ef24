/-
What the second machine comes to at some functions (printed by a program of ours).
-/
import Derived.Test.YtidlbhppbopjjaaAxF
import Derived.KernelRfl
namespace Go.Proofs.Ytidlbhppbopjjaa.Ax
open Go.Ax
set_option linter.unusedVariables false
set_option maxRecDepth 100000

-- live [0, 6], behind [2]
noncomputable def bad_bodyK {β : Type} (m : Nat) (fr : List KV) (h : KHeap) (k : KCont β) : Option β := kLoopM 0 f19_M0 (fun fr h k => kCode (kFn F (fun _ => none) RR DD) noYK (fun _ => none) RR false 0 f19_L0 fr h k) m fr h (fun e fr h => forceC (maskK f19_O0 fr) fun fr => k e fr h)
-- size 15
theorem bad_body {β : Type} (m : Nat) (s : List UInt8) (p : Nat) (k : KCont β) :
    bad_bodyK (m + 1) (f19_S0 (.str s) (.ptr 0 0)) [.iter s p] k =
  selK (Nat.blt p s.length)
   (selK (eqI (decC s p) 0)
    (k .ret (f19_E0 (.int .i64 ((p : Nat) : Int))) [.iter s (p + (decW s p))])
    (selK (eqI (decC s p) 65533)
     (selK (inB ((p : Nat) : Int) s.length)
      (selK (leI 3 (((subS s (((p : Nat) : Int)).toNat s.length).length : Nat) : Int))
       (selK (inB 3 (subS s (((p : Nat) : Int)).toNat s.length).length)
        (selK (eqS (subS (subS s (((p : Nat) : Int)).toNat s.length) 0 3) ([239, 191, 189] : List UInt8))
         (bad_bodyK m (f19_S0 (.str s) (.ptr 0 0)) [.iter s (p + (decW s p))] k)
         (k .ret (f19_E0 (.int .i64 ((p : Nat) : Int))) [.iter s (p + (decW s p))]))
        (none))
       (k .ret (f19_E0 (.int .i64 ((p : Nat) : Int))) [.iter s (p + (decW s p))]))
      (none))
     (bad_bodyK m (f19_S0 (.str s) (.ptr 0 0)) [.iter s (p + (decW s p))] k)))
   (k (.exit 0) (f19_E0 .junk) [.iter s p]) := by kernel_rfl

end Go.Proofs.Ytidlbhppbopjjaa.Ax

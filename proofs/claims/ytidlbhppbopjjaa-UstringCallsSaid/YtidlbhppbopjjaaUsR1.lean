/-
What the second machine comes to at some functions (printed by a program of ours).
-/
import Derived.Test.YtidlbhppbopjjaaUsR0
import Derived.KernelRfl
namespace Go.Proofs.Ytidlbhppbopjjaa.Ax
open Go.Ax
set_option linter.unusedVariables false
set_option maxRecDepth 100000

theorem runes_iter {β : Type} (q : Nat) (s : List UInt8) (kk : KV → KHeap → Option β) :
    kBodyY (kFn F TNm q 98) (runesY q) (fun _ => none) q f60 [.yld 5, .ptr 3 0] [.cells [.str s], .cells [.nilslice], .cells [.bool false], .cells [.str s], .cells [.nilslice], .loop .ready] kk =
  selK (cd (s.length ≤ 4611686018427387904))
   (selK (ltI (badH s) 0)
    (selK (inB ((s.length : Nat) : Int) s.length)
     (runesKL q [.yld 5, .junk, .tuple [], .junk, .tuple [], .tuple [], .junk, .junk, .junk, .junk, .junk, .junk, .junk, .junk, .junk, .ptr 6 0, .tuple [], .tuple [], .tuple [], .tuple [], .tuple [], .tuple [], .tuple [], .tuple [], .tuple []] [.cells [.str s], .cells [.nilslice], .cells [.bool false], .cells [.str s], .cells [.nilslice], .loop .ready, .iter (subS s 0 (((s.length : Nat) : Int)).toNat) 0] (fun e fr h => blkK 0 (endFn 6 f60.res kk) e fr h))
     (none))
    (selK (inB (badH s) s.length)
     (runesKL q [.yld 5, .junk, .tuple [], .junk, .tuple [], .tuple [], .junk, .junk, .junk, .junk, .tuple [], .tuple [], .junk, .junk, .junk, .ptr 6 0, .tuple [], .tuple [], .tuple [], .tuple [], .tuple [], .tuple [], .tuple [], .tuple [], .tuple []] [.cells [.str s], .cells [.nilslice], .cells [.bool false], .cells [.str s], .cells [.nilslice], .loop .ready, .iter (subS s 0 ((badH s)).toNat) 0] (fun e fr h => blkK 0 (endFn 6 f60.res kk) e fr h))
     (none)))
   (none) := by kernel_rfl

-- live [0, 15], behind []
noncomputable def runes_bodyK {β : Type} (m : Nat) (fr : List KV) (h : KHeap) (k : KCont β) : Option β := kLoopM 6 f60_M0 (fun fr h k => kCode (kFn F TNm RR 98) (runesY RR) (fun _ => none) RR false 6 f60_L0 fr h k) m fr h (fun e fr h => forceC (maskK f60_O0 fr) fun fr => k e fr h)
-- size 5
theorem runes_body0 {β : Type} (m : Nat) (s t : List UInt8) (p : Nat) (k : KCont β) :
    runes_bodyK (m + 1) (f60_S0 (.yld 5) (.ptr 6 0)) [.cells [.str s], .cells [.nilslice], .cells [.bool false], .cells [.str s], .cells [.nilslice], .loop .ready, .iter t p] k =
  selK (Nat.blt p t.length)
   (selK (ltI ((s.length : Nat) : Int) 0)
    (k .ret (f60_E0 ) [.cells [.str s], .cells [.nilslice], .cells [.bool false], .cells [.str s], .cells [.nilslice], .loop (.done .ret), .iter t (p + (decW t p))])
    (runes_bodyK m (f60_S0 (.yld 5) (.ptr 6 0)) [.cells [.str s], .cells [.nilslice], .cells [.bool false], .cells [.str s], .cells [.rslice 7 0 1 2], .loop .ready, .iter t (p + (decW t p)), .recs false [.int .i64, .int .i32] [(((p : Nat) : Int), (decC t p), ())]] k))
   (k (.exit 0) (f60_E0 ) [.cells [.str s], .cells [.nilslice], .cells [.bool false], .cells [.str s], .cells [.nilslice], .loop .ready, .iter t p]) := by kernel_rfl

-- size 7
theorem runes_body1 {β : Type} (m : Nat) (s t : List UInt8) (p n : Nat) (R : List (Row RK)) (k : KCont β) :
    runes_bodyK (m + 1) (f60_S0 (.yld 5) (.ptr 6 0)) [.cells [.str s], .cells [.nilslice], .cells [.bool false], .cells [.str s], .cells [.rslice 7 0 n 2], .loop .ready, .iter t p, .recs false [.int .i64, .int .i32] R] k =
  selK (Nat.blt p t.length)
   (selK (ltI ((s.length : Nat) : Int) ((n : Nat) : Int))
    (k .ret (f60_E0 ) [.cells [.str s], .cells [.nilslice], .cells [.bool false], .cells [.str s], .cells [.rslice 7 0 n 2], .loop (.done .ret), .iter t (p + (decW t p)), .recs false [.int .i64, .int .i32] R])
    (selK ((true && true && decide (0 + n ≤ (R).length) && capOk (n + 1) 16 && true))
     (runes_bodyK m (f60_S0 (.yld 5) (.ptr 6 0)) [.cells [.str s], .cells [.nilslice], .cells [.bool false], .cells [.str s], .cells [.rslice 7 0 (n + 1) 2], .loop .ready, .iter t (p + (decW t p)), .recs false [.int .i64, .int .i32] (((R).drop 0).take n ++ [(((p : Nat) : Int), (decC t p), ())])] k)
     (none)))
   (k (.exit 0) (f60_E0 ) [.cells [.str s], .cells [.nilslice], .cells [.bool false], .cells [.str s], .cells [.rslice 7 0 n 2], .loop .ready, .iter t p, .recs false [.int .i64, .int .i32] R]) := by kernel_rfl

end Go.Proofs.Ytidlbhppbopjjaa.Ax

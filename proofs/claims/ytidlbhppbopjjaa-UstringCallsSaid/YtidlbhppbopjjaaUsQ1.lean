/-
What the second machine comes to at some functions (printed by a program of ours).
-/
import Derived.Test.YtidlbhppbopjjaaUsP4
import Derived.Test.YtidlbhppbopjjaaUsR9
import Derived.KernelRfl
namespace Go.Proofs.Ytidlbhppbopjjaa.Ax
open Go.Ax
set_option linter.unusedVariables false
set_option maxRecDepth 100000

-- live [0, 3], behind [2]
noncomputable def rbad_bodyK {β : Type} (m : Nat) (fr : List KV) (h : KHeap) (k : KCont β) : Option β := kLoopM 0 f49_M0 (fun fr h k => kCode (kFn F TPnt RR DD) noYK (fun _ => none) RR false 0 f49_L0 fr h k) m fr h (fun e fr h => forceC (maskK f49_O0 fr) fun fr => k e fr h)
-- size 9
theorem rbad_body {β : Type} (m : Nat) (s : List UInt8) (p : Int) (k : KCont β) :
    rbad_bodyK (m + 1) (f49_S0 (.str s) (.int .i64 p)) [] k =
  selK (ltI p ((s.length : Nat) : Int))
   (selK (cd (0 ≤ p ∧ p < s.length ∧ s.length ≤ 1000000000))
    (selK (eqI (hid pntZ s p) 0)
     (k .ret (f49_E0 (.int .i64 p)) [])
     (selK (eqI (hid pntN s p) 0)
      (k .ret (f49_E0 (.int .i64 p)) [])
      (rbad_bodyK m (f49_S0 (.str s) (.int .i64 (wr .i64 (p + (hid pntZ s p))))) [] k)))
    (none))
   (k (.exit 0) (f49_E0 .junk) []) := by kernel_rfl

-- live [0, 3, 4], behind [2, 3]
noncomputable def rrun_bodyK {β : Type} (m : Nat) (fr : List KV) (h : KHeap) (k : KCont β) : Option β := kLoopM 0 f51_M0 (fun fr h k => kCode (kFn F TPnt RR DD) noYK (fun _ => none) RR false 0 f51_L0 fr h k) m fr h (fun e fr h => forceC (maskK f51_O0 fr) fun fr => k e fr h)
-- size 9
theorem rrun_body0 {β : Type} (m : Nat) (s : List UInt8) (p : Int) (k : KCont β) :
    rrun_bodyK (m + 1) (f51_S0 (.str s) .nilslice (.int .i64 p)) [] k =
  selK (ltI p ((s.length : Nat) : Int))
   (selK (cd (0 ≤ p ∧ p < s.length ∧ s.length ≤ 1000000000))
    (selK (eqI (hid pntZ s p) 0)
     (k .ret (f51_E0 .nilslice .junk) [])
     (selK (eqI (hid pntN s p) 0)
      (k .ret (f51_E0 .nilslice .junk) [])
      (rrun_bodyK m (f51_S0 (.str s) (.rslice 0 0 1 2) (.int .i64 (wr .i64 (p + (hid pntZ s p))))) [.recs false [.int .i64, .int .i32] [(p, (wr .i32 (hid pntN s p)), ())]] k)))
    (none))
   (k (.exit 0) (f51_E0 .junk .nilslice) []) := by kernel_rfl

-- size 11
theorem rrun_body1 {β : Type} (m : Nat) (s : List UInt8) (p : Int) (n : Nat) (R : List (Row RK)) (k : KCont β) :
    rrun_bodyK (m + 1) (f51_S0 (.str s) (.rslice 0 0 n 2) (.int .i64 p)) [.recs false [.int .i64, .int .i32] R] k =
  selK (ltI p ((s.length : Nat) : Int))
   (selK (cd (0 ≤ p ∧ p < s.length ∧ s.length ≤ 1000000000))
    (selK (eqI (hid pntZ s p) 0)
     (k .ret (f51_E0 (.rslice 0 0 n 2) .junk) [.recs false [.int .i64, .int .i32] R])
     (selK (eqI (hid pntN s p) 0)
      (k .ret (f51_E0 (.rslice 0 0 n 2) .junk) [.recs false [.int .i64, .int .i32] R])
      (selK ((true && true && decide (0 + n ≤ (R).length) && capOk (n + 1) 16 && true))
       (rrun_bodyK m (f51_S0 (.str s) (.rslice 0 0 (n + 1) 2) (.int .i64 (wr .i64 (p + (hid pntZ s p))))) [.recs false [.int .i64, .int .i32] (((R).drop 0).take n ++ [(p, (wr .i32 (hid pntN s p)), ())])] k)
       (none))))
    (none))
   (k (.exit 0) (f51_E0 .junk (.rslice 0 0 n 2)) [.recs false [.int .i64, .int .i32] R]) := by kernel_rfl

-- live [0, 1, 5], behind [4]
noncomputable def same_bodyK {β : Type} (m : Nat) (fr : List KV) (h : KHeap) (k : KCont β) : Option β := kLoopM 2 f43_M0 (fun fr h k => kCode (kFn F (fun _ => none) RR DD) noYK (fun _ => none) RR false 2 f43_L0 fr h k) m fr h (fun e fr h => forceC (maskK f43_O0 fr) fun fr => k e fr h)
-- size 11
theorem same_body {β : Type} (m : Nat) (a b : List (Row RK)) (n l : Nat) (i : Int) (k : KCont β) :
    same_bodyK (m + 1) (f43_S0 (.rslice 0 0 n 2) (.rslice 1 0 l 2) (.int .i64 i)) [.recs true [.int .i64, .int .i32] a, .recs true [.int .i64, .int .i32] b] k =
  selK (ltI i ((n : Nat) : Int))
   (selK ((inR i n && true))
    (optK ((a)[(0 + (i).toNat)]?) fun r0 =>
     (selK ((inR i l && true))
      (optK ((b)[(0 + (i).toNat)]?) fun r1 =>
       (selK ((!(eqI r0.1 r1.1 && (eqI r0.2.1 r1.2.1 && true))))
        (k .ret (f43_E0 (.bool false)) [.recs true [.int .i64, .int .i32] a, .recs true [.int .i64, .int .i32] b])
        (same_bodyK m (f43_S0 (.rslice 0 0 n 2) (.rslice 1 0 l 2) (.int .i64 (wr .i64 (i + 1)))) [.recs true [.int .i64, .int .i32] a, .recs true [.int .i64, .int .i32] b] k)))
      (none)))
    (none))
   (k (.exit 0) (f43_E0 .junk) [.recs true [.int .i64, .int .i32] a, .recs true [.int .i64, .int .i32] b]) := by kernel_rfl

-- size 1
theorem same_nil {β : Type}  (kk : KV → KHeap → Option β) :
    kBody (kFn F (fun _ => none) RR DD) (fun _ => none) RR f43 [.nilslice, .nilslice] [] kk =
  kk (.bool true) [] := by kernel_rfl

end Go.Proofs.Ytidlbhppbopjjaa.Ax

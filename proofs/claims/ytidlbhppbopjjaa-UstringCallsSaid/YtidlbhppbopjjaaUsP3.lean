/-
What the second machine comes to at some functions (printed by a program of ours).
-/
import Derived.Test.YtidlbhppbopjjaaUsP2
import Derived.KernelRfl
namespace Go.Proofs.Ytidlbhppbopjjaa.Ax
open Go.Ax
set_option linter.unusedVariables false
set_option maxRecDepth 100000

-- size 25
noncomputable def pnt_tree_s12 {β : Type} (s : List UInt8) (p : Int) (b0 : UInt8) (kk : KV → KHeap → Option β) : Option β :=
  selK (leI 240 (wr .i64 (b0.toNat : Int)))
   (selK (ltI (wr .i64 (b0.toNat : Int)) 248)
    (selK (cd (0 ≤ (wr .i64 (p + 1)) ∧ s.length ≤ 4611686018427387904))
     (selK ((hid moreB s (wr .i64 (p + 1))))
      (selK (cd (0 ≤ (wr .i64 (p + 2)) ∧ s.length ≤ 4611686018427387904))
       (selK ((hid moreB s (wr .i64 (p + 2))))
        (selK (cd (0 ≤ (wr .i64 (p + 3)) ∧ s.length ≤ 4611686018427387904))
         (selK ((hid moreB s (wr .i64 (p + 3))))
          (selK (ltI (wr .i64 ((wr .i64 (64 * (wr .i64 ((wr .i64 (64 * (wr .i64 ((wr .i64 (64 * (wr .i64 ((wr .i64 (b0.toNat : Int)) - 240)))) + (hid moreN s (wr .i64 (p + 1))))))) + (hid moreN s (wr .i64 (p + 2))))))) + (hid moreN s (wr .i64 (p + 3))))) 65536)
           (kk (.tuple [.int .i64 0, .int .i64 0]) [])
           (selK (ltI 1114111 (wr .i64 ((wr .i64 (64 * (wr .i64 ((wr .i64 (64 * (wr .i64 ((wr .i64 (64 * (wr .i64 ((wr .i64 (b0.toNat : Int)) - 240)))) + (hid moreN s (wr .i64 (p + 1))))))) + (hid moreN s (wr .i64 (p + 2))))))) + (hid moreN s (wr .i64 (p + 3))))))
            (kk (.tuple [.int .i64 0, .int .i64 0]) [])
            (selK (leI 55296 (wr .i64 ((wr .i64 (64 * (wr .i64 ((wr .i64 (64 * (wr .i64 ((wr .i64 (64 * (wr .i64 ((wr .i64 (b0.toNat : Int)) - 240)))) + (hid moreN s (wr .i64 (p + 1))))))) + (hid moreN s (wr .i64 (p + 2))))))) + (hid moreN s (wr .i64 (p + 3))))))
             (selK (leI (wr .i64 ((wr .i64 (64 * (wr .i64 ((wr .i64 (64 * (wr .i64 ((wr .i64 (64 * (wr .i64 ((wr .i64 (b0.toNat : Int)) - 240)))) + (hid moreN s (wr .i64 (p + 1))))))) + (hid moreN s (wr .i64 (p + 2))))))) + (hid moreN s (wr .i64 (p + 3))))) 57343)
              (kk (.tuple [.int .i64 0, .int .i64 0]) [])
              (kk (.tuple [.int .i64 (wr .i64 ((wr .i64 (64 * (wr .i64 ((wr .i64 (64 * (wr .i64 ((wr .i64 (64 * (wr .i64 ((wr .i64 (b0.toNat : Int)) - 240)))) + (hid moreN s (wr .i64 (p + 1))))))) + (hid moreN s (wr .i64 (p + 2))))))) + (hid moreN s (wr .i64 (p + 3))))), .int .i64 4]) []))
             (kk (.tuple [.int .i64 (wr .i64 ((wr .i64 (64 * (wr .i64 ((wr .i64 (64 * (wr .i64 ((wr .i64 (64 * (wr .i64 ((wr .i64 (b0.toNat : Int)) - 240)))) + (hid moreN s (wr .i64 (p + 1))))))) + (hid moreN s (wr .i64 (p + 2))))))) + (hid moreN s (wr .i64 (p + 3))))), .int .i64 4]) []))))
          (kk (.tuple [.int .i64 0, .int .i64 0]) []))
         (none))
        (kk (.tuple [.int .i64 0, .int .i64 0]) []))
       (none))
      (kk (.tuple [.int .i64 0, .int .i64 0]) []))
     (none))
    (kk (.tuple [.int .i64 0, .int .i64 0]) []))
   (kk (.tuple [.int .i64 0, .int .i64 0]) [])
-- size 21
noncomputable def pnt_tree_s13 {β : Type} (s : List UInt8) (p : Int) (b0 : UInt8) (kk : KV → KHeap → Option β) : Option β :=
  selK (leI 224 (wr .i64 (b0.toNat : Int)))
   (selK (ltI (wr .i64 (b0.toNat : Int)) 240)
    (selK (cd (0 ≤ (wr .i64 (p + 1)) ∧ s.length ≤ 4611686018427387904))
     (selK ((hid moreB s (wr .i64 (p + 1))))
      (selK (cd (0 ≤ (wr .i64 (p + 2)) ∧ s.length ≤ 4611686018427387904))
       (selK ((hid moreB s (wr .i64 (p + 2))))
        (selK (ltI (wr .i64 ((wr .i64 (64 * (wr .i64 ((wr .i64 (64 * (wr .i64 ((wr .i64 (b0.toNat : Int)) - 224)))) + (hid moreN s (wr .i64 (p + 1))))))) + (hid moreN s (wr .i64 (p + 2))))) 2048)
         (kk (.tuple [.int .i64 0, .int .i64 0]) [])
         (selK (ltI 1114111 (wr .i64 ((wr .i64 (64 * (wr .i64 ((wr .i64 (64 * (wr .i64 ((wr .i64 (b0.toNat : Int)) - 224)))) + (hid moreN s (wr .i64 (p + 1))))))) + (hid moreN s (wr .i64 (p + 2))))))
          (kk (.tuple [.int .i64 0, .int .i64 0]) [])
          (selK (leI 55296 (wr .i64 ((wr .i64 (64 * (wr .i64 ((wr .i64 (64 * (wr .i64 ((wr .i64 (b0.toNat : Int)) - 224)))) + (hid moreN s (wr .i64 (p + 1))))))) + (hid moreN s (wr .i64 (p + 2))))))
           (selK (leI (wr .i64 ((wr .i64 (64 * (wr .i64 ((wr .i64 (64 * (wr .i64 ((wr .i64 (b0.toNat : Int)) - 224)))) + (hid moreN s (wr .i64 (p + 1))))))) + (hid moreN s (wr .i64 (p + 2))))) 57343)
            (kk (.tuple [.int .i64 0, .int .i64 0]) [])
            (kk (.tuple [.int .i64 (wr .i64 ((wr .i64 (64 * (wr .i64 ((wr .i64 (64 * (wr .i64 ((wr .i64 (b0.toNat : Int)) - 224)))) + (hid moreN s (wr .i64 (p + 1))))))) + (hid moreN s (wr .i64 (p + 2))))), .int .i64 3]) []))
           (kk (.tuple [.int .i64 (wr .i64 ((wr .i64 (64 * (wr .i64 ((wr .i64 (64 * (wr .i64 ((wr .i64 (b0.toNat : Int)) - 224)))) + (hid moreN s (wr .i64 (p + 1))))))) + (hid moreN s (wr .i64 (p + 2))))), .int .i64 3]) []))))
        (kk (.tuple [.int .i64 0, .int .i64 0]) []))
       (none))
      (kk (.tuple [.int .i64 0, .int .i64 0]) []))
     (none))
    (pnt_tree_s12 s p b0 kk))
   (pnt_tree_s12 s p b0 kk)
-- size 22
theorem pnt_tree {β : Type} (s : List UInt8) (p : Int) (kk : KV → KHeap → Option β) :
    kBody (kFn F TMore RR DD) (fun _ => none) RR f59 [.str s, .int .i64 p] [] kk =
  selK (leI 0 p)
   (optK (s[(p).toNat]?) fun b0 =>
    (selK (ltI (wr .i64 (b0.toNat : Int)) 128)
     (kk (.tuple [.int .i64 (wr .i64 (b0.toNat : Int)), .int .i64 1]) [])
     (selK (leI 192 (wr .i64 (b0.toNat : Int)))
      (selK (ltI (wr .i64 (b0.toNat : Int)) 224)
       (selK (cd (0 ≤ (wr .i64 (p + 1)) ∧ s.length ≤ 4611686018427387904))
        (selK ((hid moreB s (wr .i64 (p + 1))))
         (selK (ltI (wr .i64 ((wr .i64 (64 * (wr .i64 ((wr .i64 (b0.toNat : Int)) - 192)))) + (hid moreN s (wr .i64 (p + 1))))) 128)
          (kk (.tuple [.int .i64 0, .int .i64 0]) [])
          (selK (ltI 1114111 (wr .i64 ((wr .i64 (64 * (wr .i64 ((wr .i64 (b0.toNat : Int)) - 192)))) + (hid moreN s (wr .i64 (p + 1))))))
           (kk (.tuple [.int .i64 0, .int .i64 0]) [])
           (selK (leI 55296 (wr .i64 ((wr .i64 (64 * (wr .i64 ((wr .i64 (b0.toNat : Int)) - 192)))) + (hid moreN s (wr .i64 (p + 1))))))
            (selK (leI (wr .i64 ((wr .i64 (64 * (wr .i64 ((wr .i64 (b0.toNat : Int)) - 192)))) + (hid moreN s (wr .i64 (p + 1))))) 57343)
             (kk (.tuple [.int .i64 0, .int .i64 0]) [])
             (kk (.tuple [.int .i64 (wr .i64 ((wr .i64 (64 * (wr .i64 ((wr .i64 (b0.toNat : Int)) - 192)))) + (hid moreN s (wr .i64 (p + 1))))), .int .i64 2]) []))
            (kk (.tuple [.int .i64 (wr .i64 ((wr .i64 (64 * (wr .i64 ((wr .i64 (b0.toNat : Int)) - 192)))) + (hid moreN s (wr .i64 (p + 1))))), .int .i64 2]) []))))
         (kk (.tuple [.int .i64 0, .int .i64 0]) []))
        (none))
       (pnt_tree_s13 s p b0 kk))
      (pnt_tree_s13 s p b0 kk))))
   (none) := by kernel_rfl

-- size 5
theorem rput2_tree {β : Type} (n : Int) (kk : KV → KHeap → Option β) :
    kBody (kFn F (fun _ => none) RR DD) (fun _ => none) RR f58 [.int .u64 n, .int .i64 2] [] kk =
  selK ((true && true && decide (0 + 1 ≤ ([((wr .u8 (shrI .u64 n 8)), ())]).length) && capOk 2 1 && true))
   (selK ((true && decide (0 + 2 ≤ (((([((wr .u8 (shrI .u64 n 8)), ())]).drop 0).take 1 ++ [((wr .u8 (shrI .u64 n 0)), ())])).length)))
    (kk (.str (bytesR (((((([((wr .u8 (shrI .u64 n 8)), ())]).drop 0).take 1 ++ [((wr .u8 (shrI .u64 n 0)), ())])).drop 0).take 2))) [])
    (none))
   (none) := by kernel_rfl

end Go.Proofs.Ytidlbhppbopjjaa.Ax

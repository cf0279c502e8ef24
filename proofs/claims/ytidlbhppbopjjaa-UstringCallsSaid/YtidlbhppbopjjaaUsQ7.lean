/-
What the second machine comes to at some functions (printed by a program of ours).
-/
import Derived.Test.YtidlbhppbopjjaaUsQ6
import Derived.KernelRfl
namespace Go.Proofs.Ytidlbhppbopjjaa.Ax
open Go.Ax
set_option linter.unusedVariables false
set_option maxRecDepth 100000

-- size 9
theorem text_tree {β : Type} (s : List UInt8) (kk : KV → KHeap → Option β) :
    kBody (kFn F TTxt RR DD) (fun _ => none) RR f38 [.str s] [] kk =
  selK (cd (s.length ≤ 4611686018427387904))
   (selK ((hid validS s))
    (selK (cd (0 ≤ (wr .u64 ((s.length : Nat) : Int)) ∧ (wr .u64 ((s.length : Nat) : Int)) < 18446744073709551616))
     (selK (fitS (hid putL (wr .u64 ((s.length : Nat) : Int)) (min (2 : Int) 16).toNat) s)
      (kk (.tuple [.str ((hid putL (wr .u64 ((s.length : Nat) : Int)) (min (2 : Int) 16).toNat) ++ s), .int .i64 0]) [])
      (none))
     (none))
    (kk (.tuple [.str ([] : List UInt8), .int .i64 6]) []))
   (none) := by kernel_rfl

-- size 7
theorem binary_tree {β : Type} (s : List UInt8) (kk : KV → KHeap → Option β) :
    kBody (kFn F TTxt RR DD) (fun _ => none) RR f40 [.str s] [] kk =
  selK (ltI 65535 ((s.length : Nat) : Int))
   (kk (.tuple [.str ([] : List UInt8), .int .i64 2]) [])
   (selK (cd (0 ≤ (wr .u64 ((s.length : Nat) : Int)) ∧ (wr .u64 ((s.length : Nat) : Int)) < 18446744073709551616))
    (selK (fitS (hid putL (wr .u64 ((s.length : Nat) : Int)) (min (2 : Int) 16).toNat) s)
     (kk (.tuple [.str ((hid putL (wr .u64 ((s.length : Nat) : Int)) (min (2 : Int) 16).toNat) ++ s), .int .i64 0]) [])
     (none))
    (none)) := by kernel_rfl

-- size 17
theorem readb_tree {β : Type} (s : List UInt8) (kk : KV → KHeap → Option β) :
    kBody (kFn F TTxt RR DD) (fun _ => none) RR f41 [.str s] [] kk =
  selK (leI 2 (wr .i64 (((s.length : Nat) : Int) - 0)))
   (selK (inB 2 s.length)
    (selK (cd ((subS s 0 2).length ≤ 4611686018427387904))
     (selK (leI 0 (wr .i64 (hid getL (subS s 0 2) : Int)))
      (selK (leI (wr .i64 (hid getL (subS s 0 2) : Int)) (wr .i64 (((s.length : Nat) : Int) - 2)))
       (selK (inB (wr .i64 (2 + (wr .i64 (hid getL (subS s 0 2) : Int)))) s.length)
        (selK (inB 2 ((wr .i64 (2 + (wr .i64 (hid getL (subS s 0 2) : Int))))).toNat)
         (kk (.tuple [.str (subS s 2 ((wr .i64 (2 + (wr .i64 (hid getL (subS s 0 2) : Int))))).toNat), .int .i64 (wr .i64 (2 + (wr .i64 (hid getL (subS s 0 2) : Int)))), .int .i64 0]) [])
         (none))
        (none))
       (kk (.tuple [.str ([] : List UInt8), .int .i64 0, .int .i64 3]) []))
      (kk (.tuple [.str ([] : List UInt8), .int .i64 0, .int .i64 3]) []))
     (none))
    (none))
   (selK (cd (([] : List UInt8).length ≤ 4611686018427387904))
    (kk (.tuple [.str ([] : List UInt8), .int .i64 0, .int .i64 3]) [])
    (none)) := by kernel_rfl

-- size 9
theorem rtext_tree {β : Type} (s : List UInt8) (kk : KV → KHeap → Option β) :
    kBody (kFn F TTxt RR DD) (fun _ => none) RR f44 [.str s] [] kk =
  selK (cd (s.length ≤ 1000000000))
   (selK ((hid validS s))
    (selK (cd ((2 : Int) = 2 ∧ 0 ≤ (wr .u64 ((s.length : Nat) : Int)) ∧ (wr .u64 ((s.length : Nat) : Int)) < 18446744073709551616))
     (selK (fitS (hid putL (wr .u64 ((s.length : Nat) : Int)) (min (2 : Int) 16).toNat) s)
      (kk (.tuple [.str ((hid putL (wr .u64 ((s.length : Nat) : Int)) (min (2 : Int) 16).toNat) ++ s), .int .i64 0]) [])
      (none))
     (none))
    (kk (.tuple [.str ([] : List UInt8), .int .i64 6]) []))
   (none) := by kernel_rfl

-- size 7
theorem rbinary_tree {β : Type} (s : List UInt8) (kk : KV → KHeap → Option β) :
    kBody (kFn F TTxt RR DD) (fun _ => none) RR f45 [.str s] [] kk =
  selK (ltI 65535 ((s.length : Nat) : Int))
   (kk (.tuple [.str ([] : List UInt8), .int .i64 2]) [])
   (selK (cd ((2 : Int) = 2 ∧ 0 ≤ (wr .u64 ((s.length : Nat) : Int)) ∧ (wr .u64 ((s.length : Nat) : Int)) < 18446744073709551616))
    (selK (fitS (hid putL (wr .u64 ((s.length : Nat) : Int)) (min (2 : Int) 16).toNat) s)
     (kk (.tuple [.str ((hid putL (wr .u64 ((s.length : Nat) : Int)) (min (2 : Int) 16).toNat) ++ s), .int .i64 0]) [])
     (none))
    (none)) := by kernel_rfl

-- size 13
theorem rreadb_tree {β : Type} (s : List UInt8) (kk : KV → KHeap → Option β) :
    kBody (kFn F TTxt RR DD) (fun _ => none) RR f47 [.str s] [] kk =
  selK (ltI ((s.length : Nat) : Int) 2)
   (kk (.tuple [.str ([] : List UInt8), .int .i64 0, .int .i64 3]) [])
   (selK (inB 2 s.length)
    (selK (cd ((subS s 0 2).length ≤ 4611686018427387904))
     (selK (ltI (wr .i64 (((s.length : Nat) : Int) - 2)) (wr .i64 (hid getL (subS s 0 2) : Int)))
      (kk (.tuple [.str ([] : List UInt8), .int .i64 0, .int .i64 3]) [])
      (selK (inB (wr .i64 (2 + (wr .i64 (hid getL (subS s 0 2) : Int)))) s.length)
       (selK (inB 2 ((wr .i64 (2 + (wr .i64 (hid getL (subS s 0 2) : Int))))).toNat)
        (kk (.tuple [.str (subS s 2 ((wr .i64 (2 + (wr .i64 (hid getL (subS s 0 2) : Int))))).toNat), .int .i64 (wr .i64 (2 + (wr .i64 (hid getL (subS s 0 2) : Int)))), .int .i64 0]) [])
        (none))
       (none)))
     (none))
    (none)) := by kernel_rfl

end Go.Proofs.Ytidlbhppbopjjaa.Ax

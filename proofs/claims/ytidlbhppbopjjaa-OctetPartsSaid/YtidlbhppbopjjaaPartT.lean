/-
What the second machine comes to at some functions (printed by a program of ours).
-/
import Derived.Test.YtidlbhppbopjjaaPartL
import Derived.KernelRfl
namespace Go.Proofs.Ytidlbhppbopjjaa.Ax
open Go.Ax
set_option linter.unusedVariables false
set_option maxRecDepth 100000

-- size 15
theorem parts_tree {β : Type} (s : List UInt8) (l : List (Row [.int .i64])) (kk : KV → KHeap → Option β) :
    kBody (kFn F TPar RR DD) partLT RR f6 [.str s, .rslice 0 0 l.length 1] [.recs true [.int .i64] l] kk =
  selK (ltI 200 ((s.length : Nat) : Int))
   (kk (.bool true) [.recs true [.int .i64] l])
   (selK (ltI 60 ((l.length : Nat) : Int))
    (kk (.bool true) [.recs true [.int .i64] l])
    (selK (cd (partOk s s l.length [] 0 0 0 l))
     (selK (inB ((hid partF s (vals l) 0 0).1 : Int) s.length)
      (selK (fitS (s.take (hid partF s (vals l) 0 0).1) (subS s (((hid partF s (vals l) 0 0).1 : Int)).toNat s.length))
       (selK (eqS ((s.take (hid partF s (vals l) 0 0).1) ++ (subS s (((hid partF s (vals l) 0 0).1 : Int)).toNat s.length)) s)
        (selK (eqI ((hid partF s (vals l) 0 0).1 : Int) (((s.take (hid partF s (vals l) 0 0).1).length : Nat) : Int))
         (kk (.bool true) [.recs true [.int .i64] l])
         (kk (.bool false) [.recs true [.int .i64] l]))
        (kk (.bool false) [.recs true [.int .i64] l]))
       (none))
      (none))
     (none))) := by kernel_rfl

-- size 9
theorem parts_nil {β : Type} (s : List UInt8) (kk : KV → KHeap → Option β) :
    kBody (kFn F TPar RR DD) (fun _ => none) RR f6 [.str s, .nilslice] [] kk =
  selK (ltI 200 ((s.length : Nat) : Int))
   (kk (.bool true) [])
   (selK (inB 0 s.length)
    (selK (fitS [] (subS s 0 s.length))
     (selK (eqS ([] ++ (subS s 0 s.length)) s)
      (kk (.bool true) [])
      (kk (.bool false) []))
     (none))
    (none)) := by kernel_rfl

-- size 9
theorem parts_dead {β : Type} (s : List UInt8) (kk : KV → KHeap → Option β) :
    kBody (kFn F TPar RR DD) (fun _ => none) RR f6 [.str s, .slice 0 0 0 1] [.dead] kk =
  selK (ltI 200 ((s.length : Nat) : Int))
   (kk (.bool true) [.dead])
   (selK (inB 0 s.length)
    (selK (fitS [] (subS s 0 s.length))
     (selK (eqS ([] ++ (subS s 0 s.length)) s)
      (kk (.bool true) [.dead])
      (kk (.bool false) [.dead]))
     (none))
    (none)) := by kernel_rfl

end Go.Proofs.Ytidlbhppbopjjaa.Ax

/-
What the second machine comes to at some functions (printed by a program of ours).
-/
import Derived.Test.YtahifkdnkhlknaaRefC
import Derived.KernelRfl
namespace Go.Proofs.Ytahifkdnkhlknaa.Ax
open Go.Ax
set_option linter.unusedVariables false
set_option maxRecDepth 100000

-- size 26
theorem rread_tree {β : Type} (s : List UInt8) (kk : KV → KHeap → Option β) :
    kBody (kFn F TRef RR DD) (fun _ => none) RR f16 [.str s] [] kk =
  selK (eqS s [])
   (kk (.tuple [.int .i64 0, .int .i64 0, .int .i64 0, .int .i64 3]) [])
   (optK (s[0]?) fun b0 =>
    (selK (eqI (wr .i64 (b0.toNat : Int)) 1)
     (selK (ltI ((s.length : Nat) : Int) 4)
      (kk (.tuple [.int .i64 0, .int .i64 0, .int .i64 0, .int .i64 3]) [])
      (selK (inB 3 s.length)
       (selK (cd ((subS s 1 3).length ≤ 8))
        (selK (ltI (wr .i64 (hid getL (subS s 1 3) : Int)) 4)
         (kk (.tuple [.int .i64 0, .int .i64 0, .int .i64 0, .int .i64 5]) [])
         (selK (ltI (wr .i64 (hid getL (subS s 1 3) : Int)) 258)
          (kk (.tuple [.int .i64 0, .int .i64 0, .int .i64 0, .int .i64 5]) [])
          (optK (s[3]?) fun b1 =>
           (selK ((hid known (wr .i64 (b1.toNat : Int))))
            (kk (.tuple [.int .i64 (wr .i64 (b1.toNat : Int)), .int .i64 4, .int .i64 (wr .i64 (hid getL (subS s 1 3) : Int)), .int .i64 0]) [])
            (kk (.tuple [.int .i64 0, .int .i64 0, .int .i64 0, .int .i64 8]) [])))))
        (none))
       (none)))
     (selK (ltI ((s.length : Nat) : Int) 2)
      (kk (.tuple [.int .i64 0, .int .i64 0, .int .i64 0, .int .i64 3]) [])
      (selK (ltI (wr .i64 (b0.toNat : Int)) 2)
       (kk (.tuple [.int .i64 0, .int .i64 0, .int .i64 0, .int .i64 5]) [])
       (optK (s[1]?) fun b2 =>
        (selK ((hid known (wr .i64 (b2.toNat : Int))))
         (kk (.tuple [.int .i64 (wr .i64 (b2.toNat : Int)), .int .i64 2, .int .i64 (wr .i64 (b0.toNat : Int)), .int .i64 0]) [])
         (kk (.tuple [.int .i64 0, .int .i64 0, .int .i64 0, .int .i64 8]) []))))))) := by kernel_rfl

-- size 5
noncomputable def rmay_tree_s0 {β : Type} (k : Int) (f : Fl) (kk : KV → KHeap → Option β) : Option β :=
  selK (leI 0 f.qos)
   (kk (.bool true) [])
   (selK (eqI k 12)
    (kk (.bool true) [])
    (kk (.bool false) []))
-- size 5
noncomputable def rmay_tree_s1 {β : Type} (k : Int) (f : Fl) (kk : KV → KHeap → Option β) : Option β :=
  selK (eqI (hid uses k).typ 1)
   (rmay_tree_s0 k f kk)
   (selK (eqI f.typ 0)
    (rmay_tree_s0 k f kk)
    (kk (.bool false) []))
-- size 5
noncomputable def rmay_tree_s2 {β : Type} (k : Int) (f : Fl) (kk : KV → KHeap → Option β) : Option β :=
  selK ((hid uses k).clean)
   (rmay_tree_s1 k f kk)
   (selK (f.clean)
    (kk (.bool false) [])
    (rmay_tree_s1 k f kk))
-- size 5
noncomputable def rmay_tree_s3 {β : Type} (k : Int) (f : Fl) (kk : KV → KHeap → Option β) : Option β :=
  selK ((hid uses k).will)
   (rmay_tree_s2 k f kk)
   (selK (f.will)
    (kk (.bool false) [])
    (rmay_tree_s2 k f kk))
-- size 5
noncomputable def rmay_tree_s4 {β : Type} (k : Int) (f : Fl) (kk : KV → KHeap → Option β) : Option β :=
  selK ((hid uses k).ret)
   (rmay_tree_s3 k f kk)
   (selK (f.ret)
    (kk (.bool false) [])
    (rmay_tree_s3 k f kk))
-- size 5
noncomputable def rmay_tree_s5 {β : Type} (k : Int) (f : Fl) (kk : KV → KHeap → Option β) : Option β :=
  selK (eqI (hid uses k).qos 1)
   (rmay_tree_s4 k f kk)
   (selK (eqI f.qos 0)
    (rmay_tree_s4 k f kk)
    (kk (.bool false) []))
-- size 7
theorem rmay_tree {β : Type} (k : Int) (f : Fl) (kk : KV → KHeap → Option β) :
    kBody (kFn F TRef RR DD) (fun _ => none) RR f21 [.int .i64 k, .agg [.bool f.dup, .int .i64 f.qos, .bool f.ret, .bool f.will, .bool f.clean, .int .i64 f.typ]] [] kk =
  selK (eqI (hid flagE (Fl.mk f.dup f.qos f.ret f.will f.clean f.typ)) 0)
   (selK ((hid uses k).dup)
    (rmay_tree_s5 k f kk)
    (selK (f.dup)
     (kk (.bool false) [])
     (rmay_tree_s5 k f kk)))
   (kk (.bool false) []) := by kernel_rfl

end Go.Proofs.Ytahifkdnkhlknaa.Ax

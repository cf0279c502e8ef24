/-
What the second machine comes to at some functions (printed by a program of ours).
-/
import Derived.Test.YtahifkdnkhlknaaSnhC2
import Derived.KernelRfl
namespace Go.Proofs.Ytahifkdnkhlknaa.Ax
open Go.Ax
set_option linter.unusedVariables false
set_option maxRecDepth 100000

-- size 5
noncomputable def flags_tree_s0 {β : Type} (f : Fl) (n k : Int) (kk : KV → KHeap → Option β) : Option β :=
  selK (eqI f.typ 0)
   (kk (.bool true) [])
   (selK (eqI (hid uses k).typ 1)
    (kk (.bool true) [])
    (kk (.bool false) []))
-- size 5
noncomputable def flags_tree_s1 {β : Type} (f : Fl) (n k : Int) (kk : KV → KHeap → Option β) : Option β :=
  selK (f.clean)
   (selK ((hid uses k).clean)
    (flags_tree_s0 f n k kk)
    (kk (.bool false) []))
   (flags_tree_s0 f n k kk)
-- size 5
noncomputable def flags_tree_s2 {β : Type} (f : Fl) (n k : Int) (kk : KV → KHeap → Option β) : Option β :=
  selK (f.will)
   (selK ((hid uses k).will)
    (flags_tree_s1 f n k kk)
    (kk (.bool false) []))
   (flags_tree_s1 f n k kk)
-- size 5
noncomputable def flags_tree_s3 {β : Type} (f : Fl) (n k : Int) (kk : KV → KHeap → Option β) : Option β :=
  selK (f.ret)
   (selK ((hid uses k).ret)
    (flags_tree_s2 f n k kk)
    (kk (.bool false) []))
   (flags_tree_s2 f n k kk)
-- size 5
noncomputable def flags_tree_s4 {β : Type} (f : Fl) (n k : Int) (kk : KV → KHeap → Option β) : Option β :=
  selK (eqI f.qos 0)
   (flags_tree_s3 f n k kk)
   (selK (eqI (hid uses k).qos 1)
    (flags_tree_s3 f n k kk)
    (kk (.bool false) []))
-- size 5
noncomputable def flags_tree_s7 {β : Type} (f : Fl) (n k : Int) (kk : KV → KHeap → Option β) : Option β :=
  selK (eqI f.typ 0)
   (kk (.bool true) [])
   (selK (eqI (hid uses k).typ 1)
    (kk (.bool true) [])
    (kk (.bool false) []))
-- size 5
noncomputable def flags_tree_s8 {β : Type} (f : Fl) (n k : Int) (kk : KV → KHeap → Option β) : Option β :=
  selK (f.clean)
   (selK ((hid uses k).clean)
    (flags_tree_s7 f n k kk)
    (kk (.bool false) []))
   (flags_tree_s7 f n k kk)
-- size 5
noncomputable def flags_tree_s9 {β : Type} (f : Fl) (n k : Int) (kk : KV → KHeap → Option β) : Option β :=
  selK (f.will)
   (selK ((hid uses k).will)
    (flags_tree_s8 f n k kk)
    (kk (.bool false) []))
   (flags_tree_s8 f n k kk)
-- size 5
noncomputable def flags_tree_s10 {β : Type} (f : Fl) (n k : Int) (kk : KV → KHeap → Option β) : Option β :=
  selK (f.ret)
   (selK ((hid uses k).ret)
    (flags_tree_s9 f n k kk)
    (kk (.bool false) []))
   (flags_tree_s9 f n k kk)
-- size 5
noncomputable def flags_tree_s11 {β : Type} (f : Fl) (n k : Int) (kk : KV → KHeap → Option β) : Option β :=
  selK (eqI f.qos 0)
   (flags_tree_s10 f n k kk)
   (selK (eqI (hid uses k).qos 1)
    (flags_tree_s10 f n k kk)
    (kk (.bool false) []))
-- size 23
noncomputable def flags_tree_s13 {β : Type} (f : Fl) (n k : Int) (kk : KV → KHeap → Option β) : Option β :=
  selK (eqI (hid readFlagE n) 0)
   (selK ((!eqI (hid flagE (Fl.mk (hid readFlag n).dup (hid readFlag n).qos (hid readFlag n).ret (hid readFlag n).will (hid readFlag n).clean (hid readFlag n).typ)) 0))
    (kk (.bool false) [])
    (selK ((!eqI (hid flagN (Fl.mk (hid readFlag n).dup (hid readFlag n).qos (hid readFlag n).ret (hid readFlag n).will (hid readFlag n).clean (hid readFlag n).typ)) n))
     (kk (.bool false) [])
     (selK ((hid may k (Fl.mk f.dup f.qos f.ret f.will f.clean f.typ)))
      (selK (eqI (hid flagE (Fl.mk f.dup f.qos f.ret f.will f.clean f.typ)) 0)
       (selK (f.dup)
        (selK ((hid uses k).dup)
         (flags_tree_s4 f n k kk)
         (kk (.bool false) []))
        (flags_tree_s4 f n k kk))
       (kk (.bool false) []))
      (kk (.bool true) []))))
   (selK ((hid may k (Fl.mk f.dup f.qos f.ret f.will f.clean f.typ)))
    (selK (eqI (hid flagE (Fl.mk f.dup f.qos f.ret f.will f.clean f.typ)) 0)
     (selK (f.dup)
      (selK ((hid uses k).dup)
       (flags_tree_s11 f n k kk)
       (kk (.bool false) []))
      (flags_tree_s11 f n k kk))
     (kk (.bool false) []))
    (kk (.bool true) []))
-- size 5
noncomputable def flags_tree_s20 {β : Type} (f : Fl) (n k : Int) (kk : KV → KHeap → Option β) : Option β :=
  selK (eqI f.typ 0)
   (kk (.bool true) [])
   (selK (eqI (hid uses k).typ 1)
    (kk (.bool true) [])
    (kk (.bool false) []))
-- size 5
noncomputable def flags_tree_s21 {β : Type} (f : Fl) (n k : Int) (kk : KV → KHeap → Option β) : Option β :=
  selK (f.clean)
   (selK ((hid uses k).clean)
    (flags_tree_s20 f n k kk)
    (kk (.bool false) []))
   (flags_tree_s20 f n k kk)
-- size 5
noncomputable def flags_tree_s22 {β : Type} (f : Fl) (n k : Int) (kk : KV → KHeap → Option β) : Option β :=
  selK (f.will)
   (selK ((hid uses k).will)
    (flags_tree_s21 f n k kk)
    (kk (.bool false) []))
   (flags_tree_s21 f n k kk)
-- size 5
noncomputable def flags_tree_s23 {β : Type} (f : Fl) (n k : Int) (kk : KV → KHeap → Option β) : Option β :=
  selK (f.ret)
   (selK ((hid uses k).ret)
    (flags_tree_s22 f n k kk)
    (kk (.bool false) []))
   (flags_tree_s22 f n k kk)
-- size 5
noncomputable def flags_tree_s24 {β : Type} (f : Fl) (n k : Int) (kk : KV → KHeap → Option β) : Option β :=
  selK (eqI f.qos 0)
   (flags_tree_s23 f n k kk)
   (selK (eqI (hid uses k).qos 1)
    (flags_tree_s23 f n k kk)
    (kk (.bool false) []))
-- size 5
noncomputable def flags_tree_s27 {β : Type} (f : Fl) (n k : Int) (kk : KV → KHeap → Option β) : Option β :=
  selK (eqI f.typ 0)
   (kk (.bool true) [])
   (selK (eqI (hid uses k).typ 1)
    (kk (.bool true) [])
    (kk (.bool false) []))
-- size 5
noncomputable def flags_tree_s28 {β : Type} (f : Fl) (n k : Int) (kk : KV → KHeap → Option β) : Option β :=
  selK (f.clean)
   (selK ((hid uses k).clean)
    (flags_tree_s27 f n k kk)
    (kk (.bool false) []))
   (flags_tree_s27 f n k kk)
-- size 5
noncomputable def flags_tree_s29 {β : Type} (f : Fl) (n k : Int) (kk : KV → KHeap → Option β) : Option β :=
  selK (f.will)
   (selK ((hid uses k).will)
    (flags_tree_s28 f n k kk)
    (kk (.bool false) []))
   (flags_tree_s28 f n k kk)
-- size 5
noncomputable def flags_tree_s30 {β : Type} (f : Fl) (n k : Int) (kk : KV → KHeap → Option β) : Option β :=
  selK (f.ret)
   (selK ((hid uses k).ret)
    (flags_tree_s29 f n k kk)
    (kk (.bool false) []))
   (flags_tree_s29 f n k kk)
-- size 5
noncomputable def flags_tree_s31 {β : Type} (f : Fl) (n k : Int) (kk : KV → KHeap → Option β) : Option β :=
  selK (eqI f.qos 0)
   (flags_tree_s30 f n k kk)
   (selK (eqI (hid uses k).qos 1)
    (flags_tree_s30 f n k kk)
    (kk (.bool false) []))
-- size 23
noncomputable def flags_tree_s33 {β : Type} (f : Fl) (n k : Int) (kk : KV → KHeap → Option β) : Option β :=
  selK (eqI (hid readFlagE n) 0)
   (selK ((!eqI (hid flagE (Fl.mk (hid readFlag n).dup (hid readFlag n).qos (hid readFlag n).ret (hid readFlag n).will (hid readFlag n).clean (hid readFlag n).typ)) 0))
    (kk (.bool false) [])
    (selK ((!eqI (hid flagN (Fl.mk (hid readFlag n).dup (hid readFlag n).qos (hid readFlag n).ret (hid readFlag n).will (hid readFlag n).clean (hid readFlag n).typ)) n))
     (kk (.bool false) [])
     (selK ((hid may k (Fl.mk f.dup f.qos f.ret f.will f.clean f.typ)))
      (selK (eqI (hid flagE (Fl.mk f.dup f.qos f.ret f.will f.clean f.typ)) 0)
       (selK (f.dup)
        (selK ((hid uses k).dup)
         (flags_tree_s24 f n k kk)
         (kk (.bool false) []))
        (flags_tree_s24 f n k kk))
       (kk (.bool false) []))
      (kk (.bool true) []))))
   (selK ((hid may k (Fl.mk f.dup f.qos f.ret f.will f.clean f.typ)))
    (selK (eqI (hid flagE (Fl.mk f.dup f.qos f.ret f.will f.clean f.typ)) 0)
     (selK (f.dup)
      (selK ((hid uses k).dup)
       (flags_tree_s31 f n k kk)
       (kk (.bool false) []))
      (flags_tree_s31 f n k kk))
     (kk (.bool false) []))
    (kk (.bool true) []))
-- size 39
theorem flags_tree {β : Type} (f : Fl) (n k : Int) (kk : KV → KHeap → Option β) :
    kBody (kFn F TSnh RR DD) (fun _ => none) RR f4 [.agg [.bool f.dup, .int .i64 f.qos, .bool f.ret, .bool f.will, .bool f.clean, .int .i64 f.typ], .int .i64 n, .int .i64 k] [] kk =
  selK (eqI (hid flagE (Fl.mk f.dup f.qos f.ret f.will f.clean f.typ)) 0)
   (selK (ltI (hid flagN (Fl.mk f.dup f.qos f.ret f.will f.clean f.typ)) 0)
    (kk (.bool false) [])
    (selK (ltI 255 (hid flagN (Fl.mk f.dup f.qos f.ret f.will f.clean f.typ)))
     (kk (.bool false) [])
     (selK ((!eqI (hid readFlagE (hid flagN (Fl.mk f.dup f.qos f.ret f.will f.clean f.typ))) 0))
      (kk (.bool false) [])
      (selK ((!(eqB (hid readFlag (hid flagN (Fl.mk f.dup f.qos f.ret f.will f.clean f.typ))).dup f.dup && (eqI (hid readFlag (hid flagN (Fl.mk f.dup f.qos f.ret f.will f.clean f.typ))).qos f.qos && (eqB (hid readFlag (hid flagN (Fl.mk f.dup f.qos f.ret f.will f.clean f.typ))).ret f.ret && (eqB (hid readFlag (hid flagN (Fl.mk f.dup f.qos f.ret f.will f.clean f.typ))).will f.will && (eqB (hid readFlag (hid flagN (Fl.mk f.dup f.qos f.ret f.will f.clean f.typ))).clean f.clean && (eqI (hid readFlag (hid flagN (Fl.mk f.dup f.qos f.ret f.will f.clean f.typ))).typ f.typ && true))))))))
       (kk (.bool false) [])
       (selK (eqI (hid readFlagE n) 0)
        (selK (leI 0 n)
         (selK (ltI n 256)
          (selK ((!eqI (remI n 4) 3))
           (flags_tree_s13 f n k kk)
           (kk (.bool false) []))
          (kk (.bool false) []))
         (kk (.bool false) []))
        (selK (leI 0 n)
         (selK (ltI n 256)
          (selK ((!eqI (remI n 4) 3))
           (kk (.bool false) [])
           (flags_tree_s13 f n k kk))
          (flags_tree_s13 f n k kk))
         (flags_tree_s13 f n k kk)))))))
   (selK (eqI (hid readFlagE n) 0)
    (selK (leI 0 n)
     (selK (ltI n 256)
      (selK ((!eqI (remI n 4) 3))
       (flags_tree_s33 f n k kk)
       (kk (.bool false) []))
      (kk (.bool false) []))
     (kk (.bool false) []))
    (selK (leI 0 n)
     (selK (ltI n 256)
      (selK ((!eqI (remI n 4) 3))
       (kk (.bool false) [])
       (flags_tree_s33 f n k kk))
      (flags_tree_s33 f n k kk))
     (flags_tree_s33 f n k kk))) := by kernel_rfl

end Go.Proofs.Ytahifkdnkhlknaa.Ax

/-
What the second machine comes to at some functions (printed by a program of ours).
-/
import Derived.Test.YtahifkdnkhlknaaRefC2
import Derived.KernelRfl
namespace Go.Proofs.Ytahifkdnkhlknaa.Ax
open Go.Ax
set_option linter.unusedVariables false
set_option maxRecDepth 100000

-- size 9
noncomputable def calls_tree_s1 {β : Type} (k r : Int) (s : List UInt8) (f : Fl) (kk : KV → KHeap → Option β) : Option β :=
  selK ((eqB (hid uses k).dup (hid uses k).dup && (eqI (hid uses k).qos (hid uses k).qos && (eqB (hid uses k).ret (hid uses k).ret && (eqB (hid uses k).will (hid uses k).will && (eqB (hid uses k).clean (hid uses k).clean && (eqI (hid uses k).typ (hid uses k).typ && true)))))))
   (selK ((hid may k (Fl.mk f.dup f.qos f.ret f.will f.clean f.typ)))
    (selK ((hid may k (Fl.mk f.dup f.qos f.ret f.will f.clean f.typ)))
     (kk (.bool true) [])
     (kk (.bool false) []))
    (selK ((hid may k (Fl.mk f.dup f.qos f.ret f.will f.clean f.typ)))
     (kk (.bool false) [])
     (kk (.bool true) [])))
   (kk (.bool false) [])
-- size 37
theorem calls_tree {β : Type} (k r : Int) (s : List UInt8) (f : Fl) (kk : KV → KHeap → Option β) :
    kBody (kFn F TCal RR DD) (fun _ => none) RR f6 [.int .i64 k, .int .i64 r, .str s, .agg [.bool f.dup, .int .i64 f.qos, .bool f.ret, .bool f.will, .bool f.clean, .int .i64 f.typ]] [] kk =
  selK (ltI 100 ((s.length : Nat) : Int))
   (kk (.bool true) [])
   (selK (cd (-9223372036854775808 ≤ r ∧ r ≤ 9223372036854775807))
    (selK (cd (-9223372036854775808 ≤ r ∧ r ≤ 9223372036854775807))
     (selK (cd (s.length ≤ 4611686018427387904))
      (selK (cd (s.length ≤ 4611686018427387904))
       (selK (eqS (hid bytesS k r) (hid bytesS k r))
        (selK (eqI (hid bytesE k r) (hid bytesE k r))
         (selK (eqI (hid readS s).1 (hid readS s).1)
          (selK (eqI (hid readS s).2.1 (hid readS s).2.1)
           (selK (eqI (hid readS s).2.2.1 (hid readS s).2.2.1)
            (selK (eqI (hid readS s).2.2.2 (hid readS s).2.2.2)
             (selK (eqI (hid flagN (Fl.mk f.dup f.qos f.ret f.will f.clean f.typ)) (hid flagN (Fl.mk f.dup f.qos f.ret f.will f.clean f.typ)))
              (selK (eqI (hid flagE (Fl.mk f.dup f.qos f.ret f.will f.clean f.typ)) (hid flagE (Fl.mk f.dup f.qos f.ret f.will f.clean f.typ)))
               (selK ((eqB (hid readFlag r).dup (hid readFlag r).dup && (eqI (hid readFlag r).qos (hid readFlag r).qos && (eqB (hid readFlag r).ret (hid readFlag r).ret && (eqB (hid readFlag r).will (hid readFlag r).will && (eqB (hid readFlag r).clean (hid readFlag r).clean && (eqI (hid readFlag r).typ (hid readFlag r).typ && true)))))))
                (selK (eqI (hid readFlagE r) (hid readFlagE r))
                 (selK ((hid known k))
                  (selK ((hid known k))
                   (calls_tree_s1 k r s f kk)
                   (kk (.bool false) []))
                  (selK ((hid known k))
                   (kk (.bool false) [])
                   (calls_tree_s1 k r s f kk)))
                 (kk (.bool false) []))
                (kk (.bool false) []))
               (kk (.bool false) []))
              (kk (.bool false) []))
             (kk (.bool false) []))
            (kk (.bool false) []))
           (kk (.bool false) []))
          (kk (.bool false) []))
         (kk (.bool false) []))
        (kk (.bool false) []))
       (none))
      (none))
     (none))
    (none)) := by kernel_rfl

end Go.Proofs.Ytahifkdnkhlknaa.Ax
